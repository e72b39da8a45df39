/- Texts of this proof laid together, in the order in which they build; what each proves stands ahead of it. No condition but those told there. -/
import Derived.WalkKit
import Derived.Shelf.Abstract
import Derived.Laws.CopyOwn
import Derived.Deep.Quiet
import Derived.Deep.QuietTactic
import Derived.Lib.ConvBytes
import Derived.Maps.AppendAt
import Derived.Laws.BytesString
import Derived.Laws.BytesArg
import Derived.ProofKit
import Derived.OpenShut
import Derived.ShutString
import Derived.Deep.Slices
import Derived.Deep.Fields
import Derived.ChangeSame

/- The stepping rules by which the walks of this claim go: frames as lists of slots with their values, one rule an operation. No condition; no program in sight. -/
namespace Go.Proofs.YtggaghghclomkaaGreat
open Go.RowKit

abbrev Env := List (Nat × Value)

def look : Env → Nat → Option Value
  | [], _ => none
  | (k, v) :: r, t => bif Nat.beq k t then some v else look r t

def ev (l : Env) : Operand → Option Value
  | .tmp t => look l t
  | .const v => some v
  | .global g => some (.pointer (some ⟨g, 0, none⟩))
  | .func f => some (.func (.func f) #[] #[])

def evs (l : Env) : List Operand → Option (List Value)
  | [] => some []
  | x :: r => match ev l x with
    | some v => match evs l r with
      | some vs => some (v :: vs)
      | none => none
    | none => none

structure Holds (n : Nat) (l : Env) (a : Act) : Prop where
  defers : a.defers = []
  size : a.tmps.size = n
  at_ : ∀ t v, look l t = some v → a.tmps.getD t undef = v

theorem Holds.eval {n : Nat} {l : Env} {a : Act} (h : Holds n l a) {x : Operand} {v : Value} (hx : ev l x = some v) : a.eval x = v := by
  cases x with
  | tmp t => exact h.at_ t v hx
  | const u => simpa [ev, Act.eval] using hx
  | global g => simpa [ev, Act.eval] using hx
  | func f => simpa [ev, Act.eval] using hx

theorem Holds.evals {n : Nat} {l : Env} {a : Act} (h : Holds n l a) : ∀ {xs : List Operand} {vs : List Value}, evs l xs = some vs → xs.map a.eval = vs
  | [], vs, hx => by simpa [evs] using hx
  | x :: r, vs, hx => by
    simp only [evs] at hx
    cases h1 : ev l x with
    | none => simp [h1] at hx
    | some v =>
      cases h2 : evs l r with
      | none => simp [h1, h2] at hx
      | some us =>
        simp [h1, h2] at hx
        subst hx
        simp [h.eval h1, h.evals h2]

theorem Holds.put {n : Nat} {l : Env} {a : Act} (h : Holds n l a) {d : Nat} (hd : Nat.blt d n = true) (v : Value) : Holds n ((d, v) :: l) (a.put (some d) v) := by
  have hd' : d < n := by simpa [Nat.blt_eq] using hd
  refine ⟨h.defers, by simpa [Act.put] using h.size, fun t u hu => ?_⟩
  simp only [look] at hu
  by_cases e : d = t
  · subst e
    simp at hu
    subst hu
    simp [Act.put, h.size, hd']
  · have hb : Nat.beq d t = false := by
      cases hb : Nat.beq d t with
      | false => rfl
      | true => exact absurd (Nat.eq_of_beq_eq_true hb) e
    rw [hb] at hu
    have := h.at_ t u (by simpa using hu)
    simpa [Act.put, Array.getD_eq_getD_getElem?, Array.getElem?_setIfInBounds, e] using this

theorem Holds.put_none {n : Nat} {l : Env} {a : Act} (h : Holds n l a) (v : Value) : Holds n l (a.put none v) := h

/-- A frame of fewer slots. -/
def subEnv (l' l : Env) : Prop := ∀ t v, look l' t = some v → look l t = some v
theorem subEnv_nil (l : Env) : subEnv [] l := fun t v h => by simp [look] at h
theorem subEnv_cons {l' l : Env} {t : Nat} {v : Value} (h : look l t = some v) (r : subEnv l' l) : subEnv ((t, v) :: l') l := by
  intro u x hx
  simp only [look] at hx
  cases hb : Nat.beq t u with
  | true =>
    rw [hb] at hx
    have e := Nat.eq_of_beq_eq_true hb
    subst e
    simp at hx
    rw [← hx]; exact h
  | false => rw [hb] at hx; exact r u x (by simpa using hx)
theorem Holds.sub {n : Nat} {l l' : Env} {a : Act} (h : Holds n l a) (s : subEnv l' l) : Holds n l' a := ⟨h.defers, h.size, fun t v hv => h.at_ t v (s t v hv)⟩

/-! ### A call's contract: it returns -/
def Ret (P : Program) (f : FuncId) (args : Array Value) (w : World) (Post : Value → World → Prop) : Prop :=
  Calls P f args w fun e w' => ∃ v, e = .returned v ∧ Post v w'

theorem Ret.mono {P : Program} {f : FuncId} {args : Array Value} {w : World} {A B : Value → World → Prop} (h : Ret P f args w A) (hi : ∀ v w', A v w' → B v w') : Ret P f args w B :=
  Calls.mono h fun _ _ ⟨v, he, hp⟩ => ⟨v, he, hi v _ hp⟩

/-! ### The three judgements -/
section
variable (P : Program) (L : List Oper) (Q : Exit → Act → World → Prop)
def TL (rest : List Oper) (n : Nat) (l : Env) (w : World) : Prop := ∀ a, Holds n l a → wpList P L.toArray Q rest a w
def TC (c : Code) (n : Nat) (l : Env) (w : World) : Prop := ∀ a, Holds n l a → c.wp P Q a w
def TN (n : Nat) (l : Env) (w : World) : Prop := ∀ a, Holds n l a → Q .normal a w
def TX (id : Nat) (n : Nat) (l : Env) (w : World) : Prop := ∀ a, Holds n l a → Q (.exit id) a w
def TR (n : Nat) (l : Env) (w : World) : Prop := ∀ a, Holds n l a → Q .ret a w
end

/-- In every world of the class the operation yields v and leaves the world as it is. -/
def Pu (P : Program) (C : World → Prop) (n : Nat) (l : Env) (o : Oper) (v : Value) : Prop :=
  ∀ a, Holds n l a → ∀ w, C w → (execOp a.eval o).run P w = .ok (.value v) w

section
variable {P : Program} {L : List Oper} {Q : Exit → Act → World → Prop} {n : Nat} {l l' : Env} {w w' : World} {rest : List Oper} {o : Oper} {d : Nat} {v : Value}

theorem TL_run (hg : o.guard = none) (hd : o.dst = some d) (hn : Nat.blt d n = true)
    (hrun : ∀ a, Holds n l a → (execOp a.eval o).run P w = .ok (.value v) w') (h : TL P L Q rest n ((d, v) :: l) w') : TL P L Q (o :: rest) n l w := by
  intro a ha
  refine wpList_plain hg fun K hK => ?_
  unfold Oper.wp
  rw [hrun a ha]
  simp only [Oper.upon, hd]
  exact hK _ _ (h _ (ha.put hn v))

theorem TL_skipped (hg : o.guard = none) (hd : o.dst = none)
    (hrun : ∀ a, Holds n l a → (execOp a.eval o).run P w = .ok .skip w') (h : TL P L Q rest n l w') : TL P L Q (o :: rest) n l w := by
  intro a ha
  refine wpList_plain hg fun K hK => ?_
  unfold Oper.wp
  rw [hrun a ha]
  simp only [Oper.upon, hd]
  exact hK _ _ (h _ (ha.put_none _))

theorem Jcg {dd : Nat} {op : Op} {ty : TypeId} {pos : String} {af : Array Edge} (hp : Pu P (fun x => x = w) n l ⟨some dd, op, ty, pos, af, none⟩ v) (hn : Nat.blt dd n = true)
    (h : TL P L Q rest n ((dd, v) :: l) w) : TL P L Q (⟨some dd, op, ty, pos, af, none⟩ :: rest) n l w :=
  TL_run rfl rfl hn (fun a ha => hp a ha w rfl) h

/-! Guards -/
def nthDst : List Oper → Nat → Option Nat
  | [], _ => none
  | o :: _, 0 => o.dst
  | _ :: r, i + 1 => nthDst r i
theorem nthDst_eq : ∀ (L : List Oper) (j : Nat), nthDst L j = (L[j]?).bind (·.dst)
  | [], j => by simp [nthDst]
  | o :: r, 0 => by simp [nthDst]
  | o :: r, j + 1 => by simp [nthDst, nthDst_eq r j]

theorem yielded_of {a : Act} {j dj : Nat} {b : Bool} (ha : Holds n l a) (hj : nthDst L j = some dj) (hn : Nat.blt dj n = true) (hv : look l dj = some (.bool b)) :
    yielded L.toArray a.tmps j = some b := by
  have h1 : (L.toArray[j]?).bind (·.dst) = some dj := by rw [← hj, nthDst_eq]; simp
  have hn' : dj < n := by simpa [Nat.blt_eq] using hn
  have h2 : a.tmps[dj]? = some (.bool b) := by
    have := ha.at_ dj _ hv
    have hs : dj < a.tmps.size := by rw [ha.size]; exact hn'
    rw [Array.getD_eq_getD_getElem?, Array.getElem?_eq_getElem hs] at this
    rw [Array.getElem?_eq_getElem hs]
    simpa using this
  unfold yielded
  rw [h1]
  simp [h2]

theorem Jch {dd : Option Nat} {op : Op} {ty : TypeId} {pos : String} {af : Array Edge} {j dj : Nat} {b : Bool} (hj : nthDst L j = some dj) (hn : Nat.blt dj n = true)
    (hv : look l dj = some (.bool b)) (h : TL P L Q (⟨dd, op, ty, pos, af, none⟩ :: rest) n l w) : TL P L Q (⟨dd, op, ty, pos, af, some (j, b)⟩ :: rest) n l w := by
  intro a ha
  have h1 := h a ha
  have hy := yielded_of (L := L) ha hj hn hv
  unfold wpList at h1 ⊢
  rw [if_pos (by simp [Region.wanted])] at h1
  rw [if_pos (by simp [Region.wanted, hy])]
  exact h1

theorem Jci {dd : Nat} {op : Op} {ty : TypeId} {pos : String} {af : Array Edge} {j dj : Nat} {b b' : Bool} (hj : nthDst L j = some dj) (hn : Nat.blt dj n = true)
    (hv : look l dj = some (.bool b')) (hne : (b' == b) = false) (hd : Nat.blt dd n = true) (h : TL P L Q rest n ((dd, undef) :: l) w) : TL P L Q (⟨some dd, op, ty, pos, af, some (j, b)⟩ :: rest) n l w := by
  intro a ha
  have hy := yielded_of (L := L) ha hj hn hv
  unfold wpList
  rw [if_neg (by simp [Region.wanted, hy]; simpa using hne)]
  exact h _ (ha.put hd undef)

theorem yielded_undef {a : Act} {j dj : Nat} {b : Bool} (ha : Holds n l a) (hj : nthDst L j = some dj) (hn : Nat.blt dj n = true) (hv : look l dj = some undef) :
    (yielded L.toArray a.tmps j == some b) = false := by
  have h1 : (L.toArray[j]?).bind (·.dst) = some dj := by rw [← hj, nthDst_eq]; simp
  have hn' : dj < n := by simpa [Nat.blt_eq] using hn
  have h2 : a.tmps[dj]? = some undef := by
    have := ha.at_ dj _ hv
    have hs : dj < a.tmps.size := by rw [ha.size]; exact hn'
    rw [Array.getD_eq_getD_getElem?, Array.getElem?_eq_getElem hs] at this
    rw [Array.getElem?_eq_getElem hs]
    simpa using this
  have hy : yielded L.toArray a.tmps j = none := by
    unfold yielded
    rw [h1]
    simp [h2, undef]
  rw [hy]
  rfl
/-- A guard that is undef: its own operation was passed over. -/
theorem Jcj {dd : Nat} {op : Op} {ty : TypeId} {pos : String} {af : Array Edge} {j dj : Nat} {b : Bool} (hj : nthDst L j = some dj) (hn : Nat.blt dj n = true)
    (hv : look l dj = some undef) (hd : Nat.blt dd n = true) (h : TL P L Q rest n ((dd, undef) :: l) w) : TL P L Q (⟨some dd, op, ty, pos, af, some (j, b)⟩ :: rest) n l w := by
  intro a ha
  have hy := yielded_undef (L := L) (b := b) ha hj hn hv
  unfold wpList
  rw [if_neg (by simp [Region.wanted, hy])]
  exact h _ (ha.put hd undef)

theorem Holds.add {a : Act} {t : Nat} (ha : Holds n l a) (hv : look l t = some v) : Holds n ((t, v) :: l) a :=
  ⟨ha.defers, ha.size, fun u x hx => by
    simp only [look] at hx
    cases hb : Nat.beq t u with
    | true =>
      rw [hb] at hx
      have e := Nat.eq_of_beq_eq_true hb
      subst e
      simp at hx
      subst hx
      exact ha.at_ _ _ hv
    | false => rw [hb] at hx; exact ha.at_ _ _ (by simpa using hx)⟩

theorem TL_split {o : Oper} {dj : Nat} {b : Bool} (hv : look l dj = some (.bool b)) (h1 : b = true → TL P L Q (o :: rest) n ((dj, .bool true) :: l) w)
    (h0 : b = false → TL P L Q (o :: rest) n ((dj, .bool false) :: l) w) : TL P L Q (o :: rest) n l w := by
  intro a ha
  cases b with
  | true => exact h1 rfl a (ha.add hv)
  | false => exact h0 rfl a (ha.add hv)

theorem Jcr {dd : Option Nat} {op : Op} {ty : TypeId} {pos : String} {af : Array Edge} {j dj : Nat} {b c : Bool} (_hj : nthDst L j = some dj) (hv : look l dj = some (.bool c))
    (h1 : c = true → TL P L Q (⟨dd, op, ty, pos, af, some (j, b)⟩ :: rest) n ((dj, .bool true) :: l) w) (h0 : c = false → TL P L Q (⟨dd, op, ty, pos, af, some (j, b)⟩ :: rest) n ((dj, .bool false) :: l) w) :
    TL P L Q (⟨dd, op, ty, pos, af, some (j, b)⟩ :: rest) n l w := TL_split hv h1 h0

theorem Jcs {dd : Option Nat} {op : Op} {ty : TypeId} {pos : String} {af : Array Edge} {j dj : Nat} {b : Bool} {p : Prop} [Decidable p] (_hj : nthDst L j = some dj) (hv : look l dj = some (.bool (decide p)))
    (h1 : p → TL P L Q (⟨dd, op, ty, pos, af, some (j, b)⟩ :: rest) n ((dj, .bool true) :: l) w) (h0 : ¬ p → TL P L Q (⟨dd, op, ty, pos, af, some (j, b)⟩ :: rest) n ((dj, .bool false) :: l) w) :
    TL P L Q (⟨dd, op, ty, pos, af, some (j, b)⟩ :: rest) n l w := TL_split hv (fun h => h1 (of_decide_eq_true h)) (fun h => h0 (of_decide_eq_false h))
theorem Jct {dd : Option Nat} {op : Op} {ty : TypeId} {pos : String} {af : Array Edge} {j dj : Nat} {b : Bool} {p : Prop} [Decidable p] (_hj : nthDst L j = some dj) (hv : look l dj = some (.bool (!decide p)))
    (h1 : ¬ p → TL P L Q (⟨dd, op, ty, pos, af, some (j, b)⟩ :: rest) n ((dj, .bool true) :: l) w) (h0 : p → TL P L Q (⟨dd, op, ty, pos, af, some (j, b)⟩ :: rest) n ((dj, .bool false) :: l) w) :
    TL P L Q (⟨dd, op, ty, pos, af, some (j, b)⟩ :: rest) n l w := TL_split hv (fun h => h1 (by simpa using h)) (fun h => h0 (by simpa using h))

/-! ### Code -/
theorem Jbs {x y : Code} (h : TC P (Exit.then (y.wp P Q) Q) x n l w) : TC P Q (.seq x y) n l w := fun a ha => wp_seq (h a ha)
theorem Jbt {id : Nat} (h : TL P L Q L n l w) : TC P Q (.region id L.toArray false) n l w := fun a ha => wp_region_lit (h a ha)
theorem Jbq (h : TN Q n l w) : TL P L Q [] n l w := fun a ha => h a ha
theorem Jbr {y : Code} (h : TC P Q y n l w) : TN (Exit.then (y.wp P Q) Q) n l w := fun a ha => h a ha
theorem Jbx {id : Nat} (h : TN Q n l w) : TN (Exit.inBlock id Q) n l w := fun a ha => h a ha
theorem Jbz (h : TN Q n l w) : TC P Q .skip n l w := fun a ha => wp_skip (h a ha)
theorem Jca {id : Nat} (h : TX Q id n l w) : TC P Q (.exit id) n l w := fun a ha => wp_exit (h a ha)
theorem Jcb {id : Nat} {K : Act → World → Prop} (h : TX Q id n l w) : TX (Exit.then K Q) id n l w := fun a ha => h a ha
theorem Jcc {id : Nat} (h : TN Q n l w) : TX (Exit.inBlock id Q) id n l w := fun a ha => by
  show Exit.inBlock id Q (.exit id) a w
  simp only [Exit.inBlock, if_true]; exact h a ha
theorem Jbu (h : TR Q n l w) : TC P Q .ret n l w := fun a ha => wp_ret (h a ha)
theorem Jbv {K : Act → World → Prop} (h : TR Q n l w) : TR (Exit.then K Q) n l w := fun a ha => h a ha
theorem Jbw {id : Nat} (h : TR Q n l w) : TR (Exit.inBlock id Q) n l w := fun a ha => h a ha
theorem Jby {id : Nat} {c : Code} (h : TC P (Exit.inBlock id Q) c n l w) : TC P Q (.block id c) n l w := fun a ha => wp_block (h a ha)
theorem Jcz {c : Operand} {x y : Code} {b : Bool} (hv : ev l c = some (.bool b)) (h1 : b = true → TC P Q x n l w) (h0 : b = false → TC P Q y n l w) : TC P Q (.cond c x y) n l w :=
  fun a ha => wp_cond_split (ha.eval hv) (fun h => h1 h a ha) (fun h => h0 h a ha)
theorem Jcx {c : Operand} {x y : Code} {p : Prop} [Decidable p] (hv : ev l c = some (.bool (decide p))) (h1 : p → TC P Q x n l w) (h0 : ¬ p → TC P Q y n l w) : TC P Q (.cond c x y) n l w :=
  Jcz hv (fun h => h1 (of_decide_eq_true h)) (fun h => h0 (of_decide_eq_false h))
theorem Jcy {c : Operand} {x y : Code} {p : Prop} [Decidable p] (hv : ev l c = some (.bool (!decide p))) (h1 : ¬ p → TC P Q x n l w) (h0 : p → TC P Q y n l w) : TC P Q (.cond c x y) n l w :=
  Jcz hv (fun h => h1 (by simpa using h)) (fun h => h0 (by simpa using h))
theorem Jce {c : Operand} {x y : Code} (hv : ev l c = some (.bool true)) (h1 : TC P Q x n l w) : TC P Q (.cond c x y) n l w :=
  fun a ha => wp_cond_true (ha.eval hv) (h1 a ha)
theorem Jcf {c : Operand} {x y : Code} (hv : ev l c = some (.bool false)) (h0 : TC P Q y n l w) : TC P Q (.cond c x y) n l w :=
  fun a ha => wp_cond_false (ha.eval hv) (h0 a ha)
theorem TC_loop {c : Code} {ι : Type} (env : ι → Env) (I : ι → World → Prop) (μ : ι → Nat) (x0 : ι) (hs : subEnv (env x0) l) (h0 : I x0 w)
    (round : ∀ x w, I x w → TC P (Exit.then (fun a' w' => ∃ y, Holds n (env y) a' ∧ I y w' ∧ μ y < μ x) Q) c n (env x) w) : TC P Q (.loop c) n l w := by
  intro a ha
  refine wp_loop (fun a w => ∃ x, Holds n (env x) a ∧ I x w) (fun a w => Classical.epsilon (fun m : Nat => (∃ x, Holds n (env x) a ∧ I x w ∧ μ x = m) ∧ ∀ x, Holds n (env x) a → I x w → m ≤ μ x)) ⟨x0, ha.sub hs, h0⟩ ?_
  intro a w hI
  -- the least measure among the readings of this state
  have key : ∀ a w, (∃ x, Holds n (env x) a ∧ I x w) → ∃ m : Nat, (∃ x, Holds n (env x) a ∧ I x w ∧ μ x = m) ∧ ∀ x, Holds n (env x) a → I x w → m ≤ μ x := by
    intro a w ⟨x, hx, hi⟩
    have : ∀ k, ∀ x, Holds n (env x) a → I x w → μ x ≤ k → ∃ m : Nat, (∃ x, Holds n (env x) a ∧ I x w ∧ μ x = m) ∧ ∀ x, Holds n (env x) a → I x w → m ≤ μ x := by
      intro k
      induction k with
      | zero => intro x hx hi hk; exact ⟨μ x, ⟨x, hx, hi, rfl⟩, fun y _ _ => by omega⟩
      | succ k ih =>
        intro x hx hi hk
        by_cases hy : ∃ y, Holds n (env y) a ∧ I y w ∧ μ y < μ x
        · obtain ⟨y, h1, h2, h3⟩ := hy
          exact ih y h1 h2 (by omega)
        · exact ⟨μ x, ⟨x, hx, hi, rfl⟩, fun y h1 h2 => Nat.le_of_not_lt fun h3 => hy ⟨y, h1, h2, h3⟩⟩
    exact this (μ x) x hx hi (Nat.le_refl _)
  have hm := Classical.epsilon_spec (key a w hI)
  obtain ⟨⟨x, hx, hi, hmx⟩, _⟩ := hm
  refine wp_mono (round x w hi a hx) fun e a' w' h => ?_
  cases e with
  | normal =>
    obtain ⟨y, hy, hiy, hlt⟩ := h
    refine ⟨⟨y, hy, hiy⟩, ?_⟩
    have hm' := (Classical.epsilon_spec (key a' w' ⟨y, hy, hiy⟩)).2 y hy hiy
    exact Nat.lt_of_le_of_lt hm' (hmx ▸ hlt)
  | exit _ => exact h
  | goto _ => exact h
  | ret => exact h
  | panic _ => exact h
  | outgrown => exact h
theorem TN_round {ι : Type} {env : ι → Env} {I : ι → World → Prop} {μ : ι → Nat} {x : ι} (y : ι) (hs : subEnv (env y) l) (hi : I y w) (hm : μ y < μ x) :
    TN (Exit.then (fun a' w' => ∃ y, Holds n (env y) a' ∧ I y w' ∧ μ y < μ x) Q) n l w := fun _ ha => ⟨y, ha.sub hs, hi, hm⟩

/-- Ways that meet again. -/
theorem TC_join {x y : Code} {ι : Type} (env : ι → Env) (I : ι → World → Prop) (h : TC P (Exit.then (fun a' w' => ∃ z, Holds n (env z) a' ∧ I z w') Q) x n l w) (k : ∀ z w', I z w' → TC P Q y n (env z) w') : TC P Q (.seq x y) n l w := by
  refine Jbs fun a ha => wp_mono (h a ha) fun e a' w' hq => ?_
  cases e with
  | normal => obtain ⟨z, hz, hi⟩ := hq; exact k z w' hi a' hz
  | exit _ => exact hq
  | goto _ => exact hq
  | ret => exact hq
  | panic _ => exact hq
  | outgrown => exact hq
theorem TN_join {ι : Type} {env : ι → Env} {I : ι → World → Prop} (z : ι) (hs : subEnv (env z) l) (hi : I z w) : TN (Exit.then (fun a' w' => ∃ z, Holds n (env z) a' ∧ I z w') Q) n l w := fun _ ha => ⟨z, ha.sub hs, hi⟩

/-! ### A body's end -/
variable {fn : Func} {R : Value → World → Prop}
theorem TR_of (hr : ∀ a, Holds n l a → (results fn a.tmps).run P w = .ok v w) (hR : R v w) : TR (bodyPost P fn (fun e w' => ∃ v, e = .returned v ∧ R v w')) n l w :=
  fun a ha => ⟨ha.defers, v, hr a ha, v, rfl, hR⟩
theorem TN_of (hr : ∀ a, Holds n l a → (results fn a.tmps).run P w = .ok v w) (hR : R v w) : TN (bodyPost P fn (fun e w' => ∃ v, e = .returned v ∧ R v w')) n l w :=
  fun a ha => ⟨ha.defers, v, hr a ha, v, rfl, hR⟩
theorem res0 (h : fn.results = #[]) : ∀ a : Act, Holds n l a → (results fn a.tmps).run P w = .ok (.tuple #[]) w := fun _ _ => results_none h _ _ _
theorem res1 {t : Nat} (h : fn.results = #[.tmp t]) (hv : look l t = some v) : ∀ a : Act, Holds n l a → (results fn a.tmps).run P w = .ok v w :=
  fun a ha => by rw [results_tmp h, ha.at_ t v hv]
theorem res2 {t u : Nat} {x y : Value} (h : fn.results = #[.tmp t, .tmp u]) (hx : look l t = some x) (hy : look l u = some y) :
    ∀ a : Act, Holds n l a → (results fn a.tmps).run P w = .ok (.tuple #[x, y]) w :=
  fun a ha => by rw [results_tmp2 h, ha.at_ t x hx, ha.at_ u y hy]
/-! ### Into a function, and its calls -/
def envOf : Nat → List Value → Env
  | _, [] => []
  | k, v :: r => (k, v) :: envOf (k + 1) r
theorem look_envOf : ∀ (vs : List Value) (k t : Nat) (u : Value), look (envOf k vs) t = some u → k ≤ t ∧ vs[t - k]? = some u
  | [], k, t, u, h => by simp [envOf, look] at h
  | x :: r, k, t, u, h => by
    simp only [envOf, look] at h
    cases hb : Nat.beq k t with
    | true =>
      rw [hb] at h
      have e := Nat.eq_of_beq_eq_true hb
      subst e
      simp at h
      simp [h]
    | false =>
      rw [hb] at h
      obtain ⟨h1, h2⟩ := look_envOf r (k + 1) t u (by simpa using h)
      refine ⟨by omega, ?_⟩
      rw [show t - k = (t - (k + 1)) + 1 by omega]
      simpa using h2
theorem Ret_enter {f : FuncId} {c : Code} {vs : List Value} (hf : P.funcs[f]? = some fn) (hb : fn.body = some c) (hn : fn.ntmps = n) (hl : Nat.ble vs.length n = true)
    (h : TC P (bodyPost P fn (fun e w' => ∃ v, e = .returned v ∧ R v w')) c n (envOf 0 vs) w) : Ret P f vs.toArray w R := by
  refine calls_of_wp hf hb ?_
  have hl' : vs.length ≤ n := by simpa using hl
  refine h _ ⟨rfl, by simp [hn]; omega, fun t u hu => ?_⟩
  obtain ⟨_, h2⟩ := look_envOf vs 0 t u hu
  rw [Nat.sub_zero] at h2
  have hlt : t < vs.length := (List.getElem?_eq_some_iff.1 h2).1
  rw [Array.getD_eq_getD_getElem?, Array.getElem?_append_left (by simpa using hlt)]
  simp [h2]

theorem TL_call {dd : Option Nat} {f : FuncId} {xs : List Operand} {ats : Array TypeId} {ty : TypeId} {pos : String} {af : Array Edge} {vs : List Value} {Post : Value → World → Prop}
    (hx : evs l xs = some vs) (hen : Enters P f) (hc : Ret P f vs.toArray w Post) (hd : dd = some d) (hn : Nat.blt d n = true) (h : ∀ v w', Post v w' → TL P L Q rest n ((d, v) :: l) w') :
    TL P L Q (⟨dd, .call { callee := .value (.func f), args := xs.toArray, argTypes := ats }, ty, pos, af, none⟩ :: rest) n l w := by
  subst hd
  intro a ha
  refine wpList_plain rfl fun K hK => ?_
  unfold Oper.wp execOp
  have hm : xs.toArray.map a.eval = vs.toArray := by
    rw [List.map_toArray, ha.evals hx]
  simp only [resolve, Act.eval, Deferred.ofValue, Sem.run_bind, Sem.run_pure, Result.andThen_ok, invoke]
  have he := hen (#[] ++ xs.toArray.map a.eval ++ #[]) w
  have hm' : #[] ++ xs.toArray.map a.eval ++ #[] = vs.toArray := by simpa using hm
  rw [hm'] at he
  have : (callFunc f (#[] ++ xs.toArray.map (fun x => a.eval x) ++ #[])).run P w = .ok (.enter f vs.toArray) w := by
    rw [show (fun x => a.eval x) = a.eval from rfl, hm']; exact he
  show Oper.upon P _ a K Q ((callFunc f (#[] ++ xs.toArray.map (fun x => a.eval x) ++ #[])).run P w)
  rw [this]
  simp only [Oper.upon]
  refine Calls.mono hc fun e w' ⟨v, he, hp⟩ => ?_
  subst he
  exact hK _ _ (h v w' hp _ (ha.put hn v))
end
end Go.Proofs.YtggaghghclomkaaGreat

/- One rule for each operation of the walked code that leaves memory as it is. No condition. -/
namespace Go.Proofs.YtggaghghclomkaaGreat
open Go.RowKit

@[reducible] def S (s : List UInt8) : Value := .string ⟨s.toArray⟩
@[reducible] def I (x : Int) : Value := .int .i64 x
@[reducible] def B8 (b : UInt8) : Value := .int .u8 (b.toNat : Int)

section
variable {P : Program} {C : World → Prop} {n : Nat} {l : Env} {dd : Option Nat} {ty : TypeId} {pos : String} {af : Array Edge} {v : Value} {x y i : Operand}

theorem Jaa (hx : ev l x = some v) : Pu P C n l ⟨dd, .move x, ty, pos, af, none⟩ v := fun a ha w _ => by
  have := ha.eval hx
  simp [execOp, this]
theorem Jab (hx : ev l x = some v) : Pu P C n l ⟨dd, .assign x, ty, pos, af, none⟩ v := fun a ha w _ => by
  have := ha.eval hx
  simp [execOp, this]
theorem Jah {c : Operand} (hc : ev l c = some (.bool true)) (hx : ev l x = some v) : Pu P C n l ⟨dd, .pick c x y, ty, pos, af, none⟩ v := fun a ha w _ => by
  simp [execOp, ha.eval hc, ha.eval hx, asBool]
theorem Jai {c : Operand} (hc : ev l c = some (.bool false)) (hy : ev l y = some v) : Pu P C n l ⟨dd, .pick c x y, ty, pos, af, none⟩ v := fun a ha w _ => by
  simp [execOp, ha.eval hc, ha.eval hy, asBool]

/-! integers -/
variable {k k1 k2 : IntKind} {a b : Int} {t t' : TypeId}
theorem Jad (hx : ev l x = some (.int k a)) (hy : ev l y = some (.int k b)) : Pu P C n l ⟨dd, .binOp .lss t x y t', ty, pos, af, none⟩ (.bool (decide (a < b))) := fun s hs w _ => by
  simp [execOp, hs.eval hx, hs.eval hy, eqGuard, binOp, Op.intCmp]
theorem Jan (hx : ev l x = some (.int k a)) (hy : ev l y = some (.int k b)) : Pu P C n l ⟨dd, .binOp .leq t x y t', ty, pos, af, none⟩ (.bool (decide (a ≤ b))) := fun s hs w _ => by
  simp [execOp, hs.eval hx, hs.eval hy, eqGuard, binOp, Op.intCmp]
theorem Jam (hx : ev l x = some (.int k a)) (hy : ev l y = some (.int k b)) : Pu P C n l ⟨dd, .binOp .gtr t x y t', ty, pos, af, none⟩ (.bool (decide (b < a))) := fun s hs w _ => by
  simp [execOp, hs.eval hx, hs.eval hy, eqGuard, binOp, Op.intCmp]
theorem Jao (hx : ev l x = some (.int k a)) (hy : ev l y = some (.int k b)) : Pu P C n l ⟨dd, .binOp .geq t x y t', ty, pos, af, none⟩ (.bool (decide (b ≤ a))) := fun s hs w _ => by
  simp [execOp, hs.eval hx, hs.eval hy, eqGuard, binOp, Op.intCmp]
theorem Jak (hx : ev l x = some (.int k a)) (hy : ev l y = some (.int k b)) : Pu P C n l ⟨dd, .binOp .eql t x y t', ty, pos, af, none⟩ (.bool (decide (a = b))) := fun s hs w _ => by
  simp only [execOp, hs.eval hx, hs.eval hy, eqGuard_at_int, binOp_eql]; simp; rfl
theorem Jal (hx : ev l x = some (.int k a)) (hy : ev l y = some (.int k b)) : Pu P C n l ⟨dd, .binOp .neq t x y t', ty, pos, af, none⟩ (.bool (!decide (a = b))) := fun s hs w _ => by
  simp only [execOp, hs.eval hx, hs.eval hy, eqGuard_at_int, binOp_neq]; simp; rfl
theorem Pu_addw (hx : ev l x = some (.int k a)) (hy : ev l y = some (.int k b)) : Pu P C n l ⟨dd, .binOp .add t x y t', ty, pos, af, none⟩ (.int k (k.wrap (a + b))) := fun s hs w _ => by
  simp [execOp, hs.eval hx, hs.eval hy, eqGuard, binOp, Op.intArith]
theorem Pu_subw (hx : ev l x = some (.int k a)) (hy : ev l y = some (.int k b)) : Pu P C n l ⟨dd, .binOp .sub t x y t', ty, pos, af, none⟩ (.int k (k.wrap (a - b))) := fun s hs w _ => by
  simp [execOp, hs.eval hx, hs.eval hy, eqGuard, binOp, Op.intArith]
theorem Pu_mulw (hx : ev l x = some (.int k a)) (hy : ev l y = some (.int k b)) : Pu P C n l ⟨dd, .binOp .mul t x y t', ty, pos, af, none⟩ (.int k (k.wrap (a * b))) := fun s hs w _ => by
  simp [execOp, hs.eval hx, hs.eval hy, eqGuard, binOp, Op.intArith]
theorem Jaf (hx : ev l x = some (I a)) (hy : ev l y = some (I b)) (h : -9223372036854775808 ≤ a + b ∧ a + b ≤ 9223372036854775807) : Pu P C n l ⟨dd, .binOp .add t x y t', ty, pos, af, none⟩ (I (a + b)) := by
  have := Pu_addw (P := P) (C := C) (n := n) (dd := dd) (ty := ty) (pos := pos) (af := af) (t := t) (t' := t') hx hy
  rwa [IntWalk.i64_in _ h] at this
theorem Jap (hx : ev l x = some (I a)) (hy : ev l y = some (I b)) (h : -9223372036854775808 ≤ a - b ∧ a - b ≤ 9223372036854775807) : Pu P C n l ⟨dd, .binOp .sub t x y t', ty, pos, af, none⟩ (I (a - b)) := by
  have := Pu_subw (P := P) (C := C) (n := n) (dd := dd) (ty := ty) (pos := pos) (af := af) (t := t) (t' := t') hx hy
  rwa [IntWalk.i64_in _ h] at this
theorem Jbk (hx : ev l x = some (I a)) (hy : ev l y = some (I b)) (h : -9223372036854775808 ≤ a * b ∧ a * b ≤ 9223372036854775807) : Pu P C n l ⟨dd, .binOp .mul t x y t', ty, pos, af, none⟩ (I (a * b)) := by
  have := Pu_mulw (P := P) (C := C) (n := n) (dd := dd) (ty := ty) (pos := pos) (af := af) (t := t) (t' := t') hx hy
  rwa [IntWalk.i64_in _ h] at this
theorem Jbi (hx : ev l x = some (I a)) (hy : ev l y = some (I b)) (h : 0 ≤ a ∧ a ≤ 9223372036854775807 ∧ 1 ≤ b) : Pu P C n l ⟨dd, .binOp .quo t x y t', ty, pos, af, none⟩ (I (a / b)) := fun s hs w _ => by
  have hb : b ≠ 0 := by omega
  have := IntWalk.i64_quo a b h
  simp only [I] at *
  simp [execOp, hs.eval hx, hs.eval hy, eqGuard, binOp, Op.intDiv, hb, this]
theorem Jbj (hx : ev l x = some (I a)) (hy : ev l y = some (I b)) (h : 0 ≤ a ∧ 1 ≤ b) : Pu P C n l ⟨dd, .binOp .rem t x y t', ty, pos, af, none⟩ (I (a % b)) := fun s hs w _ => by
  have hb : b ≠ 0 := by omega
  have := IntWalk.rem_in a b h.1
  simp only [I] at *
  simp [execOp, hs.eval hx, hs.eval hy, eqGuard, binOp, Op.intDiv, hb, this]
theorem Pu_shr (hx : ev l x = some (.int k a)) (hy : ev l y = some (.int k1 b)) (h : 0 ≤ b) : Pu P C n l ⟨dd, .binOp .shr t x y t', ty, pos, af, none⟩ (.int k (a.fdiv (2 ^ (min b.toNat k.bits)))) := fun s hs w _ => by
  simp [execOp, hs.eval hx, hs.eval hy, eqGuard, binOp, Op.shift, show ¬ b < 0 by omega]
theorem Pu_shl (hx : ev l x = some (.int k a)) (hy : ev l y = some (.int k1 b)) (h : 0 ≤ b) : Pu P C n l ⟨dd, .binOp .shl t x y t', ty, pos, af, none⟩ (.int k (k.wrap (a * 2 ^ (min b.toNat k.bits)))) := fun s hs w _ => by
  simp [execOp, hs.eval hx, hs.eval hy, eqGuard, binOp, Op.shift, show ¬ b < 0 by omega]
def bitv (op : BinOp) (k : IntKind) (a b : Int) : Int :=
  match op with
  | .and => k.wrap ((BitVec.ofInt k.bits a &&& BitVec.ofInt k.bits b).toNat : Int)
  | .or => k.wrap ((BitVec.ofInt k.bits a ||| BitVec.ofInt k.bits b).toNat : Int)
  | _ => k.wrap ((BitVec.ofInt k.bits a ^^^ BitVec.ofInt k.bits b).toNat : Int)
theorem Pu_and (hx : ev l x = some (.int k a)) (hy : ev l y = some (.int k b)) : Pu P C n l ⟨dd, .binOp .and t x y t', ty, pos, af, none⟩ (.int k (bitv .and k a b)) := fun s hs w _ => by
  simp [execOp, hs.eval hx, hs.eval hy, eqGuard, binOp, Op.intBits, bitv]
theorem Pu_or (hx : ev l x = some (.int k a)) (hy : ev l y = some (.int k b)) : Pu P C n l ⟨dd, .binOp .or t x y t', ty, pos, af, none⟩ (.int k (bitv .or k a b)) := fun s hs w _ => by
  simp [execOp, hs.eval hx, hs.eval hy, eqGuard, binOp, Op.intBits, bitv]
theorem Pu_xor (hx : ev l x = some (.int k a)) (hy : ev l y = some (.int k b)) : Pu P C n l ⟨dd, .binOp .xor t x y t', ty, pos, af, none⟩ (.int k (bitv .xor k a b)) := fun s hs w _ => by
  simp [execOp, hs.eval hx, hs.eval hy, eqGuard, binOp, Op.intBits, bitv]
theorem Pu_com (hx : ev l x = some (.int k a)) : Pu P C n l ⟨dd, .unOp .xor t x, ty, pos, af, none⟩ (.int k (bitv .xor k (if k.signed then -1 else k.max) a)) := fun s hs w _ => by
  simp [execOp, hs.eval hx, Op.unary, Op.intBits, bitv]
theorem Jaj {p : Bool} (hx : ev l x = some (.bool p)) : Pu P C n l ⟨dd, .unOp .not t x, ty, pos, af, none⟩ (.bool (!p)) := fun s hs w _ => by
  simp [execOp, hs.eval hx, Op.unary]
theorem Pu_convw (hs : P.underlying t = some (.int k1)) (hd : P.underlying t' = some (.int k2)) (hx : ev l x = some (.int k a)) :
    Pu P C n l ⟨dd, .convert t t' x, ty, pos, af, none⟩ (.int k2 (k2.wrap a)) := fun s h w _ => by
  simp [execOp, h.eval hx, convert, run_underlying hs, run_underlying hd, Conv.intToInt]
theorem Jax (hs : P.underlying t = some (.int k1)) (hd : P.underlying t' = some (.int .i64)) (hx : ev l x = some (.int k a)) (h : -9223372036854775808 ≤ a ∧ a ≤ 9223372036854775807) :
    Pu P C n l ⟨dd, .convert t t' x, ty, pos, af, none⟩ (I a) := by
  have := Pu_convw (P := P) (C := C) (n := n) (dd := dd) (ty := ty) (pos := pos) (af := af) hs hd hx
  rwa [IntWalk.i64_in _ h] at this
theorem wrap8_byte (a : Int) : IntKind.u8.wrap a = ((UInt8.ofNat (a % 256).toNat).toNat : Int) := by
  rw [IntKind.wrap_u8]; simp; omega
theorem Jaw (hs : P.underlying t = some (.int k1)) (hd : P.underlying t' = some (.int .u8)) (hx : ev l x = some (.int k a)) :
    Pu P C n l ⟨dd, .convert t t' x, ty, pos, af, none⟩ (B8 (UInt8.ofNat (a % 256).toNat)) := by
  have := Pu_convw (P := P) (C := C) (n := n) (dd := dd) (ty := ty) (pos := pos) (af := af) hs hd hx
  rwa [wrap8_byte] at this

theorem Jbm (hx : ev l x = some (.int k a)) (hy : ev l y = some (.int k a)) : Pu P C n l ⟨dd, .binOp .neq t x y t', ty, pos, af, none⟩ (.bool false) := by
  have := Jal (P := P) (C := C) (n := n) (dd := dd) (ty := ty) (pos := pos) (af := af) (t := t) (t' := t') hx hy
  simpa using this
/-! bools, tuples, strings -/
theorem equal_bool {p q : Bool} (ht : P.underlying t = some .bool) (w : World) : (Op.equal t (.bool p) (.bool q)).run P w = .ok (p == q) w := by
  have h : ∀ d : Nat, (Op.equalIn (d + 1) t (.bool p) (.bool q)).run P w = .ok (p == q) w := fun d => by
    rw [Op.equalIn, Sem.run_bind, run_underlying ht w]; rfl
  exact h 9999
theorem Jau {p q : Bool} (ht : P.underlying t = some .bool) (hx : ev l x = some (.bool p)) (hy : ev l y = some (.bool q)) : Pu P C n l ⟨dd, .binOp .eql t x y t', ty, pos, af, none⟩ (.bool (p == q)) := fun s hs w _ => by
  have e : (binOp .eql t (.bool p) (.bool q)).run P w = .ok (.bool (p == q)) w := by
    show (do pure (.bool (← Op.equal t (.bool p) (.bool q))) : Sem Value).run P w = _
    rw [Sem.run_bind, equal_bool ht w]; rfl
  simp only [execOp, hs.eval hx, hs.eval hy, eqGuard_at_bool, Sem.run_bind, Sem.run_pure, Result.andThen_ok, e]
def nthV : List Value → Nat → Option Value
  | [], _ => none
  | u :: _, 0 => some u
  | _ :: r, j + 1 => nthV r j
theorem nthV_eq : ∀ (vs : List Value) (j : Nat), nthV vs j = vs[j]?
  | [], j => by simp [nthV]
  | u :: r, 0 => by simp [nthV]
  | u :: r, j + 1 => by simp [nthV, nthV_eq r j]
theorem Jae {vs : List Value} {j : Nat} (hx : ev l x = some (.tuple vs.toArray)) (hv : nthV vs j = some v) : Pu P C n l ⟨dd, .extract x j, ty, pos, af, none⟩ v := fun s hs w _ => by
  rw [nthV_eq] at hv
  simp [execOp, hs.eval hx, Instr.extract, hv]
variable {s1 s2 : List UInt8}
theorem beq_eq_decide (a b : List UInt8) : (a == b) = decide (a = b) := by by_cases h : a = b <;> simp [h]
theorem S_toList (s : List UInt8) : (ByteArray.mk s.toArray).toList = s := ByteArray.toList_mk s
theorem Jas (hx : ev l x = some (S s1)) (hy : ev l y = some (S s2)) : Pu P C n l ⟨dd, .binOp .eql t x y t', ty, pos, af, none⟩ (.bool (decide (s1 = s2))) := fun s hs w _ => by
  simp only [execOp, hs.eval hx, hs.eval hy, eqGuard_at_string, binOp_string_eql, S_toList, beq_eq_decide]; simp
theorem Jat (hx : ev l x = some (S s1)) (hy : ev l y = some (S s2)) : Pu P C n l ⟨dd, .binOp .neq t x y t', ty, pos, af, none⟩ (.bool (!decide (s1 = s2))) := fun s hs w _ => by
  simp only [execOp, hs.eval hx, hs.eval hy, eqGuard_at_string, binOp_string_neq, S_toList, beq_eq_decide]; simp
theorem Pu_lsss (hx : ev l x = some (S s1)) (hy : ev l y = some (S s2)) : Pu P C n l ⟨dd, .binOp .lss t x y t', ty, pos, af, none⟩ (.bool (Op.bytesLess s1 s2)) := fun s hs w _ => by
  simp [execOp, hs.eval hx, hs.eval hy, eqGuard_at_string, binOp, Op.stringOp]
theorem Jaq (ht : P.underlying t = some .string) (hx : ev l x = some (S s1)) : Pu P C n l ⟨dd, .call { callee := .builtin .len, args := #[x], argTypes := #[t] }, ty, pos, af, none⟩ (I s1.length) := fun s hs w _ => by
  have h2 : (ByteArray.mk s1.toArray).size = s1.length := by simp [ByteArray.size]
  have hl := run_len_string (P := P) t ty (ByteArray.mk s1.toArray) ht (w := w)
  rw [h2] at hl
  simp only [execOp, resolve, invoke, builtin, Sem.run_bind, Sem.run_pure, Result.andThen_ok, List.map_toArray, List.map_cons, List.map_nil, hs.eval hx, hl]; rfl
theorem Jac {e : TypeId} {A : Option Addr} {m c : Nat} (ht : P.underlying t = some (.slice e)) (hx : ev l x = some (.slice A m c)) :
    Pu P C n l ⟨dd, .call { callee := .builtin .len, args := #[x], argTypes := #[t] }, ty, pos, af, none⟩ (I m) := fun s hs w _ => by
  simp [execOp, resolve, invoke, builtin, hs.eval hx, Builtin.len_, run_underlying ht, goInt]
theorem Jay (hx : ev l x = some (I a)) (hy : ev l y = some (I b)) {ats : Array TypeId} : Pu P C n l ⟨dd, .call { callee := .builtin .min, args := #[x, y], argTypes := ats }, ty, pos, af, none⟩ (I (min a b)) := fun s hs w _ => by
  have : (if b < a then b else a) = min a b := by rw [Int.min_def]; split <;> split <;> omega
  simp only [I] at *
  simp only [execOp, resolve, invoke, builtin, Sem.run_bind, Sem.run_pure, Result.andThen_ok, List.map_toArray, List.map_cons, List.map_nil, hs.eval hx, hs.eval hy, Builtin.min_, List.foldlM_cons, List.foldlM_nil, Builtin.min2, this, bind_pure]
theorem Jaz (hx : ev l x = some (I a)) (hy : ev l y = some (I b)) {ats : Array TypeId} : Pu P C n l ⟨dd, .call { callee := .builtin .max, args := #[x, y], argTypes := ats }, ty, pos, af, none⟩ (I (max a b)) := fun s hs w _ => by
  have : (if b > a then b else a) = max a b := by rw [Int.max_def]; split <;> split <;> omega
  simp only [I] at *
  simp only [execOp, resolve, invoke, builtin, Sem.run_bind, Sem.run_pure, Result.andThen_ok, List.map_toArray, List.map_cons, List.map_nil, hs.eval hx, hs.eval hy, Builtin.max_, List.foldlM_cons, List.foldlM_nil, Builtin.max2, this, bind_pure]
def at8 (s : List UInt8) (a : Int) : UInt8 := s.getD a.toNat 0
theorem Jbb (ht : P.underlying t = some .string) (hx : ev l x = some (S s1)) (hi : ev l i = some (.int k a)) (h : 0 ≤ a ∧ a < s1.length) :
    Pu P C n l ⟨dd, .index t x i, ty, pos, af, none⟩ (B8 (at8 s1 a)) := fun s hs w _ => by
  have hlt : a.toNat < s1.length := by omega
  have e : (ByteArray.mk s1.toArray)[a.toNat]? = some (s1.getD a.toNat 0) := by
    have hz : a.toNat < (ByteArray.mk s1.toArray).size := by simpa [ByteArray.size] using hlt
    rw [ByteArray.getElem?_lt' _ _ hz]
    simp [ByteArray.getElem_eq_getElem_data, List.getElem?_eq_getElem hlt]
  simp [execOp, hs.eval hx, hs.eval hi, Instr.index, asIntOf, run_underlying ht, h.1, e, at8]
end
end Go.Proofs.YtggaghghclomkaaGreat

/- Words for memory (what a slice reads as, what a call owns, what has changed) and one rule for each operation that reads or makes memory. No condition. -/
namespace Go.Proofs.YtggaghghclomkaaGreat
open Go.RowKit

/-- Of the blocks that were there, only those of T may have changed. -/
structure Ch (T : Nat → Prop) (w w' : World) : Prop where
  os : w'.os = w.os
  tape : w'.tape = w.tape
  output : w'.output = w.output
  size : w.heap.size ≤ w'.heap.size
  block : ∀ k, k < w.heap.size → ¬ T k → w'.heap[k]? = w.heap[k]?
def Iv (lo hi : Nat) : Nat → Prop := fun k => lo ≤ k ∧ k < hi
def No : Nat → Prop := fun _ => False
/-- Nothing that was there has changed. -/
abbrev Ext (w w' : World) : Prop := Ch No w w'

theorem Ch.refl (T : Nat → Prop) (w : World) : Ch T w w := ⟨rfl, rfl, rfl, Nat.le_refl _, fun _ _ _ => rfl⟩
theorem Ch.mono {T T' : Nat → Prop} {w w' : World} (h : Ch T w w') (hT : ∀ k, T k → T' k) : Ch T' w w' := ⟨h.os, h.tape, h.output, h.size, fun k hk hn => h.block k hk fun t => hn (hT k t)⟩
theorem Ch.trans {T T1 T2 : Nat → Prop} {a b c : World} (h : Ch T1 a b) (k : Ch T2 b c) (h1 : ∀ k, k < a.heap.size → T1 k → T k) (h2 : ∀ k, k < a.heap.size → T2 k → T k) : Ch T a c :=
  ⟨k.os.trans h.os, k.tape.trans h.tape, k.output.trans h.output, Nat.le_trans h.size k.size, fun i hi hn =>
    (k.block i (Nat.lt_of_lt_of_le hi h.size) fun t => hn (h2 i hi t)).trans (h.block i hi fun t => hn (h1 i hi t))⟩
theorem Ch.then {T : Nat → Prop} {a b c : World} (h : Ch T a b) (k : Ch T b c) : Ch T a c := h.trans k (fun _ _ t => t) (fun _ _ t => t)
theorem Ch.ext {T : Nat → Prop} {a b c : World} (h : Ch T a b) (k : Ext b c) : Ch T a c := h.trans k (fun _ _ t => t) (fun _ _ t => t.elim)
theorem Ext.then_iv {a b c : World} {lo hi : Nat} (h : Ext a b) (k : Ch (Iv lo hi) b c) (hl : a.heap.size ≤ lo) : Ext a c :=
  h.trans k (fun _ _ t => t) (fun i hi t => absurd t.1 (by omega))
theorem Ch.below {w w' : World} (h : Ext w w') : Below w.heap.size w w' := ⟨h.os, h.tape, h.output, h.size, fun k hk => h.block k hk (fun t => t)⟩
theorem Ch.of_grown {w w' : World} {row : Option Nat} {T : Nat → Prop} (h : w.grownBy w' row) (hT : ∀ k, row = some k → T k) : Ch T w w' :=
  ⟨h.os, h.tape, h.output, h.size, fun k hk hn => h.block k hk (fun e => hn (hT k e.symm))⟩
theorem Ch.cell {T : Nat → Prop} {w w' : World} (h : Ch T w w') {p : Addr} {v : Value} (hc : w.cell? p = some v) (hn : ¬ T p.block) : w'.cell? p = some v :=
  (World.cell?_of_block (w := w) (h.block p.block (block_lt_of_cell hc) hn)).trans hc
theorem Ext.cell {w w' : World} (h : Ext w w') {p : Addr} {v : Value} (hc : w.cell? p = some v) : w'.cell? p = some v := Ch.cell h hc (fun t => t)
theorem Ch.drew {T : Nat → Prop} {a w : World} (h : Ch T a w) : Ch T a { w with drawn := w.drawn + 1 } := ⟨h.os, h.tape, h.output, h.size, h.block⟩
theorem Ch.alloc {T : Nat → Prop} {a w : World} (h : Ch T a w) (o : Obj) : Ch T a (w.alloc o) :=
  ⟨h.os, h.tape, h.output, by have := h.size; simp; omega, fun k hk hn => (Below.heap_alloc _ _ _ (Nat.lt_of_lt_of_le hk h.size)).trans (h.block k hk hn)⟩

theorem block_of_add (a : Addr) (n : Nat) : (a.add n).block = a.block := by unfold Addr.add; split <;> rfl
theorem add_of_add (a : Addr) (i j : Nat) : (a.add i).add j = a.add (i + j) := by
  unfold Addr.add
  by_cases hi : i = 0 <;> by_cases hj : j = 0 <;> simp [hi, hj, Nat.add_assoc]

/-- The slice of address A and n elements (size cells each) reads as the cells xs; it lies in a block from lo to below hi. -/
structure Rd (w : World) (lo hi size : Nat) (A : Option Addr) (n : Nat) (xs : List Value) : Prop where
  len : xs.length = n * size
  hi_le : hi ≤ w.heap.size
  at_ : 0 < n → ∃ ad, A = some ad ∧ lo ≤ ad.block ∧ ad.block < hi ∧ ∀ j u, xs[j]? = some u → w.cell? (ad.add j) = some u
section
variable {w w' : World} {lo hi size n : Nat} {A : Option Addr} {xs : List Value} {T : Nat → Prop}
theorem Rd.ch (h : Rd w lo hi size A n xs) (c : Ch T w w') (hd : ∀ k, lo ≤ k → k < hi → ¬ T k) : Rd w' lo hi size A n xs :=
  ⟨h.len, Nat.le_trans h.hi_le c.size, fun hn => by
    obtain ⟨ad, e, h1, h2, hc⟩ := h.at_ hn
    exact ⟨ad, e, h1, h2, fun j u hu => c.cell (hc j u hu) (by rw [block_of_add]; exact hd _ h1 h2)⟩⟩
theorem Rd.ext (h : Rd w lo hi size A n xs) (c : Ext w w') : Rd w' lo hi size A n xs := h.ch c (fun _ _ _ t => t)
theorem Rd.wide {lo' hi' : Nat} (h : Rd w lo hi size A n xs) (h1 : lo' ≤ lo) (h2 : hi ≤ hi') (h3 : hi' ≤ w.heap.size) : Rd w lo' hi' size A n xs :=
  ⟨h.len, h3, fun hn => by
    obtain ⟨ad, e, h4, h5, hc⟩ := h.at_ hn
    exact ⟨ad, e, by omega, by omega, hc⟩⟩
/-- Element k of a slice of one-cell elements. -/
theorem Rd.get {k : Nat} (h : Rd w lo hi 1 A n xs) (hk : k < n) : ∃ ad, A = some ad ∧ w.cell? (ad.add k) = some (xs.getD k undef) := by
  obtain ⟨ad, e, _, _, hc⟩ := h.at_ (by omega)
  have hl : k < xs.length := by have := h.len; omega
  exact ⟨ad, e, hc k _ (by rw [List.getD_eq_getElem?_getD, List.getElem?_eq_getElem hl]; rfl)⟩
def cutA (A : Option Addr) (c lo size : Nat) : Option Addr := if c = lo then A else A.map (·.add (lo * size))
theorem Rd.cut (h : Rd w lo hi size A n xs) {a b c : Nat} (hab : a ≤ b) (hb : b ≤ n) (hc : n ≤ c) : Rd w lo hi size (cutA A c a size) (b - a) ((xs.take (b * size)).drop (a * size)) := by
  have hl := h.len
  have h1 : b * size ≤ n * size := Nat.mul_le_mul_right _ hb
  refine ⟨by rw [List.length_drop, List.length_take, hl, Nat.min_eq_left h1, Nat.sub_mul], h.hi_le, fun hn => ?_⟩
  obtain ⟨ad, rfl, h2, h3, hcell⟩ := h.at_ (by omega)
  unfold cutA
  rw [if_neg (by omega)]
  refine ⟨ad.add (a * size), rfl, by rw [block_of_add]; exact h2, by rw [block_of_add]; exact h3, fun j u hu => ?_⟩
  rw [add_of_add]
  rw [List.getElem?_drop, List.getElem?_take] at hu
  split at hu
  · exact hcell _ u hu
  · cases hu
end

/-- A block known whole, none of it frozen. -/
def Blk (w : World) (g : Nat) (t : TypeId) (cs : List Value) : Prop := w.heap[g]? = some (.cells cs.toArray t (0, 0))
section
variable {w w' : World} {g : Nat} {t : TypeId} {cs : List Value} {T : Nat → Prop}
theorem Blk.lt (h : Blk w g t cs) : g < w.heap.size := by
  rcases Nat.lt_or_ge g w.heap.size with hlt | hge
  · exact hlt
  · unfold Blk at h; rw [Array.getElem?_eq_none hge] at h; cases h
theorem Blk.cell (h : Blk w g t cs) (i : Nat) : w.cell? ⟨g, i, none⟩ = cs[i]? := by
  rw [cell_of_row w g i cs.toArray t (0, 0) h]; simp
theorem Blk.ld {off : Nat} {v : Value} (h : Blk w g t cs) (hv : nthV cs off = some v) : w.cell? ((⟨g, 0, none⟩ : Addr).add off) = some v := by
  have : (⟨g, 0, none⟩ : Addr).add off = ⟨g, off, none⟩ := by unfold Addr.add; split <;> simp_all
  rw [this, h.cell, ← nthV_eq, hv]
theorem Blk.frozen (h : Blk w g t cs) (i : Nat) : w.frozen? ⟨g, i, none⟩ = false := frozen_of_row w g i cs.toArray t h
theorem Blk.ch (h : Blk w g t cs) (c : Ch T w w') (hn : ¬ T g) : Blk w' g t cs := (c.block g h.lt hn).trans h
theorem Blk.ext (h : Blk w g t cs) (c : Ext w w') : Blk w' g t cs := h.ch c (fun t => t)
end

/-- The call's own row: nil, or at the head of a block g, lo ≤ g < hi. -/
structure Own (w : World) (lo hi : Nat) (e : TypeId) (size : Nat) (A : Option Addr) (n c : Nat) (xs : List Value) : Prop where
  hi_le : hi ≤ w.heap.size
  row : w.ownsRow lo e size (.slice A n c) n xs
  lt : ∀ ad, A = some ad → ad.block < hi
section
variable {w w' : World} {lo hi size n c : Nat} {e : TypeId} {A : Option Addr} {xs : List Value} {T : Nat → Prop}
theorem Own.nil (w : World) (lo hi : Nat) (e : TypeId) (size : Nat) (h : hi ≤ w.heap.size) : Own w lo hi e size none 0 0 [] := ⟨h, World.ownsRow_nil w lo e size, fun ad h => by cases h⟩
theorem Own.len (h : Own w lo hi e size A n c xs) : xs.length = n * size := h.row.1
theorem Own.cap (h : Own w lo hi e size A n c xs) : n ≤ c ∧ c ≤ maxLen := by
  rcases h.row.2 with ⟨h1, h2⟩ | ⟨g, cap, cur, h1, _, _, h2, h3, _⟩
  · injection h1 with _ _ h3; omega
  · injection h1 with _ _ h4; subst h4; exact ⟨h2, h3⟩
theorem Own.ge (h : Own w lo hi e size A n c xs) : ∀ ad, A = some ad → lo ≤ ad.block := by
  intro ad ha
  rcases h.row.2 with ⟨h1, h2⟩ | ⟨g, cap, cur, h1, h2, _⟩
  · injection h1 with h3; rw [ha] at h3; cases h3
  · injection h1 with h3; rw [ha] at h3; injection h3 with h3; rw [h3]; exact h2
theorem Own.head (h : Own w lo hi e size A n c xs) : A = none ∨ ∃ g, A = some ⟨g, 0, none⟩ ∧ lo ≤ g ∧ g < hi := by
  rcases h.row.2 with ⟨h1, _⟩ | ⟨g, cap, cur, h1, h2, _⟩
  · injection h1 with h3; exact .inl h3
  · injection h1 with h3; exact .inr ⟨g, h3, h2, h.lt ⟨g, 0, none⟩ h3⟩
theorem Own.ch (h : Own w lo hi e size A n c xs) (k : Ch T w w') (hd : ∀ k, lo ≤ k → k < hi → ¬ T k) : Own w' lo hi e size A n c xs := by
  refine ⟨Nat.le_trans h.hi_le k.size, ⟨h.row.1, ?_⟩, h.lt⟩
  rcases h.row.2 with hn | ⟨g, cap, cur, h1, h2, h3, rest⟩
  · exact .inl hn
  · have hg : g < hi := by injection h1 with h4; exact h.lt ⟨g, 0, none⟩ h4
    exact .inr ⟨g, cap, cur, h1, h2, (k.block g (Nat.lt_of_lt_of_le hg h.hi_le) (hd g h2 hg)).trans h3, rest⟩
theorem Own.ext (h : Own w lo hi e size A n c xs) (k : Ext w w') : Own w' lo hi e size A n c xs := h.ch k (fun _ _ _ t => t)
theorem Own.wide {lo' hi' : Nat} (h : Own w lo hi e size A n c xs) (h1 : lo' ≤ lo) (h2 : hi ≤ hi') (h3 : hi' ≤ w.heap.size) : Own w lo' hi' e size A n c xs := by
  refine ⟨h3, ⟨h.row.1, ?_⟩, fun ad ha => by have := h.lt ad ha; omega⟩
  rcases h.row.2 with hn | ⟨g, cap, cur, h4, h5, rest⟩
  · exact .inl hn
  · exact .inr ⟨g, cap, cur, h4, by omega, rest⟩
theorem Own.cast {n' : Nat} {xs' : List Value} (h : Own w lo hi e size A n c xs) (hn : n = n') (hx : xs = xs') : Own w lo hi e size A n' c xs' := by subst hn hx; exact h
theorem Own.rd (h : Own w lo hi e size A n c xs) : Rd w lo hi size A n xs := by
  refine ⟨h.row.1, h.hi_le, fun hn => ?_⟩
  rcases h.row.2 with ⟨_, h0⟩ | ⟨g, cap, cur, h1, h2, h3, rest⟩
  · omega
  · injection h1 with h4
    subst h4
    refine ⟨_, rfl, h2, h.lt _ rfl, ?_⟩
    exact h.row.cells (g := g) rfl
end

/-! ### Operations -/
section
variable {P : Program} {C : World → Prop} {L : List Oper} {Q : Exit → Act → World → Prop} {n d : Nat} {l : Env} {w : World} {rest : List Oper} {dd : Option Nat} {ty : TypeId} {pos : String} {af : Array Edge} {v : Value} {x y i : Operand} {t e : TypeId}

/-- The address of an element. -/
theorem Jar {ad : Addr} {m c : Nat} {k : IntKind} {a : Int} {size : Nat} (ht : P.underlying t = some (.slice e)) (hz : (P.info? e).map (·.size) = some size) (hx : ev l x = some (.slice (some ad) m c)) (hi : ev l i = some (.int k a)) (h : 0 ≤ a ∧ a < m) :
    Pu P C n l ⟨dd, .indexAddr t x i, ty, pos, af, none⟩ (.pointer (some (ad.add (a.toNat * size)))) := fun s hs w _ => by
  cases hq : P.info? e with
  | none => simp [hq] at hz
  | some inf =>
    have : inf.size = size := by simpa [hq] using hz
    simp [execOp, hs.eval hx, hs.eval hi, Instr.indexAt, asIntOf, run_underlying ht, h.1, h.2, sizeOf, typeInfo, hq, this]
theorem Jag {ad : Addr} {m c : Nat} {k : IntKind} {a : Int} (ht : P.underlying t = some (.slice e)) (hz : (P.info? e).map (·.size) = some 1) (hx : ev l x = some (.slice (some ad) m c)) (hi : ev l i = some (.int k a)) (h : 0 ≤ a ∧ a < m) :
    Pu P C n l ⟨dd, .indexAddr t x i, ty, pos, af, none⟩ (.pointer (some (ad.add a.toNat))) := by
  have := Jar (C := C) (n := n) (dd := dd) (ty := ty) (pos := pos) (af := af) ht hz hx hi h
  rwa [Nat.mul_one] at this
theorem add0 (g k : Nat) : (⟨g, 0, none⟩ : Addr).add k = ⟨g, k, none⟩ := by unfold Addr.add; split <;> simp_all
theorem Pu_fieldAddr {ad : Addr} {fs : Array Field} {j : Nat} {fd : Field} {off size : Nat} (ht : P.underlying t = some (.struct fs)) (hf : fs[j]? = some fd) (ho : fd.offset = off) (hz : (P.info? fd.type).map (·.size) = some (size + 1)) (hx : ev l x = some (.pointer (some ad))) :
    Pu P C n l ⟨dd, .fieldAddr t x j, ty, pos, af, none⟩ (.pointer (some (ad.add off))) := fun s hs w _ => by
  subst ho
  cases hq : P.info? fd.type with
  | none => simp [hq] at hz
  | some inf =>
    have : inf.size = size + 1 := by simpa [hq] using hz
    simp [execOp, hs.eval hx, Instr.fieldAt, Instr.sureAddr, run_underlying ht, hf, fieldPlace, sizeOf, typeInfo, hq, this]
/-- Place and type of a field. -/
def fldOT : List Field → Nat → Option (Nat × TypeId)
  | [], _ => none
  | ⟨_, ty, off, _, _, _, _⟩ :: _, 0 => some (off, ty)
  | _ :: r, j + 1 => fldOT r j
theorem fldOT_eq : ∀ (l : List Field) (j off : Nat) (tf : TypeId), fldOT l j = some (off, tf) → ∃ fd, l[j]? = some fd ∧ fd.offset = off ∧ fd.type = tf
  | [], _, _, _, h => by simp [fldOT] at h
  | ⟨a, ty, o, b, c, d, e⟩ :: r, 0, off, tf, h => by
    simp [fldOT] at h
    exact ⟨_, rfl, h.1, h.2⟩
  | f :: r, j + 1, off, tf, h => by
    obtain ⟨fd, h1, h2⟩ := fldOT_eq r j off tf (by simpa [fldOT] using h)
    exact ⟨fd, by simpa using h1, h2⟩
theorem Jbl {ad : Addr} {fs : Array Field} {j : Nat} {off size : Nat} {tf : TypeId} (ht : P.underlying t = some (.struct fs)) (hf : fldOT fs.toList j = some (off, tf)) (hz : (P.info? tf).map (·.size) = some (size + 1)) (hx : ev l x = some (.pointer (some ad))) :
    Pu P C n l ⟨dd, .fieldAddr t x j, ty, pos, af, none⟩ (.pointer (some (ad.add off))) := by
  obtain ⟨fd, h1, h2, h3⟩ := fldOT_eq _ _ _ _ hf
  subst h3
  exact Pu_fieldAddr ht (by simpa using h1) h2 hz hx
/-- What is no aggregate is loaded as one cell. -/
def flat (P : Program) (t : TypeId) : Bool := match P.underlying t with | some (.struct _) | some (.array _ _) => false | some _ => true | none => false
theorem run_isAgg_flat (h : flat P t = true) (w : World) : (isAgg t).run P w = .ok false w := by
  unfold flat at h
  cases hq : P.underlying t with
  | none => simp [hq] at h
  | some d => cases d <;> simp_all [isAgg, run_underlying hq]
theorem Pu_load {ad : Addr} (ht : flat P t = true) (hx : ev l x = some (.pointer (some ad))) (hc : ∀ w, C w → w.cell? ad = some v) :
    Pu P C n l ⟨dd, .load t x, ty, pos, af, none⟩ v := fun s hs w hw => by
  simp [execOp, hs.eval hx, Instr.loadAt, Instr.sureAddr, loadVar, run_isAgg_flat ht, hc w hw]
theorem Pu_loadAgg {ad : Addr} {cs : List Value} {ds : TypeDesc} (hu : P.underlying t = some ds) (hd : (match ds with | .struct _ | .array _ _ => true | _ => false) = true) (hz : (P.info? t).map (·.size) = some cs.length)
    (hx : ev l x = some (.pointer (some ad))) (hc : ∀ w, C w → ∀ j u, cs[j]? = some u → w.cell? (ad.add j) = some u) :
    Pu P C n l ⟨dd, .load t x, ty, pos, af, none⟩ (.agg cs.toArray) := fun s hs w hw => by
  have hl : (loadCells ad cs.length).run P w = .ok cs.toArray w := run_loadCells_list (P := P) w ad cs (hc w hw)
  cases hq : P.info? t with
  | none => simp [hq] at hz
  | some inf =>
    have h1 : inf.size = cs.length := by simpa [hq] using hz
    have hagg : (isAgg t).run P w = .ok true w := by
      unfold isAgg
      rw [Sem.run_bind, run_underlying hu w]
      cases ds <;> simp_all
    simp [execOp, hs.eval hx, Instr.loadAt, Instr.sureAddr, loadVar, hagg, sizeOf, typeInfo, hq, h1, hl]
def evP (l : Env) : List (Nat × Operand) → Option (List (Nat × Value))
  | [] => some []
  | (j, x) :: r => match ev l x with
    | some v => match evP l r with
      | some vs => some ((j, v) :: vs)
      | none => none
    | none => none
theorem evP_eq {a : Act} (ha : Holds n l a) : ∀ {ps : List (Nat × Operand)} {vs : List (Nat × Value)}, evP l ps = some vs → ps.map (fun p => (p.1, a.eval p.2)) = vs
  | [], vs, hx => by simpa [evP] using hx
  | (j, x) :: r, vs, hx => by
    simp only [evP] at hx
    cases h1 : ev l x with
    | none => simp [h1] at hx
    | some v =>
      cases h2 : evP l r with
      | none => simp [h1, h2] at hx
      | some us =>
        simp [h1, h2] at hx
        subst hx
        simp [ha.eval h1]
        simpa using evP_eq ha h2
theorem Pu_build {ps : List (Nat × Operand)} {vs : List (Nat × Value)} {cs : List Value} (hx : evP l ps = some vs) (hb : P.built t vs = some cs.toArray) :
    Pu P C n l ⟨dd, .build t ps.toArray, ty, pos, af, none⟩ (.agg cs.toArray) := fun s hs w _ => by
  have h1 : (ps.toArray.map fun p => (p.1, s.eval p.2)).toList = vs := by rw [← evP_eq hs hx]; simp
  have h2 := run_build (P := P) w t (ps.toArray.map fun p => (p.1, s.eval p.2)) cs.toArray (by rw [h1]; exact hb)
  simp only [execOp, Sem.run_bind]
  rw [show (Array.map (fun x => match x with | (i, x) => (i, s.eval x)) ps.toArray) = ps.toArray.map fun p => (p.1, s.eval p.2) from rfl, h2]
  rfl
theorem Jba {ad : Addr} (hx : ev l x = some (.pointer (some ad))) : Pu P C n l ⟨dd, .nilCheck x, ty, pos, af, none⟩ (.pointer (some ad)) := fun s hs w _ => by
  simp [execOp, hs.eval hx]

/-! slices of slices -/
theorem Jbc {A : Option Addr} {m c size : Nat} {a b : Int} {hi0 : Operand} (ht : P.underlying t = some (.slice e)) (hz : (P.info? e).map (·.size) = some size) (hx : ev l x = some (.slice A m c)) (hl : ev l i = some (I a)) (hh : ev l hi0 = some (I b))
    (h : 0 ≤ a ∧ a ≤ b ∧ b ≤ c) : Pu P C n l ⟨dd, .slice t x (some i) (some hi0) none, ty, pos, af, none⟩ (.slice (cutA A c a.toNat size) (b.toNat - a.toNat) (c - a.toNat)) := fun s hs w _ => by
  cases hq : P.info? e with
  | none => simp [hq] at hz
  | some inf =>
    have h1 : inf.size = size := by simpa [hq] using hz
    have h2 : a ≤ max b 0 := by omega
    simp only [I] at *
    simp [execOp, hs.eval hx, hs.eval hl, hs.eval hh, Instr.sliceAt, Instr.slice, Instr.sliceBounds, Instr.sliceBound, asIntOf, run_underlying ht, show 0 ≤ b by omega, h.1, h.2.2, h2, sizeOf, typeInfo, hq, h1, cutA]
theorem Jbd {A : Option Addr} {m c size : Nat} {a : Int} (ht : P.underlying t = some (.slice e)) (hz : (P.info? e).map (·.size) = some size) (hx : ev l x = some (.slice A m c)) (hl : ev l i = some (I a))
    (h : 0 ≤ a ∧ a ≤ m) : Pu P C n l ⟨dd, .slice t x (some i) none none, ty, pos, af, none⟩ (.slice (cutA A c a.toNat size) (m - a.toNat) (c - a.toNat)) := fun s hs w _ => by
  cases hq : P.info? e with
  | none => simp [hq] at hz
  | some inf =>
    have h1 : inf.size = size := by simpa [hq] using hz
    simp only [I] at *
    simp [execOp, hs.eval hx, hs.eval hl, Instr.sliceAt, Instr.slice, Instr.sliceBounds, Instr.sliceBound, asIntOf, run_underlying ht, h.1, h.2, sizeOf, typeInfo, hq, h1, cutA]
theorem Jbe {A : Option Addr} {m c size : Nat} {b : Int} {hi0 : Operand} (ht : P.underlying t = some (.slice e)) (hz : (P.info? e).map (·.size) = some size) (hx : ev l x = some (.slice A m c)) (hh : ev l hi0 = some (I b))
    (h : 0 ≤ b ∧ b ≤ c) : Pu P C n l ⟨dd, .slice t x none (some hi0) none, ty, pos, af, none⟩ (.slice (cutA A c 0 size) b.toNat c) := fun s hs w _ => by
  cases hq : P.info? e with
  | none => simp [hq] at hz
  | some inf =>
    have h1 : inf.size = size := by simpa [hq] using hz
    simp only [I] at *
    simp [execOp, hs.eval hx, hs.eval hh, Instr.sliceAt, Instr.slice, Instr.sliceBounds, Instr.sliceBound, asIntOf, run_underlying ht, h.1, h.2, sizeOf, typeInfo, hq, cutA]
end
end Go.Proofs.YtggaghghclomkaaGreat

/- Rules for the operations that make or write memory, for conversions between bytes and strings, and for regions whose order is open. No condition. -/
namespace Go.Proofs.YtggaghghclomkaaGreat
open Go.RowKit

section
variable {P : Program} {C : World → Prop} {L : List Oper} {Q : Exit → Act → World → Prop} {n d : Nat} {l : Env} {w : World} {rest : List Oper} {dd : Option Nat} {ty : TypeId} {pos : String} {af : Array Edge} {v : Value} {x y i : Operand} {t e : TypeId}

theorem Ext.alloc_ (w : World) (o : Obj) : Ext w (w.alloc o) := (Ch.refl _ w).alloc o

theorem oneV {v : Value} (h : v.oneCell' = true) : v.cells = #[v] := by cases v <;> simp_all [Value.oneCell', Value.cells]

/-- A struct's value is laid in a new block. -/
theorem TL_box {cs : List Value} (hx : ev l x = some (.agg cs.toArray)) (hn : Nat.blt d n = true)
    (h : ∀ w' g, Ext w w' → g = w.heap.size → w'.heap.size = g + 1 → Blk w' g t cs → TL P L Q rest n ((d, .pointer (some ⟨g, 0, none⟩)) :: l) w') :
    TL P L Q (⟨some d, .box t x, ty, pos, af, none⟩ :: rest) n l w :=
  TL_run (w' := w.alloc (.cells cs.toArray t)) rfl rfl hn (fun a ha => by simp [execOp, ha.eval hx, Instr.box, newVar, newRow, Value.cells])
    (h _ _ (Ext.alloc_ _ _) rfl (by simp) (heap_alloc_new w _))
/-- A new variable, of value zero. -/
theorem TL_alloc {z : Value} {cs : List Value} (hz : (P.info? t).bind (·.zero) = some z) (hcs : z.cells = cs.toArray) (hn : Nat.blt d n = true)
    (h : ∀ w' g, Ext w w' → g = w.heap.size → w'.heap.size = g + 1 → Blk w' g t cs → TL P L Q rest n ((d, .pointer (some ⟨g, 0, none⟩)) :: l) w') :
    TL P L Q (⟨some d, .alloc t, ty, pos, af, none⟩ :: rest) n l w :=
  TL_run (w' := w.alloc (.cells cs.toArray t)) rfl rfl hn (fun a _ => by
    cases hq : P.info? t with
    | none => simp [hq] at hz
    | some inf =>
      have h1 : inf.zero = some z := by simpa [hq] using hz
      simp [execOp, Instr.alloc, zeroValue, typeInfo, hq, h1, newVar, newRow, hcs])
    (h _ _ (Ext.alloc_ _ _) rfl (by simp) (heap_alloc_new w _))

theorem run_store_cell {w : World} {ad : Addr} {u v : Value} (hv : v.oneCell' = true) (hc : w.cell? ad = some u) (hf : w.frozen? ad = false) : (store ad v).run P w = .ok () (w.setCell ad v) := by
  rw [run_store P w ad v _ hv]
  simp [hc, hf]
theorem run_storeVar_one {w : World} {ad : Addr} {u v : Value} (hz : (P.info? t).map (·.size) = some 1) (hv : v.oneCell' = true) (hc : w.cell? ad = some u) (hf : w.frozen? ad = false) : (storeVar t ad v).run P w = .ok () (w.setCell ad v) := by
  cases hq : P.info? t with
  | none => simp [hq] at hz
  | some inf =>
    have h1 : inf.size = 1 := by simpa [hq] using hz
    have h2 := run_store_cell (P := P) hv hc hf
    simp only [storeVar, oneV hv, Sem.run_bind, sizeOf, typeInfo, run_program, Result.andThen_ok, hq, Sem.run_pure, h1]
    simp [storeCells, Addr.add_zero', h2]

/-- A cell of a known block is written. -/
theorem TL_store {g off : Nat} {tb : TypeId} {cs : List Value} (hx : ev l x = some (.pointer (some (Addr.add ⟨g, 0, none⟩ off)))) (hy : ev l y = some v) (hz : (P.info? t).map (·.size) = some 1) (hv : v.oneCell' = true)
    (hb : Blk w g tb cs) (ho : Nat.blt off cs.length = true)
    (h : ∀ w', Ch (Iv g (g + 1)) w w' → w'.heap.size = w.heap.size → Blk w' g tb (cs.set off v) → TL P L Q rest n l w') :
    TL P L Q (⟨none, .store t x y, ty, pos, af, none⟩ :: rest) n l w := by
  have ho' : off < cs.length := by simpa [Nat.blt_eq] using ho
  have ea : (⟨g, 0, none⟩ : Addr).add off = ⟨g, off, none⟩ := by unfold Addr.add; split <;> simp_all
  rw [ea] at hx
  refine TL_skipped (w' := w.setCell ⟨g, off, none⟩ v) rfl rfl (fun a ha => ?_) (h _ ⟨rfl, rfl, rfl, by simp, fun k _ hk => heap_setCell_other w ⟨g, off, none⟩ k v (fun e => hk (by simp [Iv, e]))⟩ (by simp) ?_)
  · have := run_storeVar_one (P := P) (t := t) hz hv (by rw [hb.cell off, List.getElem?_eq_getElem ho']) (hb.frozen off)
    simp [execOp, ha.eval hx, ha.eval hy, Instr.storeAt, Instr.sureAddr, this]
  · unfold Blk
    rw [heap_setCell_same w g off cs.toArray tb v hb]
    simp
/-- A whole block is written. -/
theorem TL_storeAgg {g : Nat} {tb : TypeId} {cs us : List Value} (hx : ev l x = some (.pointer (some ⟨g, 0, none⟩))) (hy : ev l y = some (.agg us.toArray)) (hz : (P.info? t).map (·.size) = some us.length) (hv : us.all (·.oneCell') = true)
    (hb : Blk w g tb cs) (ho : Nat.beq cs.length us.length = true)
    (h : ∀ w', Ch (Iv g (g + 1)) w w' → w'.heap.size = w.heap.size → Blk w' g tb us → TL P L Q rest n l w') :
    TL P L Q (⟨none, .store t x y, ty, pos, af, none⟩ :: rest) n l w := by
  have ho' : cs.length = us.length := Nat.eq_of_beq_eq_true ho
  refine TL_skipped (w' := w.setRow g us.toArray) rfl rfl (fun a ha => ?_) (h _ ⟨rfl, rfl, rfl, by simp, fun k _ hk => setRow_other w g k _ (fun e => hk (by simp [Iv, e]))⟩ (by simp) ?_)
  · have := run_storeVar_row (P := P) w g tb t cs.toArray us.toArray hb (by simpa using hz) (by simpa using ho') (by simpa using hv)
    simp [execOp, ha.eval hx, ha.eval hy, Instr.storeAt, Instr.sureAddr, this]
  · exact setRow_heap w g cs.toArray us.toArray tb _ hb
/-- An element's cell of the call's own row is written. -/
theorem TL_storeOwn {g lo hi m c size : Nat} {xs : List Value} {ad : Addr} {off : Nat} (hx : ev l x = some (.pointer (some ad))) (had : ad = ⟨g, off, none⟩) (hy : ev l y = some v) (hz : (P.info? t).map (·.size) = some 1) (hv : v.oneCell' = true)
    (ho : Own w lo hi e size (some ⟨g, 0, none⟩) m c xs) (hoff : off < m * size)
    (h : ∀ w', Ch (Iv g (g + 1)) w w' → w'.heap.size = w.heap.size → Own w' lo hi e size (some ⟨g, 0, none⟩) m c (xs.set off v) → TL P L Q rest n l w') :
    TL P L Q (⟨none, .store t x y, ty, pos, af, none⟩ :: rest) n l w := by
  subst had
  have hlen := ho.len
  have hc := ho.row.cellAt off hoff
  have hlt : off < xs.length := by omega
  rw [List.getElem?_eq_getElem hlt] at hc
  refine TL_skipped (w' := w.setCell ⟨g, off, none⟩ v) rfl rfl (fun a ha => ?_) (h _ ⟨rfl, rfl, rfl, by simp, fun k _ hk => heap_setCell_other w ⟨g, off, none⟩ k v (fun e => hk (by simp [Iv, e]))⟩ (by simp)
    ⟨by simpa using ho.hi_le, (ho.row.stored off v).1, ho.lt⟩)
  have := run_storeVar_one (P := P) (t := t) hz hv hc (ho.row.frozenAt off)
  simp [execOp, ha.eval hx, ha.eval hy, Instr.storeAt, Instr.sureAddr, this]

/-- A slice literal, empty. -/
theorem TL_buildSlice0 {size : Nat} (ht : P.underlying t = some (.slice e)) (hz : (P.info? e).map (·.size) = some size) (hn : Nat.blt d n = true)
    (h : ∀ w' g, Ext w w' → g = w.heap.size → w'.heap.size = g + 1 → Own w' g (g + 1) e size (some ⟨g, 0, none⟩) 0 0 [] → TL P L Q rest n ((d, .slice (some ⟨g, 0, none⟩) 0 0) :: l) w') :
    TL P L Q (⟨some d, .buildSlice t 0 #[], ty, pos, af, none⟩ :: rest) n l w := by
  cases hq : P.info? e with
  | none => simp [hq] at hz
  | some inf =>
    have h2 : inf.size = size := by simpa [hq] using hz
    subst h2
    refine TL_run (w' := w.alloc (.cells #[] e)) rfl rfl hn (fun s hs => ?_) (h _ _ (Ext.alloc_ _ _) rfl (by simp) ?_)
    · simp [execOp, Instr.buildSlice, Sem.run_bind, run_underlying ht w, sizeOf, typeInfo, hq, Instr.fill, newRow, Array.range_zero']
    · refine ⟨by simp, ?_, fun ad ha => ?_⟩
      · have := World.ownsRow_lit (base := w.heap.size) (e := e) (size := inf.size) w #[] 0 (Nat.le_refl _) (Nat.zero_le _) (by simp)
        simpa using this
      · injection ha with ha; subst ha; simp
/-- A slice literal of elements. -/
theorem TL_buildSlice {m size : Nat} {parts : List (Nat × Operand)} {vs : List (Nat × Value)} {us : List Value} {z : Value} (ht : P.underlying t = some (.slice e)) (hi : (P.info? e).map (fun i => (i.zero, i.size)) = some (some z, size))
    (hpos : Nat.blt 0 size = true) (hsm : Nat.ble (m * size) 65536 = true) (hm0 : Nat.blt 0 m = true) (hps : evP l parts = some vs)
    (hf : Instr.fill (fun i => some (i * size, size)) ((Array.range (m * size)).map (z.cells[· % z.cells.size]!)) vs = some us.toArray) (hl : Nat.beq us.length (m * size) = true) (hn : Nat.blt d n = true)
    (h : ∀ w' g, Ext w w' → g = w.heap.size → w'.heap.size = g + 1 → Own w' g (g + 1) e size (some ⟨g, 0, none⟩) m m us → TL P L Q rest n ((d, .slice (some ⟨g, 0, none⟩) m m) :: l) w') :
    TL P L Q (⟨some d, .buildSlice t m parts.toArray, ty, pos, af, none⟩ :: rest) n l w := by
  have hl' : us.length = m * size := Nat.eq_of_beq_eq_true hl
  have hsm' : m * size ≤ 65536 := by simpa using hsm
  have hpos' : 0 < size := by simpa [Nat.blt_eq] using hpos
  have hm0' : 0 < m := by simpa [Nat.blt_eq] using hm0
  cases hq : P.info? e with
  | none => simp [hq] at hi
  | some inf =>
    simp only [hq, Option.map_some, Option.some.injEq, Prod.mk.injEq] at hi
    obtain ⟨h1, h2⟩ := hi
    subst h2
    have hz : m * inf.size ≠ 0 := Nat.mul_ne_zero (by omega) (by omega)
    refine TL_run (w' := w.alloc (.cells us.toArray e)) rfl rfl hn (fun s hs => ?_) (h _ _ (Ext.alloc_ _ _) rfl (by simp) ?_)
    · have hp : (parts.toArray.map fun p => (p.1, s.eval p.2)).toList = vs := by rw [← evP_eq hs hps]; simp
      have hbig : ¬ (m * inf.size > 2 ^ 24) := by omega
      simp only [execOp, Instr.buildSlice, Sem.run_bind, run_underlying ht w, Result.andThen_ok, sizeOf, typeInfo, run_program, hq, Sem.run_pure, if_neg hbig, if_neg hz, zeroValue, h1, hp, hf, newRow, run_newObj]
      rfl
    · refine ⟨by simp, ?_, fun ad ha => ?_⟩
      · have hmm : m ≤ maxLen := by
          have : m ≤ m * inf.size := Nat.le_mul_of_pos_right _ hpos'
          simp only [maxLen]; omega
        have := World.ownsRow_lit (base := w.heap.size) (e := e) (size := inf.size) w us.toArray m (Nat.le_refl _) hmm (by simpa using hl')
        simpa using this
      · injection ha with ha; subst ha; simp

/-! append -/
theorem run_append_nil {size : Nat} (ht : P.underlying t = some (.slice e)) (hz : (P.info? e).map (·.size) = some size) {lo hi m c : Nat} {A : Option Addr} {xs : List Value} (ho : Own w lo hi e size A m c xs) (c2 : Nat) :
    (Builtin.append_ #[t, t] ty #[.slice A m c, .slice none 0 c2]).run P w = .ok (.slice A m c) w := by
  have hc := ho.cap.1
  cases hq : P.info? e with
  | none => simp [hq] at hz
  | some inf =>
    rcases A with _ | ad
    · simp [Builtin.append_, run_underlying ht, sizeOf, typeInfo, hq, Builtin.lenOf, Builtin.firstCells, hc]
    · simp [Builtin.append_, run_underlying ht, sizeOf, typeInfo, hq, Builtin.lenOf, Builtin.firstCells, hc, storeCells]
/-- append onto the call's own row, of whatever reads as news. -/
theorem TL_append {A : Option Addr} {m c m2 c2 lo hi lo2 hi2 size bytes : Nat} {z : Value} {xs news : List Value} {A2 : Option Addr} (ht : P.underlying t = some (.slice e)) (hi0 : (P.info? e).map (fun i => (i.zero, i.size, i.bytes)) = some (some z, size, bytes))
    (hzs : z.cells.size = size) (hpos : Nat.blt 0 size = true) (hx : ev l x = some (.slice A m c)) (hy : ev l y = some (.slice A2 m2 c2)) (ho : Own w lo hi e size A m c xs) (hr : Rd w lo2 hi2 size A2 m2 news) (h1 : ∀ u ∈ news, u.oneCell' = true)
    (hlo : lo ≤ w.heap.size) (hb : (m + m2) * bytes ≤ 140737488355328) (hm : m + m2 ≤ 4611686018427387904) (hn : Nat.blt d n = true)
    (h : ∀ w' hi' A' c', Ch (Iv lo hi) w w' → (hi' = hi ∨ hi' = w'.heap.size) → hi ≤ hi' → (A' = A ∨ A' = some ⟨w.heap.size, 0, none⟩) → Own w' lo hi' e size A' (m + m2) c' (xs ++ news) → TL P L Q rest n ((d, .slice A' (m + m2) c') :: l) w') :
    TL P L Q (⟨some d, .call { callee := .builtin .append, args := #[x, y], argTypes := #[t, t] }, ty, pos, af, none⟩ :: rest) n l w := by
  have hpos' : 0 < size := by simpa [Nat.blt_eq] using hpos
  have hml : m + m2 ≤ maxLen := by simp only [maxLen]; omega
  cases hq : P.info? e with
  | none => simp [hq] at hi0
  | some inf =>
    simp only [hq, Option.map_some, Option.some.injEq, Prod.mk.injEq] at hi0
    obtain ⟨e1, e2, e3⟩ := hi0
    have key : ∃ w' hi' A' c', (Builtin.append_ #[t, t] ty #[.slice A m c, .slice A2 m2 c2]).run P w = .ok (.slice A' (m + m2) c') w' ∧ Ch (Iv lo hi) w w' ∧ (hi' = hi ∨ hi' = w'.heap.size) ∧ hi ≤ hi' ∧ (A' = A ∨ A' = some ⟨w.heap.size, 0, none⟩) ∧ Own w' lo hi' e size A' (m + m2) c' (xs ++ news) := by
      by_cases hm2 : m2 = 0
      · subst hm2
        have hnn : news = [] := List.eq_nil_of_length_eq_zero (by simpa using hr.len)
        subst hnn
        have hnone := run_append_nil (P := P) (ty := ty) ht (by simp [hq, e2]) ho c2
        rcases A2 with _ | ad
        · exact ⟨w, hi, A, c, by simpa using hnone, Ch.refl _ _, .inl rfl, Nat.le_refl _, .inl rfl, by simpa using ho⟩
        · refine ⟨w, hi, A, c, ?_, Ch.refl _ _, .inl rfl, Nat.le_refl _, .inl rfl, by simpa using ho⟩
          have hc := ho.cap.1
          rcases A with _ | ad1
          · simp [Builtin.append_, run_underlying ht, sizeOf, typeInfo, hq, Builtin.lenOf, Builtin.firstCells, loadCells, loadCellsFrom, hc]
          · simp [Builtin.append_, run_underlying ht, sizeOf, typeInfo, hq, Builtin.lenOf, Builtin.firstCells, loadCells, loadCellsFrom, hc, storeCells]
      · obtain ⟨ad, rfl, _, _, hcells⟩ := hr.at_ (by omega)
        obtain ⟨v', w', hrun, hown, hg, hnil, hloc⟩ := run_append_own_at (P := P) w lo t ty e inf z size bytes ht hq e1 e2 e3 hzs hpos' (.slice A m c) m xs ho.row ad m2 c2 news hr.len hcells h1 hml hb hlo
        have hch : Ch (Iv lo hi) w w' := Ch.of_grown hg (fun k hk => by
          rcases A with _ | a1
          · simp [Value.ownBlock] at hk
          · simp [Value.ownBlock] at hk
            subst hk
            exact ⟨ho.ge _ rfl, ho.lt _ rfl⟩)
        rcases hown.2 with ⟨hv, h0⟩ | ⟨g, cap, cur, rfl, hgl, hgg, hrest⟩
        · omega
        · rcases hloc with hloc | hloc
          · rcases A with _ | a1
            · simp [Value.ownBlock] at hloc
            · obtain ⟨g1, ha1, _, _⟩ := (ho.head).resolve_left (by simp)
              injection ha1 with ha1; subst ha1
              simp [Value.ownBlock] at hloc
              subst hloc
              exact ⟨w', hi, _, cap, hrun, hch, .inl rfl, Nat.le_refl _, .inl rfl, Nat.le_trans ho.hi_le hch.size, hown, ho.lt⟩
          · simp [Value.ownBlock] at hloc
            subst hloc
            have hlt : w.heap.size < w'.heap.size := (Array.getElem?_eq_some_iff.1 hgg).1
            exact ⟨w', w'.heap.size, _, cap, hrun, hch, .inr rfl, Nat.le_trans ho.hi_le hch.size, .inr rfl, Nat.le_refl _, hown, fun ad had => by injection had with had; subst had; exact hlt⟩
    obtain ⟨w', hi', A', c', hrun, k1, k2, k3, k4, k5⟩ := key
    refine TL_run (w' := w') rfl rfl hn (fun s hs => ?_) (h w' hi' A' c' k1 k2 k3 k4 k5)
    simp only [execOp, resolve, invoke, builtin, Sem.run_bind, Sem.run_pure, Result.andThen_ok, List.map_toArray, List.map_cons, List.map_nil, hs.eval hx, hs.eval hy, hrun]

/-! bytes and strings -/
def u8s (s : List UInt8) : List Value := s.map B8
theorem u8s_one (s : List UInt8) : ∀ u ∈ u8s s, u.oneCell' = true := by
  intro u hu
  simp only [u8s, List.mem_map] at hu
  obtain ⟨b, _, rfl⟩ := hu
  rfl
@[simp] theorem u8s_length (s : List UInt8) : (u8s s).length = s.length := by simp [u8s]
theorem Rd.to8 {lo hi c : Nat} {A : Option Addr} {s : List UInt8} {b : Int} (h : Rd w lo hi 1 A s.length (u8s s)) (hb : 0 ≤ b ∧ b ≤ s.length) (hc : s.length ≤ c) : Rd w lo hi 1 (cutA A c 0 1) b.toNat (u8s (s.take b.toNat)) := by
  have := h.cut (a := 0) (b := b.toNat) (c := c) (Nat.zero_le _) (by omega) hc
  simpa [u8s, List.map_take] using this
theorem Rd.from8 {lo hi c : Nat} {A : Option Addr} {s : List UInt8} {a : Int} (h : Rd w lo hi 1 A s.length (u8s s)) (ha : 0 ≤ a ∧ a ≤ s.length) (hc : s.length ≤ c) : Rd w lo hi 1 (cutA A c a.toNat 1) (s.length - a.toNat) (u8s (s.drop a.toNat)) := by
  have := h.cut (a := a.toNat) (b := s.length) (c := c) (by omega) (Nat.le_refl _) hc
  simpa [u8s, List.map_drop, List.take_of_length_le] using this
theorem Rd.mid8 {lo hi c : Nat} {A : Option Addr} {s : List UInt8} {a b : Int} (h : Rd w lo hi 1 A s.length (u8s s)) (ha : 0 ≤ a ∧ a ≤ b ∧ b ≤ s.length) (hc : s.length ≤ c) : Rd w lo hi 1 (cutA A c a.toNat 1) (b.toNat - a.toNat) (u8s ((s.take b.toNat).drop a.toNat)) := by
  have := h.cut (a := a.toNat) (b := b.toNat) (c := c) (by omega) (by omega) hc
  simpa [u8s, List.map_drop, List.map_take] using this
theorem run_string_of {src dst : TypeId} {A : Option Addr} {m c lo hi : Nat} {s : List UInt8} (hs : P.underlying src = some (.slice e)) (he : P.underlying e = some (.int .u8)) (hd : P.underlying dst = some .string) (hr : Rd w lo hi 1 A m (u8s s)) :
    (convert src dst (.slice A m c)).run P w = .ok (S s) w := by
  have hl := hr.len
  simp only [u8s_length, Nat.mul_one] at hl
  rw [run_convert_bytes_string w src dst e A m c hs he hd]
  by_cases h0 : m = 0
  · subst h0
    have hs0 : s = [] := List.eq_nil_of_length_eq_zero hl
    subst hs0
    rcases A with _ | ad
    · simp [Conv.bytesToString]; rfl
    · have := run_bytesToString (P := P) w ad 0 c [] (by simp [loadCells, loadCellsFrom])
      rw [this]; rfl
  · obtain ⟨ad, rfl, _, _, hc⟩ := hr.at_ (by omega)
    have hld : (loadCells ad m).run P w = .ok ((s.map fun b => (b.toNat : Int)).map (Value.int .u8)).toArray w := by
      have := run_loadCells_list (P := P) w ad (u8s s) hc
      rw [u8s_length, hl] at this
      rw [this]
      simp [u8s, Function.comp_def]
    rw [run_bytesToString (P := P) w ad m c _ hld, foldl_push_bytes]
    simp [S, ByteArray.empty, ByteArray.emptyWithCapacity, Function.comp_def]; rfl
theorem Pu_string {src dst : TypeId} {A : Option Addr} {m c : Nat} {s : List UInt8} (hs : P.underlying src = some (.slice e)) (he : P.underlying e = some (.int .u8)) (hd : P.underlying dst = some .string) (hx : ev l x = some (.slice A m c)) (hr : ∀ w, C w → ∃ lo hi, Rd w lo hi 1 A m (u8s s)) :
    Pu P C n l ⟨dd, .convert src dst x, ty, pos, af, none⟩ (S s) := fun a ha w hw => by
  obtain ⟨lo, hi, h⟩ := hr w hw
  have := run_string_of (c := c) hs he hd h
  simp [execOp, ha.eval hx, this]
end

/-! ### Results that lie in memory -/
section
variable {P : Program} {n : Nat} {l : Env} {w : World} {fn : Func}
theorem run_loadVar_blk {g : Nat} {tb ty : TypeId} {cs : List Value} {ds : TypeDesc} (hb : Blk w g tb cs) (hu : P.underlying ty = some ds) (hd : (match ds with | .struct _ | .array _ _ => true | _ => false) = true) (hz : (P.info? ty).map (·.size) = some cs.length) :
    (loadVar ty ⟨g, 0, none⟩).run P w = .ok (.agg cs.toArray) w := run_loadVar_row (P := P) w g tb ty cs.toArray (0, 0) ds hb hu hd (by simpa using hz)
theorem resA {t : Nat} {ty tb : TypeId} {g : Nat} {cs : List Value} {ds : TypeDesc} (h : fn.results = #[.cell t ty]) (hv : look l t = some (.pointer (some ⟨g, 0, none⟩))) (hb : Blk w g tb cs) (hu : P.underlying ty = some ds)
    (hd : (match ds with | .struct _ | .array _ _ => true | _ => false) = true) (hz : (P.info? ty).map (·.size) = some cs.length) : ∀ a : Act, Holds n l a → (results fn a.tmps).run P w = .ok (.agg cs.toArray) w := fun a ha => by
  have h1 := ha.at_ t _ hv
  rw [Array.getD_eq_getD_getElem?] at h1
  have h2 := run_loadVar_blk (P := P) hb hu hd hz
  simp [results, h, h1, asAddr, h2]
theorem resA1 {t u : Nat} {ty tb : TypeId} {g : Nat} {cs : List Value} {y : Value} {ds : TypeDesc} (h : fn.results = #[.cell t ty, .tmp u]) (hv : look l t = some (.pointer (some ⟨g, 0, none⟩))) (hy : look l u = some y) (hb : Blk w g tb cs) (hu : P.underlying ty = some ds)
    (hd : (match ds with | .struct _ | .array _ _ => true | _ => false) = true) (hz : (P.info? ty).map (·.size) = some cs.length) : ∀ a : Act, Holds n l a → (results fn a.tmps).run P w = .ok (.tuple #[.agg cs.toArray, y]) w := fun a ha => by
  have h1 := ha.at_ t _ hv
  have h3 := ha.at_ u _ hy
  rw [Array.getD_eq_getD_getElem?] at h1 h3
  have h2 := run_loadVar_blk (P := P) hb hu hd hz
  simp [results, h, h1, h3, asAddr, h2]
theorem resA2 {t u s : Nat} {ty tb : TypeId} {g : Nat} {cs : List Value} {y z : Value} {ds : TypeDesc} (h : fn.results = #[.cell t ty, .tmp u, .tmp s]) (hv : look l t = some (.pointer (some ⟨g, 0, none⟩))) (hy : look l u = some y) (hs : look l s = some z) (hb : Blk w g tb cs) (hu : P.underlying ty = some ds)
    (hd : (match ds with | .struct _ | .array _ _ => true | _ => false) = true) (hz : (P.info? ty).map (·.size) = some cs.length) : ∀ a : Act, Holds n l a → (results fn a.tmps).run P w = .ok (.tuple #[.agg cs.toArray, y, z]) w := fun a ha => by
  have h1 := ha.at_ t _ hv
  have h3 := ha.at_ u _ hy
  have h4 := ha.at_ s _ hs
  rw [Array.getD_eq_getD_getElem?] at h1 h3 h4
  have h2 := run_loadVar_blk (P := P) hb hu hd hz
  simp [results, h, h1, h3, h4, asAddr, h2]
end

/-! ### A region whose order is open, all of whose operations yield one value in every world of a class -/
def TQ (P : Program) (L : List Oper) (C : World → Prop) (K : Act → Prop) (rest : List Oper) (n : Nat) (l : Env) : Prop := ∀ a, Holds n l a → wpQuiet P L.toArray C K rest a
section
variable {P : Program} {C : World → Prop} {K : Act → Prop} {L : List Oper} {Q : Exit → Act → World → Prop} {n d : Nat} {l : Env} {w : World} {rest : List Oper} {v : Value}
theorem TC_quiet {id : Nat} (C : World → Prop) (hm : P.follows .mixedOrders = true) (hB : Region.lexB .any L.toArray = true) (hC : C { w with drawn := w.drawn + 1 })
    (h : TQ P L C (fun a' => ∀ w', C w' → Q .normal a' w') L n l) : TC P Q (.region id L.toArray true) n l w :=
  fun a ha => wp_region_quiet (C := C) hm hB hC (by simpa using h a ha)
/-- The class of all worlds in which nothing that was there has changed. -/
theorem TC_quietExt {id : Nat} (hm : P.follows .mixedOrders = true) (hB : Region.lexB .any L.toArray = true)
    (h : TQ P L (Ext w) (fun a' => ∀ w', Ext w w' → Q .normal a' w') L n l) : TC P Q (.region id L.toArray true) n l w :=
  TC_quiet (Ext w) hm hB (Ch.refl _ _).drew h
theorem TQ_nil (h : ∀ w', C w' → TN Q n l w') : TQ P L C (fun a' => ∀ w', C w' → Q .normal a' w') [] n l := fun a ha w' hw => h w' hw a ha
theorem Jck {dd : Nat} {op : Op} {ty : TypeId} {pos : String} {af : Array Edge} (hp : Pu P C n l ⟨some dd, op, ty, pos, af, none⟩ v) (hn : Nat.blt dd n = true)
    (h : TQ P L C K rest n ((dd, v) :: l)) : TQ P L C K (⟨some dd, op, ty, pos, af, none⟩ :: rest) n l := by
  intro a ha
  refine wpQuiet_step fun K' hK => ?_
  rw [if_pos (by simp [Region.wanted])]
  refine ⟨v, fun w hw => ?_, hK _ (h _ (ha.put hn v))⟩
  unfold Oper.quietAt
  rw [hp a ha w hw]
  exact ⟨rfl, rfl⟩
theorem Jcl {dd : Option Nat} {op : Op} {ty : TypeId} {pos : String} {af : Array Edge} {j dj : Nat} {b : Bool} (hj : nthDst L j = some dj) (hn : Nat.blt dj n = true)
    (hv : look l dj = some (.bool b)) (h : TQ P L C K (⟨dd, op, ty, pos, af, none⟩ :: rest) n l) : TQ P L C K (⟨dd, op, ty, pos, af, some (j, b)⟩ :: rest) n l := by
  intro a ha
  have h1 := h a ha
  have hy := yielded_of (L := L) ha hj hn hv
  unfold wpQuiet at h1 ⊢
  rw [if_pos (by simp [Region.wanted])] at h1
  rw [if_pos (by simp [Region.wanted, hy])]
  exact h1
theorem Jcm {dd : Nat} {op : Op} {ty : TypeId} {pos : String} {af : Array Edge} {j dj : Nat} {b b' : Bool} (hj : nthDst L j = some dj) (hn : Nat.blt dj n = true)
    (hv : look l dj = some (.bool b')) (hne : (b' == b) = false) (hd : Nat.blt dd n = true) (h : TQ P L C K rest n ((dd, undef) :: l)) : TQ P L C K (⟨some dd, op, ty, pos, af, some (j, b)⟩ :: rest) n l := by
  intro a ha
  have hy := yielded_of (L := L) ha hj hn hv
  unfold wpQuiet
  rw [if_neg (by simp [Region.wanted, hy]; simpa using hne)]
  exact h _ (ha.put hd undef)
theorem Jcn {dd : Nat} {op : Op} {ty : TypeId} {pos : String} {af : Array Edge} {j dj : Nat} {b : Bool} (hj : nthDst L j = some dj) (hn : Nat.blt dj n = true)
    (hv : look l dj = some undef) (hd : Nat.blt dd n = true) (h : TQ P L C K rest n ((dd, undef) :: l)) : TQ P L C K (⟨some dd, op, ty, pos, af, some (j, b)⟩ :: rest) n l := by
  intro a ha
  have hy := yielded_undef (L := L) (b := b) ha hj hn hv
  unfold wpQuiet
  rw [if_neg (by simp [Region.wanted, hy])]
  exact h _ (ha.put hd undef)
theorem TQ_split {o : Oper} {dj : Nat} {b : Bool} (hv : look l dj = some (.bool b)) (h1 : b = true → TQ P L C K (o :: rest) n ((dj, .bool true) :: l))
    (h0 : b = false → TQ P L C K (o :: rest) n ((dj, .bool false) :: l)) : TQ P L C K (o :: rest) n l := by
  intro a ha
  cases b with
  | true => exact h1 rfl a (ha.add hv)
  | false => exact h0 rfl a (ha.add hv)
theorem Jcv {dd : Option Nat} {op : Op} {ty : TypeId} {pos : String} {af : Array Edge} {j dj : Nat} {b : Bool} {p : Prop} [Decidable p] (_hj : nthDst L j = some dj) (hv : look l dj = some (.bool (decide p)))
    (h1 : p → TQ P L C K (⟨dd, op, ty, pos, af, some (j, b)⟩ :: rest) n ((dj, .bool true) :: l)) (h0 : ¬ p → TQ P L C K (⟨dd, op, ty, pos, af, some (j, b)⟩ :: rest) n ((dj, .bool false) :: l)) :
    TQ P L C K (⟨dd, op, ty, pos, af, some (j, b)⟩ :: rest) n l := TQ_split hv (fun h => h1 (of_decide_eq_true h)) (fun h => h0 (of_decide_eq_false h))
theorem TQ_call {dd : Nat} {f : FuncId} {xs : List Operand} {ats : Array TypeId} {ty : TypeId} {pos : String} {af : Array Edge} {vs : List Value}
    (hx : evs l xs = some vs) (hen : Enters P f) (hc : ∀ w, C w → Ret P f vs.toArray w (fun v' w' => v' = v ∧ C w')) (hn : Nat.blt dd n = true) (h : TQ P L C K rest n ((dd, v) :: l)) :
    TQ P L C K (⟨some dd, .call { callee := .value (.func f), args := xs.toArray, argTypes := ats }, ty, pos, af, none⟩ :: rest) n l := by
  intro a ha
  refine wpQuiet_step fun K' hK => ?_
  rw [if_pos (by simp [Region.wanted])]
  refine ⟨v, fun w hw => ?_, hK _ (h _ (ha.put hn v))⟩
  have hm : xs.toArray.map a.eval = vs.toArray := by
    rw [List.map_toArray, ha.evals hx]
  have hm' : #[] ++ xs.toArray.map a.eval ++ #[] = vs.toArray := by simpa using hm
  have he := hen vs.toArray w
  unfold Oper.quietAt execOp
  simp only [resolve, Act.eval, Deferred.ofValue, Sem.run_bind, Sem.run_pure, Result.andThen_ok, invoke]
  show Oper.quietUpon P C w v ((callFunc f (#[] ++ xs.toArray.map (fun x => a.eval x) ++ #[])).run P w)
  rw [show (fun x => a.eval x) = a.eval from rfl, hm', he]
  exact ⟨rfl, Calls.mono (hc w hw) fun e w' ⟨v', he', hv', hcw⟩ => ⟨by rw [he', hv'], hcw⟩⟩
end
end Go.Proofs.YtggaghghclomkaaGreat

/- What an argument that can be read looks like in memory. No condition. -/
namespace Go.Proofs.YtggaghghclomkaaGreat
open Go.RowKit Go.ChangeShapes Go.WideShapes Go.Deep
section
variable {H : Type} {enc : TypeId × Value → H} {P : Program} {w : World} {base : Nat} {spare : Nat → Bool} {held : Bool} {t e : TypeId} {fuel : Nat} {v : Value} {x : DataW H × List MemPlace}
theorem arg_bytes (ht : P.underlying t = some (.slice e)) (he : P.underlying e = some (.int .u8)) (hc : P.cellsOf e = 1) (h : DataW.trod enc P w base spare held fuel t [v] = some x) :
    ∃ A c s, v = .slice A s.length c ∧ s.length ≤ c ∧ c ≤ 9223372036854775807 ∧ Rd w 0 w.heap.size 1 A s.length (u8s s) := by
  rcases open_ints ht he hc h with ⟨hcs, _⟩ | ⟨ad, len, cap, zs, hcs, _, hl, hm, hz, _, hcell, hwf⟩
  · simp at hcs
    exact ⟨none, 0, [], by simpa using hcs, Nat.le_refl _, by omega, by simp [u8s], Nat.le_refl _, fun h => by simp at h⟩
  · simp at hcs
    have hzl : len ≤ zs.length := by rw [hz]; split <;> omega
    have hlen : ((zs.take len).map fun z => UInt8.ofNat z.toNat).length = len := by simp; omega
    refine ⟨some ad, cap, (zs.take len).map fun z => UInt8.ofNat z.toNat, by rw [hlen]; exact hcs, by rw [hlen]; exact hl, by simpa [maxLen] using hm, by simp, Nat.le_refl _, fun hn => ?_⟩
    rw [hlen] at hn
    have h0 := hcell 0 (by omega)
    refine ⟨ad, rfl, Nat.zero_le _, by have := block_lt_of_cell h0; rwa [block_of_add] at this, fun j u hu => ?_⟩
    have hj : j < len := by
      have := (List.getElem?_eq_some_iff.1 hu).1
      rw [u8s_length, hlen] at this; exact this
    have hjz : j < zs.length := by omega
    rw [hcell j hjz, ← hu]
    have hb := bounds_u8 (hwf zs[j] (List.getElem_mem hjz))
    simp [u8s, List.getElem?_take, List.getElem?_eq_getElem hjz, List.getD_eq_getElem?_getD]
    omega
def entC (e : Int × List UInt8) : List Value := [I e.1, S e.2]
end
end Go.Proofs.YtggaghghclomkaaGreat
