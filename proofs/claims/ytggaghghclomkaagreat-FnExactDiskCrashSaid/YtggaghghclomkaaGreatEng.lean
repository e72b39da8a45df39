/- The stepping rules by which the walks of this claim go: frames as lists of slots with their values, one rule an operation. No condition; no program in sight. -/
import Derived.WalkKit
import Derived.Shelf.Abstract
import Derived.Laws.CopyOwn
import Derived.Deep.Quiet
import Derived.Deep.QuietTactic
namespace Go.Proofs.YtggaghghclomkaaGreat
open Go.RowKit

abbrev Env := List (Nat × Value)

def look : Env → Nat → Option Value
  | [], _ => none
  | (k, v) :: r, t => bif Nat.beq k t then some v else look r t

def ev (l : Env) : Operand → Option Value
  | .tmp t => look l t
  | .const v => some v
  | .global g => some (.pointer (some ⟨g, 0, none⟩))
  | .func f => some (.func (.func f) #[] #[])

def evs (l : Env) : List Operand → Option (List Value)
  | [] => some []
  | x :: r => match ev l x with
    | some v => match evs l r with
      | some vs => some (v :: vs)
      | none => none
    | none => none

structure Holds (n : Nat) (l : Env) (a : Act) : Prop where
  defers : a.defers = []
  size : a.tmps.size = n
  at_ : ∀ t v, look l t = some v → a.tmps.getD t undef = v

theorem Holds.eval {n : Nat} {l : Env} {a : Act} (h : Holds n l a) {x : Operand} {v : Value} (hx : ev l x = some v) : a.eval x = v := by
  cases x with
  | tmp t => exact h.at_ t v hx
  | const u => simpa [ev, Act.eval] using hx
  | global g => simpa [ev, Act.eval] using hx
  | func f => simpa [ev, Act.eval] using hx

theorem Holds.evals {n : Nat} {l : Env} {a : Act} (h : Holds n l a) : ∀ {xs : List Operand} {vs : List Value}, evs l xs = some vs → xs.map a.eval = vs
  | [], vs, hx => by simpa [evs] using hx
  | x :: r, vs, hx => by
    simp only [evs] at hx
    cases h1 : ev l x with
    | none => simp [h1] at hx
    | some v =>
      cases h2 : evs l r with
      | none => simp [h1, h2] at hx
      | some us =>
        simp [h1, h2] at hx
        subst hx
        simp [h.eval h1, h.evals h2]

theorem Holds.put {n : Nat} {l : Env} {a : Act} (h : Holds n l a) {d : Nat} (hd : Nat.blt d n = true) (v : Value) : Holds n ((d, v) :: l) (a.put (some d) v) := by
  have hd' : d < n := by simpa [Nat.blt_eq] using hd
  refine ⟨h.defers, by simpa [Act.put] using h.size, fun t u hu => ?_⟩
  simp only [look] at hu
  by_cases e : d = t
  · subst e
    simp at hu
    subst hu
    simp [Act.put, h.size, hd']
  · have hb : Nat.beq d t = false := by
      cases hb : Nat.beq d t with
      | false => rfl
      | true => exact absurd (Nat.eq_of_beq_eq_true hb) e
    rw [hb] at hu
    have := h.at_ t u (by simpa using hu)
    simpa [Act.put, Array.getD_eq_getD_getElem?, Array.getElem?_setIfInBounds, e] using this

theorem Holds.put_none {n : Nat} {l : Env} {a : Act} (h : Holds n l a) (v : Value) : Holds n l (a.put none v) := h

/-- A frame of fewer slots. -/
def subEnv (l' l : Env) : Prop := ∀ t v, look l' t = some v → look l t = some v
theorem subEnv_nil (l : Env) : subEnv [] l := fun t v h => by simp [look] at h
theorem subEnv_cons {l' l : Env} {t : Nat} {v : Value} (h : look l t = some v) (r : subEnv l' l) : subEnv ((t, v) :: l') l := by
  intro u x hx
  simp only [look] at hx
  cases hb : Nat.beq t u with
  | true =>
    rw [hb] at hx
    have e := Nat.eq_of_beq_eq_true hb
    subst e
    simp at hx
    rw [← hx]; exact h
  | false => rw [hb] at hx; exact r u x (by simpa using hx)
theorem Holds.sub {n : Nat} {l l' : Env} {a : Act} (h : Holds n l a) (s : subEnv l' l) : Holds n l' a := ⟨h.defers, h.size, fun t v hv => h.at_ t v (s t v hv)⟩

/-! ### A call's contract: it returns -/
def Ret (P : Program) (f : FuncId) (args : Array Value) (w : World) (Post : Value → World → Prop) : Prop :=
  Calls P f args w fun e w' => ∃ v, e = .returned v ∧ Post v w'

theorem Ret.mono {P : Program} {f : FuncId} {args : Array Value} {w : World} {A B : Value → World → Prop} (h : Ret P f args w A) (hi : ∀ v w', A v w' → B v w') : Ret P f args w B :=
  Calls.mono h fun _ _ ⟨v, he, hp⟩ => ⟨v, he, hi v _ hp⟩

/-! ### The three judgements -/
section
variable (P : Program) (L : List Oper) (Q : Exit → Act → World → Prop)
def TL (rest : List Oper) (n : Nat) (l : Env) (w : World) : Prop := ∀ a, Holds n l a → wpList P L.toArray Q rest a w
def TC (c : Code) (n : Nat) (l : Env) (w : World) : Prop := ∀ a, Holds n l a → c.wp P Q a w
def TN (n : Nat) (l : Env) (w : World) : Prop := ∀ a, Holds n l a → Q .normal a w
def TX (id : Nat) (n : Nat) (l : Env) (w : World) : Prop := ∀ a, Holds n l a → Q (.exit id) a w
def TR (n : Nat) (l : Env) (w : World) : Prop := ∀ a, Holds n l a → Q .ret a w
end

/-- In every world of the class the operation yields v and leaves the world as it is. -/
def Pu (P : Program) (C : World → Prop) (n : Nat) (l : Env) (o : Oper) (v : Value) : Prop :=
  ∀ a, Holds n l a → ∀ w, C w → (execOp a.eval o).run P w = .ok (.value v) w

section
variable {P : Program} {L : List Oper} {Q : Exit → Act → World → Prop} {n : Nat} {l l' : Env} {w w' : World} {rest : List Oper} {o : Oper} {d : Nat} {v : Value}

theorem TL_sub (s : subEnv l' l) (h : TL P L Q rest n l' w) : TL P L Q rest n l w := fun a ha => h a (ha.sub s)
theorem TC_sub {c : Code} (s : subEnv l' l) (h : TC P Q c n l' w) : TC P Q c n l w := fun a ha => h a (ha.sub s)

theorem TL_run (hg : o.guard = none) (hd : o.dst = some d) (hn : Nat.blt d n = true)
    (hrun : ∀ a, Holds n l a → (execOp a.eval o).run P w = .ok (.value v) w') (h : TL P L Q rest n ((d, v) :: l) w') : TL P L Q (o :: rest) n l w := by
  intro a ha
  refine wpList_plain hg fun K hK => ?_
  unfold Oper.wp
  rw [hrun a ha]
  simp only [Oper.upon, hd]
  exact hK _ _ (h _ (ha.put hn v))

theorem TL_skipped (hg : o.guard = none) (hd : o.dst = none)
    (hrun : ∀ a, Holds n l a → (execOp a.eval o).run P w = .ok .skip w') (h : TL P L Q rest n l w') : TL P L Q (o :: rest) n l w := by
  intro a ha
  refine wpList_plain hg fun K hK => ?_
  unfold Oper.wp
  rw [hrun a ha]
  simp only [Oper.upon, hd]
  exact hK _ _ (h _ (ha.put_none _))

theorem Jcg {dd : Nat} {op : Op} {ty : TypeId} {pos : String} {af : Array Edge} (hp : Pu P (fun x => x = w) n l ⟨some dd, op, ty, pos, af, none⟩ v) (hn : Nat.blt dd n = true)
    (h : TL P L Q rest n ((dd, v) :: l) w) : TL P L Q (⟨some dd, op, ty, pos, af, none⟩ :: rest) n l w :=
  TL_run rfl rfl hn (fun a ha => hp a ha w rfl) h

/-! Guards -/
def nthDst : List Oper → Nat → Option Nat
  | [], _ => none
  | o :: _, 0 => o.dst
  | _ :: r, i + 1 => nthDst r i
theorem nthDst_eq : ∀ (L : List Oper) (j : Nat), nthDst L j = (L[j]?).bind (·.dst)
  | [], j => by simp [nthDst]
  | o :: r, 0 => by simp [nthDst]
  | o :: r, j + 1 => by simp [nthDst, nthDst_eq r j]

theorem yielded_of {a : Act} {j dj : Nat} {b : Bool} (ha : Holds n l a) (hj : nthDst L j = some dj) (hn : Nat.blt dj n = true) (hv : look l dj = some (.bool b)) :
    yielded L.toArray a.tmps j = some b := by
  have h1 : (L.toArray[j]?).bind (·.dst) = some dj := by rw [← hj, nthDst_eq]; simp
  have hn' : dj < n := by simpa [Nat.blt_eq] using hn
  have h2 : a.tmps[dj]? = some (.bool b) := by
    have := ha.at_ dj _ hv
    have hs : dj < a.tmps.size := by rw [ha.size]; exact hn'
    rw [Array.getD_eq_getD_getElem?, Array.getElem?_eq_getElem hs] at this
    rw [Array.getElem?_eq_getElem hs]
    simpa using this
  unfold yielded
  rw [h1]
  simp [h2]

theorem execOp_guard (ρ : Operand → Value) (dd : Option Nat) (op : Op) (ty : TypeId) (pos : String) (af : Array Edge) (g : Option (Nat × Bool)) :
    execOp ρ ⟨dd, op, ty, pos, af, g⟩ = execOp ρ ⟨dd, op, ty, pos, af, none⟩ := rfl

theorem upon_guard {dd : Option Nat} {op : Op} {ty : TypeId} {pos : String} {af : Array Edge} {g : Option (Nat × Bool)} {a : Act} {K : Act → World → Prop} :
    Oper.wp P ⟨dd, op, ty, pos, af, none⟩ a w K Q → Oper.wp P ⟨dd, op, ty, pos, af, g⟩ a w K Q := id

theorem asks_guard {dd : Option Nat} {op : Op} {ty : TypeId} {pos : String} {af : Array Edge} {g : Option (Nat × Bool)} {a : Act} :
    Oper.asks P ⟨dd, op, ty, pos, af, none⟩ a w → Oper.asks P ⟨dd, op, ty, pos, af, g⟩ a w := id

theorem Jch {dd : Option Nat} {op : Op} {ty : TypeId} {pos : String} {af : Array Edge} {j dj : Nat} {b : Bool} (hj : nthDst L j = some dj) (hn : Nat.blt dj n = true)
    (hv : look l dj = some (.bool b)) (h : TL P L Q (⟨dd, op, ty, pos, af, none⟩ :: rest) n l w) : TL P L Q (⟨dd, op, ty, pos, af, some (j, b)⟩ :: rest) n l w := by
  intro a ha
  have h1 := h a ha
  have hy := yielded_of (L := L) ha hj hn hv
  unfold wpList at h1 ⊢
  rw [if_pos (by simp [Region.wanted])] at h1
  rw [if_pos (by simp [Region.wanted, hy])]
  exact h1

theorem Jci {dd : Nat} {op : Op} {ty : TypeId} {pos : String} {af : Array Edge} {j dj : Nat} {b b' : Bool} (hj : nthDst L j = some dj) (hn : Nat.blt dj n = true)
    (hv : look l dj = some (.bool b')) (hne : (b' == b) = false) (hd : Nat.blt dd n = true) (h : TL P L Q rest n ((dd, undef) :: l) w) : TL P L Q (⟨some dd, op, ty, pos, af, some (j, b)⟩ :: rest) n l w := by
  intro a ha
  have hy := yielded_of (L := L) ha hj hn hv
  unfold wpList
  rw [if_neg (by simp [Region.wanted, hy]; simpa using hne)]
  exact h _ (ha.put hd undef)

theorem yielded_undef {a : Act} {j dj : Nat} {b : Bool} (ha : Holds n l a) (hj : nthDst L j = some dj) (hn : Nat.blt dj n = true) (hv : look l dj = some undef) :
    (yielded L.toArray a.tmps j == some b) = false := by
  have h1 : (L.toArray[j]?).bind (·.dst) = some dj := by rw [← hj, nthDst_eq]; simp
  have hn' : dj < n := by simpa [Nat.blt_eq] using hn
  have h2 : a.tmps[dj]? = some undef := by
    have := ha.at_ dj _ hv
    have hs : dj < a.tmps.size := by rw [ha.size]; exact hn'
    rw [Array.getD_eq_getD_getElem?, Array.getElem?_eq_getElem hs] at this
    rw [Array.getElem?_eq_getElem hs]
    simpa using this
  have hy : yielded L.toArray a.tmps j = none := by
    unfold yielded
    rw [h1]
    simp [h2, undef]
  rw [hy]
  rfl
/-- A guard that is undef: its own operation was passed over. -/
theorem Jcj {dd : Nat} {op : Op} {ty : TypeId} {pos : String} {af : Array Edge} {j dj : Nat} {b : Bool} (hj : nthDst L j = some dj) (hn : Nat.blt dj n = true)
    (hv : look l dj = some undef) (hd : Nat.blt dd n = true) (h : TL P L Q rest n ((dd, undef) :: l) w) : TL P L Q (⟨some dd, op, ty, pos, af, some (j, b)⟩ :: rest) n l w := by
  intro a ha
  have hy := yielded_undef (L := L) (b := b) ha hj hn hv
  unfold wpList
  rw [if_neg (by simp [Region.wanted, hy])]
  exact h _ (ha.put hd undef)

theorem Holds.add {a : Act} {t : Nat} (ha : Holds n l a) (hv : look l t = some v) : Holds n ((t, v) :: l) a :=
  ⟨ha.defers, ha.size, fun u x hx => by
    simp only [look] at hx
    cases hb : Nat.beq t u with
    | true =>
      rw [hb] at hx
      have e := Nat.eq_of_beq_eq_true hb
      subst e
      simp at hx
      subst hx
      exact ha.at_ _ _ hv
    | false => rw [hb] at hx; exact ha.at_ _ _ (by simpa using hx)⟩

theorem TL_split {o : Oper} {dj : Nat} {b : Bool} (hv : look l dj = some (.bool b)) (h1 : b = true → TL P L Q (o :: rest) n ((dj, .bool true) :: l) w)
    (h0 : b = false → TL P L Q (o :: rest) n ((dj, .bool false) :: l) w) : TL P L Q (o :: rest) n l w := by
  intro a ha
  cases b with
  | true => exact h1 rfl a (ha.add hv)
  | false => exact h0 rfl a (ha.add hv)

theorem Jcr {dd : Option Nat} {op : Op} {ty : TypeId} {pos : String} {af : Array Edge} {j dj : Nat} {b c : Bool} (_hj : nthDst L j = some dj) (hv : look l dj = some (.bool c))
    (h1 : c = true → TL P L Q (⟨dd, op, ty, pos, af, some (j, b)⟩ :: rest) n ((dj, .bool true) :: l) w) (h0 : c = false → TL P L Q (⟨dd, op, ty, pos, af, some (j, b)⟩ :: rest) n ((dj, .bool false) :: l) w) :
    TL P L Q (⟨dd, op, ty, pos, af, some (j, b)⟩ :: rest) n l w := TL_split hv h1 h0

theorem Jcs {dd : Option Nat} {op : Op} {ty : TypeId} {pos : String} {af : Array Edge} {j dj : Nat} {b : Bool} {p : Prop} [Decidable p] (_hj : nthDst L j = some dj) (hv : look l dj = some (.bool (decide p)))
    (h1 : p → TL P L Q (⟨dd, op, ty, pos, af, some (j, b)⟩ :: rest) n ((dj, .bool true) :: l) w) (h0 : ¬ p → TL P L Q (⟨dd, op, ty, pos, af, some (j, b)⟩ :: rest) n ((dj, .bool false) :: l) w) :
    TL P L Q (⟨dd, op, ty, pos, af, some (j, b)⟩ :: rest) n l w := TL_split hv (fun h => h1 (of_decide_eq_true h)) (fun h => h0 (of_decide_eq_false h))
theorem Jct {dd : Option Nat} {op : Op} {ty : TypeId} {pos : String} {af : Array Edge} {j dj : Nat} {b : Bool} {p : Prop} [Decidable p] (_hj : nthDst L j = some dj) (hv : look l dj = some (.bool (!decide p)))
    (h1 : ¬ p → TL P L Q (⟨dd, op, ty, pos, af, some (j, b)⟩ :: rest) n ((dj, .bool true) :: l) w) (h0 : p → TL P L Q (⟨dd, op, ty, pos, af, some (j, b)⟩ :: rest) n ((dj, .bool false) :: l) w) :
    TL P L Q (⟨dd, op, ty, pos, af, some (j, b)⟩ :: rest) n l w := TL_split hv (fun h => h1 (by simpa using h)) (fun h => h0 (by simpa using h))

/-! ### Code -/
theorem Jbs {x y : Code} (h : TC P (Exit.then (y.wp P Q) Q) x n l w) : TC P Q (.seq x y) n l w := fun a ha => wp_seq (h a ha)
theorem Jbt {id : Nat} (h : TL P L Q L n l w) : TC P Q (.region id L.toArray false) n l w := fun a ha => wp_region_lit (h a ha)
theorem Jbq (h : TN Q n l w) : TL P L Q [] n l w := fun a ha => h a ha
theorem Jbr {y : Code} (h : TC P Q y n l w) : TN (Exit.then (y.wp P Q) Q) n l w := fun a ha => h a ha
theorem Jbx {id : Nat} (h : TN Q n l w) : TN (Exit.inBlock id Q) n l w := fun a ha => h a ha
theorem Jbz (h : TN Q n l w) : TC P Q .skip n l w := fun a ha => wp_skip (h a ha)
theorem Jca {id : Nat} (h : TX Q id n l w) : TC P Q (.exit id) n l w := fun a ha => wp_exit (h a ha)
theorem Jcb {id : Nat} {K : Act → World → Prop} (h : TX Q id n l w) : TX (Exit.then K Q) id n l w := fun a ha => h a ha
theorem Jcc {id : Nat} (h : TN Q n l w) : TX (Exit.inBlock id Q) id n l w := fun a ha => by
  show Exit.inBlock id Q (.exit id) a w
  simp only [Exit.inBlock, if_true]; exact h a ha
theorem Jcd {id id' : Nat} (hne : Nat.beq id' id = false) (h : TX Q id' n l w) : TX (Exit.inBlock id Q) id' n l w := fun a ha => by
  have hn : id' ≠ id := fun e => by subst e; simp at hne
  show Exit.inBlock id Q (.exit id') a w
  simp only [Exit.inBlock, if_neg hn]; exact h a ha
theorem Jbu (h : TR Q n l w) : TC P Q .ret n l w := fun a ha => wp_ret (h a ha)
theorem Jbv {K : Act → World → Prop} (h : TR Q n l w) : TR (Exit.then K Q) n l w := fun a ha => h a ha
theorem Jbw {id : Nat} (h : TR Q n l w) : TR (Exit.inBlock id Q) n l w := fun a ha => h a ha
theorem Jby {id : Nat} {c : Code} (h : TC P (Exit.inBlock id Q) c n l w) : TC P Q (.block id c) n l w := fun a ha => wp_block (h a ha)
theorem Jcz {c : Operand} {x y : Code} {b : Bool} (hv : ev l c = some (.bool b)) (h1 : b = true → TC P Q x n l w) (h0 : b = false → TC P Q y n l w) : TC P Q (.cond c x y) n l w :=
  fun a ha => wp_cond_split (ha.eval hv) (fun h => h1 h a ha) (fun h => h0 h a ha)
theorem Jcx {c : Operand} {x y : Code} {p : Prop} [Decidable p] (hv : ev l c = some (.bool (decide p))) (h1 : p → TC P Q x n l w) (h0 : ¬ p → TC P Q y n l w) : TC P Q (.cond c x y) n l w :=
  Jcz hv (fun h => h1 (of_decide_eq_true h)) (fun h => h0 (of_decide_eq_false h))
theorem Jcy {c : Operand} {x y : Code} {p : Prop} [Decidable p] (hv : ev l c = some (.bool (!decide p))) (h1 : ¬ p → TC P Q x n l w) (h0 : p → TC P Q y n l w) : TC P Q (.cond c x y) n l w :=
  Jcz hv (fun h => h1 (by simpa using h)) (fun h => h0 (by simpa using h))
theorem Jce {c : Operand} {x y : Code} (hv : ev l c = some (.bool true)) (h1 : TC P Q x n l w) : TC P Q (.cond c x y) n l w :=
  fun a ha => wp_cond_true (ha.eval hv) (h1 a ha)
theorem Jcf {c : Operand} {x y : Code} (hv : ev l c = some (.bool false)) (h0 : TC P Q y n l w) : TC P Q (.cond c x y) n l w :=
  fun a ha => wp_cond_false (ha.eval hv) (h0 a ha)
theorem TC_loop {c : Code} {ι : Type} (env : ι → Env) (I : ι → World → Prop) (μ : ι → Nat) (x0 : ι) (hs : subEnv (env x0) l) (h0 : I x0 w)
    (round : ∀ x w, I x w → TC P (Exit.then (fun a' w' => ∃ y, Holds n (env y) a' ∧ I y w' ∧ μ y < μ x) Q) c n (env x) w) : TC P Q (.loop c) n l w := by
  intro a ha
  refine wp_loop (fun a w => ∃ x, Holds n (env x) a ∧ I x w) (fun a w => Classical.epsilon (fun m : Nat => (∃ x, Holds n (env x) a ∧ I x w ∧ μ x = m) ∧ ∀ x, Holds n (env x) a → I x w → m ≤ μ x)) ⟨x0, ha.sub hs, h0⟩ ?_
  intro a w hI
  -- the least measure among the readings of this state
  have key : ∀ a w, (∃ x, Holds n (env x) a ∧ I x w) → ∃ m : Nat, (∃ x, Holds n (env x) a ∧ I x w ∧ μ x = m) ∧ ∀ x, Holds n (env x) a → I x w → m ≤ μ x := by
    intro a w ⟨x, hx, hi⟩
    have : ∀ k, ∀ x, Holds n (env x) a → I x w → μ x ≤ k → ∃ m : Nat, (∃ x, Holds n (env x) a ∧ I x w ∧ μ x = m) ∧ ∀ x, Holds n (env x) a → I x w → m ≤ μ x := by
      intro k
      induction k with
      | zero => intro x hx hi hk; exact ⟨μ x, ⟨x, hx, hi, rfl⟩, fun y _ _ => by omega⟩
      | succ k ih =>
        intro x hx hi hk
        by_cases hy : ∃ y, Holds n (env y) a ∧ I y w ∧ μ y < μ x
        · obtain ⟨y, h1, h2, h3⟩ := hy
          exact ih y h1 h2 (by omega)
        · exact ⟨μ x, ⟨x, hx, hi, rfl⟩, fun y h1 h2 => Nat.le_of_not_lt fun h3 => hy ⟨y, h1, h2, h3⟩⟩
    exact this (μ x) x hx hi (Nat.le_refl _)
  have hm := Classical.epsilon_spec (key a w hI)
  obtain ⟨⟨x, hx, hi, hmx⟩, _⟩ := hm
  refine wp_mono (round x w hi a hx) fun e a' w' h => ?_
  cases e with
  | normal =>
    obtain ⟨y, hy, hiy, hlt⟩ := h
    refine ⟨⟨y, hy, hiy⟩, ?_⟩
    have hm' := (Classical.epsilon_spec (key a' w' ⟨y, hy, hiy⟩)).2 y hy hiy
    exact Nat.lt_of_le_of_lt hm' (hmx ▸ hlt)
  | exit _ => exact h
  | goto _ => exact h
  | ret => exact h
  | panic _ => exact h
  | outgrown => exact h
theorem TN_round {ι : Type} {env : ι → Env} {I : ι → World → Prop} {μ : ι → Nat} {x : ι} (y : ι) (hs : subEnv (env y) l) (hi : I y w) (hm : μ y < μ x) :
    TN (Exit.then (fun a' w' => ∃ y, Holds n (env y) a' ∧ I y w' ∧ μ y < μ x) Q) n l w := fun _ ha => ⟨y, ha.sub hs, hi, hm⟩

/-- Ways that meet again. -/
theorem TC_join {x y : Code} {ι : Type} (env : ι → Env) (I : ι → World → Prop) (h : TC P (Exit.then (fun a' w' => ∃ z, Holds n (env z) a' ∧ I z w') Q) x n l w) (k : ∀ z w', I z w' → TC P Q y n (env z) w') : TC P Q (.seq x y) n l w := by
  refine Jbs fun a ha => wp_mono (h a ha) fun e a' w' hq => ?_
  cases e with
  | normal => obtain ⟨z, hz, hi⟩ := hq; exact k z w' hi a' hz
  | exit _ => exact hq
  | goto _ => exact hq
  | ret => exact hq
  | panic _ => exact hq
  | outgrown => exact hq
theorem TN_join {ι : Type} {env : ι → Env} {I : ι → World → Prop} (z : ι) (hs : subEnv (env z) l) (hi : I z w) : TN (Exit.then (fun a' w' => ∃ z, Holds n (env z) a' ∧ I z w') Q) n l w := fun _ ha => ⟨z, ha.sub hs, hi⟩

/-! ### A body's end -/
variable {fn : Func} {R : Value → World → Prop}
theorem TR_of (hr : ∀ a, Holds n l a → (results fn a.tmps).run P w = .ok v w) (hR : R v w) : TR (bodyPost P fn (fun e w' => ∃ v, e = .returned v ∧ R v w')) n l w :=
  fun a ha => ⟨ha.defers, v, hr a ha, v, rfl, hR⟩
theorem TN_of (hr : ∀ a, Holds n l a → (results fn a.tmps).run P w = .ok v w) (hR : R v w) : TN (bodyPost P fn (fun e w' => ∃ v, e = .returned v ∧ R v w')) n l w :=
  fun a ha => ⟨ha.defers, v, hr a ha, v, rfl, hR⟩
theorem res0 (h : fn.results = #[]) : ∀ a : Act, Holds n l a → (results fn a.tmps).run P w = .ok (.tuple #[]) w := fun _ _ => results_none h _ _ _
theorem res1 {t : Nat} (h : fn.results = #[.tmp t]) (hv : look l t = some v) : ∀ a : Act, Holds n l a → (results fn a.tmps).run P w = .ok v w :=
  fun a ha => by rw [results_tmp h, ha.at_ t v hv]
theorem res2 {t u : Nat} {x y : Value} (h : fn.results = #[.tmp t, .tmp u]) (hx : look l t = some x) (hy : look l u = some y) :
    ∀ a : Act, Holds n l a → (results fn a.tmps).run P w = .ok (.tuple #[x, y]) w :=
  fun a ha => by rw [results_tmp2 h, ha.at_ t x hx, ha.at_ u y hy]
theorem res3 {t u s : Nat} {x y z : Value} (h : fn.results = #[.tmp t, .tmp u, .tmp s]) (hx : look l t = some x) (hy : look l u = some y) (hz : look l s = some z) :
    ∀ a : Act, Holds n l a → (results fn a.tmps).run P w = .ok (.tuple #[x, y, z]) w :=
  fun a ha => by
    have h1 := ha.at_ t x hx
    have h2 := ha.at_ u y hy
    have h3 := ha.at_ s z hz
    rw [Array.getD_eq_getD_getElem?] at h1 h2 h3
    simp [results, h, h1, h2, h3]

/-! ### Into a function, and its calls -/
def envOf : Nat → List Value → Env
  | _, [] => []
  | k, v :: r => (k, v) :: envOf (k + 1) r
theorem look_envOf : ∀ (vs : List Value) (k t : Nat) (u : Value), look (envOf k vs) t = some u → k ≤ t ∧ vs[t - k]? = some u
  | [], k, t, u, h => by simp [envOf, look] at h
  | x :: r, k, t, u, h => by
    simp only [envOf, look] at h
    cases hb : Nat.beq k t with
    | true =>
      rw [hb] at h
      have e := Nat.eq_of_beq_eq_true hb
      subst e
      simp at h
      simp [h]
    | false =>
      rw [hb] at h
      obtain ⟨h1, h2⟩ := look_envOf r (k + 1) t u (by simpa using h)
      refine ⟨by omega, ?_⟩
      rw [show t - k = (t - (k + 1)) + 1 by omega]
      simpa using h2
theorem Ret_enter {f : FuncId} {c : Code} {vs : List Value} (hf : P.funcs[f]? = some fn) (hb : fn.body = some c) (hn : fn.ntmps = n) (hl : Nat.ble vs.length n = true)
    (h : TC P (bodyPost P fn (fun e w' => ∃ v, e = .returned v ∧ R v w')) c n (envOf 0 vs) w) : Ret P f vs.toArray w R := by
  refine calls_of_wp hf hb ?_
  have hl' : vs.length ≤ n := by simpa using hl
  refine h _ ⟨rfl, by simp [hn]; omega, fun t u hu => ?_⟩
  obtain ⟨_, h2⟩ := look_envOf vs 0 t u hu
  rw [Nat.sub_zero] at h2
  have hlt : t < vs.length := (List.getElem?_eq_some_iff.1 h2).1
  rw [Array.getD_eq_getD_getElem?, Array.getElem?_append_left (by simpa using hlt)]
  simp [h2]

theorem TL_call {dd : Option Nat} {f : FuncId} {xs : List Operand} {ats : Array TypeId} {ty : TypeId} {pos : String} {af : Array Edge} {vs : List Value} {Post : Value → World → Prop}
    (hx : evs l xs = some vs) (hen : Enters P f) (hc : Ret P f vs.toArray w Post) (hd : dd = some d) (hn : Nat.blt d n = true) (h : ∀ v w', Post v w' → TL P L Q rest n ((d, v) :: l) w') :
    TL P L Q (⟨dd, .call { callee := .value (.func f), args := xs.toArray, argTypes := ats }, ty, pos, af, none⟩ :: rest) n l w := by
  subst hd
  intro a ha
  refine wpList_plain rfl fun K hK => ?_
  unfold Oper.wp execOp
  have hm : xs.toArray.map a.eval = vs.toArray := by
    rw [List.map_toArray, ha.evals hx]
  simp only [resolve, Act.eval, Deferred.ofValue, Sem.run_bind, Sem.run_pure, Result.andThen_ok, invoke]
  have he := hen (#[] ++ xs.toArray.map a.eval ++ #[]) w
  have hm' : #[] ++ xs.toArray.map a.eval ++ #[] = vs.toArray := by simpa using hm
  rw [hm'] at he
  have : (callFunc f (#[] ++ xs.toArray.map (fun x => a.eval x) ++ #[])).run P w = .ok (.enter f vs.toArray) w := by
    rw [show (fun x => a.eval x) = a.eval from rfl, hm']; exact he
  show Oper.upon P _ a K Q ((callFunc f (#[] ++ xs.toArray.map (fun x => a.eval x) ++ #[])).run P w)
  rw [this]
  simp only [Oper.upon]
  refine Calls.mono hc fun e w' ⟨v, he, hp⟩ => ?_
  subst he
  exact hK _ _ (h v w' hp _ (ha.put hn v))
end
end Go.Proofs.YtggaghghclomkaaGreat
