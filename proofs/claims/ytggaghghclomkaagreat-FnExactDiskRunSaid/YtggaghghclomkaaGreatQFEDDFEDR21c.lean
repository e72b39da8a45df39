/- Texts of this proof laid together, in the order in which they build; what each proves stands ahead of it. No condition but those told there. -/
import Derived.Test.YtggaghghclomkaaGreatQFEDDFEDR21b

/- Contracts of the functions that only compute: ranges, runes, names, entries. -/
namespace Go.Proofs.YtggaghghclomkaaGreat
open Go.RowKit
attribute [local irreducible] TL TC TN TX TR TQ Pu Ret

def inB (n lo hi : Int) : Bool := decide (lo ≤ n ∧ n ≤ hi)
def pRuneOk (r : Int) : Bool := decide (0 ≤ r ∧ r ≤ 1114111 ∧ (r < 55296 ∨ 57343 < r))
def pPrintable (r : Int) : Bool := decide (32 ≤ r ∧ r ≤ 1114111 ∧ (r < 55296 ∨ 57343 < r) ∧ (r < 127 ∨ 159 < r))
def pClass (r : Int) : Int := if r = 9 ∨ r = 10 ∨ r = 32 then 0 else if (97 ≤ r ∧ r ≤ 122) ∨ (65 ≤ r ∧ r ≤ 90) ∨ (48 ≤ r ∧ r ≤ 57) ∨ r = 95 ∨ (159 < r ∧ pPrintable r = true) then 1 else 2
def okByte (b : UInt8) : Bool := decide (97 ≤ (b.toNat : Int) ∧ (b.toNat : Int) ≤ 122)
def pName (s : List UInt8) : Bool := decide (1 ≤ s.length ∧ s.length ≤ 12) && s.all okByte
def pEntry (num : Int) (text : List UInt8) : Bool := decide (1 ≤ num ∧ num ≤ 1000000000 ∧ 1 ≤ text.length ∧ text.length ≤ 1000)
theorem boolv {a b : Bool} (h : a = true ↔ b = true) : Value.bool a = Value.bool b := by rw [Bool.eq_iff_iff.2 h]
theorem okTake {s : List UInt8} {k : Nat} (h : k < s.length) : (s.take (k + 1)).all okByte = ((s.take k).all okByte && okByte (at8 s k)) := by
  rw [List.take_succ_eq_append_getElem h, List.all_append]
  simp only [at8, Int.toNat_natCast, List.getD_eq_getElem?_getD, List.getElem?_eq_getElem h, Option.getD_some, List.all_cons, List.all_nil, Bool.and_true]
theorem okBad {s : List UInt8} {k : Nat} (h : k < s.length) (hb : okByte (at8 s k) = false) : s.all okByte = false := by
  rw [List.all_eq_false]
  refine ⟨s[k], List.getElem_mem h, ?_⟩
  simpa [at8, List.getD_eq_getElem?_getD, List.getElem?_eq_getElem h] using hb

theorem in_c (n lo hi : Int) (w : World) : Ret Tryz.prog 101 #[I n, I lo, I hi] w fun v w' => v = .bool (inB n lo hi) ∧ w = w' := by
  refine Ret_enter Tryz.func101 rfl rfl rfl ?_
  repeat' (first | apply Jbq | apply Jbr | apply Jbs | apply Jbt | apply Jbu | (apply Jcg; (first | exact Jaa rfl | exact Jab rfl | exact Jah rfl rfl | exact Jai rfl rfl | exact Jan rfl rfl | exact Jao rfl rfl); exact rfl) | refine Jch rfl rfl rfl ?_ | refine Jci rfl rfl rfl rfl rfl ?_ | (refine Jcs rfl rfl (fun hb => ?_) (fun hb => ?_) <;> (try (exfalso; omega))))
  all_goals exact TR_of (res1 rfl rfl) ⟨boolv (by simp [inB]; omega), rfl⟩
theorem isLower_c (r : Int) (w : World) : Ret Tryz.prog 171 #[I r] w fun v w' => v = .bool (inB r 97 122) ∧ w = w' := by
  refine Ret_enter Tryz.func171 rfl rfl rfl ?_
  repeat' (first | apply Jbq | apply Jbr | apply Jbs | apply Jbt | apply Jbu | (apply Jcg; (first | exact Jaa rfl | exact Jab rfl); exact rfl) | (refine TL_call rfl en101 (in_c _ _ _ _) rfl rfl ?_; rintro _ _ ⟨rfl, rfl⟩))
  exact TR_of (res1 rfl rfl) ⟨rfl, rfl⟩
theorem specNameOk_c (s : List UInt8) (w : World) (hl : s.length ≤ 9223372036854775807) : Ret Tryz.prog 131 #[S s] w fun v w' => v = .bool (pName s) ∧ w = w' := by
  refine Ret_enter Tryz.func131 rfl rfl rfl ?_
  by_cases h : 1 ≤ s.length ∧ s.length ≤ 12
  · repeat' (first | apply Jbq | apply Jbr | apply Jbs | apply Jbt | apply Jby | apply Jbz | (apply Jcg; (first | exact Jaa rfl | exact Jab rfl | exact Jad rfl rfl | exact Jai rfl rfl | exact Jam rfl rfl | exact Jaq Us.h rfl); exact rfl) | refine Jch rfl rfl rfl ?_ | (refine Jcs rfl rfl (fun hb => ?_) (fun hb => ?_) <;> (try (exfalso; omega))) | (refine Jcx rfl (fun hb => ?_) (fun hb => ?_) <;> (try (exfalso; omega))))
    refine TC_loop (ι := Nat) (fun k => [(0, S s), (3, I k)]) (fun k w' => k ≤ s.length ∧ (s.take k).all okByte = true ∧ w = w') (fun k => s.length - k) 0 (subEnv_cons rfl (subEnv_cons rfl (subEnv_nil _))) ⟨Nat.zero_le _, by simp, rfl⟩ ?_
    rintro k _ ⟨hk, hall, rfl⟩
    by_cases hlt : k < s.length
    · have ht := okTake hlt
      repeat' (first | apply Jbq | apply Jbr | apply Jbs | apply Jbt | apply Jbu | apply Jbv | apply Jbw | apply Jbx | apply Jby | apply Jbz | (refine Jce rfl ?_) | (apply Jcg; (first | exact Jaa rfl | exact Jab rfl | exact Jad rfl rfl | exact Jaf rfl rfl (by omega) | exact Jah rfl rfl | exact Jai rfl rfl | exact Jam rfl rfl | exact Jaq Us.h rfl | exact Jbb Us.h rfl rfl (by omega)); exact rfl) | refine Jch rfl rfl rfl ?_ | refine Jci rfl rfl rfl rfl rfl ?_ | (refine Jcs rfl rfl (fun hb => ?_) (fun hb => ?_) <;> (try (exfalso; omega))) | (refine Jcx rfl (fun hb => ?_) (fun hb => ?_) <;> (try (exfalso; omega))))
      · exact TR_of (res1 rfl rfl) ⟨boolv (by have := okBad hlt (by simp [okByte]; omega); simp [pName, this]), rfl⟩
      · exact TR_of (res1 rfl rfl) ⟨boolv (by have := okBad hlt (by simp [okByte]; omega); simp [pName, this]), rfl⟩
      · exact TN_round (k + 1) (subEnv_cons rfl (subEnv_cons rfl (subEnv_nil _))) ⟨hlt, by rw [ht, hall]; simp [okByte]; omega, rfl⟩ (by omega)
    · obtain rfl : k = s.length := by omega
      repeat' (first | apply Jbq | apply Jbr | apply Jbs | apply Jbt | apply Jbu | apply Jca | apply Jcb | apply Jcc | (apply Jcg; (first | exact Jaa rfl | exact Jab rfl | exact Jad rfl rfl | exact Jaq Us.h rfl); exact rfl) | (refine Jcx rfl (fun hb => ?_) (fun hb => ?_) <;> (try (exfalso; omega))))
      exact TR_of (res1 rfl rfl) ⟨boolv (by rw [List.take_length] at hall; simp [pName, hall, h]), rfl⟩
  · have hp : pName s = false := by simp [pName]; omega
    repeat' (first | apply Jbq | apply Jbr | apply Jbs | apply Jbt | apply Jbu | apply Jbv | (refine Jce rfl ?_) | (apply Jcg; (first | exact Jaa rfl | exact Jab rfl | exact Jad rfl rfl | exact Jah rfl rfl | exact Jai rfl rfl | exact Jam rfl rfl | exact Jaq Us.h rfl); exact rfl) | refine Jch rfl rfl rfl ?_ | refine Jci rfl rfl rfl rfl rfl ?_ | (refine Jcs rfl rfl (fun hb => ?_) (fun hb => ?_) <;> (try (exfalso; omega))) | (refine Jcx rfl (fun hb => ?_) (fun hb => ?_) <;> (try (exfalso; omega))))
    all_goals exact TR_of (res1 rfl rfl) ⟨by rw [hp], rfl⟩
theorem implNameOk_c (s : List UInt8) (w : World) (hl : s.length ≤ 9223372036854775807) : Ret Tryz.prog 139 #[S s] w fun v w' => v = .bool (pName s) ∧ w = w' := by
  refine Ret_enter Tryz.func139 rfl rfl rfl ?_
  repeat' (first | apply Jbq | apply Jbr | apply Jbs | apply Jbt | (apply Jcg; (first | exact Jaa rfl | exact Jab rfl | exact Jaj rfl | exact Jaq Us.h rfl); exact rfl) | (refine TL_call rfl en101 (in_c _ _ _ _) rfl rfl ?_; rintro _ _ ⟨rfl, rfl⟩))
  by_cases h : 1 ≤ s.length ∧ s.length ≤ 12
  · rw [show inB (s.length : Int) 1 12 = true from by simp [inB]; omega]
    repeat' (first | apply Jbq | apply Jbr | apply Jbs | apply Jbt | apply Jby | apply Jbz | (refine Jcf rfl ?_) | (apply Jcg; exact Jab rfl; exact rfl))
    refine TC_loop (ι := Nat) (fun k => [(0, S s), (3, I k)]) (fun k w' => k ≤ s.length ∧ (s.take k).all okByte = true ∧ w = w') (fun k => s.length - k) 0 (subEnv_cons rfl (subEnv_cons rfl (subEnv_nil _))) ⟨Nat.zero_le _, by simp, rfl⟩ ?_
    rintro k _ ⟨hk, hall, rfl⟩
    by_cases hlt : k < s.length
    · have ht := okTake hlt
      repeat' (first | apply Jbq | apply Jbr | apply Jbs | apply Jbt | (apply Jcg; (first | exact Jaa rfl | exact Jad rfl rfl | exact Jaq Us.h rfl); exact rfl))
      refine Jce (by rw [show decide ((k : Int) < (s.length : Int)) = true from by simpa using hlt]; rfl) ?_
      have hcb : (0 : Int) ≤ ((at8 s k).toNat : Int) ∧ ((at8 s k).toNat : Int) ≤ 255 := by have := (at8 s k).toNat_lt; omega
      repeat' (first | apply Jbq | apply Jbr | apply Jbs | apply Jbt | apply Jby | apply Jbz | (apply Jcg; (first | exact Jaa rfl | exact Jaj rfl | exact Jax Us.h Us.h rfl (by omega) | exact Jbb Us.h rfl rfl (by omega)); exact rfl) | (refine TL_call rfl en171 (isLower_c _ _) rfl rfl ?_; rintro _ _ ⟨rfl, rfl⟩))
      cases hb : inB ((at8 s k).toNat : Int) 97 122
      · repeat' (first | apply Jbq | apply Jbr | apply Jbs | apply Jbt | apply Jbu | apply Jbv | apply Jbw | (refine Jce rfl ?_) | (apply Jcg; exact Jab rfl; exact rfl))
        exact TR_of (res1 rfl rfl) ⟨boolv (by have := okBad hlt (by simpa [okByte, inB] using hb); simp [pName, this]), rfl⟩
      · repeat' (first | apply Jbq | apply Jbr | apply Jbt | apply Jbx | apply Jbz | (refine Jcf rfl ?_) | (apply Jcg; (first | exact Jaa rfl | exact Jab rfl | exact Jaf rfl rfl (by omega)); exact rfl))
        exact TN_round (k + 1) (subEnv_cons rfl (subEnv_cons rfl (subEnv_nil _))) ⟨hlt, by rw [ht, hall]; simpa [okByte, inB] using hb, rfl⟩ (by omega)
    · obtain rfl : k = s.length := by omega
      repeat' (first | apply Jbq | apply Jbr | apply Jbs | apply Jbt | (apply Jcg; (first | exact Jaa rfl | exact Jad rfl rfl | exact Jaq Us.h rfl); exact rfl))
      refine Jcf (by rw [show decide ((s.length : Int) < (s.length : Int)) = false from by simp]; rfl) ?_
      repeat' (first | apply Jbq | apply Jbr | apply Jbs | apply Jbt | apply Jbu | apply Jca | apply Jcb | apply Jcc | (apply Jcg; exact Jab rfl; exact rfl))
      exact TR_of (res1 rfl rfl) ⟨boolv (by rw [List.take_length] at hall; simp [pName, hall, h]), rfl⟩
  · have hp : pName s = false := by simp [pName]; omega
    rw [show inB (s.length : Int) 1 12 = false from by simp [inB]; omega]
    repeat' (first | apply Jbq | apply Jbr | apply Jbs | apply Jbt | apply Jbu | apply Jbv | (refine Jce rfl ?_) | (apply Jcg; exact Jab rfl; exact rfl))
    exact TR_of (res1 rfl rfl) ⟨by rw [hp], rfl⟩
theorem specEntryOk_c (num : Int) (s : List UInt8) (w : World) : Ret Tryz.prog 165 #[.agg #[I num, S s]] w fun v w' => v = .bool (pEntry num s) ∧ Ext w w' := by
  refine Ret_enter Tryz.func165 rfl rfl rfl ?_
  repeat' (first | apply Jbs | apply Jbt)
  refine TL_box (cs := [I num, S s]) rfl rfl ?_
  intro w1 g e1 hg hz hbk
  clear hg hz
  repeat' (first | apply Jbq | apply Jbr | apply Jbs | apply Jbt | apply Jbu | (apply Jcg; (first | exact Jaa rfl | exact Jab rfl | exact Jah rfl rfl | exact Jai rfl rfl | exact Jan rfl rfl | exact Jao rfl rfl | exact Jaq Us.h rfl | (apply Jbl; exact Us.h; exact rfl; exact Sz.h; exact rfl)); exact rfl) | refine Jch rfl rfl rfl ?_ | refine Jci rfl rfl rfl rfl rfl ?_ | refine Jcg (Pu_load Fl.h rfl (fun _ e => by rw [e]; exact hbk.ld rfl)) rfl ?_ | (refine Jcs rfl rfl (fun hb => ?_) (fun hb => ?_) <;> (try (exfalso; omega))))
  all_goals (refine TR_of (res1 rfl rfl) ⟨boolv ?_, e1⟩; clear hbk e1; simp [pEntry]; try omega)
theorem implEntryOk_c (num : Int) (s : List UInt8) (w : World) : Ret Tryz.prog 155 #[.agg #[I num, S s]] w fun v w' => v = .bool (pEntry num s) ∧ Ext w w' := by
  refine Ret_enter Tryz.func155 rfl rfl rfl ?_
  repeat' (first | apply Jbs | apply Jbt)
  refine TL_box (cs := [I num, S s]) rfl rfl ?_
  intro w1 g e1 hg hz hbk
  clear hg hz
  repeat' (first | apply Jbq | apply Jbr | apply Jbs | apply Jbt | apply Jbu | (apply Jcg; (first | exact Jaa rfl | exact Jab rfl | exact Jah rfl rfl | exact Jai rfl rfl | exact Jaq Us.h rfl | (apply Jbl; exact Us.h; exact rfl; exact Sz.h; exact rfl)); exact rfl) | refine Jch rfl rfl rfl ?_ | refine Jci rfl rfl rfl rfl rfl ?_ | refine Jcg (Pu_load Fl.h rfl (fun _ e => by rw [e]; exact hbk.ld rfl)) rfl ?_ | (refine TL_call rfl en101 (in_c _ _ _ _) rfl rfl ?_; rintro _ _ ⟨rfl, rfl⟩) | (refine Jcs rfl rfl (fun hb => ?_) (fun hb => ?_) <;> (try (exfalso; omega))))
  all_goals (refine TR_of (res1 rfl rfl) ⟨boolv ?_, e1⟩; clear hbk e1; simp_all [pEntry, inB])
  all_goals omega
end Go.Proofs.YtggaghghclomkaaGreat

/- Nodes, links and turns of a disk that can be read, and the laws' helpers on them. -/
namespace Go.Proofs.YtggaghghclomkaaGreat
open Go.RowKit
attribute [local irreducible] TL TC TN TX TR TQ TA Pu Ret

theorem setL_app : ∀ (us ys zs : List Value) (o : Nat), ys.length = o → us.length ≤ zs.length → setL (ys ++ zs) o us = ys ++ us ++ zs.drop us.length
  | [], ys, zs, o, _, _ => by simp [setL]
  | v :: r, ys, [], o, _, h => by simp at h
  | v :: r, ys, z :: zs, o, ho, h => by
    subst ho
    rw [setL, List.set_append_right _ _ (Nat.le_refl _), Nat.sub_self, List.set_cons_zero, show ys ++ v :: zs = (ys ++ [v]) ++ zs by simp, setL_app r (ys ++ [v]) zs _ (by simp) (by simpa using h)]
    simp
/-- A node's value: its contents and the slices that bear them. -/
structure Nd where
  id : Int
  body : List UInt8
  safe : List UInt8
  vb : Value
  vs : Value
abbrev NodeP := Int × List UInt8 × List UInt8
def NdC (d : Nd) : List Value := [I d.id, d.vb, d.vs]
def NdP (d : Nd) : NodeP := (d.id, d.body, d.safe)
def NdOk (w : World) (lo hi : Nat) (d : Nd) : Prop := RB w lo hi d.vb d.body ∧ RB w lo hi d.vs d.safe
def NdW (p : NodeP) : Int := p.2.1.length + p.2.2.length
def NdFit (p : NodeP) : Prop := p.2.1.length ≤ 9223372036854775807 ∧ p.2.2.length ≤ 9223372036854775807
structure LkD where
  name : List UInt8
  id : Int
abbrev LinkP := LkD
def LkC (d : LkD) : List Value := [S d.name, I d.id]
def LkP (d : LkD) : LinkP := d
def LkOk (_w : World) (_lo _hi : Nat) (_d : LkD) : Prop := True
def LkW (p : LinkP) : Int := p.name.length
def LkFit (p : LinkP) : Prop := p.name.length ≤ 9223372036854775807 ∧ (-9223372036854775808 ≤ p.id ∧ p.id ≤ 9223372036854775807)
structure TnD where
  kind : Int
  name : List UInt8
  to : List UInt8
  id : Int
abbrev TurnP := TnD
def TnC (d : TnD) : List Value := [I d.kind, S d.name, S d.to, I d.id]
def TnP (d : TnD) : TurnP := d
def TnOk (_w : World) (_lo _hi : Nat) (_d : TnD) : Prop := True
def TnW (p : TurnP) : Int := p.name.length + p.to.length
def TnFit (p : TurnP) : Prop := p.name.length ≤ 9223372036854775807 ∧ p.to.length ≤ 9223372036854775807 ∧ (-9223372036854775808 ≤ p.id ∧ p.id ≤ 9223372036854775807)
theorem NdOk.ch {w w' : World} {lo hi : Nat} {d : Nd} {T : Nat → Prop} (h : NdOk w lo hi d) (c : Ch T w w') (hd : ∀ k, lo ≤ k → k < hi → ¬ T k) : NdOk w' lo hi d := ⟨h.1.ch c hd, h.2.ch c hd⟩
theorem LkOk.ch {w w' : World} {lo hi : Nat} {d : LkD} {T : Nat → Prop} (_h : LkOk w lo hi d) (_c : Ch T w w') (_hd : ∀ k, lo ≤ k → k < hi → ¬ T k) : LkOk w' lo hi d := trivial
theorem TnOk.ch {w w' : World} {lo hi : Nat} {d : TnD} {T : Nat → Prop} (_h : TnOk w lo hi d) (_c : Ch T w w') (_hd : ∀ k, lo ≤ k → k < hi → ¬ T k) : TnOk w' lo hi d := trivial
theorem RB.wide {w : World} {lo hi lo' hi' : Nat} {v : Value} {s : List UInt8} (h : RB w lo hi v s) (h1 : lo' ≤ lo) (h2 : hi ≤ hi') (h3 : hi' ≤ w.heap.size) : RB w lo' hi' v s := by
  obtain ⟨A, c, e, hc, hr⟩ := h
  exact ⟨A, c, e, hc, hr.wide h1 h2 h3⟩
theorem NdOk.wide {w : World} {lo hi lo' hi' : Nat} {d : Nd} (h : NdOk w lo hi d) (h1 : lo' ≤ lo) (h2 : hi ≤ hi') (h3 : hi' ≤ w.heap.size) : NdOk w lo' hi' d := ⟨h.1.wide h1 h2 h3, h.2.wide h1 h2 h3⟩
theorem LkOk.wide {w : World} {lo hi lo' hi' : Nat} {d : LkD} (_h : LkOk w lo hi d) (_h1 : lo' ≤ lo) (_h2 : hi ≤ hi') (_h3 : hi' ≤ w.heap.size) : LkOk w lo' hi' d := trivial
theorem TnOk.wide {w : World} {lo hi lo' hi' : Nat} {d : TnD} (_h : TnOk w lo hi d) (_h1 : lo' ≤ lo) (_h2 : hi ≤ hi') (_h3 : hi' ≤ w.heap.size) : TnOk w lo' hi' d := trivial
theorem RB.one {w : World} {lo hi : Nat} {v : Value} {s : List UInt8} (h : RB w lo hi v s) : v.oneCell' = true := by obtain ⟨A, c, rfl, _⟩ := h; rfl
theorem NdOk.one {w : World} {lo hi : Nat} {d : Nd} (h : NdOk w lo hi d) : (NdC d).all (·.oneCell') = true := by
  simp only [NdC, List.all_cons, List.all_nil, h.1.one, h.2.one]; rfl
theorem LkOk.one {w : World} {lo hi : Nat} {d : LkD} (_h : LkOk w lo hi d) : (LkC d).all (·.oneCell') = true := rfl
theorem TnOk.one {w : World} {lo hi : Nat} {d : TnD} (_h : TnOk w lo hi d) : (TnC d).all (·.oneCell') = true := rfl
theorem szByteS_n {w : World} {lo hi : Nat} {v : Value} {s : List UInt8} {left : Int} (h : RB w lo hi v s) (h0 : -1 ≤ left) (h1 : left ≤ 1048576) (hl : s.length ≤ 9223372036854775807) :
    Ret Tryz.prog 81 #[v, I left] w fun v w' => (v = I (-1) ∨ (v = I (left - s.length) ∧ s.length ≤ left)) ∧ w = w' := by
  obtain ⟨A, c, rfl, _, hr⟩ := h
  refine Ret_enter Tryz.func81 rfl rfl rfl ?_
  repeat' (first | apply Jbq | apply Jbr | apply Jbs | apply Jbt | apply Jbu | apply Jbv | apply Jbz | (apply Jcg; (first | exact Jaa rfl | exact Jab rfl | exact Jac Us.h rfl | exact Jad rfl rfl | exact Jap rfl rfl (by omega)); exact rfl) | (refine Jcx rfl (fun hb => ?_) (fun hb => ?_) <;> (try (exfalso; omega))))
  · exact TR_of (res1 rfl rfl) ⟨.inl rfl, rfl⟩
  · exact TR_of (res1 rfl rfl) ⟨.inr ⟨rfl, by omega⟩, rfl⟩
theorem szNode_c {w : World} {lo hi : Nat} {d : Nd} {left : Int} (h : NdOk w lo hi d) (hf : NdFit (NdP d)) (h0 : 0 ≤ left) (h1 : left ≤ 1048576) :
    Ret Tryz.prog 128 #[.agg (NdC d).toArray, I left] w fun v w' => (v = I (-1) ∨ (v = I (left - NdW (NdP d)) ∧ NdW (NdP d) ≤ left)) ∧ Ext w w' := by
  refine Ret_enter Tryz.func128 rfl rfl rfl ?_
  repeat' (first | apply Jbs | apply Jbt)
  refine TL_box (cs := NdC d) rfl rfl ?_
  intro w1 g e1 hg hz hbk
  clear hg hz
  repeat' (first | apply Jbq | apply Jbr | apply Jbs | apply Jbt | (apply Jcg; (first | exact Jaa rfl | exact Jab rfl | (apply Jbl; exact Us.h; exact rfl; exact Sz.h; exact rfl)); exact rfl) | refine Jcg (Pu_load Fl.h rfl (fun _ e => by rw [e]; exact hbk.ld rfl)) rfl ?_)
  refine TL_call rfl en81 (szByteS_n (h.1.ext e1) (by omega) h1 hf.1) rfl rfl ?_
  rintro _ _ ⟨h2, rfl⟩
  rcases h2 with rfl | ⟨rfl, hle⟩
  · repeat' (first | apply Jbq | apply Jbr | apply Jbs | apply Jbt | apply Jbu | apply Jbv | (refine Jce rfl ?_) | (apply Jcg; (first | exact Jaa rfl | exact Jab rfl | exact Jad rfl rfl); exact rfl))
    exact TR_of (res1 rfl rfl) ⟨.inl rfl, e1⟩
  · repeat' (first | apply Jbq | apply Jbr | apply Jbs | apply Jbt | apply Jbz | (apply Jcg; (first | exact Jaa rfl | exact Jab rfl | exact Jad rfl rfl | (apply Jbl; exact Us.h; exact rfl; exact Sz.h; exact rfl)); exact rfl) | refine Jcg (Pu_load Fl.h rfl (fun _ e => by rw [e]; exact hbk.ld rfl)) rfl ?_ | (refine Jcx rfl (fun hb => ?_) (fun hb => ?_) <;> (try (exfalso; omega))))
    refine TL_call rfl en81 (szByteS_n (h.2.ext e1) (by omega) (by omega) hf.2) rfl rfl ?_
    rintro _ _ ⟨h2, rfl⟩
    rcases h2 with rfl | ⟨rfl, hle2⟩
    · repeat' (first | apply Jbq | apply Jbr | apply Jbs | apply Jbt | apply Jbu | apply Jbv | (refine Jce rfl ?_) | (apply Jcg; (first | exact Jaa rfl | exact Jab rfl | exact Jad rfl rfl); exact rfl))
      exact TR_of (res1 rfl rfl) ⟨.inl rfl, e1⟩
    · repeat' (first | apply Jbq | apply Jbr | apply Jbs | apply Jbt | apply Jbu | apply Jbz | (apply Jcg; (first | exact Jaa rfl | exact Jab rfl | exact Jad rfl rfl); exact rfl) | (refine Jcx rfl (fun hb => ?_) (fun hb => ?_) <;> (try (exfalso; omega))))
      exact TR_of (res1 rfl rfl) ⟨.inr ⟨congrArg I (by simp only [NdW, NdP]; omega), by simp only [NdW, NdP]; omega⟩, e1⟩
theorem szLink_c {w : World} {lo hi : Nat} {d : LkD} {left : Int} (_h : LkOk w lo hi d) (hf : LkFit (LkP d)) (h0 : 0 ≤ left) (h1 : left ≤ 1048576) :
    Ret Tryz.prog 129 #[.agg (LkC d).toArray, I left] w fun v w' => (v = I (-1) ∨ (v = I (left - LkW (LkP d)) ∧ LkW (LkP d) ≤ left)) ∧ Ext w w' := by
  have hf : d.name.length ≤ 9223372036854775807 := hf.1
  refine Ret_enter Tryz.func129 rfl rfl rfl ?_
  repeat' (first | apply Jbs | apply Jbt)
  refine TL_box (cs := LkC d) rfl rfl ?_
  intro w1 g e1 hg hz hbk
  clear hg hz
  repeat' (first | apply Jbq | apply Jbr | apply Jbs | apply Jbt | apply Jbu | apply Jbv | apply Jbz | (apply Jcg; (first | exact Jaa rfl | exact Jab rfl | exact Jad rfl rfl | exact Jap rfl rfl (by omega) | exact Jaq Us.h rfl | (apply Jbl; exact Us.h; exact rfl; exact Sz.h; exact rfl)); exact rfl) | refine Jcg (Pu_load Fl.h rfl (fun _ e => by rw [e]; exact hbk.ld rfl)) rfl ?_ | (refine Jcx rfl (fun hb => ?_) (fun hb => ?_) <;> (try (exfalso; omega))))
  · exact TR_of (res1 rfl rfl) ⟨.inl rfl, e1⟩
  · exact TR_of (res1 rfl rfl) ⟨.inr ⟨rfl, by simp only [LkW, LkP]; omega⟩, e1⟩
theorem szTurn_c {w : World} {lo hi : Nat} {d : TnD} {left : Int} (_h : TnOk w lo hi d) (hf : TnFit (TnP d)) (h0 : 0 ≤ left) (h1 : left ≤ 1048576) :
    Ret Tryz.prog 130 #[.agg (TnC d).toArray, I left] w fun v w' => (v = I (-1) ∨ (v = I (left - TnW (TnP d)) ∧ TnW (TnP d) ≤ left)) ∧ Ext w w' := by
  have hf1 : d.name.length ≤ 9223372036854775807 := hf.1
  have hf2 : d.to.length ≤ 9223372036854775807 := hf.2.1
  refine Ret_enter Tryz.func130 rfl rfl rfl ?_
  repeat' (first | apply Jbs | apply Jbt)
  refine TL_box (cs := TnC d) rfl rfl ?_
  intro w1 g e1 hg hz hbk
  clear hg hz
  repeat' (first | apply Jbq | apply Jbr | apply Jbs | apply Jbt | apply Jbu | apply Jbv | apply Jbz | (apply Jcg; (first | exact Jaa rfl | exact Jab rfl | exact Jad rfl rfl | exact Jap rfl rfl (by omega) | exact Jaq Us.h rfl | (apply Jbl; exact Us.h; exact rfl; exact Sz.h; exact rfl)); exact rfl) | refine Jcg (Pu_load Fl.h rfl (fun _ e => by rw [e]; exact hbk.ld rfl)) rfl ?_ | (refine Jcx rfl (fun hb => ?_) (fun hb => ?_) <;> (try (exfalso; omega))))
  · exact TR_of (res1 rfl rfl) ⟨.inl rfl, e1⟩
  · exact TR_of (res1 rfl rfl) ⟨.inl rfl, e1⟩
  · exact TR_of (res1 rfl rfl) ⟨.inr ⟨congrArg I (by simp only [TnW, TnP]; omega), by simp only [TnW, TnP]; omega⟩, e1⟩
set_option maxHeartbeats 1000000 in
theorem toLink_c {w : World} {lo hi : Nat} {d : LkD} (_h : LkOk w lo hi d) (_hl : LkW (LkP d) ≤ 1048576) :
    Ret Tryz.prog 137 #[.agg (LkC d).toArray] w fun v' w' => ∃ d', v' = .agg (LkC d').toArray ∧ LkP d' = LkP d ∧ Ext w w' ∧ LkOk w' w.heap.size w'.heap.size d' := by
  refine Ret_enter Tryz.func137 rfl rfl rfl ?_
  repeat' (first | apply Jbs | apply Jbt)
  refine TL_box (cs := LkC d) rfl rfl ?_
  intro w1 g1 e1 hg1 hz1 hb1
  skip
  refine TL_alloc Zs.h rfl rfl ?_
  intro w2 g2 e2 hg2 hz2 hb2
  replace hb1 := hb1.ext e2
  repeat' (first | apply Jbq | apply Jbr | apply Jbs | apply Jbt)
  refine TL_alloc Zs.h rfl rfl ?_
  intro w3 g3 e3 hg3 hz3 hb3
  replace hb1 := hb1.ext e3
  replace hb2 := hb2.ext e3
  have E : Ext w w3 := (e1.ext e2).ext e3
  have hgw : w.heap.size ≤ g1 ∧ g1 < g2 ∧ g2 < g3 := by omega
  clear hg1 hg2 hg3 e1 e2 e3 hz1 hz2 hz3
  repeat' (first | apply Jbq | apply Jbr | apply Jbs | apply Jbt | (apply Jcg; (apply Jbl; exact Us.h; exact rfl; exact Sz.h; exact rfl); exact rfl) | refine Jcg (Pu_load Fl.h rfl (fun _ e => by rw [e]; exact hb1.ld rfl)) rfl ?_)
  refine TL_store rfl rfl Sz.h rfl hb3 rfl ?_
  clear hb3
  intro w4 c4 hz4 hb3
  replace hb1 := hb1.ch c4 (by simp only [Iv]; omega)
  replace hb2 := hb2.ch c4 (by simp only [Iv]; omega)
  replace E : Ext w w4 := Ext.then_iv E c4 (by omega)
  repeat' (first | apply Jbq | apply Jbr | apply Jbs | apply Jbt | (apply Jcg; (apply Jbl; exact Us.h; exact rfl; exact Sz.h; exact rfl); exact rfl) | refine Jcg (Pu_load Fl.h rfl (fun _ e => by rw [e]; exact hb1.ld rfl)) rfl ?_)
  refine TL_store rfl rfl Sz.h rfl hb3 rfl ?_
  clear hb3
  intro w5 c5 hz5 hb3
  replace hb1 := hb1.ch c5 (by simp only [Iv]; omega)
  replace hb2 := hb2.ch c5 (by simp only [Iv]; omega)
  replace E : Ext w w5 := Ext.then_iv E c5 (by omega)
  repeat' (first | apply Jbq | apply Jbr | apply Jbs | apply Jbt)
  refine Jcg (Pu_loadAgg (cs := LkC d) Us.h rfl Sz.h rfl (fun _ e j u hu => by rw [e, add0, hb3.cell]; exact hu)) rfl ?_
  skip
  refine TL_storeAgg rfl rfl Sz.h rfl hb2 rfl ?_
  clear hb2
  intro w6 c6 hz6 hb2
  repeat' (first | apply Jbq | apply Jbr | apply Jbu)
  exact TR_of (resA rfl rfl hb2 Us.h rfl Sz.h) ⟨d, rfl, rfl, Ext.then_iv E c6 (by omega), trivial⟩
set_option maxHeartbeats 1000000 in
theorem toTurn_c {w : World} {lo hi : Nat} {d : TnD} (_h : TnOk w lo hi d) (_hl : TnW (TnP d) ≤ 1048576) :
    Ret Tryz.prog 138 #[.agg (TnC d).toArray] w fun v' w' => ∃ d', v' = .agg (TnC d').toArray ∧ TnP d' = TnP d ∧ Ext w w' ∧ TnOk w' w.heap.size w'.heap.size d' := by
  refine Ret_enter Tryz.func138 rfl rfl rfl ?_
  repeat' (first | apply Jbs | apply Jbt)
  refine TL_box (cs := TnC d) rfl rfl ?_
  intro w1 g1 e1 hg1 hz1 hb1
  skip
  refine TL_alloc Zs.h rfl rfl ?_
  intro w2 g2 e2 hg2 hz2 hb2
  replace hb1 := hb1.ext e2
  repeat' (first | apply Jbq | apply Jbr | apply Jbs | apply Jbt)
  refine TL_alloc Zs.h rfl rfl ?_
  intro w3 g3 e3 hg3 hz3 hb3
  replace hb1 := hb1.ext e3
  replace hb2 := hb2.ext e3
  have E : Ext w w3 := (e1.ext e2).ext e3
  have hgw : w.heap.size ≤ g1 ∧ g1 < g2 ∧ g2 < g3 := by omega
  clear hg1 hg2 hg3 e1 e2 e3 hz1 hz2 hz3
  repeat' (first | apply Jbq | apply Jbr | apply Jbs | apply Jbt | (apply Jcg; (apply Jbl; exact Us.h; exact rfl; exact Sz.h; exact rfl); exact rfl) | refine Jcg (Pu_load Fl.h rfl (fun _ e => by rw [e]; exact hb1.ld rfl)) rfl ?_)
  refine TL_store rfl rfl Sz.h rfl hb3 rfl ?_
  clear hb3
  intro w4 c4 hz4 hb3
  replace hb1 := hb1.ch c4 (by simp only [Iv]; omega)
  replace hb2 := hb2.ch c4 (by simp only [Iv]; omega)
  replace E : Ext w w4 := Ext.then_iv E c4 (by omega)
  repeat' (first | apply Jbq | apply Jbr | apply Jbs | apply Jbt | (apply Jcg; (apply Jbl; exact Us.h; exact rfl; exact Sz.h; exact rfl); exact rfl) | refine Jcg (Pu_load Fl.h rfl (fun _ e => by rw [e]; exact hb1.ld rfl)) rfl ?_)
  refine TL_store rfl rfl Sz.h rfl hb3 rfl ?_
  clear hb3
  intro w5 c5 hz5 hb3
  replace hb1 := hb1.ch c5 (by simp only [Iv]; omega)
  replace hb2 := hb2.ch c5 (by simp only [Iv]; omega)
  replace E : Ext w w5 := Ext.then_iv E c5 (by omega)
  repeat' (first | apply Jbq | apply Jbr | apply Jbs | apply Jbt | (apply Jcg; (apply Jbl; exact Us.h; exact rfl; exact Sz.h; exact rfl); exact rfl) | refine Jcg (Pu_load Fl.h rfl (fun _ e => by rw [e]; exact hb1.ld rfl)) rfl ?_)
  refine TL_store rfl rfl Sz.h rfl hb3 rfl ?_
  clear hb3
  intro w6 c6 hz6 hb3
  replace hb1 := hb1.ch c6 (by simp only [Iv]; omega)
  replace hb2 := hb2.ch c6 (by simp only [Iv]; omega)
  replace E : Ext w w6 := Ext.then_iv E c6 (by omega)
  repeat' (first | apply Jbq | apply Jbr | apply Jbs | apply Jbt | (apply Jcg; (apply Jbl; exact Us.h; exact rfl; exact Sz.h; exact rfl); exact rfl) | refine Jcg (Pu_load Fl.h rfl (fun _ e => by rw [e]; exact hb1.ld rfl)) rfl ?_)
  refine TL_store rfl rfl Sz.h rfl hb3 rfl ?_
  clear hb3
  intro w7 c7 hz7 hb3
  replace hb1 := hb1.ch c7 (by simp only [Iv]; omega)
  replace hb2 := hb2.ch c7 (by simp only [Iv]; omega)
  replace E : Ext w w7 := Ext.then_iv E c7 (by omega)
  repeat' (first | apply Jbq | apply Jbr | apply Jbs | apply Jbt)
  refine Jcg (Pu_loadAgg (cs := TnC d) Us.h rfl Sz.h rfl (fun _ e j u hu => by rw [e, add0, hb3.cell]; exact hu)) rfl ?_
  skip
  refine TL_storeAgg rfl rfl Sz.h rfl hb2 rfl ?_
  clear hb2
  intro w8 c8 hz8 hb2
  repeat' (first | apply Jbq | apply Jbr | apply Jbu)
  exact TR_of (resA rfl rfl hb2 Us.h rfl Sz.h) ⟨d, rfl, rfl, Ext.then_iv E c8 (by omega), trivial⟩
set_option maxHeartbeats 1000000 in
theorem toNode_c {w : World} {lo hi : Nat} {d : Nd} (h : NdOk w lo hi d) (hl : NdW (NdP d) ≤ 1048576) :
    Ret Tryz.prog 136 #[.agg (NdC d).toArray] w fun v' w' => ∃ d', v' = .agg (NdC d').toArray ∧ NdP d' = NdP d ∧ Ext w w' ∧ NdOk w' w.heap.size w'.heap.size d' := by
  obtain ⟨id, body, safe, vb, vs⟩ := d
  simp only [NdW, NdP] at hl
  refine Ret_enter Tryz.func136 rfl rfl rfl ?_
  repeat' (first | apply Jbs | apply Jbt)
  refine TL_box (cs := NdC ⟨id, body, safe, vb, vs⟩) rfl rfl ?_
  intro w1 g1 e1 hg1 hz1 hb1
  skip
  refine TL_alloc Zs.h rfl rfl ?_
  intro w2 g2 e2 hg2 hz2 hb2
  replace hb1 := hb1.ext e2
  repeat' (first | apply Jbq | apply Jbr | apply Jbs | apply Jbt)
  refine TL_alloc Zs.h rfl rfl ?_
  intro w3 g3 e3 hg3 hz3 hb3
  replace hb1 := hb1.ext e3
  replace hb2 := hb2.ext e3
  have E : Ext w w3 := (e1.ext e2).ext e3
  have hgw : w.heap.size ≤ g1 ∧ g1 < g2 ∧ g2 < g3 := by omega
  clear hg1 hg2 hg3 e1 e2 e3 hz1 hz2 hz3
  repeat' (first | apply Jbq | apply Jbr | apply Jbs | apply Jbt | (apply Jcg; (apply Jbl; exact Us.h; exact rfl; exact Sz.h; exact rfl); exact rfl) | refine Jcg (Pu_load Fl.h rfl (fun _ e => by rw [e]; exact hb1.ld rfl)) rfl ?_)
  refine TL_store rfl rfl Sz.h rfl hb3 rfl ?_
  clear hb3
  intro w4 c4 hz4 hb3
  replace hb1 := hb1.ch c4 (by simp only [Iv]; omega)
  replace hb2 := hb2.ch c4 (by simp only [Iv]; omega)
  replace E : Ext w w4 := Ext.then_iv E c4 (by omega)
  have hlt := hb3.lt
  repeat' (first | apply Jbq | apply Jbr | apply Jbs | apply Jbt | (apply Jcg; (apply Jbl; exact Us.h; exact rfl; exact Sz.h; exact rfl); exact rfl) | refine Jcg (Pu_load Fl.h rfl (fun _ e => by rw [e]; exact hb1.ld rfl)) rfl ?_)
  refine TL_call rfl en91 (toB_k (h.1.ext E) (by simp only; omega)) rfl rfl ?_
  intro vb2 w5 ⟨e5, ho5⟩
  replace hb1 := hb1.ext e5
  replace hb2 := hb2.ext e5
  replace hb3 := hb3.ext e5
  have hs4 := E.size
  have hs5 := e5.size
  replace E := E.ext e5
  have hone5 := ho5.rd.one
  repeat' ((apply Jcg; (apply Jbl; exact Us.h; exact rfl; exact Sz.h; exact rfl); exact rfl))
  refine TL_store rfl rfl Sz.h hone5 hb3 rfl ?_
  clear hb3
  intro w6 c6 hz6 hb3
  replace hb1 := hb1.ch c6 (by simp only [Iv]; omega)
  replace hb2 := hb2.ch c6 (by simp only [Iv]; omega)
  replace ho5 := ho5.ch c6 (by intro k _ _; simp only [Iv]; omega)
  replace E : Ext w w6 := Ext.then_iv E c6 (by omega)
  repeat' (first | apply Jbq | apply Jbr | apply Jbs | apply Jbt | (apply Jcg; (apply Jbl; exact Us.h; exact rfl; exact Sz.h; exact rfl); exact rfl) | refine Jcg (Pu_load Fl.h rfl (fun _ e => by rw [e]; exact hb1.ld rfl)) rfl ?_)
  refine TL_call rfl en91 (toB_k (h.2.ext E) (by simp only; omega)) rfl rfl ?_
  intro vs2 w7 ⟨e7, ho7⟩
  replace hb2 := hb2.ext e7
  replace hb3 := hb3.ext e7
  replace ho5 := ho5.ext e7
  have hs7 := e7.size
  replace E := E.ext e7
  have hone7 := ho7.rd.one
  repeat' ((apply Jcg; (apply Jbl; exact Us.h; exact rfl; exact Sz.h; exact rfl); exact rfl))
  refine TL_store rfl rfl Sz.h hone7 hb3 rfl ?_
  clear hb3
  intro w8 c8 hz8 hb3
  replace hb2 := hb2.ch c8 (by simp only [Iv]; omega)
  replace ho5 := ho5.ch c8 (by intro k _ _; simp only [Iv]; omega)
  replace ho7 := ho7.ch c8 (by intro k _ _; simp only [Iv]; omega)
  replace E : Ext w w8 := Ext.then_iv E c8 (by omega)
  repeat' (first | apply Jbq | apply Jbr | apply Jbs | apply Jbt)
  refine Jcg (Pu_loadAgg (cs := NdC ⟨id, body, safe, vb2, vs2⟩) Us.h rfl Sz.h rfl (fun _ e j u hu => by rw [e, add0, hb3.cell]; exact hu)) rfl ?_
  skip
  refine TL_storeAgg rfl rfl Sz.h (by show ((NdC ⟨id, body, safe, vb2, vs2⟩).all (·.oneCell')) = true; simp only [NdC, List.all_cons, List.all_nil, hone5, hone7]; rfl) hb2 rfl ?_
  clear hb2
  intro w9 c9 hz9 hb2
  replace ho5 := ho5.ch c9 (by intro k _ _; simp only [Iv]; omega)
  replace ho7 := ho7.ch c9 (by intro k _ _; simp only [Iv]; omega)
  repeat' (first | apply Jbq | apply Jbr | apply Jbu)
  exact TR_of (resA rfl rfl hb2 Us.h rfl Sz.h) ⟨⟨id, body, safe, vb2, vs2⟩, rfl, rfl, Ext.then_iv E c9 (by omega), ho5.rd.wide (by omega) (by omega) (Nat.le_refl _), ho7.rd.wide (by omega) (by omega) (Nat.le_refl _)⟩
theorem eqNode_c {w : World} {lo hi lo2 hi2 : Nat} {d d2 : Nd} (h : NdOk w lo hi d) (h2 : NdOk w lo2 hi2 d2) (hp : NdP d = NdP d2) (hl : NdW (NdP d) ≤ 1048576) :
    Ret Tryz.prog 147 #[.agg (NdC d).toArray, .agg (NdC d2).toArray] w fun v' w' => v' = .bool true ∧ Ext w w' := by
  obtain ⟨id, body, safe, vb, vs⟩ := d
  obtain ⟨id2, body2, safe2, vb2, vs2⟩ := d2
  simp only [NdP, Prod.mk.injEq] at hp
  obtain ⟨rfl, rfl, rfl⟩ := hp
  simp only [NdW, NdP] at hl
  refine Ret_enter Tryz.func147 rfl rfl rfl ?_
  repeat' (first | apply Jbs | apply Jbt)
  refine TL_box (cs := NdC ⟨id, body, safe, vb, vs⟩) rfl rfl ?_
  intro w1 g1 e1 hg1 hz1 hb1
  skip
  refine TL_box (cs := NdC ⟨id, body, safe, vb2, vs2⟩) rfl rfl ?_
  intro w2 g2 e2 hg2 hz2 hb2
  replace hb1 := hb1.ext e2
  have E := e1.ext e2
  repeat' (first | apply Jbq | apply Jbr | apply Jbs | apply Jbt | apply Jbz | (refine Jcf rfl ?_) | (apply Jcg; (first | exact Jbm rfl rfl | exact Jab rfl | (apply Jbl; exact Us.h; exact rfl; exact Sz.h; exact rfl)); exact rfl) | refine Jcg (Pu_load Fl.h rfl (fun _ e => by rw [e]; exact hb1.ld rfl)) rfl ?_ | refine Jcg (Pu_load Fl.h rfl (fun _ e => by rw [e]; exact hb2.ld rfl)) rfl ?_)
  refine TL_call rfl en96 (eqB_k (h.1.ext E) (h2.1.ext E) (by simp only; omega)) rfl rfl ?_
  rintro _ w3 ⟨rfl, e3⟩
  replace hb1 := hb1.ext e3
  replace hb2 := hb2.ext e3
  replace E := E.ext e3
  repeat' (first | apply Jbq | apply Jbr | apply Jbs | apply Jbt | apply Jbz | (refine Jcf rfl ?_) | (apply Jcg; (first | exact Jaj rfl | (apply Jbl; exact Us.h; exact rfl; exact Sz.h; exact rfl)); exact rfl) | refine Jcg (Pu_load Fl.h rfl (fun _ e => by rw [e]; exact hb1.ld rfl)) rfl ?_ | refine Jcg (Pu_load Fl.h rfl (fun _ e => by rw [e]; exact hb2.ld rfl)) rfl ?_)
  refine TL_call rfl en96 (eqB_k (h.2.ext E) (h2.2.ext E) (by simp only; omega)) rfl rfl ?_
  rintro _ w4 ⟨rfl, e4⟩
  repeat' (first | apply Jbq | apply Jbr | apply Jbs | apply Jbt | apply Jbu | apply Jbz | (refine Jcf rfl ?_) | (apply Jcg; (first | exact Jab rfl | exact Jaj rfl); exact rfl))
  exact TR_of (res1 rfl rfl) ⟨rfl, E.ext e4⟩
theorem eqLink_c {w : World} {lo hi lo2 hi2 : Nat} {d d2 : LkD} (_h : LkOk w lo hi d) (_h2 : LkOk w lo2 hi2 d2) (hp : LkP d = LkP d2) (_hl : LkW (LkP d) ≤ 1048576) :
    Ret Tryz.prog 148 #[.agg (LkC d).toArray, .agg (LkC d2).toArray] w fun v' w' => v' = .bool true ∧ Ext w w' := by
  have hp : d = d2 := hp
  subst hp
  refine Ret_enter Tryz.func148 rfl rfl rfl ?_
  repeat' (first | apply Jbs | apply Jbt)
  refine TL_box (cs := LkC d) rfl rfl ?_
  intro w1 g1 e1 hg1 hz1 hb1
  skip
  refine TL_box (cs := LkC d) rfl rfl ?_
  intro w2 g2 e2 hg2 hz2 hb2
  replace hb1 := hb1.ext e2
  repeat' (first | apply Jbq | apply Jbr | apply Jbs | apply Jbt | apply Jbu | apply Jbz | (refine Jcf rfl ?_) | (apply Jcg; (first | exact Jbm rfl rfl | exact Jbo rfl rfl | exact Jab rfl | (apply Jbl; exact Us.h; exact rfl; exact Sz.h; exact rfl)); exact rfl) | refine Jcg (Pu_load Fl.h rfl (fun _ e => by rw [e]; exact hb1.ld rfl)) rfl ?_ | refine Jcg (Pu_load Fl.h rfl (fun _ e => by rw [e]; exact hb2.ld rfl)) rfl ?_)
  exact TR_of (res1 rfl rfl) ⟨rfl, e1.ext e2⟩
theorem eqTurn_c {w : World} {lo hi lo2 hi2 : Nat} {d d2 : TnD} (_h : TnOk w lo hi d) (_h2 : TnOk w lo2 hi2 d2) (hp : TnP d = TnP d2) (_hl : TnW (TnP d) ≤ 1048576) :
    Ret Tryz.prog 149 #[.agg (TnC d).toArray, .agg (TnC d2).toArray] w fun v' w' => v' = .bool true ∧ Ext w w' := by
  have hp : d = d2 := hp
  subst hp
  refine Ret_enter Tryz.func149 rfl rfl rfl ?_
  repeat' (first | apply Jbs | apply Jbt)
  refine TL_box (cs := TnC d) rfl rfl ?_
  intro w1 g1 e1 hg1 hz1 hb1
  skip
  refine TL_box (cs := TnC d) rfl rfl ?_
  intro w2 g2 e2 hg2 hz2 hb2
  replace hb1 := hb1.ext e2
  repeat' (first | apply Jbq | apply Jbr | apply Jbs | apply Jbt | apply Jbu | apply Jbz | (refine Jcf rfl ?_) | (apply Jcg; (first | exact Jbm rfl rfl | exact Jbo rfl rfl | exact Jab rfl | (apply Jbl; exact Us.h; exact rfl; exact Sz.h; exact rfl)); exact rfl) | refine Jcg (Pu_load Fl.h rfl (fun _ e => by rw [e]; exact hb1.ld rfl)) rfl ?_ | refine Jcg (Pu_load Fl.h rfl (fun _ e => by rw [e]; exact hb2.ld rfl)) rfl ?_)
  exact TR_of (res1 rfl rfl) ⟨rfl, e1.ext e2⟩
end Go.Proofs.YtggaghghclomkaaGreat

/- Lists of nodes, links and turns that can be read, and the laws' helpers on them. -/
namespace Go.Proofs.YtggaghghclomkaaGreat
open Go.RowKit
attribute [local irreducible] TL TC TN TX TR TQ TA Pu Ret

/-! lists of Node -/
theorem NdC_len (d : Nd) : (NdC d).length = 3 := rfl
def totNd (l : List NodeP) : Int := (l.map NdW).sum
theorem NdW_nn (p : NodeP) : 0 ≤ NdW p := by unfold NdW; omega
theorem totNd_take {l : List NodeP} {k : Nat} (h : k < l.length) : totNd (l.take (k + 1)) = totNd (l.take k) + NdW l[k] := by
  unfold totNd
  rw [List.take_succ_eq_append_getElem h, List.map_append, List.sum_append]
  simp
theorem totNd_nn (l : List NodeP) : 0 ≤ totNd l := by
  induction l with
  | nil => simp [totNd]
  | cons a l ih => have := NdW_nn a; simp only [totNd, List.map_cons, List.sum_cons] at *; omega
theorem totNd_mem {l : List NodeP} {p : NodeP} (h : p ∈ l) : NdW p ≤ totNd l := by
  induction l with
  | nil => cases h
  | cons a l ih =>
    have := totNd_nn l
    have := NdW_nn a
    simp only [totNd, List.map_cons, List.sum_cons] at *
    rcases List.mem_cons.1 h with rfl | h
    · omega
    · have := ih h; omega
def RN (w : World) (lo hi : Nat) (v : Value) (l : List NodeP) : Prop := ∃ (ds : List Nd) (A : Option Addr) (c : Nat), ds.map NdP = l ∧ v = .slice A ds.length c ∧ ds.length ≤ c ∧ Rd w lo hi 3 A ds.length (cellsL NdC ds) ∧ ∀ d ∈ ds, NdOk w lo hi d
theorem RN.ch {w w' : World} {lo hi : Nat} {v : Value} {l : List NodeP} {T : Nat → Prop} (h : RN w lo hi v l) (c : Ch T w w') (hd : ∀ k, lo ≤ k → k < hi → ¬ T k) : RN w' lo hi v l := by
  obtain ⟨ds, A, cc, h1, h2, h3, h4, h5⟩ := h
  exact ⟨ds, A, cc, h1, h2, h3, h4.ch c hd, fun d hm => (h5 d hm).ch c hd⟩
theorem RN.ext {w w' : World} {lo hi : Nat} {v : Value} {l : List NodeP} (h : RN w lo hi v l) (c : Ext w w') : RN w' lo hi v l := h.ch c (fun _ _ _ t => t)
theorem RN.one {w : World} {lo hi : Nat} {v : Value} {l : List NodeP} (h : RN w lo hi v l) : v.oneCell' = true := by obtain ⟨_, _, _, _, rfl, _⟩ := h; rfl
theorem RN.wide {w : World} {lo hi lo' hi' : Nat} {v : Value} {l : List NodeP} (h : RN w lo hi v l) (h1 : lo' ≤ lo) (h2 : hi ≤ hi') (h3 : hi' ≤ w.heap.size) : RN w lo' hi' v l := by
  obtain ⟨ds, A, cc, g1, g2, g3, g4, g5⟩ := h
  exact ⟨ds, A, cc, g1, g2, g3, g4.wide h1 h2 h3, fun d hm => (g5 d hm).wide h1 h2 h3⟩
set_option maxHeartbeats 1000000 in
theorem szNodeS_k {w : World} {lo hi : Nat} {v : Value} {l : List NodeP} {left : Int} (h : RN w lo hi v l) (hlen : l.length ≤ 9223372036854775807) (h0 : 0 ≤ left) (h1 : left ≤ 1048576) (hd : ∀ p ∈ l, NdFit p) :
    Ret Tryz.prog 54 #[v, I left] w fun v w' => (v = I (-1) ∨ (v = I (left - l.length - totNd l) ∧ l.length + totNd l ≤ left)) ∧ Ext w w' := by
  obtain ⟨ds, A, c, rfl, rfl, _, hr, hok⟩ := h
  rw [List.length_map] at hlen ⊢
  refine Ret_enter Tryz.func54 rfl rfl rfl ?_
  repeat' (first | apply Jbq | apply Jbr | apply Jbs | apply Jbt | (apply Jcg; (first | exact Jaa rfl | exact Jab rfl | exact Jac Us.h rfl | exact Jad rfl rfl | exact Jap rfl rfl (by omega)); exact rfl))
  refine Jcx rfl (fun hb => ?_) (fun hb => ?_)
  · repeat' (first | apply Jbq | apply Jbr | apply Jbs | apply Jbt | apply Jbu | apply Jbv | (apply Jcg; exact Jab rfl; exact rfl))
    exact TR_of (res1 rfl rfl) ⟨.inl rfl, Ch.refl _ _⟩
  · repeat' (first | apply Jbq | apply Jbr | apply Jbs | apply Jbt | apply Jby | apply Jbz | (apply Jcg; exact Jab rfl; exact rfl))
    refine TC_loop (ι := Nat) (fun k => [(0, .slice A ds.length c), (1, I (left - ds.length - totNd ((ds.map NdP).take k))), (5, I k)]) (fun k w' => k ≤ ds.length ∧ ds.length + totNd ((ds.map NdP).take k) ≤ left ∧ Ext w w') (fun k => ds.length - k) 0
      (subEnv_cons rfl (subEnv_cons (congrArg (fun z => some (I z)) (by simp [totNd])) (subEnv_cons rfl (subEnv_nil _)))) ⟨Nat.zero_le _, by simp [totNd]; omega, Ch.refl _ _⟩ ?_
    intro k w2 ⟨hk, hle, e2⟩
    have hnn := totNd_nn ((ds.map NdP).take k)
    repeat' (first | apply Jbq | apply Jbr | apply Jbs | apply Jbt | (apply Jcg; (first | exact Jaa rfl | exact Jac Us.h rfl | exact Jad rfl rfl); exact rfl))
    refine Jcx rfl (fun hlt0 => ?_) (fun hge => ?_)
    · have hlt : k < ds.length := by omega
      obtain ⟨ad, rfl, hc⟩ := Rd.elem NdC_len (hr.ext e2) hlt
      have hmem := List.getElem_mem hlt
      have hdk := hd _ (List.mem_map_of_mem (f := NdP) hmem)
      have ht := totNd_take (l := ds.map NdP) (k := k) (by rw [List.length_map]; exact hlt)
      rw [List.getElem_map] at ht
      have hwn := NdW_nn (NdP ds[k])
      repeat' (first | apply Jbr | apply Jbs | apply Jbt | apply Jby | apply Jbz | (apply Jcg; (first | exact Jaa rfl | exact Jar Us.h Sz.h rfl rfl (by omega)); exact rfl) | refine Jcg (Pu_loadAgg (cs := NdC ds[k]) Us.h rfl Sz.h rfl (fun _ e j u hu => by rw [e]; exact hc j u hu)) rfl ?_)
      refine TL_call rfl en128 (szNode_c ((hok _ hmem).ch e2 (fun _ _ _ t => t)) hdk (by omega) (by omega)) rfl rfl ?_
      rintro _ w3 ⟨hv, e3⟩
      rcases hv with rfl | ⟨rfl, hle3⟩
      · repeat' (first | apply Jbq | apply Jbr | apply Jbs | apply Jbt | apply Jbu | apply Jbv | apply Jbw | (refine Jce rfl ?_) | (apply Jcg; (first | exact Jaa rfl | exact Jab rfl | exact Jad rfl rfl); exact rfl))
        exact TR_of (res1 rfl rfl) ⟨.inl rfl, e2.ext e3⟩
      · repeat' (first | apply Jbq | apply Jbr | apply Jbs | apply Jbt | apply Jbx | apply Jbz | (apply Jcg; (first | exact Jaa rfl | exact Jab rfl | exact Jad rfl rfl | exact Jaf rfl rfl (by omega)); exact rfl) | (refine Jcx rfl (fun hb => ?_) (fun hb => ?_) <;> (try (exfalso; omega))))
        exact TN_round (k + 1) (subEnv_cons rfl (subEnv_cons (congrArg (fun z => some (I z)) (by omega)) (subEnv_cons rfl (subEnv_nil _)))) ⟨hlt, by omega, e2.ext e3⟩ (by omega)
    · obtain rfl : k = ds.length := by omega
      rw [List.take_of_length_le (by simp)] at *
      repeat' (first | apply Jbq | apply Jbr | apply Jbs | apply Jbt | apply Jbu | apply Jca | apply Jcb | apply Jcc | (apply Jcg; (first | exact Jaa rfl | exact Jab rfl); exact rfl))
      exact TR_of (res1 rfl rfl) ⟨.inr ⟨rfl, hle⟩, e2⟩
set_option maxHeartbeats 1000000 in
theorem toNodeS_k {w : World} {lo hi : Nat} {v : Value} {l : List NodeP} (h : RN w lo hi v l) (hl : l.length + totNd l ≤ 1048576) :
    Ret Tryz.prog 62 #[v] w fun v' w' => Ext w w' ∧ RN w' w.heap.size w'.heap.size v' l := by
  obtain ⟨ds, A, c, rfl, rfl, _, hr, hok⟩ := h
  have hnn := totNd_nn (ds.map NdP)
  rw [List.length_map] at hl
  refine Ret_enter Tryz.func62 rfl rfl rfl ?_
  repeat' (first | apply Jbq | apply Jbr | apply Jbs | apply Jbt | (apply Jcg; (first | exact Jaa rfl | exact Jab rfl | exact Jac Us.h rfl); exact rfl))
  refine TL_make Us.h Inf.h rfl rfl (by omega) (by omega) (by omega) rfl ?_
  intro w1 g e1 hg hz1 hown
  repeat' (first | apply Jbq | apply Jbr | apply Jbs | apply Jbt | apply Jby | (apply Jcg; exact Jab rfl; exact rfl))
  obtain ⟨xs, hxs⟩ : ∃ xs, xs = (madeCells (Value.cells (.agg #[.int .i64 0, .slice none 0 0, .slice none 0 0])) ((ds.length : Int).toNat * 3)).toList := ⟨_, rfl⟩
  rw [← hxs] at hown
  have hxl : xs.length = ds.length * 3 := by have := hown.len; simpa using this
  refine TC_loop (ι := Nat × List Nd) (fun x => [(0, .slice A ds.length c), (3, .slice (some ⟨g, 0, none⟩) ds.length ds.length), (4, I x.1)])
    (fun x w' => x.1 ≤ ds.length ∧ x.2.map NdP = (ds.map NdP).take x.1 ∧ x.2.length = x.1 ∧ Ext w w' ∧ Own w' g (g + 1) 98 3 (some ⟨g, 0, none⟩) ds.length ds.length (cellsL NdC x.2 ++ xs.drop (x.1 * 3)) ∧ ∀ d ∈ x.2, NdOk w' (g + 1) w'.heap.size d) (fun x => ds.length - x.1) (0, [])
    (subEnv_cons rfl (subEnv_cons rfl (subEnv_cons rfl (subEnv_nil _)))) ⟨Nat.zero_le _, by simp, rfl, e1, by simpa [cellsL] using hown, by simp⟩ ?_
  rintro ⟨k, ys⟩ w2 ⟨hk, hys, hyl, e2, hown2, hok2⟩
  simp only at hk hys hyl hown2 hok2
  repeat' (first | apply Jbq | apply Jbr | apply Jbs | apply Jbt | (apply Jcg; (first | exact Jaa rfl | exact Jac Us.h rfl | exact Jad rfl rfl); exact rfl))
  refine Jcx rfl (fun hlt0 => ?_) (fun hge => ?_)
  · have hlt : k < ds.length := by omega
    obtain ⟨ad, rfl, hc⟩ := Rd.elem NdC_len (hr.ext e2) hlt
    have hmem := List.getElem_mem hlt
    have hwk := totNd_mem (List.mem_map_of_mem (f := NdP) hmem)
    repeat' (first | apply Jbr | apply Jbs | apply Jbt | apply Jby | apply Jbz | (apply Jcg; (first | exact Jaa rfl | exact Jar Us.h Sz.h rfl rfl (by omega)); exact rfl) | refine Jcg (Pu_loadAgg (cs := NdC ds[k]) Us.h rfl Sz.h rfl (fun _ e j u hu => by rw [e]; exact hc j u hu)) rfl ?_)
    refine TL_call rfl en136 (toNode_c ((hok _ hmem).ch e2 (fun _ _ _ t => t)) (by omega)) rfl rfl ?_
    rintro _ w3 ⟨d', rfl, hp3, e3, hok3⟩
    have hcl : (cellsL NdC ys).length = k * 3 := by rw [cellsL_length NdC_len, hyl]
    have hgl := hown2.hi_le
    have hs3 := e3.size
    repeat' ((apply Jcg; exact Jar Us.h Sz.h rfl rfl (by omega); exact rfl))
    refine TL_storeOwnAgg rfl (add0 g (k * 3)) rfl Sz.h hok3.one (hown2.ext e3) (by rw [NdC_len]; omega) ?_
    intro w4 c4 hz4 hown4
    rw [setL_app _ _ _ _ hcl (by rw [NdC_len, List.length_drop]; omega), List.drop_drop, NdC_len] at hown4
    repeat' (first | apply Jbq | apply Jbr | apply Jbt | apply Jbx | (apply Jcg; (first | exact Jaa rfl | exact Jab rfl | exact Jaf rfl rfl (by omega)); exact rfl))
    refine TN_round (k + 1, ys ++ [d']) (subEnv_cons rfl (subEnv_cons rfl (subEnv_cons rfl (subEnv_nil _)))) ⟨hlt, ?_, by simp [hyl], Ext.then_iv (e2.ext e3) c4 (by omega), ?_, ?_⟩ (by simp only; omega)
    · rw [List.map_append, hys, List.take_succ_eq_append_getElem (by rw [List.length_map]; exact hlt)]; simp [hp3]
    · rw [cellsL_append]
      have : cellsL NdC [d'] = NdC d' := by simp [cellsL]
      rw [this, Nat.succ_mul]
      exact hown4
    · intro x hx
      rcases List.mem_append.1 hx with hx | hx
      · exact (((hok2 x hx).ch e3 (fun _ _ _ t => t)).ch c4 (by intro j _ _; simp only [Iv]; omega)).wide (Nat.le_refl _) (by omega) (Nat.le_refl _)
      · rw [List.mem_singleton.1 hx]
        exact (hok3.ch c4 (by intro j _ _; simp only [Iv]; omega)).wide (by omega) (by omega) (Nat.le_refl _)
  · obtain rfl : k = ds.length := by omega
    rw [List.drop_eq_nil_of_le (by omega), List.append_nil] at hown2
    rw [List.take_of_length_le (by simp)] at hys
    repeat' (first | apply Jbq | apply Jbr | apply Jbs | apply Jbt | apply Jbu | apply Jca | apply Jcb | apply Jcc | (apply Jcg; (first | exact Jaa rfl | exact Jab rfl); exact rfl))
    have hh := hown2.hi_le
    refine TR_of (res1 rfl rfl) ⟨e2, ys, some ⟨g, 0, none⟩, ds.length, hys, by rw [hyl], by omega, ?_, fun d hm => (hok2 d hm).wide (by omega) (Nat.le_refl _) (Nat.le_refl _)⟩
    rw [hyl]
    exact hown2.rd.wide (by omega) hh (Nat.le_refl _)
set_option maxHeartbeats 1000000 in
theorem eqNodeS_k {w : World} {lo hi lo2 hi2 : Nat} {v v2 : Value} {l : List NodeP} (h : RN w lo hi v l) (h2 : RN w lo2 hi2 v2 l) (hl : l.length + totNd l ≤ 1048576) :
    Ret Tryz.prog 72 #[v, v2] w fun v' w' => v' = .bool true ∧ Ext w w' := by
  obtain ⟨ds, A, c, rfl, rfl, _, hr, hok⟩ := h
  obtain ⟨ds2, A2, c2, hm2, rfl, _, hr2, hok2⟩ := h2
  have hnn := totNd_nn (ds.map NdP)
  have hll : ds2.length = ds.length := by have := congrArg List.length hm2; simpa using this
  rw [List.length_map] at hl
  rw [hll] at hr2 ⊢
  refine Ret_enter Tryz.func72 rfl rfl rfl ?_
  repeat' (first | apply Jbq | apply Jbr | apply Jbs | apply Jbt | apply Jby | apply Jbz | (refine Jcf rfl ?_) | (apply Jcg; (first | exact Jbm rfl rfl | exact Jaa rfl | exact Jab rfl | exact Jac Us.h rfl); exact rfl))
  refine TC_loop (ι := Nat) (fun k => [(0, .slice A ds.length c), (1, .slice A2 ds.length c2), (5, I k)]) (fun k w' => k ≤ ds.length ∧ Ext w w') (fun k => ds.length - k) 0 (subEnv_cons rfl (subEnv_cons rfl (subEnv_cons rfl (subEnv_nil _)))) ⟨Nat.zero_le _, Ch.refl _ _⟩ ?_
  intro k w2 ⟨hk, e2⟩
  repeat' (first | apply Jbq | apply Jbr | apply Jbs | apply Jbt | (apply Jcg; (first | exact Jaa rfl | exact Jac Us.h rfl | exact Jad rfl rfl); exact rfl))
  refine Jcx rfl (fun hlt0 => ?_) (fun hge => ?_)
  · have hlt : k < ds.length := by omega
    have hlt2 : k < ds2.length := by omega
    obtain ⟨ad, rfl, hc⟩ := Rd.elem NdC_len (hr.ext e2) hlt
    obtain ⟨ad2, rfl, hc2⟩ := Rd.elem (l := ds2) NdC_len (by rw [hll]; exact hr2.ext e2) hlt2
    have hpk : NdP ds[k] = NdP ds2[k] := by
      have := congrArg (fun l => l[k]?) hm2
      simp only [List.getElem?_map, List.getElem?_eq_getElem hlt, List.getElem?_eq_getElem hlt2, Option.map_some, Option.some.injEq] at this
      exact this.symm
    have hwk := totNd_mem (List.mem_map_of_mem (f := NdP) (List.getElem_mem hlt))
    repeat' (first | apply Jbr | apply Jbs | apply Jby | apply Jbz)
    refine TC_any mixed rfl ?_
    intro w3 hE hz3
    have E3 := e2.ext hE
    (refine Jco 0 rfl (by kernel_rfl) (by kernel_rfl) (by kernel_rfl) (fun _ _ _ h => h) hE (by exact Jaa rfl) rfl ?_; refine Jco 1 rfl (by kernel_rfl) (by kernel_rfl) (by kernel_rfl) (fun _ _ _ h => h) hE (by exact Jaa rfl) rfl ?_; refine Jco 2 rfl (by kernel_rfl) (by kernel_rfl) (by kernel_rfl) (fun _ _ _ h => h) hE (by exact Jar Us.h Sz.h rfl rfl (by omega)) rfl ?_; refine Jco 3 rfl (by kernel_rfl) (by kernel_rfl) (by kernel_rfl) (fun _ _ _ h => h) hE (by exact Pu_loadAgg (cs := NdC ds[k]) Us.h rfl Sz.h rfl (fun w' e j u hu => Ext.cell e (hc j u hu))) rfl ?_; refine Jco 4 rfl (by kernel_rfl) (by kernel_rfl) (by kernel_rfl) (fun _ _ _ h => h) hE (by exact Jaa rfl) rfl ?_; refine Jco 5 rfl (by kernel_rfl) (by kernel_rfl) (by kernel_rfl) (fun _ _ _ h => h) hE (by exact Jaa rfl) rfl ?_; refine Jco 6 rfl (by kernel_rfl) (by kernel_rfl) (by kernel_rfl) (fun _ _ _ h => h) hE (by exact Jar Us.h Sz.h rfl rfl (by omega)) rfl ?_; refine Jco 7 rfl (by kernel_rfl) (by kernel_rfl) (by kernel_rfl) (fun _ _ _ h => h) hE (by exact Pu_loadAgg (cs := NdC ds2[k]) Us.h rfl Sz.h rfl (fun w' e j u hu => Ext.cell e (hc2 j u hu))) rfl ?_)
    refine TA_one 8 (by kernel_rfl) rfl ?_
    refine TL_call rfl en147 (eqNode_c ((hok _ (List.getElem_mem hlt)).ch E3 (fun _ _ _ t => t)) ((hok2 _ (List.getElem_mem hlt2)).ch E3 (fun _ _ _ t => t)) hpk (by omega)) rfl rfl ?_
    rintro _ w4 ⟨rfl, e4⟩
    replace hE := hE.ext e4
    refine Jbq (TN_any hE ?_)
    (refine Jco 9 rfl (by kernel_rfl) (by kernel_rfl) (by kernel_rfl) (fun _ _ _ h => h) hE (by exact Jaj rfl) rfl ?_)
    refine TA_done (by kernel_rfl) ?_
    repeat' (first | apply Jbq | apply Jbr | apply Jbt | apply Jbx | apply Jbz | (refine Jcf rfl ?_) | (apply Jcg; (first | exact Jaa rfl | exact Jab rfl | exact Jaf rfl rfl (by omega)); exact rfl))
    exact TN_round (k + 1) (subEnv_cons rfl (subEnv_cons rfl (subEnv_cons rfl (subEnv_nil _)))) ⟨hlt, e2.ext hE⟩ (by omega)
  · repeat' (first | apply Jbq | apply Jbr | apply Jbs | apply Jbt | apply Jbu | apply Jca | apply Jcb | apply Jcc | (apply Jcg; exact Jab rfl; exact rfl))
    exact TR_of (res1 rfl rfl) ⟨rfl, e2⟩
end Go.Proofs.YtggaghghclomkaaGreat

/- Lists of nodes, links and turns that can be read, and the laws' helpers on them. -/
namespace Go.Proofs.YtggaghghclomkaaGreat
open Go.RowKit
attribute [local irreducible] TL TC TN TX TR TQ TA Pu Ret

/-! lists of Link -/
theorem LkC_len (d : LkD) : (LkC d).length = 2 := rfl
def totLk (l : List LinkP) : Int := (l.map LkW).sum
theorem LkW_nn (p : LinkP) : 0 ≤ LkW p := by unfold LkW; omega
theorem totLk_take {l : List LinkP} {k : Nat} (h : k < l.length) : totLk (l.take (k + 1)) = totLk (l.take k) + LkW l[k] := by
  unfold totLk
  rw [List.take_succ_eq_append_getElem h, List.map_append, List.sum_append]
  simp
theorem totLk_nn (l : List LinkP) : 0 ≤ totLk l := by
  induction l with
  | nil => simp [totLk]
  | cons a l ih => have := LkW_nn a; simp only [totLk, List.map_cons, List.sum_cons] at *; omega
theorem totLk_mem {l : List LinkP} {p : LinkP} (h : p ∈ l) : LkW p ≤ totLk l := by
  induction l with
  | nil => cases h
  | cons a l ih =>
    have := totLk_nn l
    have := LkW_nn a
    simp only [totLk, List.map_cons, List.sum_cons] at *
    rcases List.mem_cons.1 h with rfl | h
    · omega
    · have := ih h; omega
def RK (w : World) (lo hi : Nat) (v : Value) (l : List LinkP) : Prop := ∃ (ds : List LkD) (A : Option Addr) (c : Nat), ds.map LkP = l ∧ v = .slice A ds.length c ∧ ds.length ≤ c ∧ Rd w lo hi 2 A ds.length (cellsL LkC ds) ∧ ∀ d ∈ ds, LkOk w lo hi d
theorem RK.ch {w w' : World} {lo hi : Nat} {v : Value} {l : List LinkP} {T : Nat → Prop} (h : RK w lo hi v l) (c : Ch T w w') (hd : ∀ k, lo ≤ k → k < hi → ¬ T k) : RK w' lo hi v l := by
  obtain ⟨ds, A, cc, h1, h2, h3, h4, h5⟩ := h
  exact ⟨ds, A, cc, h1, h2, h3, h4.ch c hd, fun d hm => (h5 d hm).ch c hd⟩
theorem RK.ext {w w' : World} {lo hi : Nat} {v : Value} {l : List LinkP} (h : RK w lo hi v l) (c : Ext w w') : RK w' lo hi v l := h.ch c (fun _ _ _ t => t)
theorem RK.one {w : World} {lo hi : Nat} {v : Value} {l : List LinkP} (h : RK w lo hi v l) : v.oneCell' = true := by obtain ⟨_, _, _, _, rfl, _⟩ := h; rfl
theorem RK.wide {w : World} {lo hi lo' hi' : Nat} {v : Value} {l : List LinkP} (h : RK w lo hi v l) (h1 : lo' ≤ lo) (h2 : hi ≤ hi') (h3 : hi' ≤ w.heap.size) : RK w lo' hi' v l := by
  obtain ⟨ds, A, cc, g1, g2, g3, g4, g5⟩ := h
  exact ⟨ds, A, cc, g1, g2, g3, g4.wide h1 h2 h3, fun d hm => (g5 d hm).wide h1 h2 h3⟩
set_option maxHeartbeats 1000000 in
theorem szLinkS_k {w : World} {lo hi : Nat} {v : Value} {l : List LinkP} {left : Int} (h : RK w lo hi v l) (hlen : l.length ≤ 9223372036854775807) (h0 : 0 ≤ left) (h1 : left ≤ 1048576) (hd : ∀ p ∈ l, LkFit p) :
    Ret Tryz.prog 55 #[v, I left] w fun v w' => (v = I (-1) ∨ (v = I (left - l.length - totLk l) ∧ l.length + totLk l ≤ left)) ∧ Ext w w' := by
  obtain ⟨ds, A, c, rfl, rfl, _, hr, hok⟩ := h
  rw [List.length_map] at hlen ⊢
  refine Ret_enter Tryz.func55 rfl rfl rfl ?_
  repeat' (first | apply Jbq | apply Jbr | apply Jbs | apply Jbt | (apply Jcg; (first | exact Jaa rfl | exact Jab rfl | exact Jac Us.h rfl | exact Jad rfl rfl | exact Jap rfl rfl (by omega)); exact rfl))
  refine Jcx rfl (fun hb => ?_) (fun hb => ?_)
  · repeat' (first | apply Jbq | apply Jbr | apply Jbs | apply Jbt | apply Jbu | apply Jbv | (apply Jcg; exact Jab rfl; exact rfl))
    exact TR_of (res1 rfl rfl) ⟨.inl rfl, Ch.refl _ _⟩
  · repeat' (first | apply Jbq | apply Jbr | apply Jbs | apply Jbt | apply Jby | apply Jbz | (apply Jcg; exact Jab rfl; exact rfl))
    refine TC_loop (ι := Nat) (fun k => [(0, .slice A ds.length c), (1, I (left - ds.length - totLk ((ds.map LkP).take k))), (5, I k)]) (fun k w' => k ≤ ds.length ∧ ds.length + totLk ((ds.map LkP).take k) ≤ left ∧ Ext w w') (fun k => ds.length - k) 0
      (subEnv_cons rfl (subEnv_cons (congrArg (fun z => some (I z)) (by simp [totLk])) (subEnv_cons rfl (subEnv_nil _)))) ⟨Nat.zero_le _, by simp [totLk]; omega, Ch.refl _ _⟩ ?_
    intro k w2 ⟨hk, hle, e2⟩
    have hnn := totLk_nn ((ds.map LkP).take k)
    repeat' (first | apply Jbq | apply Jbr | apply Jbs | apply Jbt | (apply Jcg; (first | exact Jaa rfl | exact Jac Us.h rfl | exact Jad rfl rfl); exact rfl))
    refine Jcx rfl (fun hlt0 => ?_) (fun hge => ?_)
    · have hlt : k < ds.length := by omega
      obtain ⟨ad, rfl, hc⟩ := Rd.elem LkC_len (hr.ext e2) hlt
      have hmem := List.getElem_mem hlt
      have hdk := hd _ (List.mem_map_of_mem (f := LkP) hmem)
      have ht := totLk_take (l := ds.map LkP) (k := k) (by rw [List.length_map]; exact hlt)
      rw [List.getElem_map] at ht
      have hwn := LkW_nn (LkP ds[k])
      repeat' (first | apply Jbr | apply Jbs | apply Jbt | apply Jby | apply Jbz | (apply Jcg; (first | exact Jaa rfl | exact Jar Us.h Sz.h rfl rfl (by omega)); exact rfl) | refine Jcg (Pu_loadAgg (cs := LkC ds[k]) Us.h rfl Sz.h rfl (fun _ e j u hu => by rw [e]; exact hc j u hu)) rfl ?_)
      refine TL_call rfl en129 (szLink_c ((hok _ hmem).ch e2 (fun _ _ _ t => t)) hdk (by omega) (by omega)) rfl rfl ?_
      rintro _ w3 ⟨hv, e3⟩
      rcases hv with rfl | ⟨rfl, hle3⟩
      · repeat' (first | apply Jbq | apply Jbr | apply Jbs | apply Jbt | apply Jbu | apply Jbv | apply Jbw | (refine Jce rfl ?_) | (apply Jcg; (first | exact Jaa rfl | exact Jab rfl | exact Jad rfl rfl); exact rfl))
        exact TR_of (res1 rfl rfl) ⟨.inl rfl, e2.ext e3⟩
      · repeat' (first | apply Jbq | apply Jbr | apply Jbs | apply Jbt | apply Jbx | apply Jbz | (apply Jcg; (first | exact Jaa rfl | exact Jab rfl | exact Jad rfl rfl | exact Jaf rfl rfl (by omega)); exact rfl) | (refine Jcx rfl (fun hb => ?_) (fun hb => ?_) <;> (try (exfalso; omega))))
        exact TN_round (k + 1) (subEnv_cons rfl (subEnv_cons (congrArg (fun z => some (I z)) (by omega)) (subEnv_cons rfl (subEnv_nil _)))) ⟨hlt, by omega, e2.ext e3⟩ (by omega)
    · obtain rfl : k = ds.length := by omega
      rw [List.take_of_length_le (by simp)] at *
      repeat' (first | apply Jbq | apply Jbr | apply Jbs | apply Jbt | apply Jbu | apply Jca | apply Jcb | apply Jcc | (apply Jcg; (first | exact Jaa rfl | exact Jab rfl); exact rfl))
      exact TR_of (res1 rfl rfl) ⟨.inr ⟨rfl, hle⟩, e2⟩
set_option maxHeartbeats 1000000 in
theorem toLinkS_k {w : World} {lo hi : Nat} {v : Value} {l : List LinkP} (h : RK w lo hi v l) (hl : l.length + totLk l ≤ 1048576) :
    Ret Tryz.prog 63 #[v] w fun v' w' => Ext w w' ∧ RK w' w.heap.size w'.heap.size v' l := by
  obtain ⟨ds, A, c, rfl, rfl, _, hr, hok⟩ := h
  have hnn := totLk_nn (ds.map LkP)
  rw [List.length_map] at hl
  refine Ret_enter Tryz.func63 rfl rfl rfl ?_
  repeat' (first | apply Jbq | apply Jbr | apply Jbs | apply Jbt | (apply Jcg; (first | exact Jaa rfl | exact Jab rfl | exact Jac Us.h rfl); exact rfl))
  refine TL_make Us.h Inf.h rfl rfl (by omega) (by omega) (by omega) rfl ?_
  intro w1 g e1 hg hz1 hown
  repeat' (first | apply Jbq | apply Jbr | apply Jbs | apply Jbt | apply Jby | (apply Jcg; exact Jab rfl; exact rfl))
  obtain ⟨xs, hxs⟩ : ∃ xs, xs = (madeCells (Value.cells (.agg #[.string ByteArray.empty, .int .i64 0])) ((ds.length : Int).toNat * 2)).toList := ⟨_, rfl⟩
  rw [← hxs] at hown
  have hxl : xs.length = ds.length * 2 := by have := hown.len; simpa using this
  refine TC_loop (ι := Nat × List LkD) (fun x => [(0, .slice A ds.length c), (3, .slice (some ⟨g, 0, none⟩) ds.length ds.length), (4, I x.1)])
    (fun x w' => x.1 ≤ ds.length ∧ x.2.map LkP = (ds.map LkP).take x.1 ∧ x.2.length = x.1 ∧ Ext w w' ∧ Own w' g (g + 1) 162 2 (some ⟨g, 0, none⟩) ds.length ds.length (cellsL LkC x.2 ++ xs.drop (x.1 * 2)) ∧ ∀ d ∈ x.2, LkOk w' (g + 1) w'.heap.size d) (fun x => ds.length - x.1) (0, [])
    (subEnv_cons rfl (subEnv_cons rfl (subEnv_cons rfl (subEnv_nil _)))) ⟨Nat.zero_le _, by simp, rfl, e1, by simpa [cellsL] using hown, by simp⟩ ?_
  rintro ⟨k, ys⟩ w2 ⟨hk, hys, hyl, e2, hown2, hok2⟩
  simp only at hk hys hyl hown2 hok2
  repeat' (first | apply Jbq | apply Jbr | apply Jbs | apply Jbt | (apply Jcg; (first | exact Jaa rfl | exact Jac Us.h rfl | exact Jad rfl rfl); exact rfl))
  refine Jcx rfl (fun hlt0 => ?_) (fun hge => ?_)
  · have hlt : k < ds.length := by omega
    obtain ⟨ad, rfl, hc⟩ := Rd.elem LkC_len (hr.ext e2) hlt
    have hmem := List.getElem_mem hlt
    have hwk := totLk_mem (List.mem_map_of_mem (f := LkP) hmem)
    repeat' (first | apply Jbr | apply Jbs | apply Jbt | apply Jby | apply Jbz | (apply Jcg; (first | exact Jaa rfl | exact Jar Us.h Sz.h rfl rfl (by omega)); exact rfl) | refine Jcg (Pu_loadAgg (cs := LkC ds[k]) Us.h rfl Sz.h rfl (fun _ e j u hu => by rw [e]; exact hc j u hu)) rfl ?_)
    refine TL_call rfl en137 (toLink_c ((hok _ hmem).ch e2 (fun _ _ _ t => t)) (by omega)) rfl rfl ?_
    rintro _ w3 ⟨d', rfl, hp3, e3, hok3⟩
    have hcl : (cellsL LkC ys).length = k * 2 := by rw [cellsL_length LkC_len, hyl]
    have hgl := hown2.hi_le
    have hs3 := e3.size
    repeat' ((apply Jcg; exact Jar Us.h Sz.h rfl rfl (by omega); exact rfl))
    refine TL_storeOwnAgg rfl (add0 g (k * 2)) rfl Sz.h hok3.one (hown2.ext e3) (by rw [LkC_len]; omega) ?_
    intro w4 c4 hz4 hown4
    rw [setL_app _ _ _ _ hcl (by rw [LkC_len, List.length_drop]; omega), List.drop_drop, LkC_len] at hown4
    repeat' (first | apply Jbq | apply Jbr | apply Jbt | apply Jbx | (apply Jcg; (first | exact Jaa rfl | exact Jab rfl | exact Jaf rfl rfl (by omega)); exact rfl))
    refine TN_round (k + 1, ys ++ [d']) (subEnv_cons rfl (subEnv_cons rfl (subEnv_cons rfl (subEnv_nil _)))) ⟨hlt, ?_, by simp [hyl], Ext.then_iv (e2.ext e3) c4 (by omega), ?_, ?_⟩ (by simp only; omega)
    · rw [List.map_append, hys, List.take_succ_eq_append_getElem (by rw [List.length_map]; exact hlt)]; simp [hp3]
    · rw [cellsL_append]
      have : cellsL LkC [d'] = LkC d' := by simp [cellsL]
      rw [this, Nat.succ_mul]
      exact hown4
    · intro x hx
      rcases List.mem_append.1 hx with hx | hx
      · exact (((hok2 x hx).ch e3 (fun _ _ _ t => t)).ch c4 (by intro j _ _; simp only [Iv]; omega)).wide (Nat.le_refl _) (by omega) (Nat.le_refl _)
      · rw [List.mem_singleton.1 hx]
        exact (hok3.ch c4 (by intro j _ _; simp only [Iv]; omega)).wide (by omega) (by omega) (Nat.le_refl _)
  · obtain rfl : k = ds.length := by omega
    rw [List.drop_eq_nil_of_le (by omega), List.append_nil] at hown2
    rw [List.take_of_length_le (by simp)] at hys
    repeat' (first | apply Jbq | apply Jbr | apply Jbs | apply Jbt | apply Jbu | apply Jca | apply Jcb | apply Jcc | (apply Jcg; (first | exact Jaa rfl | exact Jab rfl); exact rfl))
    have hh := hown2.hi_le
    refine TR_of (res1 rfl rfl) ⟨e2, ys, some ⟨g, 0, none⟩, ds.length, hys, by rw [hyl], by omega, ?_, fun d hm => (hok2 d hm).wide (by omega) (Nat.le_refl _) (Nat.le_refl _)⟩
    rw [hyl]
    exact hown2.rd.wide (by omega) hh (Nat.le_refl _)
set_option maxHeartbeats 1000000 in
theorem eqLinkS_k {w : World} {lo hi lo2 hi2 : Nat} {v v2 : Value} {l : List LinkP} (h : RK w lo hi v l) (h2 : RK w lo2 hi2 v2 l) (hl : l.length + totLk l ≤ 1048576) :
    Ret Tryz.prog 73 #[v, v2] w fun v' w' => v' = .bool true ∧ Ext w w' := by
  obtain ⟨ds, A, c, rfl, rfl, _, hr, hok⟩ := h
  obtain ⟨ds2, A2, c2, hm2, rfl, _, hr2, hok2⟩ := h2
  have hnn := totLk_nn (ds.map LkP)
  have hll : ds2.length = ds.length := by have := congrArg List.length hm2; simpa using this
  rw [List.length_map] at hl
  rw [hll] at hr2 ⊢
  refine Ret_enter Tryz.func73 rfl rfl rfl ?_
  repeat' (first | apply Jbq | apply Jbr | apply Jbs | apply Jbt | apply Jby | apply Jbz | (refine Jcf rfl ?_) | (apply Jcg; (first | exact Jbm rfl rfl | exact Jaa rfl | exact Jab rfl | exact Jac Us.h rfl); exact rfl))
  refine TC_loop (ι := Nat) (fun k => [(0, .slice A ds.length c), (1, .slice A2 ds.length c2), (5, I k)]) (fun k w' => k ≤ ds.length ∧ Ext w w') (fun k => ds.length - k) 0 (subEnv_cons rfl (subEnv_cons rfl (subEnv_cons rfl (subEnv_nil _)))) ⟨Nat.zero_le _, Ch.refl _ _⟩ ?_
  intro k w2 ⟨hk, e2⟩
  repeat' (first | apply Jbq | apply Jbr | apply Jbs | apply Jbt | (apply Jcg; (first | exact Jaa rfl | exact Jac Us.h rfl | exact Jad rfl rfl); exact rfl))
  refine Jcx rfl (fun hlt0 => ?_) (fun hge => ?_)
  · have hlt : k < ds.length := by omega
    have hlt2 : k < ds2.length := by omega
    obtain ⟨ad, rfl, hc⟩ := Rd.elem LkC_len (hr.ext e2) hlt
    obtain ⟨ad2, rfl, hc2⟩ := Rd.elem (l := ds2) LkC_len (by rw [hll]; exact hr2.ext e2) hlt2
    have hpk : LkP ds[k] = LkP ds2[k] := by
      have := congrArg (fun l => l[k]?) hm2
      simp only [List.getElem?_map, List.getElem?_eq_getElem hlt, List.getElem?_eq_getElem hlt2, Option.map_some, Option.some.injEq] at this
      exact this.symm
    have hwk := totLk_mem (List.mem_map_of_mem (f := LkP) (List.getElem_mem hlt))
    repeat' (first | apply Jbr | apply Jbs | apply Jby | apply Jbz)
    refine TC_any mixed rfl ?_
    intro w3 hE hz3
    have E3 := e2.ext hE
    (refine Jco 0 rfl (by kernel_rfl) (by kernel_rfl) (by kernel_rfl) (fun _ _ _ h => h) hE (by exact Jaa rfl) rfl ?_; refine Jco 1 rfl (by kernel_rfl) (by kernel_rfl) (by kernel_rfl) (fun _ _ _ h => h) hE (by exact Jaa rfl) rfl ?_; refine Jco 2 rfl (by kernel_rfl) (by kernel_rfl) (by kernel_rfl) (fun _ _ _ h => h) hE (by exact Jar Us.h Sz.h rfl rfl (by omega)) rfl ?_; refine Jco 3 rfl (by kernel_rfl) (by kernel_rfl) (by kernel_rfl) (fun _ _ _ h => h) hE (by exact Pu_loadAgg (cs := LkC ds[k]) Us.h rfl Sz.h rfl (fun w' e j u hu => Ext.cell e (hc j u hu))) rfl ?_; refine Jco 4 rfl (by kernel_rfl) (by kernel_rfl) (by kernel_rfl) (fun _ _ _ h => h) hE (by exact Jaa rfl) rfl ?_; refine Jco 5 rfl (by kernel_rfl) (by kernel_rfl) (by kernel_rfl) (fun _ _ _ h => h) hE (by exact Jaa rfl) rfl ?_; refine Jco 6 rfl (by kernel_rfl) (by kernel_rfl) (by kernel_rfl) (fun _ _ _ h => h) hE (by exact Jar Us.h Sz.h rfl rfl (by omega)) rfl ?_; refine Jco 7 rfl (by kernel_rfl) (by kernel_rfl) (by kernel_rfl) (fun _ _ _ h => h) hE (by exact Pu_loadAgg (cs := LkC ds2[k]) Us.h rfl Sz.h rfl (fun w' e j u hu => Ext.cell e (hc2 j u hu))) rfl ?_)
    refine TA_one 8 (by kernel_rfl) rfl ?_
    refine TL_call rfl en148 (eqLink_c ((hok _ (List.getElem_mem hlt)).ch E3 (fun _ _ _ t => t)) ((hok2 _ (List.getElem_mem hlt2)).ch E3 (fun _ _ _ t => t)) hpk (by omega)) rfl rfl ?_
    rintro _ w4 ⟨rfl, e4⟩
    replace hE := hE.ext e4
    refine Jbq (TN_any hE ?_)
    (refine Jco 9 rfl (by kernel_rfl) (by kernel_rfl) (by kernel_rfl) (fun _ _ _ h => h) hE (by exact Jaj rfl) rfl ?_)
    refine TA_done (by kernel_rfl) ?_
    repeat' (first | apply Jbq | apply Jbr | apply Jbt | apply Jbx | apply Jbz | (refine Jcf rfl ?_) | (apply Jcg; (first | exact Jaa rfl | exact Jab rfl | exact Jaf rfl rfl (by omega)); exact rfl))
    exact TN_round (k + 1) (subEnv_cons rfl (subEnv_cons rfl (subEnv_cons rfl (subEnv_nil _)))) ⟨hlt, e2.ext hE⟩ (by omega)
  · repeat' (first | apply Jbq | apply Jbr | apply Jbs | apply Jbt | apply Jbu | apply Jca | apply Jcb | apply Jcc | (apply Jcg; exact Jab rfl; exact rfl))
    exact TR_of (res1 rfl rfl) ⟨rfl, e2⟩
end Go.Proofs.YtggaghghclomkaaGreat

/- Lists of nodes, links and turns that can be read, and the laws' helpers on them. -/
namespace Go.Proofs.YtggaghghclomkaaGreat
open Go.RowKit
attribute [local irreducible] TL TC TN TX TR TQ TA Pu Ret

/-! lists of Turn -/
theorem TnC_len (d : TnD) : (TnC d).length = 4 := rfl
def totTn (l : List TurnP) : Int := (l.map TnW).sum
theorem TnW_nn (p : TurnP) : 0 ≤ TnW p := by unfold TnW; omega
theorem totTn_take {l : List TurnP} {k : Nat} (h : k < l.length) : totTn (l.take (k + 1)) = totTn (l.take k) + TnW l[k] := by
  unfold totTn
  rw [List.take_succ_eq_append_getElem h, List.map_append, List.sum_append]
  simp
theorem totTn_nn (l : List TurnP) : 0 ≤ totTn l := by
  induction l with
  | nil => simp [totTn]
  | cons a l ih => have := TnW_nn a; simp only [totTn, List.map_cons, List.sum_cons] at *; omega
theorem totTn_mem {l : List TurnP} {p : TurnP} (h : p ∈ l) : TnW p ≤ totTn l := by
  induction l with
  | nil => cases h
  | cons a l ih =>
    have := totTn_nn l
    have := TnW_nn a
    simp only [totTn, List.map_cons, List.sum_cons] at *
    rcases List.mem_cons.1 h with rfl | h
    · omega
    · have := ih h; omega
def RT (w : World) (lo hi : Nat) (v : Value) (l : List TurnP) : Prop := ∃ (ds : List TnD) (A : Option Addr) (c : Nat), ds.map TnP = l ∧ v = .slice A ds.length c ∧ ds.length ≤ c ∧ Rd w lo hi 4 A ds.length (cellsL TnC ds) ∧ ∀ d ∈ ds, TnOk w lo hi d
theorem RT.ch {w w' : World} {lo hi : Nat} {v : Value} {l : List TurnP} {T : Nat → Prop} (h : RT w lo hi v l) (c : Ch T w w') (hd : ∀ k, lo ≤ k → k < hi → ¬ T k) : RT w' lo hi v l := by
  obtain ⟨ds, A, cc, h1, h2, h3, h4, h5⟩ := h
  exact ⟨ds, A, cc, h1, h2, h3, h4.ch c hd, fun d hm => (h5 d hm).ch c hd⟩
theorem RT.ext {w w' : World} {lo hi : Nat} {v : Value} {l : List TurnP} (h : RT w lo hi v l) (c : Ext w w') : RT w' lo hi v l := h.ch c (fun _ _ _ t => t)
theorem RT.one {w : World} {lo hi : Nat} {v : Value} {l : List TurnP} (h : RT w lo hi v l) : v.oneCell' = true := by obtain ⟨_, _, _, _, rfl, _⟩ := h; rfl
theorem RT.wide {w : World} {lo hi lo' hi' : Nat} {v : Value} {l : List TurnP} (h : RT w lo hi v l) (h1 : lo' ≤ lo) (h2 : hi ≤ hi') (h3 : hi' ≤ w.heap.size) : RT w lo' hi' v l := by
  obtain ⟨ds, A, cc, g1, g2, g3, g4, g5⟩ := h
  exact ⟨ds, A, cc, g1, g2, g3, g4.wide h1 h2 h3, fun d hm => (g5 d hm).wide h1 h2 h3⟩
set_option maxHeartbeats 1000000 in
theorem szTurnS_k {w : World} {lo hi : Nat} {v : Value} {l : List TurnP} {left : Int} (h : RT w lo hi v l) (hlen : l.length ≤ 9223372036854775807) (h0 : 0 ≤ left) (h1 : left ≤ 1048576) (hd : ∀ p ∈ l, TnFit p) :
    Ret Tryz.prog 56 #[v, I left] w fun v w' => (v = I (-1) ∨ (v = I (left - l.length - totTn l) ∧ l.length + totTn l ≤ left)) ∧ Ext w w' := by
  obtain ⟨ds, A, c, rfl, rfl, _, hr, hok⟩ := h
  rw [List.length_map] at hlen ⊢
  refine Ret_enter Tryz.func56 rfl rfl rfl ?_
  repeat' (first | apply Jbq | apply Jbr | apply Jbs | apply Jbt | (apply Jcg; (first | exact Jaa rfl | exact Jab rfl | exact Jac Us.h rfl | exact Jad rfl rfl | exact Jap rfl rfl (by omega)); exact rfl))
  refine Jcx rfl (fun hb => ?_) (fun hb => ?_)
  · repeat' (first | apply Jbq | apply Jbr | apply Jbs | apply Jbt | apply Jbu | apply Jbv | (apply Jcg; exact Jab rfl; exact rfl))
    exact TR_of (res1 rfl rfl) ⟨.inl rfl, Ch.refl _ _⟩
  · repeat' (first | apply Jbq | apply Jbr | apply Jbs | apply Jbt | apply Jby | apply Jbz | (apply Jcg; exact Jab rfl; exact rfl))
    refine TC_loop (ι := Nat) (fun k => [(0, .slice A ds.length c), (1, I (left - ds.length - totTn ((ds.map TnP).take k))), (5, I k)]) (fun k w' => k ≤ ds.length ∧ ds.length + totTn ((ds.map TnP).take k) ≤ left ∧ Ext w w') (fun k => ds.length - k) 0
      (subEnv_cons rfl (subEnv_cons (congrArg (fun z => some (I z)) (by simp [totTn])) (subEnv_cons rfl (subEnv_nil _)))) ⟨Nat.zero_le _, by simp [totTn]; omega, Ch.refl _ _⟩ ?_
    intro k w2 ⟨hk, hle, e2⟩
    have hnn := totTn_nn ((ds.map TnP).take k)
    repeat' (first | apply Jbq | apply Jbr | apply Jbs | apply Jbt | (apply Jcg; (first | exact Jaa rfl | exact Jac Us.h rfl | exact Jad rfl rfl); exact rfl))
    refine Jcx rfl (fun hlt0 => ?_) (fun hge => ?_)
    · have hlt : k < ds.length := by omega
      obtain ⟨ad, rfl, hc⟩ := Rd.elem TnC_len (hr.ext e2) hlt
      have hmem := List.getElem_mem hlt
      have hdk := hd _ (List.mem_map_of_mem (f := TnP) hmem)
      have ht := totTn_take (l := ds.map TnP) (k := k) (by rw [List.length_map]; exact hlt)
      rw [List.getElem_map] at ht
      have hwn := TnW_nn (TnP ds[k])
      repeat' (first | apply Jbr | apply Jbs | apply Jbt | apply Jby | apply Jbz | (apply Jcg; (first | exact Jaa rfl | exact Jar Us.h Sz.h rfl rfl (by omega)); exact rfl) | refine Jcg (Pu_loadAgg (cs := TnC ds[k]) Us.h rfl Sz.h rfl (fun _ e j u hu => by rw [e]; exact hc j u hu)) rfl ?_)
      refine TL_call rfl en130 (szTurn_c ((hok _ hmem).ch e2 (fun _ _ _ t => t)) hdk (by omega) (by omega)) rfl rfl ?_
      rintro _ w3 ⟨hv, e3⟩
      rcases hv with rfl | ⟨rfl, hle3⟩
      · repeat' (first | apply Jbq | apply Jbr | apply Jbs | apply Jbt | apply Jbu | apply Jbv | apply Jbw | (refine Jce rfl ?_) | (apply Jcg; (first | exact Jaa rfl | exact Jab rfl | exact Jad rfl rfl); exact rfl))
        exact TR_of (res1 rfl rfl) ⟨.inl rfl, e2.ext e3⟩
      · repeat' (first | apply Jbq | apply Jbr | apply Jbs | apply Jbt | apply Jbx | apply Jbz | (apply Jcg; (first | exact Jaa rfl | exact Jab rfl | exact Jad rfl rfl | exact Jaf rfl rfl (by omega)); exact rfl) | (refine Jcx rfl (fun hb => ?_) (fun hb => ?_) <;> (try (exfalso; omega))))
        exact TN_round (k + 1) (subEnv_cons rfl (subEnv_cons (congrArg (fun z => some (I z)) (by omega)) (subEnv_cons rfl (subEnv_nil _)))) ⟨hlt, by omega, e2.ext e3⟩ (by omega)
    · obtain rfl : k = ds.length := by omega
      rw [List.take_of_length_le (by simp)] at *
      repeat' (first | apply Jbq | apply Jbr | apply Jbs | apply Jbt | apply Jbu | apply Jca | apply Jcb | apply Jcc | (apply Jcg; (first | exact Jaa rfl | exact Jab rfl); exact rfl))
      exact TR_of (res1 rfl rfl) ⟨.inr ⟨rfl, hle⟩, e2⟩
set_option maxHeartbeats 1000000 in
theorem toTurnS_k {w : World} {lo hi : Nat} {v : Value} {l : List TurnP} (h : RT w lo hi v l) (hl : l.length + totTn l ≤ 1048576) :
    Ret Tryz.prog 64 #[v] w fun v' w' => Ext w w' ∧ RT w' w.heap.size w'.heap.size v' l := by
  obtain ⟨ds, A, c, rfl, rfl, _, hr, hok⟩ := h
  have hnn := totTn_nn (ds.map TnP)
  rw [List.length_map] at hl
  refine Ret_enter Tryz.func64 rfl rfl rfl ?_
  repeat' (first | apply Jbq | apply Jbr | apply Jbs | apply Jbt | (apply Jcg; (first | exact Jaa rfl | exact Jab rfl | exact Jac Us.h rfl); exact rfl))
  refine TL_make Us.h Inf.h rfl rfl (by omega) (by omega) (by omega) rfl ?_
  intro w1 g e1 hg hz1 hown
  repeat' (first | apply Jbq | apply Jbr | apply Jbs | apply Jbt | apply Jby | (apply Jcg; exact Jab rfl; exact rfl))
  obtain ⟨xs, hxs⟩ : ∃ xs, xs = (madeCells (Value.cells (.agg #[.int .i64 0, .string ByteArray.empty, .string ByteArray.empty, .int .i64 0])) ((ds.length : Int).toNat * 4)).toList := ⟨_, rfl⟩
  rw [← hxs] at hown
  have hxl : xs.length = ds.length * 4 := by have := hown.len; simpa using this
  refine TC_loop (ι := Nat × List TnD) (fun x => [(0, .slice A ds.length c), (3, .slice (some ⟨g, 0, none⟩) ds.length ds.length), (4, I x.1)])
    (fun x w' => x.1 ≤ ds.length ∧ x.2.map TnP = (ds.map TnP).take x.1 ∧ x.2.length = x.1 ∧ Ext w w' ∧ Own w' g (g + 1) 121 4 (some ⟨g, 0, none⟩) ds.length ds.length (cellsL TnC x.2 ++ xs.drop (x.1 * 4)) ∧ ∀ d ∈ x.2, TnOk w' (g + 1) w'.heap.size d) (fun x => ds.length - x.1) (0, [])
    (subEnv_cons rfl (subEnv_cons rfl (subEnv_cons rfl (subEnv_nil _)))) ⟨Nat.zero_le _, by simp, rfl, e1, by simpa [cellsL] using hown, by simp⟩ ?_
  rintro ⟨k, ys⟩ w2 ⟨hk, hys, hyl, e2, hown2, hok2⟩
  simp only at hk hys hyl hown2 hok2
  repeat' (first | apply Jbq | apply Jbr | apply Jbs | apply Jbt | (apply Jcg; (first | exact Jaa rfl | exact Jac Us.h rfl | exact Jad rfl rfl); exact rfl))
  refine Jcx rfl (fun hlt0 => ?_) (fun hge => ?_)
  · have hlt : k < ds.length := by omega
    obtain ⟨ad, rfl, hc⟩ := Rd.elem TnC_len (hr.ext e2) hlt
    have hmem := List.getElem_mem hlt
    have hwk := totTn_mem (List.mem_map_of_mem (f := TnP) hmem)
    repeat' (first | apply Jbr | apply Jbs | apply Jbt | apply Jby | apply Jbz | (apply Jcg; (first | exact Jaa rfl | exact Jar Us.h Sz.h rfl rfl (by omega)); exact rfl) | refine Jcg (Pu_loadAgg (cs := TnC ds[k]) Us.h rfl Sz.h rfl (fun _ e j u hu => by rw [e]; exact hc j u hu)) rfl ?_)
    refine TL_call rfl en138 (toTurn_c ((hok _ hmem).ch e2 (fun _ _ _ t => t)) (by omega)) rfl rfl ?_
    rintro _ w3 ⟨d', rfl, hp3, e3, hok3⟩
    have hcl : (cellsL TnC ys).length = k * 4 := by rw [cellsL_length TnC_len, hyl]
    have hgl := hown2.hi_le
    have hs3 := e3.size
    repeat' ((apply Jcg; exact Jar Us.h Sz.h rfl rfl (by omega); exact rfl))
    refine TL_storeOwnAgg rfl (add0 g (k * 4)) rfl Sz.h hok3.one (hown2.ext e3) (by rw [TnC_len]; omega) ?_
    intro w4 c4 hz4 hown4
    rw [setL_app _ _ _ _ hcl (by rw [TnC_len, List.length_drop]; omega), List.drop_drop, TnC_len] at hown4
    repeat' (first | apply Jbq | apply Jbr | apply Jbt | apply Jbx | (apply Jcg; (first | exact Jaa rfl | exact Jab rfl | exact Jaf rfl rfl (by omega)); exact rfl))
    refine TN_round (k + 1, ys ++ [d']) (subEnv_cons rfl (subEnv_cons rfl (subEnv_cons rfl (subEnv_nil _)))) ⟨hlt, ?_, by simp [hyl], Ext.then_iv (e2.ext e3) c4 (by omega), ?_, ?_⟩ (by simp only; omega)
    · rw [List.map_append, hys, List.take_succ_eq_append_getElem (by rw [List.length_map]; exact hlt)]; simp [hp3]
    · rw [cellsL_append]
      have : cellsL TnC [d'] = TnC d' := by simp [cellsL]
      rw [this, Nat.succ_mul]
      exact hown4
    · intro x hx
      rcases List.mem_append.1 hx with hx | hx
      · exact (((hok2 x hx).ch e3 (fun _ _ _ t => t)).ch c4 (by intro j _ _; simp only [Iv]; omega)).wide (Nat.le_refl _) (by omega) (Nat.le_refl _)
      · rw [List.mem_singleton.1 hx]
        exact (hok3.ch c4 (by intro j _ _; simp only [Iv]; omega)).wide (by omega) (by omega) (Nat.le_refl _)
  · obtain rfl : k = ds.length := by omega
    rw [List.drop_eq_nil_of_le (by omega), List.append_nil] at hown2
    rw [List.take_of_length_le (by simp)] at hys
    repeat' (first | apply Jbq | apply Jbr | apply Jbs | apply Jbt | apply Jbu | apply Jca | apply Jcb | apply Jcc | (apply Jcg; (first | exact Jaa rfl | exact Jab rfl); exact rfl))
    have hh := hown2.hi_le
    refine TR_of (res1 rfl rfl) ⟨e2, ys, some ⟨g, 0, none⟩, ds.length, hys, by rw [hyl], by omega, ?_, fun d hm => (hok2 d hm).wide (by omega) (Nat.le_refl _) (Nat.le_refl _)⟩
    rw [hyl]
    exact hown2.rd.wide (by omega) hh (Nat.le_refl _)
set_option maxHeartbeats 1000000 in
theorem eqTurnS_k {w : World} {lo hi lo2 hi2 : Nat} {v v2 : Value} {l : List TurnP} (h : RT w lo hi v l) (h2 : RT w lo2 hi2 v2 l) (hl : l.length + totTn l ≤ 1048576) :
    Ret Tryz.prog 74 #[v, v2] w fun v' w' => v' = .bool true ∧ Ext w w' := by
  obtain ⟨ds, A, c, rfl, rfl, _, hr, hok⟩ := h
  obtain ⟨ds2, A2, c2, hm2, rfl, _, hr2, hok2⟩ := h2
  have hnn := totTn_nn (ds.map TnP)
  have hll : ds2.length = ds.length := by have := congrArg List.length hm2; simpa using this
  rw [List.length_map] at hl
  rw [hll] at hr2 ⊢
  refine Ret_enter Tryz.func74 rfl rfl rfl ?_
  repeat' (first | apply Jbq | apply Jbr | apply Jbs | apply Jbt | apply Jby | apply Jbz | (refine Jcf rfl ?_) | (apply Jcg; (first | exact Jbm rfl rfl | exact Jaa rfl | exact Jab rfl | exact Jac Us.h rfl); exact rfl))
  refine TC_loop (ι := Nat) (fun k => [(0, .slice A ds.length c), (1, .slice A2 ds.length c2), (5, I k)]) (fun k w' => k ≤ ds.length ∧ Ext w w') (fun k => ds.length - k) 0 (subEnv_cons rfl (subEnv_cons rfl (subEnv_cons rfl (subEnv_nil _)))) ⟨Nat.zero_le _, Ch.refl _ _⟩ ?_
  intro k w2 ⟨hk, e2⟩
  repeat' (first | apply Jbq | apply Jbr | apply Jbs | apply Jbt | (apply Jcg; (first | exact Jaa rfl | exact Jac Us.h rfl | exact Jad rfl rfl); exact rfl))
  refine Jcx rfl (fun hlt0 => ?_) (fun hge => ?_)
  · have hlt : k < ds.length := by omega
    have hlt2 : k < ds2.length := by omega
    obtain ⟨ad, rfl, hc⟩ := Rd.elem TnC_len (hr.ext e2) hlt
    obtain ⟨ad2, rfl, hc2⟩ := Rd.elem (l := ds2) TnC_len (by rw [hll]; exact hr2.ext e2) hlt2
    have hpk : TnP ds[k] = TnP ds2[k] := by
      have := congrArg (fun l => l[k]?) hm2
      simp only [List.getElem?_map, List.getElem?_eq_getElem hlt, List.getElem?_eq_getElem hlt2, Option.map_some, Option.some.injEq] at this
      exact this.symm
    have hwk := totTn_mem (List.mem_map_of_mem (f := TnP) (List.getElem_mem hlt))
    repeat' (first | apply Jbr | apply Jbs | apply Jby | apply Jbz)
    refine TC_any mixed rfl ?_
    intro w3 hE hz3
    have E3 := e2.ext hE
    (refine Jco 0 rfl (by kernel_rfl) (by kernel_rfl) (by kernel_rfl) (fun _ _ _ h => h) hE (by exact Jaa rfl) rfl ?_; refine Jco 1 rfl (by kernel_rfl) (by kernel_rfl) (by kernel_rfl) (fun _ _ _ h => h) hE (by exact Jaa rfl) rfl ?_; refine Jco 2 rfl (by kernel_rfl) (by kernel_rfl) (by kernel_rfl) (fun _ _ _ h => h) hE (by exact Jar Us.h Sz.h rfl rfl (by omega)) rfl ?_; refine Jco 3 rfl (by kernel_rfl) (by kernel_rfl) (by kernel_rfl) (fun _ _ _ h => h) hE (by exact Pu_loadAgg (cs := TnC ds[k]) Us.h rfl Sz.h rfl (fun w' e j u hu => Ext.cell e (hc j u hu))) rfl ?_; refine Jco 4 rfl (by kernel_rfl) (by kernel_rfl) (by kernel_rfl) (fun _ _ _ h => h) hE (by exact Jaa rfl) rfl ?_; refine Jco 5 rfl (by kernel_rfl) (by kernel_rfl) (by kernel_rfl) (fun _ _ _ h => h) hE (by exact Jaa rfl) rfl ?_; refine Jco 6 rfl (by kernel_rfl) (by kernel_rfl) (by kernel_rfl) (fun _ _ _ h => h) hE (by exact Jar Us.h Sz.h rfl rfl (by omega)) rfl ?_; refine Jco 7 rfl (by kernel_rfl) (by kernel_rfl) (by kernel_rfl) (fun _ _ _ h => h) hE (by exact Pu_loadAgg (cs := TnC ds2[k]) Us.h rfl Sz.h rfl (fun w' e j u hu => Ext.cell e (hc2 j u hu))) rfl ?_)
    refine TA_one 8 (by kernel_rfl) rfl ?_
    refine TL_call rfl en149 (eqTurn_c ((hok _ (List.getElem_mem hlt)).ch E3 (fun _ _ _ t => t)) ((hok2 _ (List.getElem_mem hlt2)).ch E3 (fun _ _ _ t => t)) hpk (by omega)) rfl rfl ?_
    rintro _ w4 ⟨rfl, e4⟩
    replace hE := hE.ext e4
    refine Jbq (TN_any hE ?_)
    (refine Jco 9 rfl (by kernel_rfl) (by kernel_rfl) (by kernel_rfl) (fun _ _ _ h => h) hE (by exact Jaj rfl) rfl ?_)
    refine TA_done (by kernel_rfl) ?_
    repeat' (first | apply Jbq | apply Jbr | apply Jbt | apply Jbx | apply Jbz | (refine Jcf rfl ?_) | (apply Jcg; (first | exact Jaa rfl | exact Jab rfl | exact Jaf rfl rfl (by omega)); exact rfl))
    exact TN_round (k + 1) (subEnv_cons rfl (subEnv_cons rfl (subEnv_cons rfl (subEnv_nil _)))) ⟨hlt, e2.ext hE⟩ (by omega)
  · repeat' (first | apply Jbq | apply Jbr | apply Jbs | apply Jbt | apply Jbu | apply Jca | apply Jcb | apply Jcc | (apply Jcg; exact Jab rfl; exact rfl))
    exact TR_of (res1 rfl rfl) ⟨rfl, e2⟩
end Go.Proofs.YtggaghghclomkaaGreat

/- Disks that can be read, and the laws' helpers on them. -/
namespace Go.Proofs.YtggaghghclomkaaGreat
open Go.RowKit
attribute [local irreducible] TL TC TN TX TR TQ TA Pu Ret

structure DiskP where
  room : Int
  fuse : Int
  next : Int
  nodes : List NodeP
  kept : List LinkP
  turns : List TurnP
def dskC (d : DiskP) (sn sk st : Value) : List Value := [I d.room, I d.fuse, I d.next, sn, sk, st]
def RDk (w : World) (lo hi : Nat) (d : DiskP) (sn sk st : Value) : Prop := RN w lo hi sn d.nodes ∧ RK w lo hi sk d.kept ∧ RT w lo hi st d.turns
def totD (d : DiskP) : Int := (d.nodes.length + totNd d.nodes) + (d.kept.length + totLk d.kept) + (d.turns.length + totTn d.turns)
def DiskP.fits (d : DiskP) : Prop := (-9223372036854775808 ≤ d.room ∧ d.room ≤ 9223372036854775807) ∧ (-9223372036854775808 ≤ d.fuse ∧ d.fuse ≤ 9223372036854775807) ∧ (-9223372036854775808 ≤ d.next ∧ d.next ≤ 9223372036854775807) ∧
  (d.nodes.length ≤ 9223372036854775807 ∧ ∀ p ∈ d.nodes, NdFit p) ∧ (d.kept.length ≤ 9223372036854775807 ∧ ∀ p ∈ d.kept, LkFit p) ∧ (d.turns.length ≤ 9223372036854775807 ∧ ∀ p ∈ d.turns, TnFit p)
theorem RDk.ch {w w' : World} {lo hi : Nat} {d : DiskP} {sn sk st : Value} {T : Nat → Prop} (h : RDk w lo hi d sn sk st) (c : Ch T w w') (hd : ∀ k, lo ≤ k → k < hi → ¬ T k) : RDk w' lo hi d sn sk st := ⟨h.1.ch c hd, h.2.1.ch c hd, h.2.2.ch c hd⟩
theorem RDk.ext {w w' : World} {lo hi : Nat} {d : DiskP} {sn sk st : Value} (h : RDk w lo hi d sn sk st) (c : Ext w w') : RDk w' lo hi d sn sk st := h.ch c (fun _ _ _ t => t)
theorem RDk.wide {w : World} {lo hi lo' hi' : Nat} {d : DiskP} {sn sk st : Value} (h : RDk w lo hi d sn sk st) (h1 : lo' ≤ lo) (h2 : hi ≤ hi') (h3 : hi' ≤ w.heap.size) : RDk w lo' hi' d sn sk st := ⟨h.1.wide h1 h2 h3, h.2.1.wide h1 h2 h3, h.2.2.wide h1 h2 h3⟩
theorem RDk.one {w : World} {lo hi : Nat} {d : DiskP} {sn sk st : Value} (h : RDk w lo hi d sn sk st) : (dskC d sn sk st).all (·.oneCell') = true := by
  simp only [dskC, List.all_cons, List.all_nil, h.1.one, h.2.1.one, h.2.2.one]; rfl
theorem totD_parts {d : DiskP} (h : totD d ≤ 1048576) : d.nodes.length + totNd d.nodes ≤ 1048576 ∧ d.kept.length + totLk d.kept ≤ 1048576 ∧ d.turns.length + totTn d.turns ≤ 1048576 := by
  have h1 := totNd_nn d.nodes
  have h2 := totLk_nn d.kept
  have h3 := totTn_nn d.turns
  unfold totD at h
  omega
set_option maxHeartbeats 1000000 in
theorem szDisk_c {w : World} {lo hi : Nat} {d : DiskP} {sn sk st : Value} {left : Int} (h : RDk w lo hi d sn sk st) (hf : d.fits) (h0 : 0 ≤ left) (h1 : left ≤ 1048576) :
    Ret Tryz.prog 11 #[.agg (dskC d sn sk st).toArray, I left] w fun v w' => (v = I (-1) ∨ (v = I (left - totD d) ∧ totD d ≤ left)) ∧ Ext w w' := by
  obtain ⟨_, _, _, ⟨f1, f2⟩, ⟨f3, f4⟩, ⟨f5, f6⟩⟩ := hf
  have n1 := totNd_nn d.nodes
  have n2 := totLk_nn d.kept
  have n3 := totTn_nn d.turns
  refine Ret_enter Tryz.func11 rfl rfl rfl ?_
  repeat' (first | apply Jbs | apply Jbt)
  refine TL_box (cs := dskC d sn sk st) rfl rfl ?_
  intro w1 g E hg hz hbk
  clear hg hz
  repeat' (first | apply Jbq | apply Jbr | apply Jbs | apply Jbt | (apply Jcg; (first | exact Jaa rfl | exact Jab rfl | (apply Jbl; exact Us.h; exact rfl; exact Sz.h; exact rfl)); exact rfl) | refine Jcg (Pu_load Fl.h rfl (fun _ e => by rw [e]; exact hbk.ld rfl)) rfl ?_)
  refine TL_call rfl en54 (szNodeS_k (h.1.ext E) f1 h0 h1 f2) rfl rfl ?_
  rintro _ w2 ⟨hv, e2⟩
  replace E := E.ext e2
  replace hbk := hbk.ext e2
  rcases hv with rfl | ⟨rfl, hle⟩
  · repeat' (first | apply Jbq | apply Jbr | apply Jbs | apply Jbt | apply Jbu | apply Jbv | (refine Jce rfl ?_) | (apply Jcg; (first | exact Jaa rfl | exact Jab rfl | exact Jad rfl rfl); exact rfl))
    exact TR_of (res1 rfl rfl) ⟨.inl rfl, E⟩
  repeat' (first | apply Jbq | apply Jbr | apply Jbs | apply Jbt | apply Jbz | (apply Jcg; (first | exact Jaa rfl | exact Jab rfl | exact Jad rfl rfl | (apply Jbl; exact Us.h; exact rfl; exact Sz.h; exact rfl)); exact rfl) | refine Jcg (Pu_load Fl.h rfl (fun _ e => by rw [e]; exact hbk.ld rfl)) rfl ?_ | (refine Jcx rfl (fun hb => ?_) (fun hb => ?_) <;> (try (exfalso; omega))))
  refine TL_call rfl en55 (szLinkS_k (h.2.1.ext E) f3 (by omega) (by omega) f4) rfl rfl ?_
  rintro _ w3 ⟨hv, e3⟩
  replace E := E.ext e3
  replace hbk := hbk.ext e3
  rcases hv with rfl | ⟨rfl, hle2⟩
  · repeat' (first | apply Jbq | apply Jbr | apply Jbs | apply Jbt | apply Jbu | apply Jbv | (refine Jce rfl ?_) | (apply Jcg; (first | exact Jaa rfl | exact Jab rfl | exact Jad rfl rfl); exact rfl))
    exact TR_of (res1 rfl rfl) ⟨.inl rfl, E⟩
  repeat' (first | apply Jbq | apply Jbr | apply Jbs | apply Jbt | apply Jbz | (apply Jcg; (first | exact Jaa rfl | exact Jab rfl | exact Jad rfl rfl | (apply Jbl; exact Us.h; exact rfl; exact Sz.h; exact rfl)); exact rfl) | refine Jcg (Pu_load Fl.h rfl (fun _ e => by rw [e]; exact hbk.ld rfl)) rfl ?_ | (refine Jcx rfl (fun hb => ?_) (fun hb => ?_) <;> (try (exfalso; omega))))
  refine TL_call rfl en56 (szTurnS_k (h.2.2.ext E) f5 (by omega) (by omega) f6) rfl rfl ?_
  rintro _ w4 ⟨hv, e4⟩
  replace E := E.ext e4
  rcases hv with rfl | ⟨rfl, hle3⟩
  · repeat' (first | apply Jbq | apply Jbr | apply Jbs | apply Jbt | apply Jbu | apply Jbv | (refine Jce rfl ?_) | (apply Jcg; (first | exact Jaa rfl | exact Jab rfl | exact Jad rfl rfl); exact rfl))
    exact TR_of (res1 rfl rfl) ⟨.inl rfl, E⟩
  repeat' (first | apply Jbq | apply Jbr | apply Jbs | apply Jbt | apply Jbu | apply Jbz | (apply Jcg; (first | exact Jaa rfl | exact Jab rfl | exact Jad rfl rfl); exact rfl) | (refine Jcx rfl (fun hb => ?_) (fun hb => ?_) <;> (try (exfalso; omega))))
  exact TR_of (res1 rfl rfl) ⟨.inr ⟨congrArg I (by unfold totD; omega), by unfold totD; omega⟩, E⟩
set_option maxHeartbeats 2000000 in
theorem toDisk_c {w : World} {lo hi : Nat} {d : DiskP} {sn sk st : Value} (h : RDk w lo hi d sn sk st) (hl : totD d ≤ 1048576) :
    Ret Tryz.prog 13 #[.agg (dskC d sn sk st).toArray] w fun v' w' => ∃ sn' sk' st', v' = .agg (dskC d sn' sk' st').toArray ∧ Ext w w' ∧ RDk w' w.heap.size w'.heap.size d sn' sk' st' := by
  obtain ⟨l1, l2, l3⟩ := totD_parts hl
  refine Ret_enter Tryz.func13 rfl rfl rfl ?_
  repeat' (first | apply Jbs | apply Jbt)
  refine TL_box (cs := dskC d sn sk st) rfl rfl ?_
  intro w1 g1 e1 hg1 hz1 hb1
  skip
  refine TL_alloc Zs.h rfl rfl ?_
  intro w2 g2 e2 hg2 hz2 hb2
  replace hb1 := hb1.ext e2
  repeat' (first | apply Jbq | apply Jbr | apply Jbs | apply Jbt)
  refine TL_alloc Zs.h rfl rfl ?_
  intro w3 g3 e3 hg3 hz3 hb3
  replace hb1 := hb1.ext e3
  replace hb2 := hb2.ext e3
  have E : Ext w w3 := (e1.ext e2).ext e3
  have hgw : w.heap.size ≤ g1 ∧ g1 < g2 ∧ g2 < g3 := by omega
  clear hg1 hg2 hg3 e1 e2 e3 hz1 hz2 hz3
  repeat' (first | apply Jbq | apply Jbr | apply Jbs | apply Jbt | (apply Jcg; (apply Jbl; exact Us.h; exact rfl; exact Sz.h; exact rfl); exact rfl) | refine Jcg (Pu_load Fl.h rfl (fun _ e => by rw [e]; exact hb1.ld rfl)) rfl ?_)
  refine TL_store rfl rfl Sz.h rfl hb3 rfl ?_
  clear hb3
  intro w4 c4 hz4 hb3
  replace hb1 := hb1.ch c4 (by simp only [Iv]; omega)
  replace hb2 := hb2.ch c4 (by simp only [Iv]; omega)
  replace E : Ext w w4 := Ext.then_iv E c4 (by omega)
  repeat' (first | apply Jbq | apply Jbr | apply Jbs | apply Jbt | (apply Jcg; (apply Jbl; exact Us.h; exact rfl; exact Sz.h; exact rfl); exact rfl) | refine Jcg (Pu_load Fl.h rfl (fun _ e => by rw [e]; exact hb1.ld rfl)) rfl ?_)
  refine TL_store rfl rfl Sz.h rfl hb3 rfl ?_
  clear hb3
  intro w5 c5 hz5 hb3
  replace hb1 := hb1.ch c5 (by simp only [Iv]; omega)
  replace hb2 := hb2.ch c5 (by simp only [Iv]; omega)
  replace E : Ext w w5 := Ext.then_iv E c5 (by omega)
  repeat' (first | apply Jbq | apply Jbr | apply Jbs | apply Jbt | (apply Jcg; (apply Jbl; exact Us.h; exact rfl; exact Sz.h; exact rfl); exact rfl) | refine Jcg (Pu_load Fl.h rfl (fun _ e => by rw [e]; exact hb1.ld rfl)) rfl ?_)
  refine TL_store rfl rfl Sz.h rfl hb3 rfl ?_
  clear hb3
  intro w6 c6 hz6 hb3
  replace hb1 := hb1.ch c6 (by simp only [Iv]; omega)
  replace hb2 := hb2.ch c6 (by simp only [Iv]; omega)
  replace E : Ext w w6 := Ext.then_iv E c6 (by omega)
  have hlt := hb3.lt
  repeat' (first | apply Jbq | apply Jbr | apply Jbs | apply Jbt | (apply Jcg; (apply Jbl; exact Us.h; exact rfl; exact Sz.h; exact rfl); exact rfl) | refine Jcg (Pu_load Fl.h rfl (fun _ e => by rw [e]; exact hb1.ld rfl)) rfl ?_)
  refine TL_call rfl en62 (toNodeS_k (h.1.ext E) l1) rfl rfl ?_
  intro sn2 w7 ⟨e7, ho7⟩
  replace hb1 := hb1.ext e7
  replace hb2 := hb2.ext e7
  replace hb3 := hb3.ext e7
  have hs6 := E.size
  have hs7 := e7.size
  replace E := E.ext e7
  repeat' ((apply Jcg; (apply Jbl; exact Us.h; exact rfl; exact Sz.h; exact rfl); exact rfl))
  refine TL_store rfl rfl Sz.h ho7.one hb3 rfl ?_
  clear hb3
  intro w8 c8 hz8 hb3
  replace hb1 := hb1.ch c8 (by simp only [Iv]; omega)
  replace hb2 := hb2.ch c8 (by simp only [Iv]; omega)
  replace ho7 := ho7.ch c8 (by intro k _ _; simp only [Iv]; omega)
  replace E : Ext w w8 := Ext.then_iv E c8 (by omega)
  repeat' (first | apply Jbq | apply Jbr | apply Jbs | apply Jbt | (apply Jcg; (apply Jbl; exact Us.h; exact rfl; exact Sz.h; exact rfl); exact rfl) | refine Jcg (Pu_load Fl.h rfl (fun _ e => by rw [e]; exact hb1.ld rfl)) rfl ?_)
  refine TL_call rfl en63 (toLinkS_k (h.2.1.ext E) l2) rfl rfl ?_
  intro sk2 w9 ⟨e9, ho9⟩
  replace hb1 := hb1.ext e9
  replace hb2 := hb2.ext e9
  replace hb3 := hb3.ext e9
  replace ho7 := ho7.ext e9
  have hs9 := e9.size
  replace E := E.ext e9
  repeat' ((apply Jcg; (apply Jbl; exact Us.h; exact rfl; exact Sz.h; exact rfl); exact rfl))
  refine TL_store rfl rfl Sz.h ho9.one hb3 rfl ?_
  clear hb3
  intro w10 c10 hz10 hb3
  replace hb1 := hb1.ch c10 (by simp only [Iv]; omega)
  replace hb2 := hb2.ch c10 (by simp only [Iv]; omega)
  replace ho7 := ho7.ch c10 (by intro k _ _; simp only [Iv]; omega)
  replace ho9 := ho9.ch c10 (by intro k _ _; simp only [Iv]; omega)
  replace E : Ext w w10 := Ext.then_iv E c10 (by omega)
  repeat' (first | apply Jbq | apply Jbr | apply Jbs | apply Jbt | (apply Jcg; (apply Jbl; exact Us.h; exact rfl; exact Sz.h; exact rfl); exact rfl) | refine Jcg (Pu_load Fl.h rfl (fun _ e => by rw [e]; exact hb1.ld rfl)) rfl ?_)
  refine TL_call rfl en64 (toTurnS_k (h.2.2.ext E) l3) rfl rfl ?_
  intro st2 w11 ⟨e11, ho11⟩
  replace hb2 := hb2.ext e11
  replace hb3 := hb3.ext e11
  replace ho7 := ho7.ext e11
  replace ho9 := ho9.ext e11
  have hs11 := e11.size
  replace E := E.ext e11
  repeat' ((apply Jcg; (apply Jbl; exact Us.h; exact rfl; exact Sz.h; exact rfl); exact rfl))
  refine TL_store rfl rfl Sz.h ho11.one hb3 rfl ?_
  clear hb3
  intro w12 c12 hz12 hb3
  replace hb2 := hb2.ch c12 (by simp only [Iv]; omega)
  replace ho7 := ho7.ch c12 (by intro k _ _; simp only [Iv]; omega)
  replace ho9 := ho9.ch c12 (by intro k _ _; simp only [Iv]; omega)
  replace ho11 := ho11.ch c12 (by intro k _ _; simp only [Iv]; omega)
  replace E : Ext w w12 := Ext.then_iv E c12 (by omega)
  repeat' (first | apply Jbq | apply Jbr | apply Jbs | apply Jbt)
  refine Jcg (Pu_loadAgg (cs := dskC d sn2 sk2 st2) Us.h rfl Sz.h rfl (fun _ e j u hu => by rw [e, add0, hb3.cell]; exact hu)) rfl ?_
  skip
  refine TL_storeAgg rfl rfl Sz.h (by show ((dskC d sn2 sk2 st2).all (·.oneCell')) = true; simp only [dskC, List.all_cons, List.all_nil, ho7.one, ho9.one, ho11.one]; rfl) hb2 rfl ?_
  clear hb2
  intro w13 c13 hz13 hb2
  replace ho7 := ho7.ch c13 (by intro k _ _; simp only [Iv]; omega)
  replace ho9 := ho9.ch c13 (by intro k _ _; simp only [Iv]; omega)
  replace ho11 := ho11.ch c13 (by intro k _ _; simp only [Iv]; omega)
  repeat' (first | apply Jbq | apply Jbr | apply Jbu)
  exact TR_of (resA rfl rfl hb2 Us.h rfl Sz.h) ⟨sn2, sk2, st2, rfl, Ext.then_iv E c13 (by omega), ho7.wide (by omega) (by omega) (Nat.le_refl _), ho9.wide (by omega) (by omega) (Nat.le_refl _), ho11.wide (by omega) (by omega) (Nat.le_refl _)⟩
set_option maxHeartbeats 1000000 in
theorem eqDisk_c {w : World} {lo hi lo2 hi2 : Nat} {d : DiskP} {sn sk st sn2 sk2 st2 : Value} (h : RDk w lo hi d sn sk st) (h2 : RDk w lo2 hi2 d sn2 sk2 st2) (hl : totD d ≤ 1048576) :
    Ret Tryz.prog 16 #[.agg (dskC d sn sk st).toArray, .agg (dskC d sn2 sk2 st2).toArray] w fun v' w' => v' = .bool true ∧ Ext w w' := by
  obtain ⟨l1, l2, l3⟩ := totD_parts hl
  refine Ret_enter Tryz.func16 rfl rfl rfl ?_
  repeat' (first | apply Jbs | apply Jbt)
  refine TL_box (cs := dskC d sn sk st) rfl rfl ?_
  intro w1 g1 e1 hg1 hz1 hb1
  skip
  refine TL_box (cs := dskC d sn2 sk2 st2) rfl rfl ?_
  intro w2 g2 e2 hg2 hz2 hb2
  replace hb1 := hb1.ext e2
  have E := e1.ext e2
  repeat' (first | apply Jbq | apply Jbr | apply Jbs | apply Jbt | apply Jbz | (refine Jcf rfl ?_) | (apply Jcg; (first | exact Jbm rfl rfl | exact Jab rfl | (apply Jbl; exact Us.h; exact rfl; exact Sz.h; exact rfl)); exact rfl) | refine Jcg (Pu_load Fl.h rfl (fun _ e => by rw [e]; exact hb1.ld rfl)) rfl ?_ | refine Jcg (Pu_load Fl.h rfl (fun _ e => by rw [e]; exact hb2.ld rfl)) rfl ?_)
  refine TL_call rfl en72 (eqNodeS_k (h.1.ext E) (h2.1.ext E) l1) rfl rfl ?_
  rintro _ w3 ⟨rfl, e3⟩
  replace hb1 := hb1.ext e3
  replace hb2 := hb2.ext e3
  replace E := E.ext e3
  repeat' (first | apply Jbq | apply Jbr | apply Jbs | apply Jbt | apply Jbz | (refine Jcf rfl ?_) | (apply Jcg; (first | exact Jaj rfl | (apply Jbl; exact Us.h; exact rfl; exact Sz.h; exact rfl)); exact rfl) | refine Jcg (Pu_load Fl.h rfl (fun _ e => by rw [e]; exact hb1.ld rfl)) rfl ?_ | refine Jcg (Pu_load Fl.h rfl (fun _ e => by rw [e]; exact hb2.ld rfl)) rfl ?_)
  refine TL_call rfl en73 (eqLinkS_k (h.2.1.ext E) (h2.2.1.ext E) l2) rfl rfl ?_
  rintro _ w4 ⟨rfl, e4⟩
  replace hb1 := hb1.ext e4
  replace hb2 := hb2.ext e4
  replace E := E.ext e4
  repeat' (first | apply Jbq | apply Jbr | apply Jbs | apply Jbt | apply Jbz | (refine Jcf rfl ?_) | (apply Jcg; (first | exact Jaj rfl | (apply Jbl; exact Us.h; exact rfl; exact Sz.h; exact rfl)); exact rfl) | refine Jcg (Pu_load Fl.h rfl (fun _ e => by rw [e]; exact hb1.ld rfl)) rfl ?_ | refine Jcg (Pu_load Fl.h rfl (fun _ e => by rw [e]; exact hb2.ld rfl)) rfl ?_)
  refine TL_call rfl en74 (eqTurnS_k (h.2.2.ext E) (h2.2.2.ext E) l3) rfl rfl ?_
  rintro _ w5 ⟨rfl, e5⟩
  repeat' (first | apply Jbq | apply Jbr | apply Jbs | apply Jbt | apply Jbu | apply Jbz | (refine Jcf rfl ?_) | (apply Jcg; (first | exact Jab rfl | exact Jaj rfl); exact rfl))
  exact TR_of (res1 rfl rfl) ⟨rfl, E.ext e5⟩
end Go.Proofs.YtggaghghclomkaaGreat

/- What a disk's argument looks like in memory. No condition. -/
namespace Go.Proofs.YtggaghghclomkaaGreat
open Go.RowKit Go.ChangeShapes Go.WideShapes Go.Deep
section
variable {H : Type} {enc : TypeId × Value → H} {P : Program} {w : World} {base : Nat} {spare : Nat → Bool} {held : Bool} {t e : TypeId} {fuel : Nat} {v : Value} {x : DataW H × List MemPlace}
theorem cell_node {cs : List Value} {f0 f1 f2 : Field} {e8 : TypeId} (he : P.underlying e = some (.struct #[f0, f1, f2])) (hc : P.cellsOf e = 3) (h0 : f0.offset = 0) (h1 : f1.offset = 1) (h2 : f2.offset = 2)
    (t0 : P.underlying f0.type = some (.int .i64)) (t1 : P.underlying f1.type = some (.slice e8)) (t2 : P.underlying f2.type = some (.slice e8)) (t8 : P.underlying e8 = some (.int .u8)) (c8 : P.cellsOf e8 = 1)
    (c0 : P.cellsOf f0.type = 1) (c1 : P.cellsOf f1.type = 1) (c2 : P.cellsOf f2.type = 1)
    (h : DataW.trod enc P w base spare held fuel e cs = some x) : ∃ d : Nd, cs = NdC d ∧ NdOk w 0 w.heap.size d ∧ NdFit (NdP d) := by
  have hl := (fld_len he h).trans hc
  obtain ⟨y0, n0, g0⟩ := fld (j := 0) he h rfl h0 c0
  obtain ⟨y1, n1, g1⟩ := fld (j := 1) he h rfl h1 c1
  obtain ⟨y2, n2, g2⟩ := fld (j := 2) he h rfl h2 c2
  obtain ⟨a, e0, ba⟩ := cell_int t0 g0
  match cs, hl with
  | [u0, u1, u2], _ =>
    simp at e0 g1 g2
    obtain ⟨A, c, s, hv, m, b, R⟩ := arg_bytes t1 t8 c8 g1
    obtain ⟨A2, c2', s2, hv2, m2, b2, R2⟩ := arg_bytes t2 t8 c8 g2
    exact ⟨⟨a, s, s2, u1, u2⟩, by rw [e0]; rfl, ⟨⟨A, c, hv, m, R⟩, ⟨A2, c2', hv2, m2, R2⟩⟩, by simp only [NdP]; omega, by simp only [NdP]; omega⟩
theorem cell_link {cs : List Value} {f0 f1 : Field} (he : P.underlying e = some (.struct #[f0, f1])) (hc : P.cellsOf e = 2) (h0 : f0.offset = 0) (h1 : f1.offset = 1)
    (t0 : P.underlying f0.type = some .string) (t1 : P.underlying f1.type = some (.int .i64)) (c0 : P.cellsOf f0.type = 1) (c1 : P.cellsOf f1.type = 1)
    (h : DataW.trod enc P w base spare held fuel e cs = some x) : ∃ d : LkD, cs = LkC d ∧ LkOk w 0 w.heap.size d ∧ LkFit (LkP d) := by
  have hl := (fld_len he h).trans hc
  obtain ⟨y0, n0, g0⟩ := fld (j := 0) he h rfl h0 c0
  obtain ⟨y1, n1, g1⟩ := fld (j := 1) he h rfl h1 c1
  obtain ⟨s, e0, bs⟩ := cell_str t0 g0
  obtain ⟨a, e1, ba⟩ := cell_int t1 g1
  match cs, hl with
  | [u0, u1], _ =>
    simp at e0 e1
    exact ⟨⟨s, a⟩, by rw [e0, e1]; rfl, trivial, bs, ba⟩
theorem cell_turn {cs : List Value} {f0 f1 f2 f3 : Field} (he : P.underlying e = some (.struct #[f0, f1, f2, f3])) (hc : P.cellsOf e = 4) (h0 : f0.offset = 0) (h1 : f1.offset = 1) (h2 : f2.offset = 2) (h3 : f3.offset = 3)
    (t0 : P.underlying f0.type = some (.int .i64)) (t1 : P.underlying f1.type = some .string) (t2 : P.underlying f2.type = some .string) (t3 : P.underlying f3.type = some (.int .i64))
    (c0 : P.cellsOf f0.type = 1) (c1 : P.cellsOf f1.type = 1) (c2 : P.cellsOf f2.type = 1) (c3 : P.cellsOf f3.type = 1)
    (h : DataW.trod enc P w base spare held fuel e cs = some x) : ∃ d : TnD, cs = TnC d ∧ TnOk w 0 w.heap.size d ∧ TnFit (TnP d) := by
  have hl := (fld_len he h).trans hc
  obtain ⟨y0, n0, g0⟩ := fld (j := 0) he h rfl h0 c0
  obtain ⟨y1, n1, g1⟩ := fld (j := 1) he h rfl h1 c1
  obtain ⟨y2, n2, g2⟩ := fld (j := 2) he h rfl h2 c2
  obtain ⟨y3, n3, g3⟩ := fld (j := 3) he h rfl h3 c3
  obtain ⟨a, e0, ba⟩ := cell_int t0 g0
  obtain ⟨s, e1, bs⟩ := cell_str t1 g1
  obtain ⟨s2, e2, bs2⟩ := cell_str t2 g2
  obtain ⟨a3, e3, ba3⟩ := cell_int t3 g3
  match cs, hl with
  | [u0, u1, u2, u3], _ =>
    simp at e0 e1 e2 e3
    exact ⟨⟨a, s, s2, a3⟩, by rw [e0, e1, e2, e3]; rfl, trivial, bs, bs2, ba3⟩
theorem cell_disk {cs : List Value} {f0 f1 f2 f3 f4 f5 : Field} {eN eK eT : TypeId} (he : P.underlying e = some (.struct #[f0, f1, f2, f3, f4, f5])) (hc : P.cellsOf e = 6) (h0 : f0.offset = 0) (h1 : f1.offset = 1) (h2 : f2.offset = 2) (h3 : f3.offset = 3) (h4 : f4.offset = 4) (h5 : f5.offset = 5)
    (t0 : P.underlying f0.type = some (.int .i64)) (t1 : P.underlying f1.type = some (.int .i64)) (t2 : P.underlying f2.type = some (.int .i64)) (t3 : P.underlying f3.type = some (.slice eN)) (t4 : P.underlying f4.type = some (.slice eK)) (t5 : P.underlying f5.type = some (.slice eT))
    (c0 : P.cellsOf f0.type = 1) (c1 : P.cellsOf f1.type = 1) (c2 : P.cellsOf f2.type = 1) (c3 : P.cellsOf f3.type = 1) (c4 : P.cellsOf f4.type = 1) (c5 : P.cellsOf f5.type = 1) (cN : P.cellsOf eN = 3) (cK : P.cellsOf eK = 2) (cT : P.cellsOf eT = 4)
    (hN : ∀ n cs x, DataW.trod enc P w base spare held n eN cs = some x → ∃ d : Nd, cs = NdC d ∧ NdOk w 0 w.heap.size d ∧ NdFit (NdP d))
    (hK : ∀ n cs x, DataW.trod enc P w base spare held n eK cs = some x → ∃ d : LkD, cs = LkC d ∧ LkOk w 0 w.heap.size d ∧ LkFit (LkP d))
    (hT : ∀ n cs x, DataW.trod enc P w base spare held n eT cs = some x → ∃ d : TnD, cs = TnC d ∧ TnOk w 0 w.heap.size d ∧ TnFit (TnP d))
    (h : DataW.trod enc P w base spare held fuel e cs = some x) : ∃ (d : DiskP) (sn sk st : Value), cs = dskC d sn sk st ∧ d.fits ∧ RDk w 0 w.heap.size d sn sk st := by
  have hl := (fld_len he h).trans hc
  obtain ⟨y0, n0, g0⟩ := fld (j := 0) he h rfl h0 c0
  obtain ⟨y1, n1, g1⟩ := fld (j := 1) he h rfl h1 c1
  obtain ⟨y2, n2, g2⟩ := fld (j := 2) he h rfl h2 c2
  obtain ⟨y3, n3, g3⟩ := fld (j := 3) he h rfl h3 c3
  obtain ⟨y4, n4, g4⟩ := fld (j := 4) he h rfl h4 c4
  obtain ⟨y5, n5, g5⟩ := fld (j := 5) he h rfl h5 c5
  obtain ⟨a0, e0, b0⟩ := cell_int t0 g0
  obtain ⟨a1, e1, b1⟩ := cell_int t1 g1
  obtain ⟨a2, e2, b2⟩ := cell_int t2 g2
  match cs, hl with
  | [u0, u1, u2, u3, u4, u5], _ =>
    simp at e0 e1 e2 g3 g4 g5
    obtain ⟨A3, k3, l3, v3, m3, q3, R3, z3⟩ := arg_rows (f := NdC) (s := 3) NdC_len (by omega) t3 cN hN g3
    obtain ⟨A4, k4, l4, v4, m4, q4, R4, z4⟩ := arg_rows (f := LkC) (s := 2) LkC_len (by omega) t4 cK hK g4
    obtain ⟨A5, k5, l5, v5, m5, q5, R5, z5⟩ := arg_rows (f := TnC) (s := 4) TnC_len (by omega) t5 cT hT g5
    refine ⟨⟨a0, a1, a2, l3.map NdP, l4.map LkP, l5.map TnP⟩, u3, u4, u5, by rw [e0, e1, e2]; rfl, ⟨b0, b1, b2, ⟨by simp only [List.length_map]; omega, ?_⟩, ⟨by simp only [List.length_map]; omega, ?_⟩, ⟨by simp only [List.length_map]; omega, ?_⟩⟩,
      ⟨l3, A3, k3, rfl, v3, m3, R3, fun d hd => (z3 d hd).1⟩, ⟨l4, A4, k4, rfl, v4, m4, R4, fun d hd => (z4 d hd).1⟩, ⟨l5, A5, k5, rfl, v5, m5, R5, fun d hd => (z5 d hd).1⟩⟩
    · intro p hp
      obtain ⟨d, hd, rfl⟩ := List.mem_map.1 hp
      exact (z3 d hd).2
    · intro p hp
      obtain ⟨d, hd, rfl⟩ := List.mem_map.1 hp
      exact (z4 d hd).2
    · intro p hp
      obtain ⟨d, hd, rfl⟩ := List.mem_map.1 hp
      exact (z5 d hd).2
end
end Go.Proofs.YtggaghghclomkaaGreat
