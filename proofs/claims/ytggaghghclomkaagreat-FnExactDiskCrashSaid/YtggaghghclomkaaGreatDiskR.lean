/- Nodes, links and turns of a disk that can be read, and the laws' helpers on them. -/
import Derived.Test.YtggaghghclomkaaGreatRowsL
import Derived.Test.YtggaghghclomkaaGreatKind
import Derived.Test.YtggaghghclomkaaGreatPure
namespace Go.Proofs.YtggaghghclomkaaGreat
open Go.RowKit
attribute [local irreducible] TL TC TN TX TR TQ TA Pu Ret

theorem setL_app : ∀ (us ys zs : List Value) (o : Nat), ys.length = o → us.length ≤ zs.length → setL (ys ++ zs) o us = ys ++ us ++ zs.drop us.length
  | [], ys, zs, o, _, _ => by simp [setL]
  | v :: r, ys, [], o, _, h => by simp at h
  | v :: r, ys, z :: zs, o, ho, h => by
    subst ho
    rw [setL, List.set_append_right _ _ (Nat.le_refl _), Nat.sub_self, List.set_cons_zero, show ys ++ v :: zs = (ys ++ [v]) ++ zs by simp, setL_app r (ys ++ [v]) zs _ (by simp) (by simpa using h)]
    simp
/-- A node's value: its contents and the slices that bear them. -/
structure Nd where
  id : Int
  body : List UInt8
  safe : List UInt8
  vb : Value
  vs : Value
abbrev NodeP := Int × List UInt8 × List UInt8
def NdC (d : Nd) : List Value := [I d.id, d.vb, d.vs]
def NdP (d : Nd) : NodeP := (d.id, d.body, d.safe)
def NdOk (w : World) (lo hi : Nat) (d : Nd) : Prop := RB w lo hi d.vb d.body ∧ RB w lo hi d.vs d.safe
def NdW (p : NodeP) : Int := p.2.1.length + p.2.2.length
def NdFit (p : NodeP) : Prop := p.2.1.length ≤ 9223372036854775807 ∧ p.2.2.length ≤ 9223372036854775807
structure LkD where
  name : List UInt8
  id : Int
abbrev LinkP := LkD
def LkC (d : LkD) : List Value := [S d.name, I d.id]
def LkP (d : LkD) : LinkP := d
def LkOk (_w : World) (_lo _hi : Nat) (_d : LkD) : Prop := True
def LkW (p : LinkP) : Int := p.name.length
def LkFit (p : LinkP) : Prop := p.name.length ≤ 9223372036854775807 ∧ (-9223372036854775808 ≤ p.id ∧ p.id ≤ 9223372036854775807)
structure TnD where
  kind : Int
  name : List UInt8
  to : List UInt8
  id : Int
abbrev TurnP := TnD
def TnC (d : TnD) : List Value := [I d.kind, S d.name, S d.to, I d.id]
def TnP (d : TnD) : TurnP := d
def TnOk (_w : World) (_lo _hi : Nat) (_d : TnD) : Prop := True
def TnW (p : TurnP) : Int := p.name.length + p.to.length
def TnFit (p : TurnP) : Prop := p.name.length ≤ 9223372036854775807 ∧ p.to.length ≤ 9223372036854775807 ∧ (-9223372036854775808 ≤ p.id ∧ p.id ≤ 9223372036854775807)
theorem NdOk.ch {w w' : World} {lo hi : Nat} {d : Nd} {T : Nat → Prop} (h : NdOk w lo hi d) (c : Ch T w w') (hd : ∀ k, lo ≤ k → k < hi → ¬ T k) : NdOk w' lo hi d := ⟨h.1.ch c hd, h.2.ch c hd⟩
theorem LkOk.ch {w w' : World} {lo hi : Nat} {d : LkD} {T : Nat → Prop} (_h : LkOk w lo hi d) (_c : Ch T w w') (_hd : ∀ k, lo ≤ k → k < hi → ¬ T k) : LkOk w' lo hi d := trivial
theorem TnOk.ch {w w' : World} {lo hi : Nat} {d : TnD} {T : Nat → Prop} (_h : TnOk w lo hi d) (_c : Ch T w w') (_hd : ∀ k, lo ≤ k → k < hi → ¬ T k) : TnOk w' lo hi d := trivial
theorem RB.wide {w : World} {lo hi lo' hi' : Nat} {v : Value} {s : List UInt8} (h : RB w lo hi v s) (h1 : lo' ≤ lo) (h2 : hi ≤ hi') (h3 : hi' ≤ w.heap.size) : RB w lo' hi' v s := by
  obtain ⟨A, c, e, hc, hr⟩ := h
  exact ⟨A, c, e, hc, hr.wide h1 h2 h3⟩
theorem NdOk.wide {w : World} {lo hi lo' hi' : Nat} {d : Nd} (h : NdOk w lo hi d) (h1 : lo' ≤ lo) (h2 : hi ≤ hi') (h3 : hi' ≤ w.heap.size) : NdOk w lo' hi' d := ⟨h.1.wide h1 h2 h3, h.2.wide h1 h2 h3⟩
theorem LkOk.wide {w : World} {lo hi lo' hi' : Nat} {d : LkD} (_h : LkOk w lo hi d) (_h1 : lo' ≤ lo) (_h2 : hi ≤ hi') (_h3 : hi' ≤ w.heap.size) : LkOk w lo' hi' d := trivial
theorem TnOk.wide {w : World} {lo hi lo' hi' : Nat} {d : TnD} (_h : TnOk w lo hi d) (_h1 : lo' ≤ lo) (_h2 : hi ≤ hi') (_h3 : hi' ≤ w.heap.size) : TnOk w lo' hi' d := trivial
theorem RB.one {w : World} {lo hi : Nat} {v : Value} {s : List UInt8} (h : RB w lo hi v s) : v.oneCell' = true := by obtain ⟨A, c, rfl, _⟩ := h; rfl
theorem NdOk.one {w : World} {lo hi : Nat} {d : Nd} (h : NdOk w lo hi d) : (NdC d).all (·.oneCell') = true := by
  simp only [NdC, List.all_cons, List.all_nil, h.1.one, h.2.one]; rfl
theorem LkOk.one {w : World} {lo hi : Nat} {d : LkD} (_h : LkOk w lo hi d) : (LkC d).all (·.oneCell') = true := rfl
theorem TnOk.one {w : World} {lo hi : Nat} {d : TnD} (_h : TnOk w lo hi d) : (TnC d).all (·.oneCell') = true := rfl
theorem szByteS_n {w : World} {lo hi : Nat} {v : Value} {s : List UInt8} {left : Int} (h : RB w lo hi v s) (h0 : -1 ≤ left) (h1 : left ≤ 1048576) (hl : s.length ≤ 9223372036854775807) :
    Ret Tryz.prog 81 #[v, I left] w fun v w' => (v = I (-1) ∨ (v = I (left - s.length) ∧ s.length ≤ left)) ∧ w = w' := by
  obtain ⟨A, c, rfl, _, hr⟩ := h
  refine Ret_enter Tryz.func81 rfl rfl rfl ?_
  repeat' (first | apply Jbq | apply Jbr | apply Jbs | apply Jbt | apply Jbu | apply Jbv | apply Jbz | (apply Jcg; (first | exact Jaa rfl | exact Jab rfl | exact Jac Us.h rfl | exact Jad rfl rfl | exact Jap rfl rfl (by omega)); exact rfl) | (refine Jcx rfl (fun hb => ?_) (fun hb => ?_) <;> (try (exfalso; omega))))
  · exact TR_of (res1 rfl rfl) ⟨.inl rfl, rfl⟩
  · exact TR_of (res1 rfl rfl) ⟨.inr ⟨rfl, by omega⟩, rfl⟩
theorem szNode_c {w : World} {lo hi : Nat} {d : Nd} {left : Int} (h : NdOk w lo hi d) (hf : NdFit (NdP d)) (h0 : 0 ≤ left) (h1 : left ≤ 1048576) :
    Ret Tryz.prog 128 #[.agg (NdC d).toArray, I left] w fun v w' => (v = I (-1) ∨ (v = I (left - NdW (NdP d)) ∧ NdW (NdP d) ≤ left)) ∧ Ext w w' := by
  refine Ret_enter Tryz.func128 rfl rfl rfl ?_
  repeat' (first | apply Jbs | apply Jbt)
  refine TL_box (cs := NdC d) rfl rfl ?_
  intro w1 g e1 hg hz hbk
  clear hg hz
  repeat' (first | apply Jbq | apply Jbr | apply Jbs | apply Jbt | (apply Jcg; (first | exact Jaa rfl | exact Jab rfl | (apply Jbl; exact Us.h; exact rfl; exact Sz.h; exact rfl)); exact rfl) | refine Jcg (Pu_load Fl.h rfl (fun _ e => by rw [e]; exact hbk.ld rfl)) rfl ?_)
  refine TL_call rfl en81 (szByteS_n (h.1.ext e1) (by omega) h1 hf.1) rfl rfl ?_
  rintro _ _ ⟨h2, rfl⟩
  rcases h2 with rfl | ⟨rfl, hle⟩
  · repeat' (first | apply Jbq | apply Jbr | apply Jbs | apply Jbt | apply Jbu | apply Jbv | (refine Jce rfl ?_) | (apply Jcg; (first | exact Jaa rfl | exact Jab rfl | exact Jad rfl rfl); exact rfl))
    exact TR_of (res1 rfl rfl) ⟨.inl rfl, e1⟩
  · repeat' (first | apply Jbq | apply Jbr | apply Jbs | apply Jbt | apply Jbz | (apply Jcg; (first | exact Jaa rfl | exact Jab rfl | exact Jad rfl rfl | (apply Jbl; exact Us.h; exact rfl; exact Sz.h; exact rfl)); exact rfl) | refine Jcg (Pu_load Fl.h rfl (fun _ e => by rw [e]; exact hbk.ld rfl)) rfl ?_ | (refine Jcx rfl (fun hb => ?_) (fun hb => ?_) <;> (try (exfalso; omega))))
    refine TL_call rfl en81 (szByteS_n (h.2.ext e1) (by omega) (by omega) hf.2) rfl rfl ?_
    rintro _ _ ⟨h2, rfl⟩
    rcases h2 with rfl | ⟨rfl, hle2⟩
    · repeat' (first | apply Jbq | apply Jbr | apply Jbs | apply Jbt | apply Jbu | apply Jbv | (refine Jce rfl ?_) | (apply Jcg; (first | exact Jaa rfl | exact Jab rfl | exact Jad rfl rfl); exact rfl))
      exact TR_of (res1 rfl rfl) ⟨.inl rfl, e1⟩
    · repeat' (first | apply Jbq | apply Jbr | apply Jbs | apply Jbt | apply Jbu | apply Jbz | (apply Jcg; (first | exact Jaa rfl | exact Jab rfl | exact Jad rfl rfl); exact rfl) | (refine Jcx rfl (fun hb => ?_) (fun hb => ?_) <;> (try (exfalso; omega))))
      exact TR_of (res1 rfl rfl) ⟨.inr ⟨congrArg I (by simp only [NdW, NdP]; omega), by simp only [NdW, NdP]; omega⟩, e1⟩
theorem szLink_c {w : World} {lo hi : Nat} {d : LkD} {left : Int} (_h : LkOk w lo hi d) (hf : LkFit (LkP d)) (h0 : 0 ≤ left) (h1 : left ≤ 1048576) :
    Ret Tryz.prog 129 #[.agg (LkC d).toArray, I left] w fun v w' => (v = I (-1) ∨ (v = I (left - LkW (LkP d)) ∧ LkW (LkP d) ≤ left)) ∧ Ext w w' := by
  have hf : d.name.length ≤ 9223372036854775807 := hf.1
  refine Ret_enter Tryz.func129 rfl rfl rfl ?_
  repeat' (first | apply Jbs | apply Jbt)
  refine TL_box (cs := LkC d) rfl rfl ?_
  intro w1 g e1 hg hz hbk
  clear hg hz
  repeat' (first | apply Jbq | apply Jbr | apply Jbs | apply Jbt | apply Jbu | apply Jbv | apply Jbz | (apply Jcg; (first | exact Jaa rfl | exact Jab rfl | exact Jad rfl rfl | exact Jap rfl rfl (by omega) | exact Jaq Us.h rfl | (apply Jbl; exact Us.h; exact rfl; exact Sz.h; exact rfl)); exact rfl) | refine Jcg (Pu_load Fl.h rfl (fun _ e => by rw [e]; exact hbk.ld rfl)) rfl ?_ | (refine Jcx rfl (fun hb => ?_) (fun hb => ?_) <;> (try (exfalso; omega))))
  · exact TR_of (res1 rfl rfl) ⟨.inl rfl, e1⟩
  · exact TR_of (res1 rfl rfl) ⟨.inr ⟨rfl, by simp only [LkW, LkP]; omega⟩, e1⟩
theorem szTurn_c {w : World} {lo hi : Nat} {d : TnD} {left : Int} (_h : TnOk w lo hi d) (hf : TnFit (TnP d)) (h0 : 0 ≤ left) (h1 : left ≤ 1048576) :
    Ret Tryz.prog 130 #[.agg (TnC d).toArray, I left] w fun v w' => (v = I (-1) ∨ (v = I (left - TnW (TnP d)) ∧ TnW (TnP d) ≤ left)) ∧ Ext w w' := by
  have hf1 : d.name.length ≤ 9223372036854775807 := hf.1
  have hf2 : d.to.length ≤ 9223372036854775807 := hf.2.1
  refine Ret_enter Tryz.func130 rfl rfl rfl ?_
  repeat' (first | apply Jbs | apply Jbt)
  refine TL_box (cs := TnC d) rfl rfl ?_
  intro w1 g e1 hg hz hbk
  clear hg hz
  repeat' (first | apply Jbq | apply Jbr | apply Jbs | apply Jbt | apply Jbu | apply Jbv | apply Jbz | (apply Jcg; (first | exact Jaa rfl | exact Jab rfl | exact Jad rfl rfl | exact Jap rfl rfl (by omega) | exact Jaq Us.h rfl | (apply Jbl; exact Us.h; exact rfl; exact Sz.h; exact rfl)); exact rfl) | refine Jcg (Pu_load Fl.h rfl (fun _ e => by rw [e]; exact hbk.ld rfl)) rfl ?_ | (refine Jcx rfl (fun hb => ?_) (fun hb => ?_) <;> (try (exfalso; omega))))
  · exact TR_of (res1 rfl rfl) ⟨.inl rfl, e1⟩
  · exact TR_of (res1 rfl rfl) ⟨.inl rfl, e1⟩
  · exact TR_of (res1 rfl rfl) ⟨.inr ⟨congrArg I (by simp only [TnW, TnP]; omega), by simp only [TnW, TnP]; omega⟩, e1⟩
set_option maxHeartbeats 1000000 in
theorem toLink_c {w : World} {lo hi : Nat} {d : LkD} (_h : LkOk w lo hi d) (_hl : LkW (LkP d) ≤ 1048576) :
    Ret Tryz.prog 137 #[.agg (LkC d).toArray] w fun v' w' => ∃ d', v' = .agg (LkC d').toArray ∧ LkP d' = LkP d ∧ Ext w w' ∧ LkOk w' w.heap.size w'.heap.size d' := by
  refine Ret_enter Tryz.func137 rfl rfl rfl ?_
  repeat' (first | apply Jbs | apply Jbt)
  refine TL_box (cs := LkC d) rfl rfl ?_
  intro w1 g1 e1 hg1 hz1 hb1
  skip
  refine TL_alloc Zs.h rfl rfl ?_
  intro w2 g2 e2 hg2 hz2 hb2
  replace hb1 := hb1.ext e2
  repeat' (first | apply Jbq | apply Jbr | apply Jbs | apply Jbt)
  refine TL_alloc Zs.h rfl rfl ?_
  intro w3 g3 e3 hg3 hz3 hb3
  replace hb1 := hb1.ext e3
  replace hb2 := hb2.ext e3
  have E : Ext w w3 := (e1.ext e2).ext e3
  have hgw : w.heap.size ≤ g1 ∧ g1 < g2 ∧ g2 < g3 := by omega
  clear hg1 hg2 hg3 e1 e2 e3 hz1 hz2 hz3
  repeat' (first | apply Jbq | apply Jbr | apply Jbs | apply Jbt | (apply Jcg; (apply Jbl; exact Us.h; exact rfl; exact Sz.h; exact rfl); exact rfl) | refine Jcg (Pu_load Fl.h rfl (fun _ e => by rw [e]; exact hb1.ld rfl)) rfl ?_)
  refine TL_store rfl rfl Sz.h rfl hb3 rfl ?_
  clear hb3
  intro w4 c4 hz4 hb3
  replace hb1 := hb1.ch c4 (by simp only [Iv]; omega)
  replace hb2 := hb2.ch c4 (by simp only [Iv]; omega)
  replace E : Ext w w4 := Ext.then_iv E c4 (by omega)
  repeat' (first | apply Jbq | apply Jbr | apply Jbs | apply Jbt | (apply Jcg; (apply Jbl; exact Us.h; exact rfl; exact Sz.h; exact rfl); exact rfl) | refine Jcg (Pu_load Fl.h rfl (fun _ e => by rw [e]; exact hb1.ld rfl)) rfl ?_)
  refine TL_store rfl rfl Sz.h rfl hb3 rfl ?_
  clear hb3
  intro w5 c5 hz5 hb3
  replace hb1 := hb1.ch c5 (by simp only [Iv]; omega)
  replace hb2 := hb2.ch c5 (by simp only [Iv]; omega)
  replace E : Ext w w5 := Ext.then_iv E c5 (by omega)
  repeat' (first | apply Jbq | apply Jbr | apply Jbs | apply Jbt)
  refine Jcg (Pu_loadAgg (cs := LkC d) Us.h rfl Sz.h rfl (fun _ e j u hu => by rw [e, add0, hb3.cell]; exact hu)) rfl ?_
  skip
  refine TL_storeAgg rfl rfl Sz.h rfl hb2 rfl ?_
  clear hb2
  intro w6 c6 hz6 hb2
  repeat' (first | apply Jbq | apply Jbr | apply Jbu)
  exact TR_of (resA rfl rfl hb2 Us.h rfl Sz.h) ⟨d, rfl, rfl, Ext.then_iv E c6 (by omega), trivial⟩
set_option maxHeartbeats 1000000 in
theorem toTurn_c {w : World} {lo hi : Nat} {d : TnD} (_h : TnOk w lo hi d) (_hl : TnW (TnP d) ≤ 1048576) :
    Ret Tryz.prog 138 #[.agg (TnC d).toArray] w fun v' w' => ∃ d', v' = .agg (TnC d').toArray ∧ TnP d' = TnP d ∧ Ext w w' ∧ TnOk w' w.heap.size w'.heap.size d' := by
  refine Ret_enter Tryz.func138 rfl rfl rfl ?_
  repeat' (first | apply Jbs | apply Jbt)
  refine TL_box (cs := TnC d) rfl rfl ?_
  intro w1 g1 e1 hg1 hz1 hb1
  skip
  refine TL_alloc Zs.h rfl rfl ?_
  intro w2 g2 e2 hg2 hz2 hb2
  replace hb1 := hb1.ext e2
  repeat' (first | apply Jbq | apply Jbr | apply Jbs | apply Jbt)
  refine TL_alloc Zs.h rfl rfl ?_
  intro w3 g3 e3 hg3 hz3 hb3
  replace hb1 := hb1.ext e3
  replace hb2 := hb2.ext e3
  have E : Ext w w3 := (e1.ext e2).ext e3
  have hgw : w.heap.size ≤ g1 ∧ g1 < g2 ∧ g2 < g3 := by omega
  clear hg1 hg2 hg3 e1 e2 e3 hz1 hz2 hz3
  repeat' (first | apply Jbq | apply Jbr | apply Jbs | apply Jbt | (apply Jcg; (apply Jbl; exact Us.h; exact rfl; exact Sz.h; exact rfl); exact rfl) | refine Jcg (Pu_load Fl.h rfl (fun _ e => by rw [e]; exact hb1.ld rfl)) rfl ?_)
  refine TL_store rfl rfl Sz.h rfl hb3 rfl ?_
  clear hb3
  intro w4 c4 hz4 hb3
  replace hb1 := hb1.ch c4 (by simp only [Iv]; omega)
  replace hb2 := hb2.ch c4 (by simp only [Iv]; omega)
  replace E : Ext w w4 := Ext.then_iv E c4 (by omega)
  repeat' (first | apply Jbq | apply Jbr | apply Jbs | apply Jbt | (apply Jcg; (apply Jbl; exact Us.h; exact rfl; exact Sz.h; exact rfl); exact rfl) | refine Jcg (Pu_load Fl.h rfl (fun _ e => by rw [e]; exact hb1.ld rfl)) rfl ?_)
  refine TL_store rfl rfl Sz.h rfl hb3 rfl ?_
  clear hb3
  intro w5 c5 hz5 hb3
  replace hb1 := hb1.ch c5 (by simp only [Iv]; omega)
  replace hb2 := hb2.ch c5 (by simp only [Iv]; omega)
  replace E : Ext w w5 := Ext.then_iv E c5 (by omega)
  repeat' (first | apply Jbq | apply Jbr | apply Jbs | apply Jbt | (apply Jcg; (apply Jbl; exact Us.h; exact rfl; exact Sz.h; exact rfl); exact rfl) | refine Jcg (Pu_load Fl.h rfl (fun _ e => by rw [e]; exact hb1.ld rfl)) rfl ?_)
  refine TL_store rfl rfl Sz.h rfl hb3 rfl ?_
  clear hb3
  intro w6 c6 hz6 hb3
  replace hb1 := hb1.ch c6 (by simp only [Iv]; omega)
  replace hb2 := hb2.ch c6 (by simp only [Iv]; omega)
  replace E : Ext w w6 := Ext.then_iv E c6 (by omega)
  repeat' (first | apply Jbq | apply Jbr | apply Jbs | apply Jbt | (apply Jcg; (apply Jbl; exact Us.h; exact rfl; exact Sz.h; exact rfl); exact rfl) | refine Jcg (Pu_load Fl.h rfl (fun _ e => by rw [e]; exact hb1.ld rfl)) rfl ?_)
  refine TL_store rfl rfl Sz.h rfl hb3 rfl ?_
  clear hb3
  intro w7 c7 hz7 hb3
  replace hb1 := hb1.ch c7 (by simp only [Iv]; omega)
  replace hb2 := hb2.ch c7 (by simp only [Iv]; omega)
  replace E : Ext w w7 := Ext.then_iv E c7 (by omega)
  repeat' (first | apply Jbq | apply Jbr | apply Jbs | apply Jbt)
  refine Jcg (Pu_loadAgg (cs := TnC d) Us.h rfl Sz.h rfl (fun _ e j u hu => by rw [e, add0, hb3.cell]; exact hu)) rfl ?_
  skip
  refine TL_storeAgg rfl rfl Sz.h rfl hb2 rfl ?_
  clear hb2
  intro w8 c8 hz8 hb2
  repeat' (first | apply Jbq | apply Jbr | apply Jbu)
  exact TR_of (resA rfl rfl hb2 Us.h rfl Sz.h) ⟨d, rfl, rfl, Ext.then_iv E c8 (by omega), trivial⟩
set_option maxHeartbeats 1000000 in
theorem toNode_c {w : World} {lo hi : Nat} {d : Nd} (h : NdOk w lo hi d) (hl : NdW (NdP d) ≤ 1048576) :
    Ret Tryz.prog 136 #[.agg (NdC d).toArray] w fun v' w' => ∃ d', v' = .agg (NdC d').toArray ∧ NdP d' = NdP d ∧ Ext w w' ∧ NdOk w' w.heap.size w'.heap.size d' := by
  obtain ⟨id, body, safe, vb, vs⟩ := d
  simp only [NdW, NdP] at hl
  refine Ret_enter Tryz.func136 rfl rfl rfl ?_
  repeat' (first | apply Jbs | apply Jbt)
  refine TL_box (cs := NdC ⟨id, body, safe, vb, vs⟩) rfl rfl ?_
  intro w1 g1 e1 hg1 hz1 hb1
  skip
  refine TL_alloc Zs.h rfl rfl ?_
  intro w2 g2 e2 hg2 hz2 hb2
  replace hb1 := hb1.ext e2
  repeat' (first | apply Jbq | apply Jbr | apply Jbs | apply Jbt)
  refine TL_alloc Zs.h rfl rfl ?_
  intro w3 g3 e3 hg3 hz3 hb3
  replace hb1 := hb1.ext e3
  replace hb2 := hb2.ext e3
  have E : Ext w w3 := (e1.ext e2).ext e3
  have hgw : w.heap.size ≤ g1 ∧ g1 < g2 ∧ g2 < g3 := by omega
  clear hg1 hg2 hg3 e1 e2 e3 hz1 hz2 hz3
  repeat' (first | apply Jbq | apply Jbr | apply Jbs | apply Jbt | (apply Jcg; (apply Jbl; exact Us.h; exact rfl; exact Sz.h; exact rfl); exact rfl) | refine Jcg (Pu_load Fl.h rfl (fun _ e => by rw [e]; exact hb1.ld rfl)) rfl ?_)
  refine TL_store rfl rfl Sz.h rfl hb3 rfl ?_
  clear hb3
  intro w4 c4 hz4 hb3
  replace hb1 := hb1.ch c4 (by simp only [Iv]; omega)
  replace hb2 := hb2.ch c4 (by simp only [Iv]; omega)
  replace E : Ext w w4 := Ext.then_iv E c4 (by omega)
  have hlt := hb3.lt
  repeat' (first | apply Jbq | apply Jbr | apply Jbs | apply Jbt | (apply Jcg; (apply Jbl; exact Us.h; exact rfl; exact Sz.h; exact rfl); exact rfl) | refine Jcg (Pu_load Fl.h rfl (fun _ e => by rw [e]; exact hb1.ld rfl)) rfl ?_)
  refine TL_call rfl en91 (toB_k (h.1.ext E) (by simp only; omega)) rfl rfl ?_
  intro vb2 w5 ⟨e5, ho5⟩
  replace hb1 := hb1.ext e5
  replace hb2 := hb2.ext e5
  replace hb3 := hb3.ext e5
  have hs4 := E.size
  have hs5 := e5.size
  replace E := E.ext e5
  have hone5 := ho5.rd.one
  repeat' ((apply Jcg; (apply Jbl; exact Us.h; exact rfl; exact Sz.h; exact rfl); exact rfl))
  refine TL_store rfl rfl Sz.h hone5 hb3 rfl ?_
  clear hb3
  intro w6 c6 hz6 hb3
  replace hb1 := hb1.ch c6 (by simp only [Iv]; omega)
  replace hb2 := hb2.ch c6 (by simp only [Iv]; omega)
  replace ho5 := ho5.ch c6 (by intro k _ _; simp only [Iv]; omega)
  replace E : Ext w w6 := Ext.then_iv E c6 (by omega)
  repeat' (first | apply Jbq | apply Jbr | apply Jbs | apply Jbt | (apply Jcg; (apply Jbl; exact Us.h; exact rfl; exact Sz.h; exact rfl); exact rfl) | refine Jcg (Pu_load Fl.h rfl (fun _ e => by rw [e]; exact hb1.ld rfl)) rfl ?_)
  refine TL_call rfl en91 (toB_k (h.2.ext E) (by simp only; omega)) rfl rfl ?_
  intro vs2 w7 ⟨e7, ho7⟩
  replace hb2 := hb2.ext e7
  replace hb3 := hb3.ext e7
  replace ho5 := ho5.ext e7
  have hs7 := e7.size
  replace E := E.ext e7
  have hone7 := ho7.rd.one
  repeat' ((apply Jcg; (apply Jbl; exact Us.h; exact rfl; exact Sz.h; exact rfl); exact rfl))
  refine TL_store rfl rfl Sz.h hone7 hb3 rfl ?_
  clear hb3
  intro w8 c8 hz8 hb3
  replace hb2 := hb2.ch c8 (by simp only [Iv]; omega)
  replace ho5 := ho5.ch c8 (by intro k _ _; simp only [Iv]; omega)
  replace ho7 := ho7.ch c8 (by intro k _ _; simp only [Iv]; omega)
  replace E : Ext w w8 := Ext.then_iv E c8 (by omega)
  repeat' (first | apply Jbq | apply Jbr | apply Jbs | apply Jbt)
  refine Jcg (Pu_loadAgg (cs := NdC ⟨id, body, safe, vb2, vs2⟩) Us.h rfl Sz.h rfl (fun _ e j u hu => by rw [e, add0, hb3.cell]; exact hu)) rfl ?_
  skip
  refine TL_storeAgg rfl rfl Sz.h (by show ((NdC ⟨id, body, safe, vb2, vs2⟩).all (·.oneCell')) = true; simp only [NdC, List.all_cons, List.all_nil, hone5, hone7]; rfl) hb2 rfl ?_
  clear hb2
  intro w9 c9 hz9 hb2
  replace ho5 := ho5.ch c9 (by intro k _ _; simp only [Iv]; omega)
  replace ho7 := ho7.ch c9 (by intro k _ _; simp only [Iv]; omega)
  repeat' (first | apply Jbq | apply Jbr | apply Jbu)
  exact TR_of (resA rfl rfl hb2 Us.h rfl Sz.h) ⟨⟨id, body, safe, vb2, vs2⟩, rfl, rfl, Ext.then_iv E c9 (by omega), ho5.rd.wide (by omega) (by omega) (Nat.le_refl _), ho7.rd.wide (by omega) (by omega) (Nat.le_refl _)⟩
theorem eqNode_c {w : World} {lo hi lo2 hi2 : Nat} {d d2 : Nd} (h : NdOk w lo hi d) (h2 : NdOk w lo2 hi2 d2) (hp : NdP d = NdP d2) (hl : NdW (NdP d) ≤ 1048576) :
    Ret Tryz.prog 147 #[.agg (NdC d).toArray, .agg (NdC d2).toArray] w fun v' w' => v' = .bool true ∧ Ext w w' := by
  obtain ⟨id, body, safe, vb, vs⟩ := d
  obtain ⟨id2, body2, safe2, vb2, vs2⟩ := d2
  simp only [NdP, Prod.mk.injEq] at hp
  obtain ⟨rfl, rfl, rfl⟩ := hp
  simp only [NdW, NdP] at hl
  refine Ret_enter Tryz.func147 rfl rfl rfl ?_
  repeat' (first | apply Jbs | apply Jbt)
  refine TL_box (cs := NdC ⟨id, body, safe, vb, vs⟩) rfl rfl ?_
  intro w1 g1 e1 hg1 hz1 hb1
  skip
  refine TL_box (cs := NdC ⟨id, body, safe, vb2, vs2⟩) rfl rfl ?_
  intro w2 g2 e2 hg2 hz2 hb2
  replace hb1 := hb1.ext e2
  have E := e1.ext e2
  repeat' (first | apply Jbq | apply Jbr | apply Jbs | apply Jbt | apply Jbz | (refine Jcf rfl ?_) | (apply Jcg; (first | exact Jbm rfl rfl | exact Jab rfl | (apply Jbl; exact Us.h; exact rfl; exact Sz.h; exact rfl)); exact rfl) | refine Jcg (Pu_load Fl.h rfl (fun _ e => by rw [e]; exact hb1.ld rfl)) rfl ?_ | refine Jcg (Pu_load Fl.h rfl (fun _ e => by rw [e]; exact hb2.ld rfl)) rfl ?_)
  refine TL_call rfl en96 (eqB_k (h.1.ext E) (h2.1.ext E) (by simp only; omega)) rfl rfl ?_
  rintro _ w3 ⟨rfl, e3⟩
  replace hb1 := hb1.ext e3
  replace hb2 := hb2.ext e3
  replace E := E.ext e3
  repeat' (first | apply Jbq | apply Jbr | apply Jbs | apply Jbt | apply Jbz | (refine Jcf rfl ?_) | (apply Jcg; (first | exact Jaj rfl | (apply Jbl; exact Us.h; exact rfl; exact Sz.h; exact rfl)); exact rfl) | refine Jcg (Pu_load Fl.h rfl (fun _ e => by rw [e]; exact hb1.ld rfl)) rfl ?_ | refine Jcg (Pu_load Fl.h rfl (fun _ e => by rw [e]; exact hb2.ld rfl)) rfl ?_)
  refine TL_call rfl en96 (eqB_k (h.2.ext E) (h2.2.ext E) (by simp only; omega)) rfl rfl ?_
  rintro _ w4 ⟨rfl, e4⟩
  repeat' (first | apply Jbq | apply Jbr | apply Jbs | apply Jbt | apply Jbu | apply Jbz | (refine Jcf rfl ?_) | (apply Jcg; (first | exact Jab rfl | exact Jaj rfl); exact rfl))
  exact TR_of (res1 rfl rfl) ⟨rfl, E.ext e4⟩
theorem eqLink_c {w : World} {lo hi lo2 hi2 : Nat} {d d2 : LkD} (_h : LkOk w lo hi d) (_h2 : LkOk w lo2 hi2 d2) (hp : LkP d = LkP d2) (_hl : LkW (LkP d) ≤ 1048576) :
    Ret Tryz.prog 148 #[.agg (LkC d).toArray, .agg (LkC d2).toArray] w fun v' w' => v' = .bool true ∧ Ext w w' := by
  have hp : d = d2 := hp
  subst hp
  refine Ret_enter Tryz.func148 rfl rfl rfl ?_
  repeat' (first | apply Jbs | apply Jbt)
  refine TL_box (cs := LkC d) rfl rfl ?_
  intro w1 g1 e1 hg1 hz1 hb1
  skip
  refine TL_box (cs := LkC d) rfl rfl ?_
  intro w2 g2 e2 hg2 hz2 hb2
  replace hb1 := hb1.ext e2
  repeat' (first | apply Jbq | apply Jbr | apply Jbs | apply Jbt | apply Jbu | apply Jbz | (refine Jcf rfl ?_) | (apply Jcg; (first | exact Jbm rfl rfl | exact Jbo rfl rfl | exact Jab rfl | (apply Jbl; exact Us.h; exact rfl; exact Sz.h; exact rfl)); exact rfl) | refine Jcg (Pu_load Fl.h rfl (fun _ e => by rw [e]; exact hb1.ld rfl)) rfl ?_ | refine Jcg (Pu_load Fl.h rfl (fun _ e => by rw [e]; exact hb2.ld rfl)) rfl ?_)
  exact TR_of (res1 rfl rfl) ⟨rfl, e1.ext e2⟩
theorem eqTurn_c {w : World} {lo hi lo2 hi2 : Nat} {d d2 : TnD} (_h : TnOk w lo hi d) (_h2 : TnOk w lo2 hi2 d2) (hp : TnP d = TnP d2) (_hl : TnW (TnP d) ≤ 1048576) :
    Ret Tryz.prog 149 #[.agg (TnC d).toArray, .agg (TnC d2).toArray] w fun v' w' => v' = .bool true ∧ Ext w w' := by
  have hp : d = d2 := hp
  subst hp
  refine Ret_enter Tryz.func149 rfl rfl rfl ?_
  repeat' (first | apply Jbs | apply Jbt)
  refine TL_box (cs := TnC d) rfl rfl ?_
  intro w1 g1 e1 hg1 hz1 hb1
  skip
  refine TL_box (cs := TnC d) rfl rfl ?_
  intro w2 g2 e2 hg2 hz2 hb2
  replace hb1 := hb1.ext e2
  repeat' (first | apply Jbq | apply Jbr | apply Jbs | apply Jbt | apply Jbu | apply Jbz | (refine Jcf rfl ?_) | (apply Jcg; (first | exact Jbm rfl rfl | exact Jbo rfl rfl | exact Jab rfl | (apply Jbl; exact Us.h; exact rfl; exact Sz.h; exact rfl)); exact rfl) | refine Jcg (Pu_load Fl.h rfl (fun _ e => by rw [e]; exact hb1.ld rfl)) rfl ?_ | refine Jcg (Pu_load Fl.h rfl (fun _ e => by rw [e]; exact hb2.ld rfl)) rfl ?_)
  exact TR_of (res1 rfl rfl) ⟨rfl, e1.ext e2⟩
end Go.Proofs.YtggaghghclomkaaGreat
