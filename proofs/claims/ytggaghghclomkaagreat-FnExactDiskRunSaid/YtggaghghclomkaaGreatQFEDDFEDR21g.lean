/- Texts of this proof laid together, in the order in which they build; what each proves stands ahead of it. No condition but those told there. -/
import Derived.Test.YtggaghghclomkaaGreatQFEDDFEDR21f

/- Nodes and disks that a call owns, block by block; their marks. -/
namespace Go.Proofs.YtggaghghclomkaaGreat
open Go.RowKit
def blk : Value → List Nat
  | .slice (some ad) _ _ => [ad.block]
  | _ => []
section
variable {w w' : World} {lo hi size n c : Nat} {e : TypeId} {A : Option Addr} {xs : List Value} {T : Nat → Prop}
theorem Own.bin (h : Own w lo hi e size A n c xs) : ∀ b ∈ blk (.slice A n c), lo ≤ b ∧ b < hi := by
  intro b hb
  rcases A with _ | ad
  · cases hb
  · rw [List.mem_singleton.1 hb]; exact ⟨h.ge _ rfl, h.lt _ rfl⟩
theorem Own.narrow (h : Own w lo hi e size A n c xs) : ∃ lo' hi', Own w lo' hi' e size A n c xs ∧ ∀ k, lo' ≤ k → k < hi' → k ∈ blk (.slice A n c) := by
  rcases h.row.2 with ⟨hv, h0⟩ | ⟨g, cap, cur, hv, h3, h4, h5⟩
  · have hA : A = none := by injection hv
    subst hA
    exact ⟨0, 0, ⟨Nat.zero_le _, ⟨h.len, .inl ⟨hv, h0⟩⟩, fun ad ha => by cases ha⟩, fun k _ hk => absurd hk (Nat.not_lt_zero _)⟩
  · have hA : A = some ⟨g, 0, none⟩ := by injection hv
    subst hA
    exact ⟨g, g + 1, ⟨(Array.getElem?_eq_some_iff.1 h4).1, ⟨h.len, .inr ⟨g, cap, cur, hv, Nat.le_refl _, h4, h5⟩⟩, fun ad ha => by injection ha with ha; subst ha; exact Nat.lt_succ_self _⟩, fun k h1 h2 => by
      obtain rfl : k = g := by omega
      exact List.mem_singleton.2 rfl⟩
/-- Owned: whatever does not touch its own block keeps it. -/
def OBx (w : World) (v : Value) (s : List UInt8) : Prop := ∃ lo hi, OB w lo hi v s ∧ ∀ k, lo ≤ k → k < hi → k ∈ blk v
theorem OB.x {v : Value} {s : List UInt8} (h : OB w lo hi v s) : OBx w v s := by
  obtain ⟨A, c, rfl, ho⟩ := h
  obtain ⟨lo', hi', h1, h2⟩ := ho.narrow
  exact ⟨lo', hi', ⟨A, c, rfl, h1⟩, h2⟩
theorem OB.bin {v : Value} {s : List UInt8} (h : OB w lo hi v s) : ∀ b ∈ blk v, lo ≤ b ∧ b < hi := by
  obtain ⟨A, c, rfl, ho⟩ := h
  exact ho.bin
theorem OB.wide {lo' hi' : Nat} {v : Value} {s : List UInt8} (h : OB w lo hi v s) (h1 : lo' ≤ lo) (h2 : hi ≤ hi') (h3 : hi' ≤ w.heap.size) : OB w lo' hi' v s := by
  obtain ⟨A, c, rfl, ho⟩ := h
  exact ⟨A, c, rfl, ho.wide h1 h2 h3⟩
theorem OBx.ch {v : Value} {s : List UInt8} (h : OBx w v s) (k : Ch T w w') (hd : ∀ b ∈ blk v, ¬ T b) : OBx w' v s := by
  obtain ⟨lo, hi, h1, h2⟩ := h
  exact ⟨lo, hi, h1.ch k (fun j a b => hd j (h2 j a b)), h2⟩
theorem OBx.ext {v : Value} {s : List UInt8} (h : OBx w v s) (k : Ext w w') : OBx w' v s := h.ch k (fun _ _ t => t)
/-- A region that holds the value's block bears its reading. -/
theorem OBx.at_ {v : Value} {s : List UInt8} (h : OBx w v s) (hb : ∀ b ∈ blk v, lo ≤ b ∧ b < hi) (hs : hi ≤ w.heap.size) : OB w lo hi v s := by
  obtain ⟨l1, h1, ⟨A, c, rfl, ho⟩, hin⟩ := h
  refine ⟨A, c, rfl, ⟨hs, ⟨ho.len, ?_⟩, fun ad ha => by subst ha; exact (hb _ (List.mem_singleton.2 rfl)).2⟩⟩
  rcases ho.row.2 with ⟨hv, h0⟩ | ⟨g, cap, cur, hv, h3, h4, h5⟩
  · exact .inl ⟨hv, h0⟩
  · have hA : A = some ⟨g, 0, none⟩ := by injection hv
    subst hA
    exact .inr ⟨g, cap, cur, hv, (hb _ (List.mem_singleton.2 rfl)).1, h4, h5⟩
end
section
variable {α : Type} {f : α → List Value} {e : TypeId} {s : Nat} {w w' : World} {lo hi : Nat} {v : Value} {l : List α} {T : Nat → Prop}
def RowOx (f : α → List Value) (e : TypeId) (s : Nat) (w : World) (v : Value) (l : List α) : Prop := ∃ lo hi, RowO f e s w lo hi v l ∧ ∀ k, lo ≤ k → k < hi → k ∈ blk v
theorem RowO.x (h : RowO f e s w lo hi v l) : RowOx f e s w v l := by
  obtain ⟨A, c, rfl, ho⟩ := h
  obtain ⟨lo', hi', h1, h2⟩ := ho.narrow
  exact ⟨lo', hi', ⟨A, c, rfl, h1⟩, h2⟩
theorem RowO.bin (h : RowO f e s w lo hi v l) : ∀ b ∈ blk v, lo ≤ b ∧ b < hi := by
  obtain ⟨A, c, rfl, ho⟩ := h
  exact ho.bin
theorem RowOx.ch (h : RowOx f e s w v l) (k : Ch T w w') (hd : ∀ b ∈ blk v, ¬ T b) : RowOx f e s w' v l := by
  obtain ⟨lo, hi, h1, h2⟩ := h
  exact ⟨lo, hi, h1.ch k (fun j a b => hd j (h2 j a b)), h2⟩
theorem RowOx.ext (h : RowOx f e s w v l) (k : Ext w w') : RowOx f e s w' v l := h.ch k (fun _ _ t => t)
theorem RowOx.at_ (h : RowOx f e s w v l) (hb : ∀ b ∈ blk v, lo ≤ b ∧ b < hi) (hs : hi ≤ w.heap.size) : RowO f e s w lo hi v l := by
  obtain ⟨l1, h1, ⟨A, c, rfl, ho⟩, hin⟩ := h
  refine ⟨A, c, rfl, ⟨hs, ⟨ho.len, ?_⟩, fun ad ha => by subst ha; exact (hb _ (List.mem_singleton.2 rfl)).2⟩⟩
  rcases ho.row.2 with ⟨hv, h0⟩ | ⟨g, cap, cur, hv, h3, h4, h5⟩
  · exact .inl ⟨hv, h0⟩
  · have hA : A = some ⟨g, 0, none⟩ := by injection hv
    subst hA
    exact .inr ⟨g, cap, cur, hv, (hb _ (List.mem_singleton.2 rfl)).1, h4, h5⟩
theorem RowOx.one (h : RowOx f e s w v l) : v.oneCell' = true := by obtain ⟨_, _, ⟨_, _, rfl, _⟩, _⟩ := h; rfl
end
def bkd (d : Nd) : List Nat := blk d.vb ++ blk d.vs
def bksN (v : Value) (ds : List Nd) : List Nat := blk v ++ ds.flatMap bkd
structure ONx (w : World) (v : Value) (ds : List Nd) : Prop where
  row : RowOx NdC 98 3 w v ds
  ok : ∀ d ∈ ds, OBx w d.vb d.body ∧ OBx w d.vs d.safe
  nd : (bksN v ds).Nodup
theorem ONx.ch {w w' : World} {v : Value} {ds : List Nd} {T : Nat → Prop} (h : ONx w v ds) (k : Ch T w w') (hd : ∀ b ∈ bksN v ds, ¬ T b) : ONx w' v ds :=
  ⟨h.row.ch k (fun b hb => hd b (List.mem_append.2 (.inl hb))), fun d hm => ⟨(h.ok d hm).1.ch k (fun b hb => hd b (List.mem_append.2 (.inr (List.mem_flatMap.2 ⟨d, hm, List.mem_append.2 (.inl hb)⟩)))), (h.ok d hm).2.ch k (fun b hb => hd b (List.mem_append.2 (.inr (List.mem_flatMap.2 ⟨d, hm, List.mem_append.2 (.inr hb)⟩))))⟩, h.nd⟩
theorem ONx.ext {w w' : World} {v : Value} {ds : List Nd} (h : ONx w v ds) (k : Ext w w') : ONx w' v ds := h.ch k (fun _ _ t => t)
/-! ### marks of nodes -/
def mk1 (k : Int) (d : Nd) : Nd := ⟨k, mk8 (k + 1) d.body.length, mk8 (k + 1 + d.body.length) d.safe.length, d.vb, d.vs⟩
def cnt1 (d : Nd) : Int := 1 + d.body.length + d.safe.length
def cntNd : List Nd → Int
  | [] => 0
  | d :: r => cnt1 d + cntNd r
def markNd (k : Int) : List Nd → List Nd
  | [] => []
  | d :: r => mk1 k d :: markNd (k + cnt1 d) r
theorem cntNd_append (l m : List Nd) : cntNd (l ++ m) = cntNd l + cntNd m := by
  induction l with
  | nil => simp [cntNd]
  | cons d r ih => simp only [List.cons_append, cntNd, ih]; omega
theorem cntNd_nn (l : List Nd) : 0 ≤ cntNd l := by
  induction l with
  | nil => simp [cntNd]
  | cons d r ih => simp only [cntNd, cnt1]; omega
theorem markNd_append (k : Int) (l m : List Nd) : markNd k (l ++ m) = markNd k l ++ markNd (k + cntNd l) m := by
  induction l generalizing k with
  | nil => simp [markNd, cntNd]
  | cons d r ih => simp only [List.cons_append, markNd, cntNd, ih]; rw [Int.add_assoc]
theorem markNd_length (k : Int) (l : List Nd) : (markNd k l).length = l.length := by
  induction l generalizing k with
  | nil => rfl
  | cons d r ih => simp only [markNd, List.length_cons, ih]
theorem markNd_bkd (k : Int) (l : List Nd) : (markNd k l).flatMap bkd = l.flatMap bkd := by
  induction l generalizing k with
  | nil => rfl
  | cons d r ih => simp only [markNd, List.flatMap_cons, ih]; rfl
theorem set_mid {α : Type} (A : List α) (u v : α) (r : List α) : (A ++ u :: r).set A.length v = A ++ v :: r := by
  rw [List.set_append_right _ _ (Nat.le_refl _), Nat.sub_self, List.set_cons_zero]
theorem cells_mid (M D : List Nd) (x : Nd) : cellsL NdC (M ++ x :: D) = cellsL NdC M ++ (I x.id :: x.vb :: x.vs :: cellsL NdC D) := by
  rw [cellsL_append]; simp [cellsL, NdC]
theorem mid_get {α : Type} (A r : List α) (k j : Nat) (h : A.length = k) : (A ++ r)[k + j]? = r[j]? := by
  subst h; rw [List.getElem?_append_right (by omega)]; congr 1; omega
theorem app3 {a b c : List Nat} (h : (a ++ (b ++ c)).Nodup) : (∀ x ∈ a, x ∉ b ∧ x ∉ c) ∧ ∀ x ∈ b, x ∉ c := by
  rw [List.nodup_append, List.nodup_append] at h
  obtain ⟨_, ⟨_, _, h2⟩, h1⟩ := h
  exact ⟨fun x hx => ⟨fun hb => h1 x hx x (List.mem_append.2 (.inl hb)) rfl, fun hc => h1 x hx x (List.mem_append.2 (.inr hc)) rfl⟩, fun x hx hc => h2 x hx x hc rfl⟩
/-- The blocks at one node, apart from all others. -/
theorem bks_apart {v : Value} {M D : List Nd} {x : Nd} (h : (bksN v (M ++ x :: D)).Nodup) :
    (∀ b ∈ blk v, b ∉ blk x.vb ∧ b ∉ blk x.vs ∧ ∀ d ∈ M ++ D, b ∉ bkd d) ∧ (∀ b ∈ blk x.vb, b ∉ blk v ∧ b ∉ blk x.vs ∧ ∀ d ∈ M ++ D, b ∉ bkd d) ∧ (∀ b ∈ blk x.vs, b ∉ blk v ∧ b ∉ blk x.vb ∧ ∀ d ∈ M ++ D, b ∉ bkd d) := by
  unfold bksN at h
  rw [List.flatMap_append, List.flatMap_cons] at h
  unfold bkd at h
  rw [List.nodup_append, List.nodup_append, List.nodup_append, List.nodup_append] at h
  obtain ⟨_, ⟨_, ⟨⟨_, _, hvs⟩, _, hxD⟩, hM⟩, hv⟩ := h
  have mem : ∀ d ∈ M ++ D, ∀ b ∈ bkd d, b ∈ M.flatMap (fun d => blk d.vb ++ blk d.vs) ∨ b ∈ D.flatMap (fun d => blk d.vb ++ blk d.vs) := fun d hd b hb => by
    rcases List.mem_append.1 hd with hd | hd
    · exact .inl (List.mem_flatMap.2 ⟨d, hd, hb⟩)
    · exact .inr (List.mem_flatMap.2 ⟨d, hd, hb⟩)
  have e1 : ∀ b, b ∈ blk v → b ∈ blk x.vb → False := fun b h1 h2 => hv b h1 b (List.mem_append.2 (.inr (List.mem_append.2 (.inl (List.mem_append.2 (.inl h2)))))) rfl
  have e2 : ∀ b, b ∈ blk v → b ∈ blk x.vs → False := fun b h1 h2 => hv b h1 b (List.mem_append.2 (.inr (List.mem_append.2 (.inl (List.mem_append.2 (.inr h2)))))) rfl
  have e3 : ∀ b, b ∈ blk x.vb → b ∈ blk x.vs → False := fun b h1 h2 => hvs b h1 b h2 rfl
  have e4 : ∀ b, b ∈ blk v → ∀ d ∈ M ++ D, b ∈ bkd d → False := fun b h1 d hd h2 => by
    rcases mem d hd b h2 with h3 | h3
    · exact hv b h1 b (List.mem_append.2 (.inl h3)) rfl
    · exact hv b h1 b (List.mem_append.2 (.inr (List.mem_append.2 (.inr h3)))) rfl
  have e5 : ∀ b, (b ∈ blk x.vb ∨ b ∈ blk x.vs) → ∀ d ∈ M ++ D, b ∈ bkd d → False := fun b h1 d hd h2 => by
    rcases mem d hd b h2 with h3 | h3
    · exact hM b h3 b (List.mem_append.2 (.inl (List.mem_append.2 h1))) rfl
    · exact hxD b (List.mem_append.2 h1) b h3 rfl
  exact ⟨fun b hb => ⟨fun h => e1 b hb h, fun h => e2 b hb h, fun d hd h => e4 b hb d hd h⟩, fun b hb => ⟨fun h => e1 b h hb, fun h => e3 b hb h, fun d hd h => e5 b (.inl hb) d hd h⟩, fun b hb => ⟨fun h => e2 b h hb, fun h => e3 b h hb, fun d hd h => e5 b (.inr hb) d hd h⟩⟩
attribute [local irreducible] TL TC TN TX TR TQ TA Pu Ret
set_option maxHeartbeats 4000000 in
theorem markNodeS_c {v : Value} {ds : List Nd} {k : Int} {w : World} (h : ONx w v ds) (hl : ds.length ≤ 1048576) (hc : cntNd ds ≤ 4194304) (hk0 : 0 < k) (hk1 : k ≤ 1000000000) :
    Ret Tryz.prog 75 #[v, I k] w fun v' w' => v' = I (k + cntNd ds) ∧ Ch (fun j => j ∈ bksN v ds) w w' ∧ ONx w' v (markNd k ds) := by
  obtain ⟨A, c, rfl⟩ : ∃ A c, v = .slice A ds.length c := by obtain ⟨_, _, ⟨A, c, h1, _⟩, _⟩ := h.row; exact ⟨A, c, h1⟩
  refine Ret_enter Tryz.func75 rfl rfl rfl ?_
  repeat' (first | apply Jbq | apply Jbr | apply Jbs | apply Jbt | apply Jby | (apply Jcg; exact Jab rfl; exact rfl))
  refine TC_loop (ι := Nat) (fun i => [(0, .slice A ds.length c), (1, I (k + cntNd (ds.take i))), (5, I i)]) (fun i w' => i ≤ ds.length ∧ Ch (fun j => j ∈ bksN (.slice A ds.length c) ds) w w' ∧ ONx w' (.slice A ds.length c) (markNd k (ds.take i) ++ ds.drop i)) (fun i => ds.length - i) 0
    (subEnv_cons rfl (subEnv_cons (congrArg (fun z => some (I z)) (by simp [cntNd])) (subEnv_cons rfl (subEnv_nil _)))) ⟨Nat.zero_le _, Ch.refl _ _, by simpa [markNd] using h⟩ ?_
  intro i w2 ⟨hi2, c2, h2⟩
  repeat' (first | apply Jbq | apply Jbr | apply Jbs | apply Jbt | (apply Jcg; (first | exact Jaa rfl | exact Jac Us.h rfl | exact Jad rfl rfl); exact rfl))
  refine Jcx rfl (fun hlt0 => ?_) (fun hge => ?_)
  · have hlt : i < ds.length := by omega
    have hdr : ds.drop i = ds[i] :: ds.drop (i + 1) := List.drop_eq_getElem_cons hlt
    have htk : ds.take (i + 1) = ds.take i ++ [ds[i]] := List.take_succ_eq_append_getElem hlt
    have hall : cntNd ds = cntNd (ds.take i) + (cnt1 ds[i] + cntNd (ds.drop (i + 1))) := by
      conv => lhs; rw [← List.take_append_drop i ds, hdr]
      rw [cntNd_append]; rfl
    have hn1 := cntNd_nn (ds.take i)
    have hn2 := cntNd_nn (ds.drop (i + 1))
    have hbk : bksN (.slice A ds.length c) (markNd k (ds.take i) ++ ds[i] :: ds.drop (i + 1)) = bksN (.slice A ds.length c) ds := by
      unfold bksN
      rw [List.flatMap_append, markNd_bkd, ← List.flatMap_append, ← hdr, List.take_append_drop]
    rw [hdr] at h2
    have hmk : markNd k (ds.take (i + 1)) = markNd k (ds.take i) ++ [mk1 (k + cntNd (ds.take i)) ds[i]] := by rw [htk, markNd_append]; rfl
    have hct : cntNd (ds.take (i + 1)) = cntNd (ds.take i) + cnt1 ds[i] := by rw [htk, cntNd_append]; simp [cntNd]
    have hml : (markNd k (ds.take i)).length = i := by rw [markNd_length, List.length_take]; omega
    obtain ⟨M, hM⟩ : ∃ M, M = markNd k (ds.take i) := ⟨_, rfl⟩
    obtain ⟨x, hx⟩ : ∃ x, x = ds[i] := ⟨_, rfl⟩
    obtain ⟨D, hD⟩ : ∃ D, D = ds.drop (i + 1) := ⟨_, rfl⟩
    obtain ⟨q, hq⟩ : ∃ q, q = k + cntNd (ds.take i) := ⟨_, rfl⟩
    rw [← hM, ← hx, ← hD] at h2 hbk
    rw [← hM, ← hx, ← hq] at hmk
    rw [← hM] at hml
    rw [← hx] at hct hall
    obtain ⟨id, body, safe, vb, vs⟩ := x
    simp only [cnt1] at hct hall
    have hqb : 0 < q ∧ q + 1 + body.length + safe.length ≤ 1099511627776 := by omega
    obtain ⟨ap1, ap2, ap3⟩ := bks_apart h2.nd
    simp only at ap1 ap2 ap3
    have inV : ∀ b ∈ blk (.slice A ds.length c), b ∈ bksN (.slice A ds.length c) ds := fun b hb => by rw [← hbk]; exact List.mem_append.2 (.inl hb)
    have inB : ∀ b ∈ blk vb, b ∈ bksN (.slice A ds.length c) ds := fun b hb => by
      rw [← hbk]; exact List.mem_append.2 (.inr (List.mem_flatMap.2 ⟨⟨id, body, safe, vb, vs⟩, by simp, List.mem_append.2 (.inl hb)⟩))
    have inS : ∀ b ∈ blk vs, b ∈ bksN (.slice A ds.length c) ds := fun b hb => by
      rw [← hbk]; exact List.mem_append.2 (.inr (List.mem_flatMap.2 ⟨⟨id, body, safe, vb, vs⟩, by simp, List.mem_append.2 (.inr hb)⟩))
    have hlen : (M ++ (⟨id, body, safe, vb, vs⟩ : Nd) :: D).length = ds.length := by
      rw [List.length_append, List.length_cons, hml, hD, List.length_drop]; omega
    obtain ⟨⟨l1, h1, ⟨A', c', hv', ho2⟩, hin⟩, hok, hnd⟩ := h2
    rw [hlen] at hv' ho2
    injection hv' with hA' _ hc'
    subst hA' hc'
    obtain ⟨okb, oks⟩ := hok ⟨id, body, safe, vb, vs⟩ (by simp)
    have oko : ∀ d ∈ M ++ D, OBx w2 d.vb d.body ∧ OBx w2 d.vs d.safe := fun d hd => hok d (by rcases List.mem_append.1 hd with h | h <;> simp [h])
    simp only at okb oks
    clear hok
    rw [cells_mid] at ho2
    have hcl : (cellsL NdC M).length = i * 3 := by rw [cellsL_length NdC_len, hml]
    simp only at ho2
    rw [← hq]
    rcases ho2.head with rfl | ⟨g, rfl, hg1, hg2⟩
    · obtain ⟨ad, h, _⟩ := ho2.rd.at_ (by omega)
      cases h
    have hgv : blk (.slice (some ⟨g, 0, none⟩) ds.length c) = [g] := rfl
    repeat' (first | apply Jbr | apply Jbs | apply Jbt | apply Jby | apply Jbz | (apply Jcg; (first | exact Jaa rfl | exact Jar Us.h Sz.h rfl rfl (by omega) | (apply Jbl; exact Us.h; exact rfl; exact Sz.h; exact rfl)); exact rfl))
    refine TL_storeOwn rfl (add_lit3 g (i * 3) 0) rfl Sz.h rfl ho2 (by omega) ?_
    intro w3 c3 hz3 ho3
    rw [Nat.add_zero, ← hcl, set_mid] at ho3
    have c3' : Ch (fun j => j ∈ [g]) w2 w3 := c3.mono (fun j hj => by simp only [Iv] at hj; simp; omega)
    rw [hgv] at ap1 ap2 ap3 inV hin
    replace okb := okb.ch c3' (fun b hb => (ap2 b hb).1)
    replace oks := oks.ch c3' (fun b hb => (ap3 b hb).1)
    replace oko := fun d hd => (⟨(oko d hd).1.ch c3' (fun b hb hg => (ap1 b hg).2.2 d hd (List.mem_append.2 (.inl hb))), (oko d hd).2.ch c3' (fun b hb hg => (ap1 b hg).2.2 d hd (List.mem_append.2 (.inr hb)))⟩ : OBx w3 d.vb d.body ∧ OBx w3 d.vs d.safe)
    have hcb : w3.cell? ((⟨g, 0, none⟩ : Addr).add (i * 3 + 1)) = some vb := by
      obtain ⟨ad, h, _, _, hc⟩ := ho3.rd.at_ (by omega)
      injection h with h; subst h
      exact hc _ _ (by rw [mid_get _ _ _ _ hcl]; rfl)
    rw [← add_of_add] at hcb
    repeat' (first | apply Jbq | apply Jbr | apply Jbs | apply Jbt | (apply Jcg; (first | exact Jaa rfl | exact Jab rfl | exact Jaf rfl rfl (by omega) | exact Jar Us.h Sz.h rfl rfl (by omega) | (apply Jbl; exact Us.h; exact rfl; exact Sz.h; exact rfl)); exact rfl) | refine Jcg (Pu_load Fl.h rfl (fun _ e => by rw [e]; exact hcb)) rfl ?_)
    obtain ⟨l4, h4, ob, hin4⟩ := okb
    refine TL_call rfl en97 (markB_k ob (by omega) (by omega) (by omega)) rfl rfl ?_
    rintro _ w4 ⟨rfl, c4, hz4, ob4⟩
    have c4' : Ch (fun j => j ∈ blk vb) w3 w4 := c4.mono (fun j hj => hin4 j hj.1 hj.2)
    replace ho3 := ho3.ch c4' (fun j a b hj => (ap2 j hj).1 (hin j a b))
    replace oks := oks.ch c4' (fun b hb h => (ap3 b hb).2.1 h)
    replace oko := fun d hd => (⟨(oko d hd).1.ch c4' (fun b hb hg => (ap2 b hg).2.2 d hd (List.mem_append.2 (.inl hb))), (oko d hd).2.ch c4' (fun b hb hg => (ap2 b hg).2.2 d hd (List.mem_append.2 (.inr hb)))⟩ : OBx w4 d.vb d.body ∧ OBx w4 d.vs d.safe)
    have okb4 : OBx w4 vb (mk8 (q + 1) body.length) := ⟨l4, h4, ob4, hin4⟩
    have hcs : w4.cell? ((⟨g, 0, none⟩ : Addr).add (i * 3 + 2)) = some vs := by
      obtain ⟨ad, h, _, _, hc⟩ := ho3.rd.at_ (by omega)
      injection h with h; subst h
      exact hc _ _ (by rw [mid_get _ _ _ _ hcl]; rfl)
    rw [← add_of_add] at hcs
    repeat' (first | apply Jbq | apply Jbr | apply Jbt | (apply Jcg; (first | exact Jaa rfl | exact Jab rfl | exact Jar Us.h Sz.h rfl rfl (by omega) | (apply Jbl; exact Us.h; exact rfl; exact Sz.h; exact rfl)); exact rfl) | refine Jcg (Pu_load Fl.h rfl (fun _ e => by rw [e]; exact hcs)) rfl ?_)
    obtain ⟨l5, h5, os, hin5⟩ := oks
    refine TL_call rfl en97 (markB_k os (by omega) (by omega) (by omega)) rfl rfl ?_
    rintro _ w5 ⟨rfl, c5, hz5, os5⟩
    have c5' : Ch (fun j => j ∈ blk vs) w4 w5 := c5.mono (fun j hj => hin5 j hj.1 hj.2)
    replace ho3 := ho3.ch c5' (fun j a b hj => (ap3 j hj).1 (hin j a b))
    replace okb4 := okb4.ch c5' (fun b hb h => (ap2 b hb).2.1 h)
    replace oko := fun d hd => (⟨(oko d hd).1.ch c5' (fun b hb hg => (ap3 b hg).2.2 d hd (List.mem_append.2 (.inl hb))), (oko d hd).2.ch c5' (fun b hb hg => (ap3 b hg).2.2 d hd (List.mem_append.2 (.inr hb)))⟩ : OBx w5 d.vb d.body ∧ OBx w5 d.vs d.safe)
    have oks5 : OBx w5 vs (mk8 (q + 1 + body.length) safe.length) := ⟨l5, h5, os5, hin5⟩
    repeat' (first | apply Jbq | apply Jbr | apply Jbt | apply Jbx | (apply Jcg; (first | exact Jaa rfl | exact Jab rfl | exact Jaf rfl rfl (by omega)); exact rfl))
    have hdr2 : markNd k (ds.take (i + 1)) ++ ds.drop (i + 1) = M ++ (⟨q, mk8 (q + 1) body.length, mk8 (q + 1 + body.length) safe.length, vb, vs⟩ : Nd) :: D := by
      rw [hmk, hD, List.append_assoc]; rfl
    have hlen2 : (M ++ (⟨q, mk8 (q + 1) body.length, mk8 (q + 1 + body.length) safe.length, vb, vs⟩ : Nd) :: D).length = ds.length := by
      rw [List.length_append, List.length_cons] at hlen ⊢; exact hlen
    refine TN_round (i + 1) (subEnv_cons rfl (subEnv_cons (congrArg (fun z => some (I z)) (by rw [hct]; omega)) (subEnv_cons rfl (subEnv_nil _)))) ⟨hlt, ?_, ?_⟩ (by omega)
    · exact ((c2.then (c3'.mono (fun j hj => inV j hj))).then (c4'.mono (fun j hj => inB j hj))).then (c5'.mono (fun j hj => inS j hj))
    · rw [hdr2]
      refine ⟨⟨l1, h1, ⟨some ⟨g, 0, none⟩, c, by rw [hlen2], by rw [hlen2, cells_mid]; exact ho3⟩, hin⟩, fun d hd => ?_, ?_⟩
      · rcases List.mem_append.1 hd with hd | hd
        · exact oko d (List.mem_append.2 (.inl hd))
        · rcases List.mem_cons.1 hd with rfl | hd
          · exact ⟨okb4, oks5⟩
          · exact oko d (List.mem_append.2 (.inr hd))
      · have : bksN (.slice (some ⟨g, 0, none⟩) ds.length c) (M ++ (⟨q, mk8 (q + 1) body.length, mk8 (q + 1 + body.length) safe.length, vb, vs⟩ : Nd) :: D) = bksN (.slice (some ⟨g, 0, none⟩) ds.length c) (M ++ (⟨id, body, safe, vb, vs⟩ : Nd) :: D) := by
          unfold bksN
          rw [List.flatMap_append, List.flatMap_append, List.flatMap_cons, List.flatMap_cons]
          rfl
        rw [this]
        exact hnd
  · obtain rfl : i = ds.length := by omega
    rw [List.take_length, List.drop_length, List.append_nil] at h2
    rw [List.take_length]
    repeat' (first | apply Jbq | apply Jbr | apply Jbs | apply Jbt | apply Jbu | apply Jca | apply Jcb | apply Jcc | (apply Jcg; (first | exact Jaa rfl | exact Jab rfl); exact rfl))
    exact TR_of (res1 rfl rfl) ⟨rfl, c2, h2⟩
end Go.Proofs.YtggaghghclomkaaGreat

/- Marks of nodes that are held; disks that a call owns, their marks. -/
namespace Go.Proofs.YtggaghghclomkaaGreat
open Go.RowKit
theorem markNd_get (k : Int) : ∀ (l : List Nd) (i : Nat) (h : i < l.length) (h2 : i < (markNd k l).length), (markNd k l)[i] = mk1 (k + cntNd (l.take i)) l[i]
  | d :: r, 0, _, _ => by simp [markNd, cntNd]
  | d :: r, i + 1, h, h2 => by
    simp only [markNd, List.getElem_cons_succ, List.take_succ_cons, cntNd]
    rw [markNd_get (k + cnt1 d) r i (by simpa using h)]
    rw [Int.add_assoc]
/-- A disk that a call owns, between lo and hi. -/
def ODk (w : World) (lo hi : Nat) (d : DiskP) (sn sk st : Value) : Prop :=
  hi ≤ w.heap.size ∧ ∃ ds : List Nd, ds.map NdP = d.nodes ∧ ONx w sn ds ∧ RowOx LkC 162 2 w sk d.kept ∧ RowOx TnC 121 4 w st d.turns ∧ (bksN sn ds ++ (blk sk ++ blk st)).Nodup ∧ ∀ b ∈ bksN sn ds ++ (blk sk ++ blk st), lo ≤ b ∧ b < hi
theorem RowOx.rr {α : Type} {f : α → List Value} {e : TypeId} {s : Nat} {w : World} {lo hi : Nat} {v : Value} {l : List α} (h : RowOx f e s w v l) (hb : ∀ b ∈ blk v, lo ≤ b ∧ b < hi) (hs : hi ≤ w.heap.size) : RowR f s w lo hi v l := (h.at_ hb hs).rd
theorem ONx.rn {w : World} {lo hi : Nat} {v : Value} {ds : List Nd} (h : ONx w v ds) (hb : ∀ b ∈ bksN v ds, lo ≤ b ∧ b < hi) (hs : hi ≤ w.heap.size) : RN w lo hi v (ds.map NdP) := by
  obtain ⟨A, c, h1, h2, h3⟩ := h.row.rr (fun b hb' => hb b (List.mem_append.2 (.inl hb'))) hs
  refine ⟨ds, A, c, rfl, h1, h2, h3, fun d hd => ?_⟩
  obtain ⟨h4, h5⟩ := h.ok d hd
  exact ⟨(h4.at_ (fun b hb' => hb b (List.mem_append.2 (.inr (List.mem_flatMap.2 ⟨d, hd, List.mem_append.2 (.inl hb')⟩)))) hs).rd, (h5.at_ (fun b hb' => hb b (List.mem_append.2 (.inr (List.mem_flatMap.2 ⟨d, hd, List.mem_append.2 (.inr hb')⟩)))) hs).rd⟩
theorem ODk.rd {w : World} {lo hi : Nat} {d : DiskP} {sn sk st : Value} (h : ODk w lo hi d sn sk st) : RDk w lo hi d sn sk st := by
  obtain ⟨hs, ds, h1, h2, h3, h4, h5, h6⟩ := h
  refine ⟨?_, ?_, ?_⟩
  · rw [← h1]; exact h2.rn (fun b hb => h6 b (List.mem_append.2 (.inl hb))) hs
  · exact (h3.rr (fun b hb => h6 b (List.mem_append.2 (.inr (List.mem_append.2 (.inl hb))))) hs).rk
  · exact (h4.rr (fun b hb => h6 b (List.mem_append.2 (.inr (List.mem_append.2 (.inr hb))))) hs).rt
theorem ODk.ch {w w' : World} {lo hi : Nat} {d : DiskP} {sn sk st : Value} {T : Nat → Prop} (h : ODk w lo hi d sn sk st) (c : Ch T w w') (hd : ∀ k, lo ≤ k → k < hi → ¬ T k) : ODk w' lo hi d sn sk st := by
  obtain ⟨hs, ds, h1, h2, h3, h4, h5, h6⟩ := h
  have hn : ∀ b ∈ bksN sn ds ++ (blk sk ++ blk st), ¬ T b := fun b hb => hd b (h6 b hb).1 (h6 b hb).2
  exact ⟨Nat.le_trans hs c.size, ds, h1, h2.ch c (fun b hb => hn b (List.mem_append.2 (.inl hb))), h3.ch c (fun b hb => hn b (List.mem_append.2 (.inr (List.mem_append.2 (.inl hb))))), h4.ch c (fun b hb => hn b (List.mem_append.2 (.inr (List.mem_append.2 (.inr hb))))), h5, h6⟩
theorem ODk.ext {w w' : World} {lo hi : Nat} {d : DiskP} {sn sk st : Value} (h : ODk w lo hi d sn sk st) (c : Ext w w') : ODk w' lo hi d sn sk st := h.ch c (fun _ _ _ t => t)
theorem ODk.one {w : World} {lo hi : Nat} {d : DiskP} {sn sk st : Value} (h : ODk w lo hi d sn sk st) : (dskC d sn sk st).all (·.oneCell') = true := h.rd.one
theorem ODk.wide {w : World} {lo hi lo' hi' : Nat} {d : DiskP} {sn sk st : Value} (h : ODk w lo hi d sn sk st) (h1 : lo' ≤ lo) (h2 : hi ≤ hi') (h3 : hi' ≤ w.heap.size) : ODk w lo' hi' d sn sk st := by
  obtain ⟨hs, ds, g1, g2, g3, g4, g5, g6⟩ := h
  exact ⟨h3, ds, g1, g2, g3, g4, g5, fun b hb => by have := g6 b hb; omega⟩
/-- The marks of a disk, from k on. -/
def cntNp : List NodeP → Int
  | [] => 0
  | p :: r => 1 + p.2.1.length + p.2.2.length + cntNp r
def markNp (k : Int) : List NodeP → List NodeP
  | [] => []
  | p :: r => (k, mk8 (k + 1) p.2.1.length, mk8 (k + 1 + p.2.1.length) p.2.2.length) :: markNp (k + (1 + p.2.1.length + p.2.2.length)) r
theorem cntNp_map : ∀ ds : List Nd, cntNp (ds.map NdP) = cntNd ds
  | [] => rfl
  | d :: r => by simp only [List.map_cons, cntNp, cntNd, cnt1, cntNp_map r]; rfl
theorem markNp_map : ∀ (k : Int) (ds : List Nd), markNp k (ds.map NdP) = (markNd k ds).map NdP
  | _, [] => rfl
  | k, d :: r => by
    have h := markNp_map (k + cnt1 d) r
    show _ :: markNp (k + cnt1 d) (r.map NdP) = _
    rw [h]
    rfl
def cntD (d : DiskP) : Int := cntNp d.nodes + 2 * d.kept.length + 4 * d.turns.length
def markD (k : Int) (d : DiskP) : DiskP := { d with nodes := markNp k d.nodes, kept := mkK (k + cntNp d.nodes) d.kept.length, turns := mkTu (k + cntNp d.nodes + 2 * d.kept.length) d.turns.length }
theorem cntNp_tot : ∀ l : List NodeP, cntNp l = l.length + totNd l
  | [] => by simp [cntNp, totNd]
  | p :: r => by
    have := cntNp_tot r
    simp only [cntNp, totNd, List.map_cons, List.sum_cons, List.length_cons, NdW] at *
    omega
theorem cntD_le {d : DiskP} (h : totD d ≤ 1048576) : 0 ≤ cntNp d.nodes ∧ cntNp d.nodes ≤ 1048576 ∧ d.nodes.length ≤ 1048576 ∧ d.kept.length ≤ 1048576 ∧ d.turns.length ≤ 1048576 ∧ 0 ≤ cntD d ∧ cntD d ≤ 8388608 := by
  obtain ⟨l1, l2, l3⟩ := totD_parts h
  have := cntNp_tot d.nodes
  have := totNd_nn d.nodes
  have := totLk_nn d.kept
  have := totTn_nn d.turns
  unfold cntD
  omega
attribute [local irreducible] TL TC TN TX TR TQ TA Pu Ret
set_option maxHeartbeats 4000000 in
theorem heldNodeS_c {v : Value} {ds : List Nd} {k : Int} {w : World} {lo hi : Nat} (h : RN w lo hi v ((markNd k ds).map NdP)) (hl : ds.length ≤ 1048576) (hc : cntNd ds ≤ 4194304) (hk0 : 0 < k) (hk1 : k ≤ 1000000000) :
    Ret Tryz.prog 78 #[v, I k] w fun v' w' => v' = I (k + cntNd ds) ∧ Ext w w' := by
  obtain ⟨es, A, c, hm, rfl, hcl, hr, hok⟩ := h
  have hel : es.length = ds.length := by have := congrArg List.length hm; simpa [markNd_length] using this
  refine Ret_enter Tryz.func78 rfl rfl rfl ?_
  repeat' (first | apply Jbq | apply Jbr | apply Jbs | apply Jbt | apply Jby | (apply Jcg; exact Jab rfl; exact rfl))
  refine TC_loop (ι := Nat) (fun i => [(0, .slice A es.length c), (1, I (k + cntNd (ds.take i))), (5, I i)]) (fun i w' => i ≤ ds.length ∧ Ext w w') (fun i => ds.length - i) 0
    (subEnv_cons rfl (subEnv_cons (congrArg (fun z => some (I z)) (by simp [cntNd])) (subEnv_cons rfl (subEnv_nil _)))) ⟨Nat.zero_le _, Ch.refl _ _⟩ ?_
  intro i w2 ⟨hi2, e2⟩
  repeat' (first | apply Jbq | apply Jbr | apply Jbs | apply Jbt | (apply Jcg; (first | exact Jaa rfl | exact Jac Us.h rfl | exact Jad rfl rfl); exact rfl))
  refine Jcx rfl (fun hlt0 => ?_) (fun hge => ?_)
  · have hlt : i < ds.length := by omega
    have htk : ds.take (i + 1) = ds.take i ++ [ds[i]] := List.take_succ_eq_append_getElem hlt
    have hct : cntNd (ds.take (i + 1)) = cntNd (ds.take i) + cnt1 ds[i] := by rw [htk, cntNd_append]; simp [cntNd]
    have hall : cntNd ds = cntNd (ds.take i) + (cnt1 ds[i] + cntNd (ds.drop (i + 1))) := by
      have hdr : ds.drop i = ds[i] :: ds.drop (i + 1) := List.drop_eq_getElem_cons hlt
      conv => lhs; rw [← List.take_append_drop i ds, hdr]
      rw [cntNd_append]; rfl
    have hn1 := cntNd_nn (ds.take i)
    have hn2 := cntNd_nn (ds.drop (i + 1))
    obtain ⟨ad, rfl, hcell⟩ := Rd.elem NdC_len (hr.ext e2) (k := i) (by omega)
    have hel2 : NdP es[i] = NdP (mk1 (k + cntNd (ds.take i)) ds[i]) := by
      have h1 := congrArg (fun l => l[i]?) hm
      simp only [List.getElem?_map, List.getElem?_eq_getElem (show i < es.length by omega), List.getElem?_eq_getElem (show i < (markNd k ds).length by rw [markNd_length]; exact hlt), Option.map_some, Option.some.injEq] at h1
      rw [h1, markNd_get k ds i hlt]
    obtain ⟨ob, os⟩ := hok es[i] (List.getElem_mem _)
    obtain ⟨q, hq⟩ : ∃ q, q = k + cntNd (ds.take i) := ⟨_, rfl⟩
    obtain ⟨x, hx⟩ : ∃ x, x = ds[i] := ⟨_, rfl⟩
    obtain ⟨y, hy⟩ : ∃ y, y = es[i] := ⟨_, rfl⟩
    rw [← hy] at hcell hel2 ob os
    rw [← hx] at hel2 hct hall
    rw [← hq] at hel2
    obtain ⟨id, body, safe, vb, vs⟩ := y
    simp only [NdP, mk1, Prod.mk.injEq] at hel2
    obtain ⟨rfl, rfl, rfl⟩ := hel2
    simp only at ob os
    unfold cnt1 at hct hall
    have hqb : 0 < id ∧ id + 1 + x.body.length + x.safe.length ≤ 1099511627776 := by omega
    have h0 : w2.cell? ((ad.add (i * 3)).add 0) = some (I id) := hcell 0 _ rfl
    have h1 : w2.cell? ((ad.add (i * 3)).add 1) = some vb := hcell 1 _ rfl
    have h2 : w2.cell? ((ad.add (i * 3)).add 2) = some vs := hcell 2 _ rfl
    obtain ⟨Ab, cb, rfl, hcb, hrb⟩ := ob
    obtain ⟨As, cs, rfl, hcs, hrs⟩ := os
    rw [mk8_length] at hrb hrs h1 h2 hcb hcs
    rw [← hq]
    repeat' (first | apply Jbq | apply Jbr | apply Jbs | apply Jbt | apply Jby | apply Jbz | (apply Jcg; (first | exact Jaa rfl | exact Jal rfl rfl | exact Jar Us.h Sz.h rfl rfl (by omega) | (apply Jbl; exact Us.h; exact rfl; exact Sz.h; exact rfl)); exact rfl) | refine Jcg (Pu_load Fl.h rfl (fun _ e => by rw [e]; exact h0)) rfl ?_)
    refine Jcf (by rw [show (!decide (id = id)) = false from by simp]; rfl) ?_
    repeat' (first | apply Jbq | apply Jbr | apply Jbs | apply Jbt | apply Jbz | (apply Jcg; (first | exact Jaa rfl | exact Jab rfl | exact Jaf rfl rfl (by omega) | exact Jar Us.h Sz.h rfl rfl (by omega) | (apply Jbl; exact Us.h; exact rfl; exact Sz.h; exact rfl)); exact rfl) | refine Jcg (Pu_load Fl.h rfl (fun _ e => by rw [e]; exact h1)) rfl ?_)
    refine TL_call rfl en150 (heldByteS_c (hrb.ext e2) (by omega) (by omega) (by omega)) rfl rfl ?_
    rintro _ w3 ⟨rfl, e3⟩
    have h2' := e3.cell h2
    repeat' (first | apply Jbq | apply Jbr | apply Jbs | apply Jbt | apply Jbz | (apply Jcg; (first | exact Jaa rfl | exact Jab rfl | exact Jad rfl rfl | exact Jar Us.h Sz.h rfl rfl (by omega) | (apply Jbl; exact Us.h; exact rfl; exact Sz.h; exact rfl)); exact rfl) | refine Jcg (Pu_load Fl.h rfl (fun _ e => by rw [e]; exact h2')) rfl ?_ | (refine Jcx rfl (fun hb => ?_) (fun hb => ?_) <;> (try (exfalso; omega))))
    refine TL_call rfl en150 (heldByteS_c (hrs.ext (e2.ext e3)) (by omega) (by omega) (by omega)) rfl rfl ?_
    rintro _ w4 ⟨rfl, e4⟩
    repeat' (first | apply Jbq | apply Jbr | apply Jbs | apply Jbt | apply Jbx | apply Jbz | (apply Jcg; (first | exact Jaa rfl | exact Jab rfl | exact Jad rfl rfl | exact Jaf rfl rfl (by omega)); exact rfl) | (refine Jcx rfl (fun hb => ?_) (fun hb => ?_) <;> (try (exfalso; omega))))
    exact TN_round (i + 1) (subEnv_cons rfl (subEnv_cons (congrArg (fun z => some (I z)) (by rw [hct]; omega)) (subEnv_cons rfl (subEnv_nil _)))) ⟨hlt, (e2.ext e3).ext e4⟩ (by omega)
  · obtain rfl : i = ds.length := by omega
    rw [List.take_length]
    repeat' (first | apply Jbq | apply Jbr | apply Jbs | apply Jbt | apply Jbu | apply Jca | apply Jcb | apply Jcc | (apply Jcg; (first | exact Jaa rfl | exact Jab rfl); exact rfl))
    exact TR_of (res1 rfl rfl) ⟨rfl, e2⟩
end Go.Proofs.YtggaghghclomkaaGreat

/- Nodes, links, turns and disks are copied by the laws into memory that the call owns; their marks. -/
namespace Go.Proofs.YtggaghghclomkaaGreat
open Go.RowKit
theorem blk_nodup (v : Value) : (blk v).Nodup := by
  unfold blk
  split <;> simp
theorem bk2 {a c : Value} {lo m : Nat} (h1 : ∀ b ∈ blk a, lo ≤ b ∧ b < m) (h2 : ∀ b ∈ blk c, m ≤ b) : (blk a ++ blk c).Nodup := by
  rw [List.nodup_append]
  exact ⟨blk_nodup a, blk_nodup c, fun x hx y hy => by have := h1 x hx; have := h2 y hy; omega⟩
def NdOwn (w : World) (lo hi : Nat) (d : Nd) : Prop := OB w lo hi d.vb d.body ∧ OB w lo hi d.vs d.safe ∧ (bkd d).Nodup
theorem NdOwn.ch {w w' : World} {lo hi : Nat} {d : Nd} {T : Nat → Prop} (h : NdOwn w lo hi d) (c : Ch T w w') (hd : ∀ k, lo ≤ k → k < hi → ¬ T k) : NdOwn w' lo hi d := ⟨h.1.ch c hd, h.2.1.ch c hd, h.2.2⟩
theorem NdOwn.wide {w : World} {lo hi lo' hi' : Nat} {d : Nd} (h : NdOwn w lo hi d) (h1 : lo' ≤ lo) (h2 : hi ≤ hi') (h3 : hi' ≤ w.heap.size) : NdOwn w lo' hi' d := ⟨h.1.wide h1 h2 h3, h.2.1.wide h1 h2 h3, h.2.2⟩
theorem NdOwn.bin {w : World} {lo hi : Nat} {d : Nd} (h : NdOwn w lo hi d) : ∀ b ∈ bkd d, lo ≤ b ∧ b < hi := fun b hb => by
  rcases List.mem_append.1 hb with hb | hb
  · exact h.1.bin b hb
  · exact h.2.1.bin b hb
theorem NdOwn.ok {w : World} {lo hi : Nat} {d : Nd} (h : NdOwn w lo hi d) : NdOk w lo hi d := ⟨h.1.rd, h.2.1.rd⟩
theorem NdOwn.one {w : World} {lo hi : Nat} {d : Nd} (h : NdOwn w lo hi d) : (NdC d).all (·.oneCell') = true := h.ok.one
/-- Nodes that a call owns between lo and hi. -/
def ONr (w : World) (lo hi : Nat) (v : Value) (l : List NodeP) : Prop := ∃ ds : List Nd, ds.map NdP = l ∧ ONx w v ds ∧ ∀ b ∈ bksN v ds, lo ≤ b ∧ b < hi
theorem ONr.ch {w w' : World} {lo hi : Nat} {v : Value} {l : List NodeP} {T : Nat → Prop} (h : ONr w lo hi v l) (c : Ch T w w') (hd : ∀ k, lo ≤ k → k < hi → ¬ T k) : ONr w' lo hi v l := by
  obtain ⟨ds, h1, h2, h3⟩ := h
  exact ⟨ds, h1, h2.ch c (fun b hb => hd b (h3 b hb).1 (h3 b hb).2), h3⟩
theorem ONr.ext {w w' : World} {lo hi : Nat} {v : Value} {l : List NodeP} (h : ONr w lo hi v l) (c : Ext w w') : ONr w' lo hi v l := h.ch c (fun _ _ _ t => t)
theorem ONr.one {w : World} {lo hi : Nat} {v : Value} {l : List NodeP} (h : ONr w lo hi v l) : v.oneCell' = true := by obtain ⟨ds, _, h2, _⟩ := h; exact h2.row.one
theorem RowO.one {α : Type} {f : α → List Value} {e : TypeId} {s : Nat} {w : World} {lo hi : Nat} {v : Value} {l : List α} (h : RowO f e s w lo hi v l) : v.oneCell' = true := h.rd.one
/-- Parts that lie one behind the other make a disk. -/
theorem ODk.of {w : World} {lo m1 m1' m2 m2' hi : Nat} {d : DiskP} {sn sk st : Value} (h1 : ONr w lo m1 sn d.nodes) (h2 : RowO LkC 162 2 w m1' m2 sk d.kept) (h3 : RowO TnC 121 4 w m2' hi st d.turns) (a : m1 ≤ m1') (b : m2 ≤ m2') (c : hi ≤ w.heap.size) (e : m1' ≤ m2) (f : m2' ≤ hi) (g : lo ≤ m1) : ODk w lo hi d sn sk st := by
  obtain ⟨ds, g1, g2, g3⟩ := h1
  refine ⟨c, ds, g1, g2, h2.x, h3.x, ?_, fun x hx => ?_⟩
  · rw [List.nodup_append]
    refine ⟨g2.nd, bk2 h2.bin (fun x hx => Nat.le_trans b (h3.bin x hx).1), fun x hx y hy => ?_⟩
    have := g3 x hx
    rcases List.mem_append.1 hy with hy | hy
    · have := h2.bin y hy; omega
    · have := h3.bin y hy; omega
  · rcases List.mem_append.1 hx with hx | hx
    · have := g3 x hx; omega
    · rcases List.mem_append.1 hx with hx | hx
      · have := h2.bin x hx; omega
      · have := h3.bin x hx; omega
attribute [local irreducible] TL TC TN TX TR TQ TA Pu Ret
set_option maxHeartbeats 1000000 in
theorem toNode_o {w : World} {lo hi : Nat} {d : Nd} (h : NdOk w lo hi d) (hl : NdW (NdP d) ≤ 1048576) :
    Ret Tryz.prog 136 #[.agg (NdC d).toArray] w fun v' w' => ∃ d', v' = .agg (NdC d').toArray ∧ NdP d' = NdP d ∧ Ext w w' ∧ NdOwn w' w.heap.size w'.heap.size d' := by
  obtain ⟨id, body, safe, vb, vs⟩ := d
  simp only [NdW, NdP] at hl
  refine Ret_enter Tryz.func136 rfl rfl rfl ?_
  repeat' (first | apply Jbs | apply Jbt)
  refine TL_box (cs := NdC ⟨id, body, safe, vb, vs⟩) rfl rfl ?_
  intro w1 g1 e1 hg1 hz1 hb1
  skip
  refine TL_alloc Zs.h rfl rfl ?_
  intro w2 g2 e2 hg2 hz2 hb2
  replace hb1 := hb1.ext e2
  repeat' (first | apply Jbq | apply Jbr | apply Jbs | apply Jbt)
  refine TL_alloc Zs.h rfl rfl ?_
  intro w3 g3 e3 hg3 hz3 hb3
  replace hb1 := hb1.ext e3
  replace hb2 := hb2.ext e3
  have E : Ext w w3 := (e1.ext e2).ext e3
  have hgw : w.heap.size ≤ g1 ∧ g1 < g2 ∧ g2 < g3 := by omega
  clear hg1 hg2 hg3 e1 e2 e3 hz1 hz2 hz3
  repeat' (first | apply Jbq | apply Jbr | apply Jbs | apply Jbt | (apply Jcg; (apply Jbl; exact Us.h; exact rfl; exact Sz.h; exact rfl); exact rfl) | refine Jcg (Pu_load Fl.h rfl (fun _ e => by rw [e]; exact hb1.ld rfl)) rfl ?_)
  refine TL_store rfl rfl Sz.h rfl hb3 rfl ?_
  clear hb3
  intro w4 c4 hz4 hb3
  replace hb1 := hb1.ch c4 (by simp only [Iv]; omega)
  replace hb2 := hb2.ch c4 (by simp only [Iv]; omega)
  replace E : Ext w w4 := Ext.then_iv E c4 (by omega)
  have hlt := hb3.lt
  repeat' (first | apply Jbq | apply Jbr | apply Jbs | apply Jbt | (apply Jcg; (apply Jbl; exact Us.h; exact rfl; exact Sz.h; exact rfl); exact rfl) | refine Jcg (Pu_load Fl.h rfl (fun _ e => by rw [e]; exact hb1.ld rfl)) rfl ?_)
  refine TL_call rfl en91 (toB_k (h.1.ext E) (by simp only; omega)) rfl rfl ?_
  intro vb2 w5 ⟨e5, ho5⟩
  replace hb1 := hb1.ext e5
  replace hb2 := hb2.ext e5
  replace hb3 := hb3.ext e5
  have hs4 := E.size
  have hs5 := e5.size
  replace E := E.ext e5
  have hone5 := ho5.rd.one
  repeat' ((apply Jcg; (apply Jbl; exact Us.h; exact rfl; exact Sz.h; exact rfl); exact rfl))
  refine TL_store rfl rfl Sz.h hone5 hb3 rfl ?_
  clear hb3
  intro w6 c6 hz6 hb3
  replace hb1 := hb1.ch c6 (by simp only [Iv]; omega)
  replace hb2 := hb2.ch c6 (by simp only [Iv]; omega)
  replace ho5 := ho5.ch c6 (by intro k _ _; simp only [Iv]; omega)
  replace E : Ext w w6 := Ext.then_iv E c6 (by omega)
  repeat' (first | apply Jbq | apply Jbr | apply Jbs | apply Jbt | (apply Jcg; (apply Jbl; exact Us.h; exact rfl; exact Sz.h; exact rfl); exact rfl) | refine Jcg (Pu_load Fl.h rfl (fun _ e => by rw [e]; exact hb1.ld rfl)) rfl ?_)
  refine TL_call rfl en91 (toB_k (h.2.ext E) (by simp only; omega)) rfl rfl ?_
  intro vs2 w7 ⟨e7, ho7⟩
  replace hb2 := hb2.ext e7
  replace hb3 := hb3.ext e7
  replace ho5 := ho5.ext e7
  have hs7 := e7.size
  replace E := E.ext e7
  have hone7 := ho7.rd.one
  repeat' ((apply Jcg; (apply Jbl; exact Us.h; exact rfl; exact Sz.h; exact rfl); exact rfl))
  refine TL_store rfl rfl Sz.h hone7 hb3 rfl ?_
  clear hb3
  intro w8 c8 hz8 hb3
  replace hb2 := hb2.ch c8 (by simp only [Iv]; omega)
  replace ho5 := ho5.ch c8 (by intro k _ _; simp only [Iv]; omega)
  replace ho7 := ho7.ch c8 (by intro k _ _; simp only [Iv]; omega)
  replace E : Ext w w8 := Ext.then_iv E c8 (by omega)
  repeat' (first | apply Jbq | apply Jbr | apply Jbs | apply Jbt)
  refine Jcg (Pu_loadAgg (cs := NdC ⟨id, body, safe, vb2, vs2⟩) Us.h rfl Sz.h rfl (fun _ e j u hu => by rw [e, add0, hb3.cell]; exact hu)) rfl ?_
  skip
  refine TL_storeAgg rfl rfl Sz.h (by show ((NdC ⟨id, body, safe, vb2, vs2⟩).all (·.oneCell')) = true; simp only [NdC, List.all_cons, List.all_nil, hone5, hone7]; rfl) hb2 rfl ?_
  clear hb2
  intro w9 c9 hz9 hb2
  replace ho5 := ho5.ch c9 (by intro k _ _; simp only [Iv]; omega)
  replace ho7 := ho7.ch c9 (by intro k _ _; simp only [Iv]; omega)
  repeat' (first | apply Jbq | apply Jbr | apply Jbu)
  exact TR_of (resA rfl rfl hb2 Us.h rfl Sz.h) ⟨⟨id, body, safe, vb2, vs2⟩, rfl, rfl, Ext.then_iv E c9 (by omega), ho5.wide (by omega) (by omega) (Nat.le_refl _), ho7.wide (by omega) (by omega) (Nat.le_refl _), bk2 ho5.bin (fun b hb => Nat.le_trans (by omega) (ho7.bin b hb).1)⟩
set_option maxHeartbeats 1000000 in
theorem toNodeS_o {w : World} {lo hi : Nat} {v : Value} {l : List NodeP} (h : RN w lo hi v l) (hl : l.length + totNd l ≤ 1048576) :
    Ret Tryz.prog 62 #[v] w fun v' w' => Ext w w' ∧ ONr w' w.heap.size w'.heap.size v' l := by
  obtain ⟨ds, A, c, rfl, rfl, _, hr, hok⟩ := h
  have hnn := totNd_nn (ds.map NdP)
  rw [List.length_map] at hl
  refine Ret_enter Tryz.func62 rfl rfl rfl ?_
  repeat' (first | apply Jbq | apply Jbr | apply Jbs | apply Jbt | (apply Jcg; (first | exact Jaa rfl | exact Jab rfl | exact Jac Us.h rfl); exact rfl))
  refine TL_make Us.h Inf.h rfl rfl (by omega) (by omega) (by omega) rfl ?_
  intro w1 g e1 hg hz1 hown
  repeat' (first | apply Jbq | apply Jbr | apply Jbs | apply Jbt | apply Jby | (apply Jcg; exact Jab rfl; exact rfl))
  obtain ⟨xs, hxs⟩ : ∃ xs, xs = (madeCells (Value.cells (.agg #[.int .i64 0, .slice none 0 0, .slice none 0 0])) ((ds.length : Int).toNat * 3)).toList := ⟨_, rfl⟩
  rw [← hxs] at hown
  have hxl : xs.length = ds.length * 3 := by have := hown.len; simpa using this
  refine TC_loop (ι := Nat × List Nd) (fun x => [(0, .slice A ds.length c), (3, .slice (some ⟨g, 0, none⟩) ds.length ds.length), (4, I x.1)])
    (fun x w' => x.1 ≤ ds.length ∧ x.2.map NdP = (ds.map NdP).take x.1 ∧ x.2.length = x.1 ∧ Ext w w' ∧ Own w' g (g + 1) 98 3 (some ⟨g, 0, none⟩) ds.length ds.length (cellsL NdC x.2 ++ xs.drop (x.1 * 3)) ∧ (∀ d ∈ x.2, NdOwn w' (g + 1) w'.heap.size d) ∧ (x.2.flatMap bkd).Nodup) (fun x => ds.length - x.1) (0, [])
    (subEnv_cons rfl (subEnv_cons rfl (subEnv_cons rfl (subEnv_nil _)))) ⟨Nat.zero_le _, by simp, rfl, e1, by simpa [cellsL] using hown, by simp, by simp⟩ ?_
  rintro ⟨k, ys⟩ w2 ⟨hk, hys, hyl, e2, hown2, hok2, hnd2⟩
  simp only at hk hys hyl hown2 hok2 hnd2
  repeat' (first | apply Jbq | apply Jbr | apply Jbs | apply Jbt | (apply Jcg; (first | exact Jaa rfl | exact Jac Us.h rfl | exact Jad rfl rfl); exact rfl))
  refine Jcx rfl (fun hlt0 => ?_) (fun hge => ?_)
  · have hlt : k < ds.length := by omega
    obtain ⟨ad, rfl, hc⟩ := Rd.elem NdC_len (hr.ext e2) hlt
    have hmem := List.getElem_mem hlt
    have hwk := totNd_mem (List.mem_map_of_mem (f := NdP) hmem)
    repeat' (first | apply Jbr | apply Jbs | apply Jbt | apply Jby | apply Jbz | (apply Jcg; (first | exact Jaa rfl | exact Jar Us.h Sz.h rfl rfl (by omega)); exact rfl) | refine Jcg (Pu_loadAgg (cs := NdC ds[k]) Us.h rfl Sz.h rfl (fun _ e j u hu => by rw [e]; exact hc j u hu)) rfl ?_)
    refine TL_call rfl en136 (toNode_o ((hok _ hmem).ch e2 (fun _ _ _ t => t)) (by omega)) rfl rfl ?_
    rintro _ w3 ⟨d', rfl, hp3, e3, hok3⟩
    have hcl : (cellsL NdC ys).length = k * 3 := by rw [cellsL_length NdC_len, hyl]
    have hgl := hown2.hi_le
    have hs3 := e3.size
    repeat' ((apply Jcg; exact Jar Us.h Sz.h rfl rfl (by omega); exact rfl))
    refine TL_storeOwnAgg rfl (add0 g (k * 3)) rfl Sz.h hok3.one (hown2.ext e3) (by rw [NdC_len]; omega) ?_
    intro w4 c4 hz4 hown4
    rw [setL_app _ _ _ _ hcl (by rw [NdC_len, List.length_drop]; omega), List.drop_drop, NdC_len] at hown4
    repeat' (first | apply Jbq | apply Jbr | apply Jbt | apply Jbx | (apply Jcg; (first | exact Jaa rfl | exact Jab rfl | exact Jaf rfl rfl (by omega)); exact rfl))
    refine TN_round (k + 1, ys ++ [d']) (subEnv_cons rfl (subEnv_cons rfl (subEnv_cons rfl (subEnv_nil _)))) ⟨hlt, ?_, by simp [hyl], Ext.then_iv (e2.ext e3) c4 (by omega), ?_, ?_, ?_⟩ (by simp only; omega)
    · rw [List.map_append, hys, List.take_succ_eq_append_getElem (by rw [List.length_map]; exact hlt)]; simp [hp3]
    · rw [cellsL_append]
      have : cellsL NdC [d'] = NdC d' := by simp [cellsL]
      rw [this, Nat.succ_mul]
      exact hown4
    · intro x hx
      rcases List.mem_append.1 hx with hx | hx
      · exact (((hok2 x hx).ch e3 (fun _ _ _ t => t)).ch c4 (by intro j _ _; simp only [Iv]; omega)).wide (Nat.le_refl _) (by omega) (Nat.le_refl _)
      · rw [List.mem_singleton.1 hx]
        exact (hok3.ch c4 (by intro j _ _; simp only [Iv]; omega)).wide (by omega) (by omega) (Nat.le_refl _)
    · simp only
      rw [List.flatMap_append, List.nodup_append]
      refine ⟨hnd2, by simpa using hok3.2.2, fun a ha b hb => ?_⟩
      obtain ⟨y, hy, hya⟩ := List.mem_flatMap.1 ha
      have h1 := (hok2 y hy).bin a hya
      have h2 := hok3.bin b (by simpa using hb)
      omega
  · obtain rfl : k = ds.length := by omega
    rw [List.drop_eq_nil_of_le (by omega), List.append_nil] at hown2
    rw [List.take_of_length_le (by simp)] at hys
    repeat' (first | apply Jbq | apply Jbr | apply Jbs | apply Jbt | apply Jbu | apply Jca | apply Jcb | apply Jcc | (apply Jcg; (first | exact Jaa rfl | exact Jab rfl); exact rfl))
    have hh := hown2.hi_le
    have hrow : RowO NdC 98 3 w2 g (g + 1) (.slice (some ⟨g, 0, none⟩) ds.length ds.length) ys := ⟨some ⟨g, 0, none⟩, ds.length, by rw [hyl], by rw [hyl]; exact hown2⟩
    refine TR_of (res1 rfl rfl) ⟨e2, ys, hys, ⟨hrow.x, fun d hd => ⟨(hok2 d hd).1.x, (hok2 d hd).2.1.x⟩, ?_⟩, fun b hb => ?_⟩
    · show ([g] ++ ys.flatMap bkd).Nodup
      rw [List.singleton_append, List.nodup_cons]
      refine ⟨fun hg' => ?_, hnd2⟩
      obtain ⟨y, hy, hya⟩ := List.mem_flatMap.1 hg'
      have := (hok2 y hy).bin g hya
      omega
    · rcases List.mem_append.1 hb with hb | hb
      · have := hrow.bin b hb; omega
      · obtain ⟨y, hy, hya⟩ := List.mem_flatMap.1 hb
        have := (hok2 y hy).bin b hya
        omega
set_option maxHeartbeats 1000000 in
theorem toLinkS_o {w : World} {lo hi : Nat} {v : Value} {l : List LinkP} (h : RK w lo hi v l) (hl : l.length + totLk l ≤ 1048576) :
    Ret Tryz.prog 63 #[v] w fun v' w' => Ext w w' ∧ RowO LkC 162 2 w' w.heap.size w'.heap.size v' l := by
  obtain ⟨ds, A, c, rfl, rfl, _, hr, hok⟩ := h
  have hnn := totLk_nn (ds.map LkP)
  rw [List.length_map] at hl
  refine Ret_enter Tryz.func63 rfl rfl rfl ?_
  repeat' (first | apply Jbq | apply Jbr | apply Jbs | apply Jbt | (apply Jcg; (first | exact Jaa rfl | exact Jab rfl | exact Jac Us.h rfl); exact rfl))
  refine TL_make Us.h Inf.h rfl rfl (by omega) (by omega) (by omega) rfl ?_
  intro w1 g e1 hg hz1 hown
  repeat' (first | apply Jbq | apply Jbr | apply Jbs | apply Jbt | apply Jby | (apply Jcg; exact Jab rfl; exact rfl))
  obtain ⟨xs, hxs⟩ : ∃ xs, xs = (madeCells (Value.cells (.agg #[.string ByteArray.empty, .int .i64 0])) ((ds.length : Int).toNat * 2)).toList := ⟨_, rfl⟩
  rw [← hxs] at hown
  have hxl : xs.length = ds.length * 2 := by have := hown.len; simpa using this
  refine TC_loop (ι := Nat × List LkD) (fun x => [(0, .slice A ds.length c), (3, .slice (some ⟨g, 0, none⟩) ds.length ds.length), (4, I x.1)])
    (fun x w' => x.1 ≤ ds.length ∧ x.2.map LkP = (ds.map LkP).take x.1 ∧ x.2.length = x.1 ∧ Ext w w' ∧ Own w' g (g + 1) 162 2 (some ⟨g, 0, none⟩) ds.length ds.length (cellsL LkC x.2 ++ xs.drop (x.1 * 2)) ∧ ∀ d ∈ x.2, LkOk w' (g + 1) w'.heap.size d) (fun x => ds.length - x.1) (0, [])
    (subEnv_cons rfl (subEnv_cons rfl (subEnv_cons rfl (subEnv_nil _)))) ⟨Nat.zero_le _, by simp, rfl, e1, by simpa [cellsL] using hown, by simp⟩ ?_
  rintro ⟨k, ys⟩ w2 ⟨hk, hys, hyl, e2, hown2, hok2⟩
  simp only at hk hys hyl hown2 hok2
  repeat' (first | apply Jbq | apply Jbr | apply Jbs | apply Jbt | (apply Jcg; (first | exact Jaa rfl | exact Jac Us.h rfl | exact Jad rfl rfl); exact rfl))
  refine Jcx rfl (fun hlt0 => ?_) (fun hge => ?_)
  · have hlt : k < ds.length := by omega
    obtain ⟨ad, rfl, hc⟩ := Rd.elem LkC_len (hr.ext e2) hlt
    have hmem := List.getElem_mem hlt
    have hwk := totLk_mem (List.mem_map_of_mem (f := LkP) hmem)
    repeat' (first | apply Jbr | apply Jbs | apply Jbt | apply Jby | apply Jbz | (apply Jcg; (first | exact Jaa rfl | exact Jar Us.h Sz.h rfl rfl (by omega)); exact rfl) | refine Jcg (Pu_loadAgg (cs := LkC ds[k]) Us.h rfl Sz.h rfl (fun _ e j u hu => by rw [e]; exact hc j u hu)) rfl ?_)
    refine TL_call rfl en137 (toLink_c ((hok _ hmem).ch e2 (fun _ _ _ t => t)) (by omega)) rfl rfl ?_
    rintro _ w3 ⟨d', rfl, hp3, e3, hok3⟩
    have hcl : (cellsL LkC ys).length = k * 2 := by rw [cellsL_length LkC_len, hyl]
    have hgl := hown2.hi_le
    have hs3 := e3.size
    repeat' ((apply Jcg; exact Jar Us.h Sz.h rfl rfl (by omega); exact rfl))
    refine TL_storeOwnAgg rfl (add0 g (k * 2)) rfl Sz.h hok3.one (hown2.ext e3) (by rw [LkC_len]; omega) ?_
    intro w4 c4 hz4 hown4
    rw [setL_app _ _ _ _ hcl (by rw [LkC_len, List.length_drop]; omega), List.drop_drop, LkC_len] at hown4
    repeat' (first | apply Jbq | apply Jbr | apply Jbt | apply Jbx | (apply Jcg; (first | exact Jaa rfl | exact Jab rfl | exact Jaf rfl rfl (by omega)); exact rfl))
    refine TN_round (k + 1, ys ++ [d']) (subEnv_cons rfl (subEnv_cons rfl (subEnv_cons rfl (subEnv_nil _)))) ⟨hlt, ?_, by simp [hyl], Ext.then_iv (e2.ext e3) c4 (by omega), ?_, ?_⟩ (by simp only; omega)
    · rw [List.map_append, hys, List.take_succ_eq_append_getElem (by rw [List.length_map]; exact hlt)]; simp [hp3]
    · rw [cellsL_append]
      have : cellsL LkC [d'] = LkC d' := by simp [cellsL]
      rw [this, Nat.succ_mul]
      exact hown4
    · intro x hx
      rcases List.mem_append.1 hx with hx | hx
      · exact (((hok2 x hx).ch e3 (fun _ _ _ t => t)).ch c4 (by intro j _ _; simp only [Iv]; omega)).wide (Nat.le_refl _) (by omega) (Nat.le_refl _)
      · rw [List.mem_singleton.1 hx]
        exact (hok3.ch c4 (by intro j _ _; simp only [Iv]; omega)).wide (by omega) (by omega) (Nat.le_refl _)
  · obtain rfl : k = ds.length := by omega
    rw [List.drop_eq_nil_of_le (by omega), List.append_nil] at hown2
    rw [List.take_of_length_le (by simp)] at hys
    repeat' (first | apply Jbq | apply Jbr | apply Jbs | apply Jbt | apply Jbu | apply Jca | apply Jcb | apply Jcc | (apply Jcg; (first | exact Jaa rfl | exact Jab rfl); exact rfl))
    have hh := hown2.hi_le
    have hyd : ys = ds := by rw [← List.map_id ys, ← List.map_id ds]; exact hys
    subst hyd
    exact TR_of (res1 rfl rfl) ⟨e2, some ⟨g, 0, none⟩, ys.length, by rw [List.length_map], by rw [List.length_map]; exact (hown2.wide (by omega) hh (Nat.le_refl _)).cast rfl (congrArg (cellsL LkC) (List.map_id ys).symm)⟩
set_option maxHeartbeats 1000000 in
theorem toTurnS_o {w : World} {lo hi : Nat} {v : Value} {l : List TurnP} (h : RT w lo hi v l) (hl : l.length + totTn l ≤ 1048576) :
    Ret Tryz.prog 64 #[v] w fun v' w' => Ext w w' ∧ RowO TnC 121 4 w' w.heap.size w'.heap.size v' l := by
  obtain ⟨ds, A, c, rfl, rfl, _, hr, hok⟩ := h
  have hnn := totTn_nn (ds.map TnP)
  rw [List.length_map] at hl
  refine Ret_enter Tryz.func64 rfl rfl rfl ?_
  repeat' (first | apply Jbq | apply Jbr | apply Jbs | apply Jbt | (apply Jcg; (first | exact Jaa rfl | exact Jab rfl | exact Jac Us.h rfl); exact rfl))
  refine TL_make Us.h Inf.h rfl rfl (by omega) (by omega) (by omega) rfl ?_
  intro w1 g e1 hg hz1 hown
  repeat' (first | apply Jbq | apply Jbr | apply Jbs | apply Jbt | apply Jby | (apply Jcg; exact Jab rfl; exact rfl))
  obtain ⟨xs, hxs⟩ : ∃ xs, xs = (madeCells (Value.cells (.agg #[.int .i64 0, .string ByteArray.empty, .string ByteArray.empty, .int .i64 0])) ((ds.length : Int).toNat * 4)).toList := ⟨_, rfl⟩
  rw [← hxs] at hown
  have hxl : xs.length = ds.length * 4 := by have := hown.len; simpa using this
  refine TC_loop (ι := Nat × List TnD) (fun x => [(0, .slice A ds.length c), (3, .slice (some ⟨g, 0, none⟩) ds.length ds.length), (4, I x.1)])
    (fun x w' => x.1 ≤ ds.length ∧ x.2.map TnP = (ds.map TnP).take x.1 ∧ x.2.length = x.1 ∧ Ext w w' ∧ Own w' g (g + 1) 121 4 (some ⟨g, 0, none⟩) ds.length ds.length (cellsL TnC x.2 ++ xs.drop (x.1 * 4)) ∧ ∀ d ∈ x.2, TnOk w' (g + 1) w'.heap.size d) (fun x => ds.length - x.1) (0, [])
    (subEnv_cons rfl (subEnv_cons rfl (subEnv_cons rfl (subEnv_nil _)))) ⟨Nat.zero_le _, by simp, rfl, e1, by simpa [cellsL] using hown, by simp⟩ ?_
  rintro ⟨k, ys⟩ w2 ⟨hk, hys, hyl, e2, hown2, hok2⟩
  simp only at hk hys hyl hown2 hok2
  repeat' (first | apply Jbq | apply Jbr | apply Jbs | apply Jbt | (apply Jcg; (first | exact Jaa rfl | exact Jac Us.h rfl | exact Jad rfl rfl); exact rfl))
  refine Jcx rfl (fun hlt0 => ?_) (fun hge => ?_)
  · have hlt : k < ds.length := by omega
    obtain ⟨ad, rfl, hc⟩ := Rd.elem TnC_len (hr.ext e2) hlt
    have hmem := List.getElem_mem hlt
    have hwk := totTn_mem (List.mem_map_of_mem (f := TnP) hmem)
    repeat' (first | apply Jbr | apply Jbs | apply Jbt | apply Jby | apply Jbz | (apply Jcg; (first | exact Jaa rfl | exact Jar Us.h Sz.h rfl rfl (by omega)); exact rfl) | refine Jcg (Pu_loadAgg (cs := TnC ds[k]) Us.h rfl Sz.h rfl (fun _ e j u hu => by rw [e]; exact hc j u hu)) rfl ?_)
    refine TL_call rfl en138 (toTurn_c ((hok _ hmem).ch e2 (fun _ _ _ t => t)) (by omega)) rfl rfl ?_
    rintro _ w3 ⟨d', rfl, hp3, e3, hok3⟩
    have hcl : (cellsL TnC ys).length = k * 4 := by rw [cellsL_length TnC_len, hyl]
    have hgl := hown2.hi_le
    have hs3 := e3.size
    repeat' ((apply Jcg; exact Jar Us.h Sz.h rfl rfl (by omega); exact rfl))
    refine TL_storeOwnAgg rfl (add0 g (k * 4)) rfl Sz.h hok3.one (hown2.ext e3) (by rw [TnC_len]; omega) ?_
    intro w4 c4 hz4 hown4
    rw [setL_app _ _ _ _ hcl (by rw [TnC_len, List.length_drop]; omega), List.drop_drop, TnC_len] at hown4
    repeat' (first | apply Jbq | apply Jbr | apply Jbt | apply Jbx | (apply Jcg; (first | exact Jaa rfl | exact Jab rfl | exact Jaf rfl rfl (by omega)); exact rfl))
    refine TN_round (k + 1, ys ++ [d']) (subEnv_cons rfl (subEnv_cons rfl (subEnv_cons rfl (subEnv_nil _)))) ⟨hlt, ?_, by simp [hyl], Ext.then_iv (e2.ext e3) c4 (by omega), ?_, ?_⟩ (by simp only; omega)
    · rw [List.map_append, hys, List.take_succ_eq_append_getElem (by rw [List.length_map]; exact hlt)]; simp [hp3]
    · rw [cellsL_append]
      have : cellsL TnC [d'] = TnC d' := by simp [cellsL]
      rw [this, Nat.succ_mul]
      exact hown4
    · intro x hx
      rcases List.mem_append.1 hx with hx | hx
      · exact (((hok2 x hx).ch e3 (fun _ _ _ t => t)).ch c4 (by intro j _ _; simp only [Iv]; omega)).wide (Nat.le_refl _) (by omega) (Nat.le_refl _)
      · rw [List.mem_singleton.1 hx]
        exact (hok3.ch c4 (by intro j _ _; simp only [Iv]; omega)).wide (by omega) (by omega) (Nat.le_refl _)
  · obtain rfl : k = ds.length := by omega
    rw [List.drop_eq_nil_of_le (by omega), List.append_nil] at hown2
    rw [List.take_of_length_le (by simp)] at hys
    repeat' (first | apply Jbq | apply Jbr | apply Jbs | apply Jbt | apply Jbu | apply Jca | apply Jcb | apply Jcc | (apply Jcg; (first | exact Jaa rfl | exact Jab rfl); exact rfl))
    have hh := hown2.hi_le
    have hyd : ys = ds := by rw [← List.map_id ys, ← List.map_id ds]; exact hys
    subst hyd
    exact TR_of (res1 rfl rfl) ⟨e2, some ⟨g, 0, none⟩, ys.length, by rw [List.length_map], by rw [List.length_map]; exact (hown2.wide (by omega) hh (Nat.le_refl _)).cast rfl (congrArg (cellsL TnC) (List.map_id ys).symm)⟩
set_option maxHeartbeats 2000000 in
theorem toDisk_o {w : World} {lo hi : Nat} {d : DiskP} {sn sk st : Value} (h : RDk w lo hi d sn sk st) (hl : totD d ≤ 1048576) :
    Ret Tryz.prog 13 #[.agg (dskC d sn sk st).toArray] w fun v' w' => ∃ sn' sk' st', v' = .agg (dskC d sn' sk' st').toArray ∧ Ext w w' ∧ ODk w' w.heap.size w'.heap.size d sn' sk' st' := by
  obtain ⟨l1, l2, l3⟩ := totD_parts hl
  refine Ret_enter Tryz.func13 rfl rfl rfl ?_
  repeat' (first | apply Jbs | apply Jbt)
  refine TL_box (cs := dskC d sn sk st) rfl rfl ?_
  intro w1 g1 e1 hg1 hz1 hb1
  skip
  refine TL_alloc Zs.h rfl rfl ?_
  intro w2 g2 e2 hg2 hz2 hb2
  replace hb1 := hb1.ext e2
  repeat' (first | apply Jbq | apply Jbr | apply Jbs | apply Jbt)
  refine TL_alloc Zs.h rfl rfl ?_
  intro w3 g3 e3 hg3 hz3 hb3
  replace hb1 := hb1.ext e3
  replace hb2 := hb2.ext e3
  have E : Ext w w3 := (e1.ext e2).ext e3
  have hgw : w.heap.size ≤ g1 ∧ g1 < g2 ∧ g2 < g3 := by omega
  clear hg1 hg2 hg3 e1 e2 e3 hz1 hz2 hz3
  repeat' (first | apply Jbq | apply Jbr | apply Jbs | apply Jbt | (apply Jcg; (apply Jbl; exact Us.h; exact rfl; exact Sz.h; exact rfl); exact rfl) | refine Jcg (Pu_load Fl.h rfl (fun _ e => by rw [e]; exact hb1.ld rfl)) rfl ?_)
  refine TL_store rfl rfl Sz.h rfl hb3 rfl ?_
  clear hb3
  intro w4 c4 hz4 hb3
  replace hb1 := hb1.ch c4 (by simp only [Iv]; omega)
  replace hb2 := hb2.ch c4 (by simp only [Iv]; omega)
  replace E : Ext w w4 := Ext.then_iv E c4 (by omega)
  repeat' (first | apply Jbq | apply Jbr | apply Jbs | apply Jbt | (apply Jcg; (apply Jbl; exact Us.h; exact rfl; exact Sz.h; exact rfl); exact rfl) | refine Jcg (Pu_load Fl.h rfl (fun _ e => by rw [e]; exact hb1.ld rfl)) rfl ?_)
  refine TL_store rfl rfl Sz.h rfl hb3 rfl ?_
  clear hb3
  intro w5 c5 hz5 hb3
  replace hb1 := hb1.ch c5 (by simp only [Iv]; omega)
  replace hb2 := hb2.ch c5 (by simp only [Iv]; omega)
  replace E : Ext w w5 := Ext.then_iv E c5 (by omega)
  repeat' (first | apply Jbq | apply Jbr | apply Jbs | apply Jbt | (apply Jcg; (apply Jbl; exact Us.h; exact rfl; exact Sz.h; exact rfl); exact rfl) | refine Jcg (Pu_load Fl.h rfl (fun _ e => by rw [e]; exact hb1.ld rfl)) rfl ?_)
  refine TL_store rfl rfl Sz.h rfl hb3 rfl ?_
  clear hb3
  intro w6 c6 hz6 hb3
  replace hb1 := hb1.ch c6 (by simp only [Iv]; omega)
  replace hb2 := hb2.ch c6 (by simp only [Iv]; omega)
  replace E : Ext w w6 := Ext.then_iv E c6 (by omega)
  have hlt := hb3.lt
  repeat' (first | apply Jbq | apply Jbr | apply Jbs | apply Jbt | (apply Jcg; (apply Jbl; exact Us.h; exact rfl; exact Sz.h; exact rfl); exact rfl) | refine Jcg (Pu_load Fl.h rfl (fun _ e => by rw [e]; exact hb1.ld rfl)) rfl ?_)
  refine TL_call rfl en62 (toNodeS_o (h.1.ext E) l1) rfl rfl ?_
  intro sn2 w7 ⟨e7, ho7⟩
  replace hb1 := hb1.ext e7
  replace hb2 := hb2.ext e7
  replace hb3 := hb3.ext e7
  have hs6 := E.size
  have hs7 := e7.size
  replace E := E.ext e7
  repeat' ((apply Jcg; (apply Jbl; exact Us.h; exact rfl; exact Sz.h; exact rfl); exact rfl))
  refine TL_store rfl rfl Sz.h ho7.one hb3 rfl ?_
  clear hb3
  intro w8 c8 hz8 hb3
  replace hb1 := hb1.ch c8 (by simp only [Iv]; omega)
  replace hb2 := hb2.ch c8 (by simp only [Iv]; omega)
  replace ho7 := ho7.ch c8 (by intro k _ _; simp only [Iv]; omega)
  replace E : Ext w w8 := Ext.then_iv E c8 (by omega)
  repeat' (first | apply Jbq | apply Jbr | apply Jbs | apply Jbt | (apply Jcg; (apply Jbl; exact Us.h; exact rfl; exact Sz.h; exact rfl); exact rfl) | refine Jcg (Pu_load Fl.h rfl (fun _ e => by rw [e]; exact hb1.ld rfl)) rfl ?_)
  refine TL_call rfl en63 (toLinkS_o (h.2.1.ext E) l2) rfl rfl ?_
  intro sk2 w9 ⟨e9, ho9⟩
  replace hb1 := hb1.ext e9
  replace hb2 := hb2.ext e9
  replace hb3 := hb3.ext e9
  replace ho7 := ho7.ext e9
  have hs9 := e9.size
  replace E := E.ext e9
  repeat' ((apply Jcg; (apply Jbl; exact Us.h; exact rfl; exact Sz.h; exact rfl); exact rfl))
  refine TL_store rfl rfl Sz.h ho9.one hb3 rfl ?_
  clear hb3
  intro w10 c10 hz10 hb3
  replace hb1 := hb1.ch c10 (by simp only [Iv]; omega)
  replace hb2 := hb2.ch c10 (by simp only [Iv]; omega)
  replace ho7 := ho7.ch c10 (by intro k _ _; simp only [Iv]; omega)
  replace ho9 := ho9.ch c10 (by intro k _ _; simp only [Iv]; omega)
  replace E : Ext w w10 := Ext.then_iv E c10 (by omega)
  repeat' (first | apply Jbq | apply Jbr | apply Jbs | apply Jbt | (apply Jcg; (apply Jbl; exact Us.h; exact rfl; exact Sz.h; exact rfl); exact rfl) | refine Jcg (Pu_load Fl.h rfl (fun _ e => by rw [e]; exact hb1.ld rfl)) rfl ?_)
  refine TL_call rfl en64 (toTurnS_o (h.2.2.ext E) l3) rfl rfl ?_
  intro st2 w11 ⟨e11, ho11⟩
  replace hb2 := hb2.ext e11
  replace hb3 := hb3.ext e11
  replace ho7 := ho7.ext e11
  replace ho9 := ho9.ext e11
  have hs11 := e11.size
  replace E := E.ext e11
  repeat' ((apply Jcg; (apply Jbl; exact Us.h; exact rfl; exact Sz.h; exact rfl); exact rfl))
  refine TL_store rfl rfl Sz.h ho11.one hb3 rfl ?_
  clear hb3
  intro w12 c12 hz12 hb3
  replace hb2 := hb2.ch c12 (by simp only [Iv]; omega)
  replace ho7 := ho7.ch c12 (by intro k _ _; simp only [Iv]; omega)
  replace ho9 := ho9.ch c12 (by intro k _ _; simp only [Iv]; omega)
  replace ho11 := ho11.ch c12 (by intro k _ _; simp only [Iv]; omega)
  replace E : Ext w w12 := Ext.then_iv E c12 (by omega)
  repeat' (first | apply Jbq | apply Jbr | apply Jbs | apply Jbt)
  refine Jcg (Pu_loadAgg (cs := dskC d sn2 sk2 st2) Us.h rfl Sz.h rfl (fun _ e j u hu => by rw [e, add0, hb3.cell]; exact hu)) rfl ?_
  skip
  refine TL_storeAgg rfl rfl Sz.h (by show ((dskC d sn2 sk2 st2).all (·.oneCell')) = true; simp only [dskC, List.all_cons, List.all_nil, ho7.one, ho9.one, ho11.one]; rfl) hb2 rfl ?_
  clear hb2
  intro w13 c13 hz13 hb2
  replace ho7 := ho7.ch c13 (by intro k _ _; simp only [Iv]; omega)
  replace ho9 := ho9.ch c13 (by intro k _ _; simp only [Iv]; omega)
  replace ho11 := ho11.ch c13 (by intro k _ _; simp only [Iv]; omega)
  repeat' (first | apply Jbq | apply Jbr | apply Jbu)
  exact TR_of (resA rfl rfl hb2 Us.h rfl Sz.h) ⟨sn2, sk2, st2, rfl, Ext.then_iv E c13 (by omega), (ODk.of ho7 ho9 ho11 (by omega) (by omega) (by omega) (by omega) (by omega) (by omega)).wide (by omega) (by omega) (Nat.le_refl _)⟩
set_option maxHeartbeats 4000000 in
theorem markDisk_k {w : World} {lo hi : Nat} {d : DiskP} {sn sk st : Value} {k : Int} (h : ODk w lo hi d sn sk st) (hl : totD d ≤ 1048576) (hk0 : 0 < k) (hk1 : k ≤ 100000000) :
    Ret Tryz.prog 18 #[.agg (dskC d sn sk st).toArray, I k] w fun v' w' => v' = I (k + cntD d) ∧ Ch (Iv lo hi) w w' ∧ ODk w' lo hi (markD k d) sn sk st := by
  obtain ⟨q1, q2, q3, q4, q5, q6, q7⟩ := cntD_le hl
  obtain ⟨hs, ds, h1, h2, h3, h4, h5, h6⟩ := h
  have hcn : cntNd ds = cntNp d.nodes := by rw [← h1, cntNp_map]
  have hln : ds.length = d.nodes.length := by rw [← h1, List.length_map]
  have hdis : (∀ b ∈ bksN sn ds, b ∉ blk sk ∧ b ∉ blk st) ∧ ∀ b ∈ blk sk, b ∉ blk st := app3 h5
  refine Ret_enter Tryz.func18 rfl rfl rfl ?_
  repeat' (first | apply Jbs | apply Jbt)
  refine TL_box (cs := dskC d sn sk st) rfl rfl ?_
  intro w1 g e1 hg hz hbk
  clear hz
  repeat' (first | apply Jbq | apply Jbr | apply Jbs | apply Jbt | (apply Jcg; (first | exact Jaa rfl | exact Jab rfl | (apply Jbl; exact Us.h; exact rfl; exact Sz.h; exact rfl)); exact rfl) | refine Jcg (Pu_load Fl.h rfl (fun _ e => by rw [e]; exact hbk.ld rfl)) rfl ?_)
  refine TL_call rfl en75 (markNodeS_c (h2.ext e1) (by omega) (by omega) hk0 (by omega)) rfl rfl ?_
  rintro _ w2 ⟨rfl, c2, h2'⟩
  have hin : ∀ b ∈ bksN sn ds ++ (blk sk ++ blk st), b ≠ g := fun b hb => by have := h6 b hb; omega
  replace hbk := hbk.ch c2 (fun hb => hin g (List.mem_append.2 (.inl hb)) rfl)
  replace h3 := (h3.ext e1).ch c2 (fun b hb hn => (hdis.1 b hn).1 hb)
  replace h4 := (h4.ext e1).ch c2 (fun b hb hn => (hdis.1 b hn).2 hb)
  obtain ⟨l3, u3, ⟨A3, k3, rfl, o3⟩, i3⟩ := h3
  rw [hcn]
  repeat' (first | apply Jbq | apply Jbr | apply Jbs | apply Jbt | (apply Jcg; (first | exact Jaa rfl | exact Jab rfl | (apply Jbl; exact Us.h; exact rfl; exact Sz.h; exact rfl)); exact rfl) | refine Jcg (Pu_load Fl.h rfl (fun _ e => by rw [e]; exact hbk.ld rfl)) rfl ?_)
  refine TL_call rfl en76 (markLinkS_c o3 (by omega) (by omega) (by omega)) rfl rfl ?_
  rintro _ w3 ⟨rfl, c3, z3, o3'⟩
  have c3' : Ch (fun j => j ∈ blk (.slice A3 d.kept.length k3)) w2 w3 := c3.mono (fun j hj => i3 j hj.1 hj.2)
  replace hbk := hbk.ch c3' (fun hb => hin g (List.mem_append.2 (.inr (List.mem_append.2 (.inl hb)))) rfl)
  replace h2' := h2'.ch c3' (fun b hb hn => (hdis.1 b (by unfold bksN at *; rwa [markNd_bkd] at hb)).1 hn)
  replace h4 := h4.ch c3' (fun b hb hn => hdis.2 b hn hb)
  obtain ⟨l4, u4, ⟨A4, k4, rfl, o4⟩, i4⟩ := h4
  repeat' (first | apply Jbq | apply Jbr | apply Jbs | apply Jbt | (apply Jcg; (first | exact Jaa rfl | exact Jab rfl | (apply Jbl; exact Us.h; exact rfl; exact Sz.h; exact rfl)); exact rfl) | refine Jcg (Pu_load Fl.h rfl (fun _ e => by rw [e]; exact hbk.ld rfl)) rfl ?_)
  refine TL_call rfl en77 (markTurnS_c o4 (by omega) (by omega) (by omega)) rfl rfl ?_
  rintro _ w4 ⟨rfl, c4, z4, o4'⟩
  have c4' : Ch (fun j => j ∈ blk (.slice A4 d.turns.length k4)) w3 w4 := c4.mono (fun j hj => i4 j hj.1 hj.2)
  replace h2' := h2'.ch c4' (fun b hb hn => (hdis.1 b (by unfold bksN at *; rwa [markNd_bkd] at hb)).2 hn)
  replace o3' := o3'.ch c4' (fun j a b hj => hdis.2 j (i3 j a b) hj)
  repeat' (first | apply Jbq | apply Jbr | apply Jbs | apply Jbt | apply Jbu | (apply Jcg; (first | exact Jaa rfl | exact Jab rfl); exact rfl))
  refine TR_of (res1 rfl rfl) ⟨congrArg I (by unfold cntD; omega), ?_, ?_⟩
  · refine (((Ch.mono e1 (fun _ t => t.elim)).then (c2.mono (fun j hj => ?_))).then (c3'.mono (fun j hj => ?_))).then (c4'.mono (fun j hj => ?_))
    · exact h6 j (List.mem_append.2 (.inl hj))
    · exact h6 j (List.mem_append.2 (.inr (List.mem_append.2 (.inl hj))))
    · exact h6 j (List.mem_append.2 (.inr (List.mem_append.2 (.inr hj))))
  · have hb : bksN sn (markNd k ds) = bksN sn ds := by unfold bksN; rw [markNd_bkd]
    refine ⟨?_, markNd k ds, by rw [← markNp_map, h1]; rfl, h2', ⟨l3, u3, ⟨A3, k3, by simp [markD], by simpa [markD] using o3'⟩, i3⟩, ⟨l4, u4, ⟨A4, k4, by simp [markD], by simpa [markD] using o4'⟩, i4⟩, by rw [hb]; exact h5, by rw [hb]; exact h6⟩
    have := e1.size
    have := c2.size
    omega
set_option maxHeartbeats 4000000 in
theorem heldDisk_k {w : World} {lo hi : Nat} {d : DiskP} {sn sk st : Value} {k : Int} (h : ODk w lo hi (markD k d) sn sk st) (hl : totD d ≤ 1048576) (hk0 : 0 < k) (hk1 : k ≤ 100000000) :
    Ret Tryz.prog 20 #[.agg (dskC d sn sk st).toArray, I k] w fun v' w' => v' = I (k + cntD d) ∧ Ext w w' := by
  obtain ⟨q1, q2, q3, q4, q5, q6, q7⟩ := cntD_le hl
  have hr := h.rd
  obtain ⟨hs, es, h1, h2, h3, h4, h5, h6⟩ := h
  obtain ⟨ds, hds⟩ : ∃ ds : List Nd, ds.map NdP = d.nodes := ⟨d.nodes.map (fun p => ⟨p.1, p.2.1, p.2.2, .slice none 0 0, .slice none 0 0⟩), by rw [List.map_map]; exact List.map_id _⟩
  have hcn : cntNd ds = cntNp d.nodes := by rw [← hds, cntNp_map]
  have hln : ds.length = d.nodes.length := by rw [← hds, List.length_map]
  have hrn : RN w lo hi sn ((markNd k ds).map NdP) := by rw [← markNp_map, hds]; exact hr.1
  obtain ⟨A3, k3, rfl, m3, r3⟩ := hr.2.1.row
  obtain ⟨A4, k4, rfl, m4, r4⟩ := hr.2.2.row
  have e3 : (markD k d).kept.length = d.kept.length := by simp [markD]
  have e4 : (markD k d).turns.length = d.turns.length := by simp [markD]
  rw [e3] at r3 m3 ⊢
  rw [e4] at r4 m4 ⊢
  refine Ret_enter Tryz.func20 rfl rfl rfl ?_
  repeat' (first | apply Jbs | apply Jbt)
  refine TL_box (cs := dskC d sn (.slice A3 d.kept.length k3) (.slice A4 d.turns.length k4)) rfl rfl ?_
  intro w1 g E hg hz hbk
  clear hz
  repeat' (first | apply Jbq | apply Jbr | apply Jbs | apply Jbt | (apply Jcg; (first | exact Jaa rfl | exact Jab rfl | (apply Jbl; exact Us.h; exact rfl; exact Sz.h; exact rfl)); exact rfl) | refine Jcg (Pu_load Fl.h rfl (fun _ e => by rw [e]; exact hbk.ld rfl)) rfl ?_)
  refine TL_call rfl en78 (heldNodeS_c (RN.ch hrn E (fun _ _ _ t => t)) (by omega) (by omega) hk0 (by omega)) rfl rfl ?_
  rintro _ w2 ⟨rfl, e2⟩
  replace hbk := hbk.ext e2
  replace E := E.ext e2
  rw [hcn]
  repeat' (first | apply Jbq | apply Jbr | apply Jbs | apply Jbt | apply Jbz | (apply Jcg; (first | exact Jaa rfl | exact Jab rfl | exact Jad rfl rfl | (apply Jbl; exact Us.h; exact rfl; exact Sz.h; exact rfl)); exact rfl) | refine Jcg (Pu_load Fl.h rfl (fun _ e => by rw [e]; exact hbk.ld rfl)) rfl ?_ | (refine Jcx rfl (fun hb => ?_) (fun hb => ?_) <;> (try (exfalso; omega))))
  refine TL_call rfl en79 (heldLinkS_c (r3.ext E) (by omega) (by omega) (by omega)) rfl rfl ?_
  rintro _ w3 ⟨rfl, e3⟩
  replace hbk := hbk.ext e3
  replace E := E.ext e3
  repeat' (first | apply Jbq | apply Jbr | apply Jbs | apply Jbt | apply Jbz | (apply Jcg; (first | exact Jaa rfl | exact Jab rfl | exact Jad rfl rfl | (apply Jbl; exact Us.h; exact rfl; exact Sz.h; exact rfl)); exact rfl) | refine Jcg (Pu_load Fl.h rfl (fun _ e => by rw [e]; exact hbk.ld rfl)) rfl ?_ | (refine Jcx rfl (fun hb => ?_) (fun hb => ?_) <;> (try (exfalso; omega))))
  refine TL_call rfl en80 (heldTurnS_c (r4.ext E) (by omega) (by omega) (by omega)) rfl rfl ?_
  rintro _ w4 ⟨rfl, e4⟩
  replace E := E.ext e4
  repeat' (first | apply Jbq | apply Jbr | apply Jbs | apply Jbt | apply Jbu | apply Jbz | (apply Jcg; (first | exact Jaa rfl | exact Jab rfl | exact Jad rfl rfl); exact rfl) | (refine Jcx rfl (fun hb => ?_) (fun hb => ?_) <;> (try (exfalso; omega))))
  exact TR_of (res1 rfl rfl) ⟨congrArg I (by unfold cntD; omega), E⟩
end Go.Proofs.YtggaghghclomkaaGreat

/- Rules for regions whose order is open and that write what one of their operations reads: a barrier. No condition. -/
namespace Go.Proofs.YtggaghghclomkaaGreat
open Go.RowKit
section
variable {P : Program} {ops : Array Oper} {Q : Exit → Act → World → Prop} {md : Region.Mode} {A B : World → Prop} {m : Nat}
/-- A holds throughout; B holds until operation m has come up. -/
def SB (A B : World → Prop) (m : Nat) (listed : Array Bool) (w : World) : Prop := A w ∧ (listed.getD m true = false → B w)
theorem SB_set {i : Nat} {listed : Array Bool} {w : World} (h : i ≠ m) : SB A B m (listed.setIfInBounds i true) w ↔ SB A B m listed w := by
  unfold SB
  rw [getD_set_ne true h]
def wpAnyL (P : Program) (md : Region.Mode) (ops : Array Oper) (Q : Exit → Act → World → Prop) (S : Array Bool → World → Prop) : Nat → Array Bool → Act → World → Prop
  | 0, listed, a, w => Region.ready md ops listed = [] ∧ Q .normal a w
  | fuel + 1, listed, a, w =>
    (Region.ready md ops listed = [] → Q .normal a w) ∧
    ∀ i ∈ Region.ready md ops listed, wpOp P ops Q i (fun a' w' => S (listed.setIfInBounds i true) w' ∧ wpAnyL P md ops Q S fuel (listed.setIfInBounds i true) a' w') a w
theorem wpAny_of_L {S : Array Bool → World → Prop} : ∀ (fuel : Nat) (listed : Array Bool) (a : Act) (w : World), wpAnyL P md ops Q S fuel listed a w → wpAny P md ops Q fuel listed a w
  | 0, _, _, _, h => h
  | fuel + 1, _, _, _, h => ⟨h.1, fun i hi => wpOp_mono (fun a' w' h' => wpAny_of_L fuel _ a' w' h'.2) (h.2 i hi)⟩
theorem wpAnyL_first {i : Nat} {oi om : Oper} {v : Value} {bar : Bool} (hi : ops[i]? = some oi) (him : i ≠ m) (hom : ops[m]? = some om) (hw : bar = true → ∃ e ∈ om.after, Region.binds md e = true ∧ e.on = i)
    (hsel : ∀ (j : Nat) (o : Oper) cs b, ops[j]? = some o → o.op ≠ .select cs b) (hQ : ∀ c a w, Q (.panic c) (a.put oi.dst v) w → Q (.panic c) a w) :
    ∀ (fuel : Nat) (listed : Array Bool) (a : Act) (w : World),
      (∀ j oj, ops[j]? = some oj → j ≠ i → listed.getD j true = false → (∀ e ∈ oj.after, Region.binds md e = true → e.on ≠ i) → oi.apart ops oj = true) →
      i ∈ Region.ready md ops listed → YieldsIf P ops (fun w => A w ∧ (bar = true → B w)) oi v a → SB A B m listed w → (bar = true → listed.getD m true = false) →
      wpAnyL P md ops Q (SB A B m) fuel (listed.setIfInBounds i true) (a.put oi.dst v) w → wpAnyL P md ops Q (SB A B m) (fuel + 1) listed a w := by
  intro fuel
  induction fuel with
  | zero =>
    intro listed a w _ hr hy hS hm H
    refine ⟨fun h => (by rw [h] at hr; cases hr), fun j hj => ?_⟩
    by_cases hji : j = i
    · subst hji; exact hy.wpOp hi ⟨hS.1, fun hb => hS.2 (hm hb)⟩ ⟨(SB_set him).2 hS, H⟩
    · have := ready_mono hj hji
      rw [H.1] at this
      cases this
  | succ fuel ih =>
    intro listed a w hfree hr hy hS hm H
    refine ⟨fun h => (by rw [h] at hr; cases hr), fun j hj => ?_⟩
    by_cases hji : j = i
    · subst hji; exact hy.wpOp hi ⟨hS.1, fun hb => hS.2 (hm hb)⟩ ⟨(SB_set him).2 hS, H⟩
    · have h1 := H.2 j (ready_mono hj hji)
      obtain ⟨hjun, oj, hoj, hall⟩ := mem_ready.1 hj
      have hnot : ∀ e ∈ oj.after, Region.binds md e = true → e.on ≠ i := fun e he hb heq => by
        have h1 := hall e he hb
        have h0 := (mem_ready.1 hr).1
        rw [heq] at h1
        rcases Nat.lt_or_ge i listed.size with h' | h'
        · simp [h'] at h0 h1; rw [h0] at h1; cases h1
        · simp [Array.getElem?_eq_none h'] at h1
      have hjm : bar = true → j ≠ m := fun hb e => by
        subst e
        obtain ⟨ed, he, hbi, hon⟩ := hw hb
        rw [hoj] at hom
        injection hom with hom
        subst hom
        exact hnot ed he hbi hon
      have h2 := wpOp_putIf hoj (hfree j oj hoj hji hjun hnot) (fun cs b => hsel i oi cs b hi) (fun cs b => hsel j oj cs b hoj) hQ hy h1
      have hfree' : ∀ k ok, ops[k]? = some ok → k ≠ i → (listed.setIfInBounds j true).getD k true = false →
          (∀ e ∈ ok.after, Region.binds md e = true → e.on ≠ i) → oi.apart ops ok = true := fun k ok hk hki hun hno => by
        refine hfree k ok hk hki ?_ hno
        by_cases hjk : j = k
        · subst hjk; exact hjun
        · rw [getD_set_ne true hjk] at hun; exact hun
      refine wpOp_mono (fun a' w' h3 => ?_) h2
      have hcomm : (listed.setIfInBounds i true).setIfInBounds j true = (listed.setIfInBounds j true).setIfInBounds i true := Array.setIfInBounds_comm _ _ (Ne.symm hji)
      have hS' : SB A B m (listed.setIfInBounds j true) w' := by
        have := h3.2.1
        rw [hcomm] at this
        exact (SB_set him).1 this
      refine ⟨hS', ih (listed.setIfInBounds j true) a' w' hfree' (ready_mono hr (Ne.symm hji)) h3.1 hS' (fun hb => ?_) ?_⟩
      · rw [getD_set_ne true (hjm hb)]; exact hm hb
      · rw [← hcomm]
        exact h3.2.2
end
/-- What is listed has come up. -/
def TB (P : Program) (L : List Oper) (A B : World → Prop) (m : Nat) (Q : Exit → Act → World → Prop) (f : Nat) (listed : Array Bool) (n : Nat) (l : Env) (w : World) : Prop :=
  ∀ a, Holds n l a → wpAnyL P .any L.toArray Q (SB A B m) f listed a w
section
variable {P : Program} {L : List Oper} {A B : World → Prop} {m : Nat} {w : World} {Q : Exit → Act → World → Prop} {f n : Nat} {listed : Array Bool} {l : Env} {v : Value}
theorem TC_anyB {id : Nat} (A B : World → Prop) (m : Nat) (hm : P.follows .mixedOrders = true) (hf : L.length = f) (hA : A { w with drawn := w.drawn + 1 }) (hB : B { w with drawn := w.drawn + 1 })
    (h : ∀ w', Ext w w' → w'.heap.size = w.heap.size → A w' → B w' → TB P L A B m Q f (Array.replicate f false) n l w') : TC P Q (.region id L.toArray true) n l w := fun a ha => by
  have := h { w with drawn := w.drawn + 1 } ((Ch.refl _ _).drew) rfl hA hB a ha
  refine wp_region_any hm (wpAny_of_L (S := SB A B m) _ _ _ _ ?_)
  rw [show L.toArray.size = f from by simpa using hf]
  exact this
theorem TB_done (hr : Region.ready .any L.toArray listed = []) (h : TN Q n l w) : TB P L A B m Q f listed n l w := fun a ha => by
  cases f with
  | zero => exact ⟨hr, h a ha⟩
  | succ f => exact ⟨fun _ => h a ha, by rw [hr]; simp⟩
/-- An operation whose value nothing in the region changes. -/
theorem TB_take (i : Nat) {om : Oper} {dd : Nat} {op : Op} {ty : TypeId} {pos : String} {af : Array Edge} (hi : L[i]? = some ⟨some dd, op, ty, pos, af, none⟩) (him : Nat.beq i m = false) (hom : L[m]? = some om) (hs : Region.noSelect L.toArray = true) (hf : Region.free .any L.toArray listed i = true)
    (hr : (Region.ready .any L.toArray listed).contains i = true) (hQ : ∀ c a w, Q (.panic c) (a.put (some dd) v) w → Q (.panic c) a w) (hE : SB A B m listed w)
    (hp : Pu P A n l ⟨some dd, op, ty, pos, af, none⟩ v) (hn : Nat.blt dd n = true) (h : TB P L A B m Q f (listed.setIfInBounds i true) n ((dd, v) :: l) w) : TB P L A B m Q (f + 1) listed n l w := fun a ha =>
  wpAnyL_first (oi := ⟨some dd, op, ty, pos, af, none⟩) (v := v) (bar := false) (by simpa using hi) (by intro e; rw [e, Nat.beq_refl] at him; cases him) (by simpa using hom) (by simp) (Region.noSelect_spec hs) hQ f listed a w (Region.free_spec (by simpa using hi) hf) (by simpa using hr)
    (.inl ⟨by simp [Region.wanted], fun w hw => hp a ha w hw.1⟩) hE (by simp) (h _ (ha.put hn v))
/-- An operation for which the barrier waits. -/
theorem TB_takeB (i : Nat) {om : Oper} {dd : Nat} {op : Op} {ty : TypeId} {pos : String} {af : Array Edge} (hi : L[i]? = some ⟨some dd, op, ty, pos, af, none⟩) (him : Nat.beq i m = false) (hom : L[m]? = some om) (hw : om.after.any (fun e => Region.binds .any e && Nat.beq e.on i) = true) (hlm : listed.getD m true = false)
    (hs : Region.noSelect L.toArray = true) (hf : Region.free .any L.toArray listed i = true)
    (hr : (Region.ready .any L.toArray listed).contains i = true) (hQ : ∀ c a w, Q (.panic c) (a.put (some dd) v) w → Q (.panic c) a w) (hE : SB A B m listed w)
    (hp : Pu P (fun w => A w ∧ B w) n l ⟨some dd, op, ty, pos, af, none⟩ v) (hn : Nat.blt dd n = true) (h : TB P L A B m Q f (listed.setIfInBounds i true) n ((dd, v) :: l) w) : TB P L A B m Q (f + 1) listed n l w := fun a ha => by
  refine wpAnyL_first (oi := ⟨some dd, op, ty, pos, af, none⟩) (v := v) (bar := true) (by simpa using hi) (by intro e; rw [e, Nat.beq_refl] at him; cases him) (by simpa using hom) (fun _ => ?_) (Region.noSelect_spec hs) hQ f listed a w (Region.free_spec (by simpa using hi) hf) (by simpa using hr)
    (.inl ⟨by simp [Region.wanted], fun w hw => hp a ha w ⟨hw.1, hw.2 rfl⟩⟩) hE (fun _ => hlm) (h _ (ha.put hn v))
  rw [Array.any_eq_true] at hw
  obtain ⟨k, hk, he⟩ := hw
  rw [Bool.and_eq_true] at he
  exact ⟨om.after[k], Array.getElem_mem hk, he.1, Nat.eq_of_beq_eq_true he.2⟩
/-- What follows an operation that is carried out inside. -/
def AB (P : Program) (L : List Oper) (A B : World → Prop) (m : Nat) (Q : Exit → Act → World → Prop) (f : Nat) (listed : Array Bool) : Act → World → Prop := fun a' w' => SB A B m listed w' ∧ wpAnyL P .any L.toArray Q (SB A B m) f listed a' w'
theorem TN_anyB (e : SB A B m listed w) (h : TB P L A B m Q f listed n l w) : TN (Exit.then (AB P L A B m Q f listed) Q) n l w := fun a ha => ⟨e, h a ha⟩
theorem TB_key {i : Nat} {o : Oper} {a : Act} (hi : L[i]? = some o) (ha : Holds n l a) (h : TL P L (Exit.then (AB P L A B m Q f (listed.setIfInBounds i true)) Q) [o] n l w) : wpOp P L.toArray Q i (AB P L A B m Q f (listed.setIfInBounds i true)) a w := by
  have h1 := h a ha
  unfold wpOp
  rw [show L.toArray[i]? = some o from by simpa using hi]
  unfold wpList at h1
  simp only at h1 ⊢
  split
  · rename_i hw
    rw [if_pos hw] at h1
    rcases h1 with h1 | ⟨h1, h2⟩
    · refine .inl (Oper.wp_then (K' := AB P L A B m Q f (listed.setIfInBounds i true)) ?_)
      exact h1
    · exact .inr ⟨h1, h2⟩
  · rename_i hw
    rw [if_neg hw] at h1
    exact h1
/-- The one operation that may come up now is carried out. -/
theorem TB_one (i : Nat) {o : Oper} (hr : Region.ready .any L.toArray listed = [i]) (hi : L[i]? = some o)
    (h : TL P L (Exit.then (AB P L A B m Q f (listed.setIfInBounds i true)) Q) [o] n l w) : TB P L A B m Q (f + 1) listed n l w := fun a ha =>
  ⟨fun h0 => (by rw [hr] at h0; cases h0), fun j hj => by
    rw [hr] at hj
    obtain rfl : j = i := by simpa using hj
    exact TB_key hi ha h⟩
/-- One of two operations is carried out. -/
theorem TB_two (i j : Nat) {o o' : Oper} (hr : Region.ready .any L.toArray listed = [i, j]) (hi : L[i]? = some o) (hj : L[j]? = some o')
    (h : TL P L (Exit.then (AB P L A B m Q f (listed.setIfInBounds i true)) Q) [o] n l w) (h' : TL P L (Exit.then (AB P L A B m Q f (listed.setIfInBounds j true)) Q) [o'] n l w) : TB P L A B m Q (f + 1) listed n l w := fun a ha =>
  ⟨fun h0 => (by rw [hr] at h0; cases h0), fun k hk => by
    rw [hr] at hk
    simp only [List.mem_cons, List.not_mem_nil, or_false] at hk
    rcases hk with rfl | rfl
    · exact TB_key hi ha h
    · exact TB_key hj ha h'⟩
end
end Go.Proofs.YtggaghghclomkaaGreat
