/- Nodes and disks that a call owns, block by block; their marks. -/
import Derived.Test.YtggaghghclomkaaGreatMarkD
namespace Go.Proofs.YtggaghghclomkaaGreat
open Go.RowKit
def blk : Value → List Nat
  | .slice (some ad) _ _ => [ad.block]
  | _ => []
section
variable {w w' : World} {lo hi size n c : Nat} {e : TypeId} {A : Option Addr} {xs : List Value} {T : Nat → Prop}
theorem Own.bin (h : Own w lo hi e size A n c xs) : ∀ b ∈ blk (.slice A n c), lo ≤ b ∧ b < hi := by
  intro b hb
  rcases A with _ | ad
  · cases hb
  · rw [List.mem_singleton.1 hb]; exact ⟨h.ge _ rfl, h.lt _ rfl⟩
theorem Own.narrow (h : Own w lo hi e size A n c xs) : ∃ lo' hi', Own w lo' hi' e size A n c xs ∧ ∀ k, lo' ≤ k → k < hi' → k ∈ blk (.slice A n c) := by
  rcases h.row.2 with ⟨hv, h0⟩ | ⟨g, cap, cur, hv, h3, h4, h5⟩
  · have hA : A = none := by injection hv
    subst hA
    exact ⟨0, 0, ⟨Nat.zero_le _, ⟨h.len, .inl ⟨hv, h0⟩⟩, fun ad ha => by cases ha⟩, fun k _ hk => absurd hk (Nat.not_lt_zero _)⟩
  · have hA : A = some ⟨g, 0, none⟩ := by injection hv
    subst hA
    exact ⟨g, g + 1, ⟨(Array.getElem?_eq_some_iff.1 h4).1, ⟨h.len, .inr ⟨g, cap, cur, hv, Nat.le_refl _, h4, h5⟩⟩, fun ad ha => by injection ha with ha; subst ha; exact Nat.lt_succ_self _⟩, fun k h1 h2 => by
      obtain rfl : k = g := by omega
      exact List.mem_singleton.2 rfl⟩
/-- Owned: whatever does not touch its own block keeps it. -/
def OBx (w : World) (v : Value) (s : List UInt8) : Prop := ∃ lo hi, OB w lo hi v s ∧ ∀ k, lo ≤ k → k < hi → k ∈ blk v
theorem OB.x {v : Value} {s : List UInt8} (h : OB w lo hi v s) : OBx w v s := by
  obtain ⟨A, c, rfl, ho⟩ := h
  obtain ⟨lo', hi', h1, h2⟩ := ho.narrow
  exact ⟨lo', hi', ⟨A, c, rfl, h1⟩, h2⟩
theorem OB.bin {v : Value} {s : List UInt8} (h : OB w lo hi v s) : ∀ b ∈ blk v, lo ≤ b ∧ b < hi := by
  obtain ⟨A, c, rfl, ho⟩ := h
  exact ho.bin
theorem OB.wide {lo' hi' : Nat} {v : Value} {s : List UInt8} (h : OB w lo hi v s) (h1 : lo' ≤ lo) (h2 : hi ≤ hi') (h3 : hi' ≤ w.heap.size) : OB w lo' hi' v s := by
  obtain ⟨A, c, rfl, ho⟩ := h
  exact ⟨A, c, rfl, ho.wide h1 h2 h3⟩
theorem OBx.ch {v : Value} {s : List UInt8} (h : OBx w v s) (k : Ch T w w') (hd : ∀ b ∈ blk v, ¬ T b) : OBx w' v s := by
  obtain ⟨lo, hi, h1, h2⟩ := h
  exact ⟨lo, hi, h1.ch k (fun j a b => hd j (h2 j a b)), h2⟩
theorem OBx.ext {v : Value} {s : List UInt8} (h : OBx w v s) (k : Ext w w') : OBx w' v s := h.ch k (fun _ _ t => t)
/-- A region that holds the value's block bears its reading. -/
theorem OBx.at_ {v : Value} {s : List UInt8} (h : OBx w v s) (hb : ∀ b ∈ blk v, lo ≤ b ∧ b < hi) (hs : hi ≤ w.heap.size) : OB w lo hi v s := by
  obtain ⟨l1, h1, ⟨A, c, rfl, ho⟩, hin⟩ := h
  refine ⟨A, c, rfl, ⟨hs, ⟨ho.len, ?_⟩, fun ad ha => by subst ha; exact (hb _ (List.mem_singleton.2 rfl)).2⟩⟩
  rcases ho.row.2 with ⟨hv, h0⟩ | ⟨g, cap, cur, hv, h3, h4, h5⟩
  · exact .inl ⟨hv, h0⟩
  · have hA : A = some ⟨g, 0, none⟩ := by injection hv
    subst hA
    exact .inr ⟨g, cap, cur, hv, (hb _ (List.mem_singleton.2 rfl)).1, h4, h5⟩
end
section
variable {α : Type} {f : α → List Value} {e : TypeId} {s : Nat} {w w' : World} {lo hi : Nat} {v : Value} {l : List α} {T : Nat → Prop}
def RowOx (f : α → List Value) (e : TypeId) (s : Nat) (w : World) (v : Value) (l : List α) : Prop := ∃ lo hi, RowO f e s w lo hi v l ∧ ∀ k, lo ≤ k → k < hi → k ∈ blk v
theorem RowO.x (h : RowO f e s w lo hi v l) : RowOx f e s w v l := by
  obtain ⟨A, c, rfl, ho⟩ := h
  obtain ⟨lo', hi', h1, h2⟩ := ho.narrow
  exact ⟨lo', hi', ⟨A, c, rfl, h1⟩, h2⟩
theorem RowO.bin (h : RowO f e s w lo hi v l) : ∀ b ∈ blk v, lo ≤ b ∧ b < hi := by
  obtain ⟨A, c, rfl, ho⟩ := h
  exact ho.bin
theorem RowOx.ch (h : RowOx f e s w v l) (k : Ch T w w') (hd : ∀ b ∈ blk v, ¬ T b) : RowOx f e s w' v l := by
  obtain ⟨lo, hi, h1, h2⟩ := h
  exact ⟨lo, hi, h1.ch k (fun j a b => hd j (h2 j a b)), h2⟩
theorem RowOx.ext (h : RowOx f e s w v l) (k : Ext w w') : RowOx f e s w' v l := h.ch k (fun _ _ t => t)
theorem RowOx.at_ (h : RowOx f e s w v l) (hb : ∀ b ∈ blk v, lo ≤ b ∧ b < hi) (hs : hi ≤ w.heap.size) : RowO f e s w lo hi v l := by
  obtain ⟨l1, h1, ⟨A, c, rfl, ho⟩, hin⟩ := h
  refine ⟨A, c, rfl, ⟨hs, ⟨ho.len, ?_⟩, fun ad ha => by subst ha; exact (hb _ (List.mem_singleton.2 rfl)).2⟩⟩
  rcases ho.row.2 with ⟨hv, h0⟩ | ⟨g, cap, cur, hv, h3, h4, h5⟩
  · exact .inl ⟨hv, h0⟩
  · have hA : A = some ⟨g, 0, none⟩ := by injection hv
    subst hA
    exact .inr ⟨g, cap, cur, hv, (hb _ (List.mem_singleton.2 rfl)).1, h4, h5⟩
theorem RowOx.one (h : RowOx f e s w v l) : v.oneCell' = true := by obtain ⟨_, _, ⟨_, _, rfl, _⟩, _⟩ := h; rfl
end
def bkd (d : Nd) : List Nat := blk d.vb ++ blk d.vs
def bksN (v : Value) (ds : List Nd) : List Nat := blk v ++ ds.flatMap bkd
structure ONx (w : World) (v : Value) (ds : List Nd) : Prop where
  row : RowOx NdC 98 3 w v ds
  ok : ∀ d ∈ ds, OBx w d.vb d.body ∧ OBx w d.vs d.safe
  nd : (bksN v ds).Nodup
theorem ONx.ch {w w' : World} {v : Value} {ds : List Nd} {T : Nat → Prop} (h : ONx w v ds) (k : Ch T w w') (hd : ∀ b ∈ bksN v ds, ¬ T b) : ONx w' v ds :=
  ⟨h.row.ch k (fun b hb => hd b (List.mem_append.2 (.inl hb))), fun d hm => ⟨(h.ok d hm).1.ch k (fun b hb => hd b (List.mem_append.2 (.inr (List.mem_flatMap.2 ⟨d, hm, List.mem_append.2 (.inl hb)⟩)))), (h.ok d hm).2.ch k (fun b hb => hd b (List.mem_append.2 (.inr (List.mem_flatMap.2 ⟨d, hm, List.mem_append.2 (.inr hb)⟩))))⟩, h.nd⟩
theorem ONx.ext {w w' : World} {v : Value} {ds : List Nd} (h : ONx w v ds) (k : Ext w w') : ONx w' v ds := h.ch k (fun _ _ t => t)
/-! ### marks of nodes -/
def mk1 (k : Int) (d : Nd) : Nd := ⟨k, mk8 (k + 1) d.body.length, mk8 (k + 1 + d.body.length) d.safe.length, d.vb, d.vs⟩
def cnt1 (d : Nd) : Int := 1 + d.body.length + d.safe.length
def cntNd : List Nd → Int
  | [] => 0
  | d :: r => cnt1 d + cntNd r
def markNd (k : Int) : List Nd → List Nd
  | [] => []
  | d :: r => mk1 k d :: markNd (k + cnt1 d) r
theorem cntNd_append (l m : List Nd) : cntNd (l ++ m) = cntNd l + cntNd m := by
  induction l with
  | nil => simp [cntNd]
  | cons d r ih => simp only [List.cons_append, cntNd, ih]; omega
theorem cntNd_nn (l : List Nd) : 0 ≤ cntNd l := by
  induction l with
  | nil => simp [cntNd]
  | cons d r ih => simp only [cntNd, cnt1]; omega
theorem markNd_append (k : Int) (l m : List Nd) : markNd k (l ++ m) = markNd k l ++ markNd (k + cntNd l) m := by
  induction l generalizing k with
  | nil => simp [markNd, cntNd]
  | cons d r ih => simp only [List.cons_append, markNd, cntNd, ih]; rw [Int.add_assoc]
theorem markNd_length (k : Int) (l : List Nd) : (markNd k l).length = l.length := by
  induction l generalizing k with
  | nil => rfl
  | cons d r ih => simp only [markNd, List.length_cons, ih]
theorem markNd_bkd (k : Int) (l : List Nd) : (markNd k l).flatMap bkd = l.flatMap bkd := by
  induction l generalizing k with
  | nil => rfl
  | cons d r ih => simp only [markNd, List.flatMap_cons, ih]; rfl
theorem set_mid {α : Type} (A : List α) (u v : α) (r : List α) : (A ++ u :: r).set A.length v = A ++ v :: r := by
  rw [List.set_append_right _ _ (Nat.le_refl _), Nat.sub_self, List.set_cons_zero]
theorem cells_mid (M D : List Nd) (x : Nd) : cellsL NdC (M ++ x :: D) = cellsL NdC M ++ (I x.id :: x.vb :: x.vs :: cellsL NdC D) := by
  rw [cellsL_append]; simp [cellsL, NdC]
theorem mid_get {α : Type} (A r : List α) (k j : Nat) (h : A.length = k) : (A ++ r)[k + j]? = r[j]? := by
  subst h; rw [List.getElem?_append_right (by omega)]; congr 1; omega
theorem app3 {a b c : List Nat} (h : (a ++ (b ++ c)).Nodup) : (∀ x ∈ a, x ∉ b ∧ x ∉ c) ∧ ∀ x ∈ b, x ∉ c := by
  rw [List.nodup_append, List.nodup_append] at h
  obtain ⟨_, ⟨_, _, h2⟩, h1⟩ := h
  exact ⟨fun x hx => ⟨fun hb => h1 x hx x (List.mem_append.2 (.inl hb)) rfl, fun hc => h1 x hx x (List.mem_append.2 (.inr hc)) rfl⟩, fun x hx hc => h2 x hx x hc rfl⟩
/-- The blocks at one node, apart from all others. -/
theorem bks_apart {v : Value} {M D : List Nd} {x : Nd} (h : (bksN v (M ++ x :: D)).Nodup) :
    (∀ b ∈ blk v, b ∉ blk x.vb ∧ b ∉ blk x.vs ∧ ∀ d ∈ M ++ D, b ∉ bkd d) ∧ (∀ b ∈ blk x.vb, b ∉ blk v ∧ b ∉ blk x.vs ∧ ∀ d ∈ M ++ D, b ∉ bkd d) ∧ (∀ b ∈ blk x.vs, b ∉ blk v ∧ b ∉ blk x.vb ∧ ∀ d ∈ M ++ D, b ∉ bkd d) := by
  unfold bksN at h
  rw [List.flatMap_append, List.flatMap_cons] at h
  unfold bkd at h
  rw [List.nodup_append, List.nodup_append, List.nodup_append, List.nodup_append] at h
  obtain ⟨_, ⟨_, ⟨⟨_, _, hvs⟩, _, hxD⟩, hM⟩, hv⟩ := h
  have mem : ∀ d ∈ M ++ D, ∀ b ∈ bkd d, b ∈ M.flatMap (fun d => blk d.vb ++ blk d.vs) ∨ b ∈ D.flatMap (fun d => blk d.vb ++ blk d.vs) := fun d hd b hb => by
    rcases List.mem_append.1 hd with hd | hd
    · exact .inl (List.mem_flatMap.2 ⟨d, hd, hb⟩)
    · exact .inr (List.mem_flatMap.2 ⟨d, hd, hb⟩)
  have e1 : ∀ b, b ∈ blk v → b ∈ blk x.vb → False := fun b h1 h2 => hv b h1 b (List.mem_append.2 (.inr (List.mem_append.2 (.inl (List.mem_append.2 (.inl h2)))))) rfl
  have e2 : ∀ b, b ∈ blk v → b ∈ blk x.vs → False := fun b h1 h2 => hv b h1 b (List.mem_append.2 (.inr (List.mem_append.2 (.inl (List.mem_append.2 (.inr h2)))))) rfl
  have e3 : ∀ b, b ∈ blk x.vb → b ∈ blk x.vs → False := fun b h1 h2 => hvs b h1 b h2 rfl
  have e4 : ∀ b, b ∈ blk v → ∀ d ∈ M ++ D, b ∈ bkd d → False := fun b h1 d hd h2 => by
    rcases mem d hd b h2 with h3 | h3
    · exact hv b h1 b (List.mem_append.2 (.inl h3)) rfl
    · exact hv b h1 b (List.mem_append.2 (.inr (List.mem_append.2 (.inr h3)))) rfl
  have e5 : ∀ b, (b ∈ blk x.vb ∨ b ∈ blk x.vs) → ∀ d ∈ M ++ D, b ∈ bkd d → False := fun b h1 d hd h2 => by
    rcases mem d hd b h2 with h3 | h3
    · exact hM b h3 b (List.mem_append.2 (.inl (List.mem_append.2 h1))) rfl
    · exact hxD b (List.mem_append.2 h1) b h3 rfl
  exact ⟨fun b hb => ⟨fun h => e1 b hb h, fun h => e2 b hb h, fun d hd h => e4 b hb d hd h⟩, fun b hb => ⟨fun h => e1 b h hb, fun h => e3 b hb h, fun d hd h => e5 b (.inl hb) d hd h⟩, fun b hb => ⟨fun h => e2 b h hb, fun h => e3 b h hb, fun d hd h => e5 b (.inr hb) d hd h⟩⟩
attribute [local irreducible] TL TC TN TX TR TQ TA Pu Ret
set_option maxHeartbeats 4000000 in
theorem markNodeS_c {v : Value} {ds : List Nd} {k : Int} {w : World} (h : ONx w v ds) (hl : ds.length ≤ 1048576) (hc : cntNd ds ≤ 4194304) (hk0 : 0 < k) (hk1 : k ≤ 1000000000) :
    Ret Tryz.prog 75 #[v, I k] w fun v' w' => v' = I (k + cntNd ds) ∧ Ch (fun j => j ∈ bksN v ds) w w' ∧ ONx w' v (markNd k ds) := by
  obtain ⟨A, c, rfl⟩ : ∃ A c, v = .slice A ds.length c := by obtain ⟨_, _, ⟨A, c, h1, _⟩, _⟩ := h.row; exact ⟨A, c, h1⟩
  refine Ret_enter Tryz.func75 rfl rfl rfl ?_
  repeat' (first | apply Jbq | apply Jbr | apply Jbs | apply Jbt | apply Jby | (apply Jcg; exact Jab rfl; exact rfl))
  refine TC_loop (ι := Nat) (fun i => [(0, .slice A ds.length c), (1, I (k + cntNd (ds.take i))), (5, I i)]) (fun i w' => i ≤ ds.length ∧ Ch (fun j => j ∈ bksN (.slice A ds.length c) ds) w w' ∧ ONx w' (.slice A ds.length c) (markNd k (ds.take i) ++ ds.drop i)) (fun i => ds.length - i) 0
    (subEnv_cons rfl (subEnv_cons (congrArg (fun z => some (I z)) (by simp [cntNd])) (subEnv_cons rfl (subEnv_nil _)))) ⟨Nat.zero_le _, Ch.refl _ _, by simpa [markNd] using h⟩ ?_
  intro i w2 ⟨hi2, c2, h2⟩
  repeat' (first | apply Jbq | apply Jbr | apply Jbs | apply Jbt | (apply Jcg; (first | exact Jaa rfl | exact Jac Us.h rfl | exact Jad rfl rfl); exact rfl))
  refine Jcx rfl (fun hlt0 => ?_) (fun hge => ?_)
  · have hlt : i < ds.length := by omega
    have hdr : ds.drop i = ds[i] :: ds.drop (i + 1) := List.drop_eq_getElem_cons hlt
    have htk : ds.take (i + 1) = ds.take i ++ [ds[i]] := List.take_succ_eq_append_getElem hlt
    have hall : cntNd ds = cntNd (ds.take i) + (cnt1 ds[i] + cntNd (ds.drop (i + 1))) := by
      conv => lhs; rw [← List.take_append_drop i ds, hdr]
      rw [cntNd_append]; rfl
    have hn1 := cntNd_nn (ds.take i)
    have hn2 := cntNd_nn (ds.drop (i + 1))
    have hbk : bksN (.slice A ds.length c) (markNd k (ds.take i) ++ ds[i] :: ds.drop (i + 1)) = bksN (.slice A ds.length c) ds := by
      unfold bksN
      rw [List.flatMap_append, markNd_bkd, ← List.flatMap_append, ← hdr, List.take_append_drop]
    rw [hdr] at h2
    have hmk : markNd k (ds.take (i + 1)) = markNd k (ds.take i) ++ [mk1 (k + cntNd (ds.take i)) ds[i]] := by rw [htk, markNd_append]; rfl
    have hct : cntNd (ds.take (i + 1)) = cntNd (ds.take i) + cnt1 ds[i] := by rw [htk, cntNd_append]; simp [cntNd]
    have hml : (markNd k (ds.take i)).length = i := by rw [markNd_length, List.length_take]; omega
    obtain ⟨M, hM⟩ : ∃ M, M = markNd k (ds.take i) := ⟨_, rfl⟩
    obtain ⟨x, hx⟩ : ∃ x, x = ds[i] := ⟨_, rfl⟩
    obtain ⟨D, hD⟩ : ∃ D, D = ds.drop (i + 1) := ⟨_, rfl⟩
    obtain ⟨q, hq⟩ : ∃ q, q = k + cntNd (ds.take i) := ⟨_, rfl⟩
    rw [← hM, ← hx, ← hD] at h2 hbk
    rw [← hM, ← hx, ← hq] at hmk
    rw [← hM] at hml
    rw [← hx] at hct hall
    obtain ⟨id, body, safe, vb, vs⟩ := x
    simp only [cnt1] at hct hall
    have hqb : 0 < q ∧ q + 1 + body.length + safe.length ≤ 1099511627776 := by omega
    obtain ⟨ap1, ap2, ap3⟩ := bks_apart h2.nd
    simp only at ap1 ap2 ap3
    have inV : ∀ b ∈ blk (.slice A ds.length c), b ∈ bksN (.slice A ds.length c) ds := fun b hb => by rw [← hbk]; exact List.mem_append.2 (.inl hb)
    have inB : ∀ b ∈ blk vb, b ∈ bksN (.slice A ds.length c) ds := fun b hb => by
      rw [← hbk]; exact List.mem_append.2 (.inr (List.mem_flatMap.2 ⟨⟨id, body, safe, vb, vs⟩, by simp, List.mem_append.2 (.inl hb)⟩))
    have inS : ∀ b ∈ blk vs, b ∈ bksN (.slice A ds.length c) ds := fun b hb => by
      rw [← hbk]; exact List.mem_append.2 (.inr (List.mem_flatMap.2 ⟨⟨id, body, safe, vb, vs⟩, by simp, List.mem_append.2 (.inr hb)⟩))
    have hlen : (M ++ (⟨id, body, safe, vb, vs⟩ : Nd) :: D).length = ds.length := by
      rw [List.length_append, List.length_cons, hml, hD, List.length_drop]; omega
    obtain ⟨⟨l1, h1, ⟨A', c', hv', ho2⟩, hin⟩, hok, hnd⟩ := h2
    rw [hlen] at hv' ho2
    injection hv' with hA' _ hc'
    subst hA' hc'
    obtain ⟨okb, oks⟩ := hok ⟨id, body, safe, vb, vs⟩ (by simp)
    have oko : ∀ d ∈ M ++ D, OBx w2 d.vb d.body ∧ OBx w2 d.vs d.safe := fun d hd => hok d (by rcases List.mem_append.1 hd with h | h <;> simp [h])
    simp only at okb oks
    clear hok
    rw [cells_mid] at ho2
    have hcl : (cellsL NdC M).length = i * 3 := by rw [cellsL_length NdC_len, hml]
    simp only at ho2
    rw [← hq]
    rcases ho2.head with rfl | ⟨g, rfl, hg1, hg2⟩
    · obtain ⟨ad, h, _⟩ := ho2.rd.at_ (by omega)
      cases h
    have hgv : blk (.slice (some ⟨g, 0, none⟩) ds.length c) = [g] := rfl
    repeat' (first | apply Jbr | apply Jbs | apply Jbt | apply Jby | apply Jbz | (apply Jcg; (first | exact Jaa rfl | exact Jar Us.h Sz.h rfl rfl (by omega) | (apply Jbl; exact Us.h; exact rfl; exact Sz.h; exact rfl)); exact rfl))
    refine TL_storeOwn rfl (add_lit3 g (i * 3) 0) rfl Sz.h rfl ho2 (by omega) ?_
    intro w3 c3 hz3 ho3
    rw [Nat.add_zero, ← hcl, set_mid] at ho3
    have c3' : Ch (fun j => j ∈ [g]) w2 w3 := c3.mono (fun j hj => by simp only [Iv] at hj; simp; omega)
    rw [hgv] at ap1 ap2 ap3 inV hin
    replace okb := okb.ch c3' (fun b hb => (ap2 b hb).1)
    replace oks := oks.ch c3' (fun b hb => (ap3 b hb).1)
    replace oko := fun d hd => (⟨(oko d hd).1.ch c3' (fun b hb hg => (ap1 b hg).2.2 d hd (List.mem_append.2 (.inl hb))), (oko d hd).2.ch c3' (fun b hb hg => (ap1 b hg).2.2 d hd (List.mem_append.2 (.inr hb)))⟩ : OBx w3 d.vb d.body ∧ OBx w3 d.vs d.safe)
    have hcb : w3.cell? ((⟨g, 0, none⟩ : Addr).add (i * 3 + 1)) = some vb := by
      obtain ⟨ad, h, _, _, hc⟩ := ho3.rd.at_ (by omega)
      injection h with h; subst h
      exact hc _ _ (by rw [mid_get _ _ _ _ hcl]; rfl)
    rw [← add_of_add] at hcb
    repeat' (first | apply Jbq | apply Jbr | apply Jbs | apply Jbt | (apply Jcg; (first | exact Jaa rfl | exact Jab rfl | exact Jaf rfl rfl (by omega) | exact Jar Us.h Sz.h rfl rfl (by omega) | (apply Jbl; exact Us.h; exact rfl; exact Sz.h; exact rfl)); exact rfl) | refine Jcg (Pu_load Fl.h rfl (fun _ e => by rw [e]; exact hcb)) rfl ?_)
    obtain ⟨l4, h4, ob, hin4⟩ := okb
    refine TL_call rfl en97 (markB_k ob (by omega) (by omega) (by omega)) rfl rfl ?_
    rintro _ w4 ⟨rfl, c4, hz4, ob4⟩
    have c4' : Ch (fun j => j ∈ blk vb) w3 w4 := c4.mono (fun j hj => hin4 j hj.1 hj.2)
    replace ho3 := ho3.ch c4' (fun j a b hj => (ap2 j hj).1 (hin j a b))
    replace oks := oks.ch c4' (fun b hb h => (ap3 b hb).2.1 h)
    replace oko := fun d hd => (⟨(oko d hd).1.ch c4' (fun b hb hg => (ap2 b hg).2.2 d hd (List.mem_append.2 (.inl hb))), (oko d hd).2.ch c4' (fun b hb hg => (ap2 b hg).2.2 d hd (List.mem_append.2 (.inr hb)))⟩ : OBx w4 d.vb d.body ∧ OBx w4 d.vs d.safe)
    have okb4 : OBx w4 vb (mk8 (q + 1) body.length) := ⟨l4, h4, ob4, hin4⟩
    have hcs : w4.cell? ((⟨g, 0, none⟩ : Addr).add (i * 3 + 2)) = some vs := by
      obtain ⟨ad, h, _, _, hc⟩ := ho3.rd.at_ (by omega)
      injection h with h; subst h
      exact hc _ _ (by rw [mid_get _ _ _ _ hcl]; rfl)
    rw [← add_of_add] at hcs
    repeat' (first | apply Jbq | apply Jbr | apply Jbt | (apply Jcg; (first | exact Jaa rfl | exact Jab rfl | exact Jar Us.h Sz.h rfl rfl (by omega) | (apply Jbl; exact Us.h; exact rfl; exact Sz.h; exact rfl)); exact rfl) | refine Jcg (Pu_load Fl.h rfl (fun _ e => by rw [e]; exact hcs)) rfl ?_)
    obtain ⟨l5, h5, os, hin5⟩ := oks
    refine TL_call rfl en97 (markB_k os (by omega) (by omega) (by omega)) rfl rfl ?_
    rintro _ w5 ⟨rfl, c5, hz5, os5⟩
    have c5' : Ch (fun j => j ∈ blk vs) w4 w5 := c5.mono (fun j hj => hin5 j hj.1 hj.2)
    replace ho3 := ho3.ch c5' (fun j a b hj => (ap3 j hj).1 (hin j a b))
    replace okb4 := okb4.ch c5' (fun b hb h => (ap2 b hb).2.1 h)
    replace oko := fun d hd => (⟨(oko d hd).1.ch c5' (fun b hb hg => (ap3 b hg).2.2 d hd (List.mem_append.2 (.inl hb))), (oko d hd).2.ch c5' (fun b hb hg => (ap3 b hg).2.2 d hd (List.mem_append.2 (.inr hb)))⟩ : OBx w5 d.vb d.body ∧ OBx w5 d.vs d.safe)
    have oks5 : OBx w5 vs (mk8 (q + 1 + body.length) safe.length) := ⟨l5, h5, os5, hin5⟩
    repeat' (first | apply Jbq | apply Jbr | apply Jbt | apply Jbx | (apply Jcg; (first | exact Jaa rfl | exact Jab rfl | exact Jaf rfl rfl (by omega)); exact rfl))
    have hdr2 : markNd k (ds.take (i + 1)) ++ ds.drop (i + 1) = M ++ (⟨q, mk8 (q + 1) body.length, mk8 (q + 1 + body.length) safe.length, vb, vs⟩ : Nd) :: D := by
      rw [hmk, hD, List.append_assoc]; rfl
    have hlen2 : (M ++ (⟨q, mk8 (q + 1) body.length, mk8 (q + 1 + body.length) safe.length, vb, vs⟩ : Nd) :: D).length = ds.length := by
      rw [List.length_append, List.length_cons] at hlen ⊢; exact hlen
    refine TN_round (i + 1) (subEnv_cons rfl (subEnv_cons (congrArg (fun z => some (I z)) (by rw [hct]; omega)) (subEnv_cons rfl (subEnv_nil _)))) ⟨hlt, ?_, ?_⟩ (by omega)
    · exact ((c2.then (c3'.mono (fun j hj => inV j hj))).then (c4'.mono (fun j hj => inB j hj))).then (c5'.mono (fun j hj => inS j hj))
    · rw [hdr2]
      refine ⟨⟨l1, h1, ⟨some ⟨g, 0, none⟩, c, by rw [hlen2], by rw [hlen2, cells_mid]; exact ho3⟩, hin⟩, fun d hd => ?_, ?_⟩
      · rcases List.mem_append.1 hd with hd | hd
        · exact oko d (List.mem_append.2 (.inl hd))
        · rcases List.mem_cons.1 hd with rfl | hd
          · exact ⟨okb4, oks5⟩
          · exact oko d (List.mem_append.2 (.inr hd))
      · have : bksN (.slice (some ⟨g, 0, none⟩) ds.length c) (M ++ (⟨q, mk8 (q + 1) body.length, mk8 (q + 1 + body.length) safe.length, vb, vs⟩ : Nd) :: D) = bksN (.slice (some ⟨g, 0, none⟩) ds.length c) (M ++ (⟨id, body, safe, vb, vs⟩ : Nd) :: D) := by
          unfold bksN
          rw [List.flatMap_append, List.flatMap_append, List.flatMap_cons, List.flatMap_cons]
          rfl
        rw [this]
        exact hnd
  · obtain rfl : i = ds.length := by omega
    rw [List.take_length, List.drop_length, List.append_nil] at h2
    rw [List.take_length]
    repeat' (first | apply Jbq | apply Jbr | apply Jbs | apply Jbt | apply Jbu | apply Jca | apply Jcb | apply Jcc | (apply Jcg; (first | exact Jaa rfl | exact Jab rfl); exact rfl))
    exact TR_of (res1 rfl rfl) ⟨rfl, c2, h2⟩
end Go.Proofs.YtggaghghclomkaaGreat
