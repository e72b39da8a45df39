/- Texts of this proof laid together, in the order in which they build; what each proves stands ahead of it. No condition but those told there. -/
import Derived.Test.YtggaghghclomkaaGreatQFT8l

/- Draws of logs, of disks with a history, of stores: right ones, all durable. No condition. -/
namespace Go.Proofs.YtggaghghclomkaaGreat
open Go.RowKit
theorem rows_len : ∀ {l : List Ent} {n : Int}, rowE n l → (l.flatMap frame).length ≤ 26 * l.length
  | [], _, _ => by simp
  | e :: l, n, h => by
    have h1 := rows_len h.2.2
    have h2 := frame_length e
    have h3 := h.2.1.2
    simp only [List.flatMap_cons, List.length_append, List.length_cons]; omega
theorem pLog_rows {l : List Ent} {n : Int} (h : rowE n l) : (pLog l).1.length ≤ 26 * l.length := by
  unfold pLog
  split
  · exact rows_len h
  · simp
theorem pDo_fu {d : DiskP} {o : OpD} (h : DOk d) (hf : d.fuse = -1) (ho : pOp o = true) : (pDo d o).1.fuse = -1 := by
  have hfu := (fuseOf_step h (by omega)).2 hf
  unfold pDo
  rw [if_pos ⟨h, ho⟩]
  split
  · unfold doD
    repeat' split
    all_goals first | exact hfu | exact hf
  · exact hf
theorem RB_take {w : World} {lo hi c k : Nat} {A : Option Addr} {b : List UInt8} (h : Rd w lo hi 1 A b.length (u8s b)) (hk : k ≤ b.length) (hc : b.length ≤ c) : RB w lo hi (.slice (cutA A c 0 1) k c) (b.take k) := by
  have h2 := h.cut (a := 0) (b := k) (c := c) (by omega) hk hc
  simp only [Nat.sub_zero, Nat.mul_one, List.drop_zero] at h2
  have hl : (b.take k).length = k := by rw [List.length_take, Nat.min_eq_left hk]
  refine ⟨_, c, by rw [hl], by omega, ?_⟩
  rw [hl, show u8s (b.take k) = (u8s b).take k from List.map_take ..]
  exact h2
theorem RSt.wide {w : World} {lo hi lo' hi' : Nat} {s : StoreP} {sn sk st sl : Value} (h : RSt w lo hi s sn sk st sl) (h1 : lo' ≤ lo) (h2 : hi ≤ hi') (h3 : hi' ≤ w.heap.size) : RSt w lo' hi' s sn sk st sl := ⟨h.1.wide h1 h2 h3, h.2.wide h1 h2 h3⟩
theorem newDk_live {room k z : Int} (h : 0 ≤ room ∧ room ≤ 60000) (hr : rangeK k z) : (pOpen (newDk room) k z).2 = 0 ∧ Live (pOpen (newDk room) k z).1 := by
  rcases open_law (newDk_ok h) rfl hr with ⟨h1, h2, _⟩ | ⟨_, _, _, h4⟩
  · exact ⟨h1, h2⟩
  · exfalso
    rcases h4 with h4 | h4
    · simp [newDk, pDir, runT] at h4
    · simp [newDk] at h4
/-- A disk that is being made. -/
structure MDk (W w : World) (g gr gd : Nat) (d : DiskP) (sn sk st : Value) : Prop where
  ok : DOk d
  fu : d.fuse = -1
  c : Ch (Iv g (g + 1)) W w
  cur : Cur w g
  res : Blk w gr 33 (dskC noDk (.slice none 0 0) (.slice none 0 0) (.slice none 0 0))
  blk : Blk w gd 33 (dskC d sn sk st)
  reg : ∃ lo hi, gr < lo ∧ hi ≤ w.heap.size ∧ (hi ≤ gd ∨ gd < lo) ∧ RDk w lo hi d sn sk st
  pos : W.heap.size ≤ gr ∧ gr < gd ∧ gd < w.heap.size ∧ g < W.heap.size
theorem MDk.below {W w w' : World} {g gr gd : Nat} {d : DiskP} {sn sk st : Value} (h : MDk W w g gr gd d sn sk st) (c : Ch (Iv g (g + 1)) w w') (hc : Cur w' g) : MDk W w' g gr gd d sn sk st := by
  have hp := h.pos
  have hs := c.size
  obtain ⟨lo, hi, h1, h2, h3, h4⟩ := h.reg
  exact ⟨h.ok, h.fu, h.c.then c, hc, h.res.ch c (by simp only [Iv]; omega), h.blk.ch c (by simp only [Iv]; omega), ⟨lo, hi, h1, by omega, h3, h4.ch c (by intro k _ _; simp only [Iv]; omega)⟩, by omega⟩
theorem MDk.ext {W w w' : World} {g gr gd : Nat} {d : DiskP} {sn sk st : Value} (h : MDk W w g gr gd d sn sk st) (e : Ext w w') : MDk W w' g gr gd d sn sk st := h.below (Ch.mono e (fun _ t => t.elim)) (h.cur.ext e)
theorem MDk.step {W w w1 w2 : World} {g gr gd : Nat} {d d1 : DiskP} {sn sk st sn1 sk1 st1 : Value} (h : MDk W w g gr gd d sn sk st) (hd : DOk d1) (hf : d1.fuse = -1) (e : Ext w w1) (hx : ODk w1 w.heap.size w1.heap.size d1 sn1 sk1 st1) (c : Ch (Iv gd (gd + 1)) w1 w2) (hb : Blk w2 gd 33 (dskC d1 sn1 sk1 st1)) : MDk W w2 g gr gd d1 sn1 sk1 st1 := by
  have hp := h.pos
  have hs := e.size
  have hs2 := c.size
  exact ⟨hd, hf, (h.c.ext e).trans c (fun _ _ t => t) (fun j hj t => absurd t.1 (by omega)), (h.cur.ext e).ch c (by intro k _; simp only [Iv]; omega), (h.res.ext e).ch c (by simp only [Iv]; omega), hb, ⟨w.heap.size, w1.heap.size, by omega, by omega, .inr (by omega), hx.rd.ch c (by intro k _ _; simp only [Iv]; omega)⟩, by omega⟩
theorem MDk.ld {W w : World} {g gr gd : Nat} {d : DiskP} {sn sk st : Value} (h : MDk W w g gr gd d sn sk st) : ∀ j u, (dskC d sn sk st)[j]? = some u → w.cell? ((⟨gd, 0, none⟩ : Addr).add j) = some u := fun j u hu => by rw [add0, h.blk.cell]; exact hu
/-- A store that is being made. -/
structure MSt (W w : World) (g gr gs : Nat) (s : StoreP) (sn sk st sl : Value) : Prop where
  live : Live s
  c : Ch (Iv g (g + 1)) W w
  cur : Cur w g
  res : Blk w gr 66 (stoC noSt (.slice none 0 0) (.slice none 0 0) (.slice none 0 0) (.slice none 0 0))
  blk : Blk w gs 66 (stoC s sn sk st sl)
  reg : ∃ lo hi, gr < lo ∧ hi ≤ w.heap.size ∧ (hi ≤ gs ∨ gs < lo) ∧ RSt w lo hi s sn sk st sl
  pos : W.heap.size ≤ gr ∧ gr < gs ∧ gs < w.heap.size ∧ g < W.heap.size
theorem MSt.below {W w w' : World} {g gr gs : Nat} {s : StoreP} {sn sk st sl : Value} (h : MSt W w g gr gs s sn sk st sl) (c : Ch (Iv g (g + 1)) w w') (hc : Cur w' g) : MSt W w' g gr gs s sn sk st sl := by
  have hp := h.pos
  have hs := c.size
  obtain ⟨lo, hi, h1, h2, h3, h4⟩ := h.reg
  exact ⟨h.live, h.c.then c, hc, h.res.ch c (by simp only [Iv]; omega), h.blk.ch c (by simp only [Iv]; omega), ⟨lo, hi, h1, by omega, h3, h4.ch c (by intro k _ _; simp only [Iv]; omega)⟩, by omega⟩
theorem MSt.ext {W w w' : World} {g gr gs : Nat} {s : StoreP} {sn sk st sl : Value} (h : MSt W w g gr gs s sn sk st sl) (e : Ext w w') : MSt W w' g gr gs s sn sk st sl := h.below (Ch.mono e (fun _ t => t.elim)) (h.cur.ext e)
theorem MSt.step {W w w1 w2 : World} {g gr gs : Nat} {s s1 : StoreP} {sn sk st sl sn1 sk1 st1 sl1 : Value} (h : MSt W w g gr gs s sn sk st sl) (hL : Live s1) (e : Ext w w1) (hx : OSt w1 w.heap.size w1.heap.size s1 sn1 sk1 st1 sl1) (c : Ch (Iv gs (gs + 1)) w1 w2) (hb : Blk w2 gs 66 (stoC s1 sn1 sk1 st1 sl1)) : MSt W w2 g gr gs s1 sn1 sk1 st1 sl1 := by
  have hp := h.pos
  have hs := e.size
  have hs2 := c.size
  exact ⟨hL, (h.c.ext e).trans c (fun _ _ t => t) (fun j hj t => absurd t.1 (by omega)), (h.cur.ext e).ch c (by intro k _; simp only [Iv]; omega), (h.res.ext e).ch c (by simp only [Iv]; omega), hb, ⟨w.heap.size, w1.heap.size, by omega, by omega, .inr (by omega), hx.rd.ch c (by intro k _ _; simp only [Iv]; omega)⟩, by omega⟩
theorem MSt.ld {W w : World} {g gr gs : Nat} {s : StoreP} {sn sk st sl : Value} (h : MSt W w g gr gs s sn sk st sl) : ∀ j u, (stoC s sn sk st sl)[j]? = some u → w.cell? ((⟨gs, 0, none⟩ : Addr).add j) = some u := fun j u hu => by rw [add0, h.blk.cell]; exact hu
attribute [local irreducible] TL TC TN TX TR TQ TA TB Pu Ret
set_option maxRecDepth 100000 in
set_option maxHeartbeats 8000000 in
theorem l05Log_c {w : World} {g : Nat} (hcur : Cur w g) :
    Ret Tryz.prog 180 #[pt g] w fun v w' => ∃ b : List UInt8, b.length ≤ 60000 ∧ Ch (Iv g (g + 1)) w w' ∧ RB w' w.heap.size w'.heap.size v b ∧ Cur w' g := by
  have hg := hcur.lt
  refine Ret_enter Tryz.func180 rfl rfl rfl ?_
  repeat' (first | apply Jbq | apply Jbr | apply Jbs | apply Jbt | (apply Jcg; (first | exact Jaa rfl | exact Jab rfl); exact rfl))
  refine TL_call rfl en201 (l05Entries_c (most := 5) hcur (by omega)) rfl rfl ?_
  rintro vl w1 ⟨l, n, hll, hn, hrow, c1, hol, hcur1⟩
  skip
  refine TL_call rfl en124 (specLogBytes_k hol.rd (by omega)) rfl rfl ?_
  rintro _ w2 ⟨vb, rfl, e2, hob⟩
  have hb := pLog_rows hrow
  obtain ⟨b, hbq⟩ : ∃ b, b = (pLog l).1 := ⟨_, rfl⟩
  rw [← hbq] at hob hb
  obtain ⟨Ab, cb, rfl, hown⟩ := hob
  repeat' (first | apply Jbq | apply Jbr | apply Jbs | apply Jbt | (apply Jcg; (first | exact Jaa rfl | exact Jab rfl | exact Jae rfl rfl); exact rfl))
  refine TL_call rfl en115 (l01Below_c (hcur1.ext e2) (by omega)) rfl rfl ?_
  rintro _ w3 ⟨k, rfl, hk0, hk1, _, c3, hcur3⟩
  have hk1 := hk1 (by omega)
  have hs1 := c1.size
  have hs2 := e2.size
  have hs3 := c3.size
  have c03 : Ch (Iv g (g + 1)) w w3 := (c1.ext e2).then c3
  have hown3 := hown.ch c3 (by intro k _ _; simp only [Iv]; omega)
  have hcap := hown3.cap
  clear hown hol c1 e2 c3 hcur1
  by_cases h3 : k < 3
  · by_cases hp : 0 < b.length
    · repeat' (first | apply Jbq | apply Jbr | apply Jbs | apply Jbt | (apply Jcg; (first | exact Jaa rfl | exact Jab rfl | exact Jac Us.h rfl | exact Jad rfl rfl | exact Jah rfl rfl | exact Jam rfl rfl); exact rfl) | refine Jch rfl rfl rfl ?_ | (refine Jcs rfl rfl (fun hb => ?_) (fun hb => ?_) <;> (try (exfalso; omega))) | (refine Jcx rfl (fun hb => ?_) (fun hb => ?_) <;> (try (exfalso; omega))))
      refine TL_call rfl en115 (l01Below_c (n := (b.length : Int)) hcur3 (by omega)) rfl rfl ?_
      rintro _ w4 ⟨x, rfl, hx0, hx1, _, c4, hcur4⟩
      have hx1 := hx1 (by omega)
      have hs4 := c4.size
      repeat' (first | apply Jbq | apply Jbr | apply Jbs | apply Jbt | apply Jbu | apply Jbz | (refine Jcf rfl ?_) | (apply Jcg; (first | exact Jaa rfl | exact Jab rfl | exact Jai rfl rfl | exact Jak rfl rfl | exact Jbe Us.h Sz.h rfl rfl (by omega)); exact rfl) | refine Jci rfl rfl rfl rfl rfl ?_ | (refine Jcs rfl rfl (fun hb => ?_) (fun hb => ?_) <;> (try (exfalso; omega))) | (refine Jcx rfl (fun hb => ?_) (fun hb => ?_) <;> (try (exfalso; omega))))
      exact TR_of (res1 rfl rfl) ⟨b.take x.toNat, by rw [List.length_take]; omega, c03.then c4, (RB_take (hown3.rd.ch c4 (by intro k _ _; simp only [Iv]; omega)) (by omega) hcap.1).wide (by omega) (by omega) (Nat.le_refl _), hcur4⟩
    · repeat' (first | apply Jbq | apply Jbr | apply Jbs | apply Jbt | apply Jbu | apply Jbz | (refine Jcf rfl ?_) | (apply Jcg; (first | exact Jaa rfl | exact Jab rfl | exact Jac Us.h rfl | exact Jad rfl rfl | exact Jah rfl rfl | exact Jai rfl rfl | exact Jak rfl rfl | exact Jam rfl rfl); exact rfl) | refine Jch rfl rfl rfl ?_ | refine Jci rfl rfl rfl rfl rfl ?_ | (refine Jcs rfl rfl (fun hb => ?_) (fun hb => ?_) <;> (try (exfalso; omega))) | (refine Jcx rfl (fun hb => ?_) (fun hb => ?_) <;> (try (exfalso; omega))))
      exact TR_of (res1 rfl rfl) ⟨b, by omega, c03, RB.wide ⟨Ab, cb, rfl, hcap.1, hown3.rd⟩ (by omega) (by omega) (Nat.le_refl _), hcur3⟩
  by_cases h4 : k = 3
  · by_cases hp : 0 < b.length
    · obtain ⟨gb, rfl, hgb⟩ : ∃ gb, Ab = some ⟨gb, 0, none⟩ ∧ w1.heap.size ≤ gb ∧ gb < w2.heap.size := by
        rcases hown3.head with h0 | ⟨gb, h0, h5, h6⟩
        · subst h0
          obtain ⟨ad, h7, _⟩ := hown3.rd.get hp
          cases h7
        · exact ⟨gb, h0, h5, h6⟩
      repeat' (first | apply Jbq | apply Jbr | apply Jbs | apply Jbt | apply Jbz | (refine Jcf rfl ?_) | (apply Jcg; (first | exact Jaa rfl | exact Jab rfl | exact Jac Us.h rfl | exact Jad rfl rfl | exact Jah rfl rfl | exact Jai rfl rfl | exact Jak rfl rfl | exact Jam rfl rfl); exact rfl) | refine Jch rfl rfl rfl ?_ | refine Jci rfl rfl rfl rfl rfl ?_ | (refine Jcs rfl rfl (fun hb => ?_) (fun hb => ?_) <;> (try (exfalso; omega))) | (refine Jcx rfl (fun hb => ?_) (fun hb => ?_) <;> (try (exfalso; omega))))
      refine TL_call rfl en115 (l01Below_c (n := (b.length : Int)) hcur3 (by omega)) rfl rfl ?_
      rintro _ w4 ⟨x, rfl, hx0, hx1, _, c4, hcur4⟩
      have hx1 := hx1 (by omega)
      have hs4 := c4.size
      obtain ⟨x, rfl⟩ := Int.eq_ofNat_of_zero_le hx0
      repeat' ((apply Jcg; exact Jaa rfl; exact rfl))
      refine TL_call rfl en161 (l01Byte_c hcur4) rfl rfl ?_
      rintro _ w5 ⟨y, rfl, hy, c5, hcur5⟩
      have hs5 := c5.size
      have hown5 := (hown3.ch c4 (by intro k _ _; simp only [Iv]; omega)).ch c5 (by intro k _ _; simp only [Iv]; omega)
      repeat' ((apply Jcg; (first | exact Jag Us.h Sz.h rfl rfl (by omega) | exact Jaw Us.h Us.h rfl); exact rfl))
      refine TL_storeOwn rfl (add0 gb _) rfl Sz.h rfl hown5 (by omega) ?_
      intro w6 c6 hz6 hown6
      have hset : ∀ (a : UInt8), (u8s b).set x (B8 a) = u8s (b.set x a) := fun a => (List.map_set ..).symm
      rw [Int.toNat_natCast, hset] at hown6
      repeat' (first | apply Jbq | apply Jbr | apply Jbs | apply Jbt | apply Jbu | apply Jbz | (apply Jcg; (first | exact Jaa rfl | exact Jab rfl | exact Jak rfl rfl); exact rfl) | (refine Jcx rfl (fun hb => ?_) (fun hb => ?_) <;> (try (exfalso; omega))))
      exact TR_of (res1 rfl rfl) ⟨b.set x (UInt8.ofNat ((y : Int) % 256).toNat), by rw [List.length_set]; omega, Own.step ((c03.then c4).then c5) c6 (by omega), RB.wide ⟨_, cb, by rw [List.length_set], by rw [List.length_set]; omega, by rw [List.length_set]; exact hown6.rd⟩ (by omega) (by omega) (Nat.le_refl _), hcur5.ch c6 (by intro k _; simp only [Iv]; omega)⟩
    · repeat' (first | apply Jbq | apply Jbr | apply Jbs | apply Jbt | apply Jbu | apply Jbz | (refine Jcf rfl ?_) | (apply Jcg; (first | exact Jaa rfl | exact Jab rfl | exact Jac Us.h rfl | exact Jad rfl rfl | exact Jah rfl rfl | exact Jai rfl rfl | exact Jak rfl rfl | exact Jam rfl rfl); exact rfl) | refine Jch rfl rfl rfl ?_ | refine Jci rfl rfl rfl rfl rfl ?_ | (refine Jcs rfl rfl (fun hb => ?_) (fun hb => ?_) <;> (try (exfalso; omega))) | (refine Jcx rfl (fun hb => ?_) (fun hb => ?_) <;> (try (exfalso; omega))))
      exact TR_of (res1 rfl rfl) ⟨b, by omega, c03, RB.wide ⟨Ab, cb, rfl, hcap.1, hown3.rd⟩ (by omega) (by omega) (Nat.le_refl _), hcur3⟩
  by_cases h5 : k = 4
  · repeat' (first | apply Jbq | apply Jbr | apply Jbs | apply Jbt | apply Jbz | (refine Jcf rfl ?_) | (apply Jcg; (first | exact Jaa rfl | exact Jab rfl | exact Jad rfl rfl | exact Jai rfl rfl | exact Jak rfl rfl); exact rfl) | refine Jci rfl rfl rfl rfl rfl ?_ | (refine Jcs rfl rfl (fun hb => ?_) (fun hb => ?_) <;> (try (exfalso; omega))) | (refine Jcx rfl (fun hb => ?_) (fun hb => ?_) <;> (try (exfalso; omega))))
    refine TL_call rfl en201 (l05Entries_c (most := 2) hcur3 (by omega)) rfl rfl ?_
    rintro vl2 w4 ⟨l2, n2, hll2, hn2, hrow2, c4, hol2, hcur4⟩
    skip
    refine TL_call rfl en124 (specLogBytes_k hol2.rd (by omega)) rfl rfl ?_
    rintro _ w5 ⟨vb2, rfl, e5, hob2⟩
    have hb2 := pLog_rows hrow2
    have hs4 := c4.size
    have hs5 := e5.size
    have hown5 := (hown3.ch c4 (by intro k _ _; simp only [Iv]; omega)).ext e5
    repeat' (first | apply Jbq | apply Jbr | apply Jbt | (apply Jcg; (first | exact Jaa rfl | exact Jab rfl | exact Jae rfl rfl); exact rfl))
    refine TL_appendB Us.h rfl rfl ⟨_, _, rfl, hown5⟩ hob2.rd (by omega) (by omega) rfl ?_
    intro w6 v6 c6 ho6
    have hs6 := c6.size
    repeat' (first | apply Jbq | apply Jbr | apply Jbs | apply Jbt | apply Jbu | apply Jbz | (apply Jcg; (first | exact Jaa rfl | exact Jab rfl | exact Jak rfl rfl); exact rfl) | (refine Jcx rfl (fun hb => ?_) (fun hb => ?_) <;> (try (exfalso; omega))))
    exact TR_of (res1 rfl rfl) ⟨_, by rw [List.length_append]; omega, Own.step ((c03.then c4).ext e5) c6 (by omega), ho6.rd.wide (by omega) (Nat.le_refl _) (Nat.le_refl _), (hcur4.ext e5).ch c6 (by intro k _; simp only [Iv]; omega)⟩
  by_cases h6 : k = 5
  · repeat' (first | apply Jbq | apply Jbr | apply Jbs | apply Jbt | apply Jbz | (refine Jcf rfl ?_) | (apply Jcg; (first | exact Jaa rfl | exact Jab rfl | exact Jad rfl rfl | exact Jai rfl rfl | exact Jak rfl rfl); exact rfl) | refine Jci rfl rfl rfl rfl rfl ?_ | (refine Jcs rfl rfl (fun hb => ?_) (fun hb => ?_) <;> (try (exfalso; omega))) | (refine Jcx rfl (fun hb => ?_) (fun hb => ?_) <;> (try (exfalso; omega))))
    refine TL_call rfl en177 (l01Bytes_c (most := 14) hcur3 (by omega)) rfl rfl ?_
    rintro v5 w5 ⟨b2, hb2, c5, hob2, hcur5⟩
    have hs5 := c5.size
    have hown5 := hown3.ch c5 (by intro k _ _; simp only [Iv]; omega)
    skip
    refine TL_appendB Us.h rfl rfl ⟨_, _, rfl, hown5⟩ hob2.rd (by omega) (by omega) rfl ?_
    intro w6 v6 c6 ho6
    have hs6 := c6.size
    repeat' (first | apply Jbq | apply Jbr | apply Jbs | apply Jbt | apply Jbu | (apply Jcg; (first | exact Jaa rfl | exact Jab rfl); exact rfl))
    exact TR_of (res1 rfl rfl) ⟨_, by rw [List.length_append]; omega, Own.step (c03.then c5) c6 (by omega), ho6.rd.wide (by omega) (Nat.le_refl _) (Nat.le_refl _), hcur5.ch c6 (by intro k _; simp only [Iv]; omega)⟩
  · repeat' (first | apply Jbq | apply Jbr | apply Jbs | apply Jbt | apply Jbu | apply Jbz | (refine Jcf rfl ?_) | (apply Jcg; (first | exact Jaa rfl | exact Jab rfl | exact Jad rfl rfl | exact Jai rfl rfl | exact Jak rfl rfl); exact rfl) | refine Jci rfl rfl rfl rfl rfl ?_ | (refine Jcs rfl rfl (fun hb => ?_) (fun hb => ?_) <;> (try (exfalso; omega))) | (refine Jcx rfl (fun hb => ?_) (fun hb => ?_) <;> (try (exfalso; omega))))
    exact TR_of (res1 rfl rfl) ⟨b, by omega, c03, RB.wide ⟨Ab, cb, rfl, hcap.1, hown3.rd⟩ (by omega) (by omega) (Nat.le_refl _), hcur3⟩
set_option maxHeartbeats 2000000 in
theorem l06Keep_c {w : World} {g : Nat} (hcur : Cur w g) :
    Ret Tryz.prog 157 #[pt g] w fun v w' => ∃ z : Int, v = I z ∧ (1 ≤ z ∧ z ≤ 100) ∧ Ch (Iv g (g + 1)) w w' ∧ Cur w' g := by
  have hg := hcur.lt
  refine Ret_enter Tryz.func157 rfl rfl rfl ?_
  repeat' (first | apply Jbq | apply Jbr | apply Jbs | apply Jbt | (apply Jcg; exact Jab rfl; exact rfl))
  refine TL_buildSlice (us := i64s [1, 2, 3, 5, 100]) Us.h Zi.h rfl rfl rfl rfl (by kernel_rfl) rfl rfl ?_
  intro w1 g1 e1 hg1 hz1 hown1
  repeat' ((apply Jcg; exact Jaa rfl; exact rfl))
  refine TL_call rfl en115 (l01Below_c (hcur.ext e1) (by omega)) rfl rfl ?_
  rintro _ w2 ⟨x, rfl, hx0, hx1, _, c2, hcur2⟩
  have hx1 := hx1 (by omega)
  obtain ⟨x, rfl⟩ := Int.eq_ofNat_of_zero_le hx0
  obtain ⟨ad, had, hcell⟩ := (hown1.rd.ch c2 (by intro j _ _; simp only [Iv]; omega)).get (show x < 5 by omega)
  injection had with had
  subst had
  rw [i64s_get [1, 2, 3, 5, 100] (by simp; omega)] at hcell
  obtain ⟨z, hz⟩ : ∃ z, z = ([1, 2, 3, 5, 100] : List Int).getD x 0 := ⟨_, rfl⟩
  rw [← hz] at hcell
  have hzr : 1 ≤ z ∧ z ≤ 100 := by
    have h6 : x = 0 ∨ x = 1 ∨ x = 2 ∨ x = 3 ∨ x = 4 := by omega
    rcases h6 with rfl | rfl | rfl | rfl | rfl <;> rw [hz] <;> decide
  repeat' (first | apply Jbq | apply Jbr | apply Jbu | (apply Jcg; (first | exact Jab rfl | exact Jag Us.h Sz.h rfl rfl (by omega)); exact rfl) | refine Jcg (Pu_load Fl.h rfl (fun _ e => by rw [e]; exact hcell)) rfl ?_)
  exact TR_of (res1 rfl rfl) ⟨z, rfl, hzr, ((Ch.refl _ _).ext e1).then c2, hcur2⟩
set_option maxHeartbeats 2000000 in
theorem l06Size_c {w : World} {g : Nat} (hcur : Cur w g) :
    Ret Tryz.prog 158 #[pt g] w fun v w' => ∃ z : Int, v = I z ∧ (0 ≤ z ∧ z ≤ 60000) ∧ Ch (Iv g (g + 1)) w w' ∧ Cur w' g := by
  have hg := hcur.lt
  refine Ret_enter Tryz.func158 rfl rfl rfl ?_
  repeat' (first | apply Jbq | apply Jbr | apply Jbs | apply Jbt | (apply Jcg; exact Jab rfl; exact rfl))
  refine TL_buildSlice (us := i64s [0, 20, 50, 100, 1000]) Us.h Zi.h rfl rfl rfl rfl (by kernel_rfl) rfl rfl ?_
  intro w1 g1 e1 hg1 hz1 hown1
  repeat' ((apply Jcg; exact Jaa rfl; exact rfl))
  refine TL_call rfl en115 (l01Below_c (hcur.ext e1) (by omega)) rfl rfl ?_
  rintro _ w2 ⟨x, rfl, hx0, hx1, _, c2, hcur2⟩
  have hx1 := hx1 (by omega)
  obtain ⟨x, rfl⟩ := Int.eq_ofNat_of_zero_le hx0
  obtain ⟨ad, had, hcell⟩ := (hown1.rd.ch c2 (by intro j _ _; simp only [Iv]; omega)).get (show x < 5 by omega)
  injection had with had
  subst had
  rw [i64s_get [0, 20, 50, 100, 1000] (by simp; omega)] at hcell
  obtain ⟨z, hz⟩ : ∃ z, z = ([0, 20, 50, 100, 1000] : List Int).getD x 0 := ⟨_, rfl⟩
  rw [← hz] at hcell
  have hzr : 0 ≤ z ∧ z ≤ 60000 := by
    have h6 : x = 0 ∨ x = 1 ∨ x = 2 ∨ x = 3 ∨ x = 4 := by omega
    rcases h6 with rfl | rfl | rfl | rfl | rfl <;> rw [hz] <;> decide
  repeat' (first | apply Jbq | apply Jbr | apply Jbu | (apply Jcg; (first | exact Jab rfl | exact Jag Us.h Sz.h rfl rfl (by omega)); exact rfl) | refine Jcg (Pu_load Fl.h rfl (fun _ e => by rw [e]; exact hcell)) rfl ?_)
  exact TR_of (res1 rfl rfl) ⟨z, rfl, hzr, ((Ch.refl _ _).ext e1).then c2, hcur2⟩
set_option maxHeartbeats 2000000 in
theorem l06Fused_c {w : World} {g : Nat} {d : DiskP} {sn sk st : Value} (hcur : Cur w g) (hone : (dskC d sn sk st).all (·.oneCell') = true) :
    Ret Tryz.prog 159 #[pt g, .agg (dskC d sn sk st).toArray] w fun v w' => ∃ f : Int, v = .agg (dskC (withFuse d f) sn sk st).toArray ∧ Ch (Iv g (g + 1)) w w' ∧ Cur w' g := by
  have hg := hcur.lt
  refine Ret_enter Tryz.func159 rfl rfl rfl ?_
  repeat' (first | apply Jbs | apply Jbt)
  refine TL_box (cs := dskC d sn sk st) rfl rfl ?_
  intro w1 g3 e1 hg3 hz1 hb3
  skip
  refine TL_alloc Zs.h rfl rfl ?_
  intro w2 g4 e2 hg4 hz2 hb4
  have hb32 := hb3.ext e2
  have C2 : Ch (Iv g (g + 1)) w w2 := ((Ch.refl _ _).ext e1).ext e2
  repeat' (first | apply Jbq | apply Jbr | apply Jbs | apply Jbt | (apply Jcg; exact Jaa rfl; exact rfl))
  refine TL_call rfl en115 (l01Below_c ((hcur.ext e1).ext e2) (by omega)) rfl rfl ?_
  rintro _ w3 ⟨x, rfl, hx0, hx1, _, c3, hcur3⟩
  have hs3 := c3.size
  have hb33 := hb32.ch c3 (by simp only [Iv]; omega)
  have hb43 := hb4.ch c3 (by simp only [Iv]; omega)
  repeat' (first | apply Jbq | apply Jbr | (apply Jcg; exact Jak rfl rfl; exact rfl))
  refine Jcx rfl (fun hc => ?_) (fun hc => ?_)
  · repeat' (first | apply Jbt | (apply Jcg; exact Jaa rfl; exact rfl))
    refine TL_call rfl en115 (l01Below_c hcur3 (by omega)) rfl rfl ?_
    rintro _ w4 ⟨f, rfl, hf0, hf1, _, c4, hcur4⟩
    have hs4 := c4.size
    repeat' ((apply Jcg; (apply Jbl; exact Us.h; exact rfl; exact Sz.h; exact rfl); exact rfl))
    refine TL_store rfl rfl Sz.h rfl (hb33.ch c4 (by simp only [Iv]; omega)) rfl ?_
    intro w5 c5 hz5 hb5
    replace hb5 : Blk w5 g3 33 (dskC (withFuse d f) sn sk st) := hb5
    repeat' (first | apply Jbq | apply Jbr | apply Jbs | apply Jbt | refine Jcg (Pu_loadAgg (cs := dskC (withFuse d f) sn sk st) Us.h rfl Sz.h rfl (fun _ e j u hu => by rw [e, add0, hb5.cell]; exact hu)) rfl ?_)
    refine TL_storeAgg rfl rfl Sz.h hone ((hb43.ch c4 (by simp only [Iv]; omega)).ch c5 (by simp only [Iv]; omega)) rfl ?_
    intro w6 c6 hz6 hb6
    repeat' (first | apply Jbq | apply Jbr | apply Jbu)
    exact TR_of (resA rfl rfl hb6 Us.h rfl Sz.h) ⟨f, rfl, Own.step (Own.step ((C2.then c3).then c4) c5 (by omega)) c6 (by omega), (hcur4.ch c5 (by intro k _; simp only [Iv]; omega)).ch c6 (by intro k _; simp only [Iv]; omega)⟩
  · repeat' (first | apply Jbr | apply Jbs | apply Jbt | apply Jbz | refine Jcg (Pu_loadAgg (cs := dskC d sn sk st) Us.h rfl Sz.h rfl (fun _ e j u hu => by rw [e, add0, hb33.cell]; exact hu)) rfl ?_)
    refine TL_storeAgg rfl rfl Sz.h hone hb43 rfl ?_
    intro w6 c6 hz6 hb6
    repeat' (first | apply Jbq | apply Jbr | apply Jbu)
    exact TR_of (resA rfl rfl hb6 Us.h rfl Sz.h) ⟨d.fuse, rfl, Own.step (C2.then c3) c6 (by omega), hcur3.ch c6 (by intro k _; simp only [Iv]; omega)⟩
def namesL : List (List UInt8) := [[112], [113], [114], [115], [116], [117], [118], [119]]
theorem namesL_ok : ∀ s ∈ namesL, pName s = true := by decide
set_option maxRecDepth 100000 in
set_option maxHeartbeats 16000000 in
theorem l06Disk_c {w : World} {g : Nat} (hcur : Cur w g) :
    Ret Tryz.prog 156 #[pt g] w fun v w' => ∃ (d : DiskP) (sn sk st : Value), v = .agg (dskC d sn sk st).toArray ∧ (DOk d ∧ d.fuse = -1) ∧ Ch (Iv g (g + 1)) w w' ∧ RDk w' w.heap.size w'.heap.size d sn sk st ∧ Cur w' g := by
  have hg := hcur.lt
  refine Ret_enter Tryz.func156 rfl rfl rfl ?_
  repeat' (first | apply Jbs | apply Jbt)
  refine TL_alloc Zs.h rfl rfl ?_
  intro w1 gr e1 hgr hz1 hbr
  repeat' (first | apply Jbq | apply Jbr | apply Jbs | apply Jbt)
  refine TL_buildSlice (us := i64s [40, 120, 300, 900, 60000]) Us.h Zi.h rfl rfl rfl rfl (by kernel_rfl) rfl rfl ?_
  intro w2 g2 e2 hg2 hz2 hown2
  repeat' ((apply Jcg; exact Jaa rfl; exact rfl))
  refine TL_call rfl en115 (l01Below_c ((hcur.ext e1).ext e2) (by omega)) rfl rfl ?_
  rintro _ w3 ⟨x, rfl, hx0, hx1, _, c3, hcur3⟩
  have hx1 := hx1 (by omega)
  obtain ⟨x, rfl⟩ := Int.eq_ofNat_of_zero_le hx0
  obtain ⟨ad, had, hcell⟩ := (hown2.rd.ch c3 (by intro j _ _; simp only [Iv]; omega)).get (show x < 5 by omega)
  injection had with had
  subst had
  rw [i64s_get [40, 120, 300, 900, 60000] (by simp; omega)] at hcell
  obtain ⟨room, hroom⟩ : ∃ room, room = ([40, 120, 300, 900, 60000] : List Int).getD x 0 := ⟨_, rfl⟩
  rw [← hroom] at hcell
  have hrm : 0 ≤ room ∧ room ≤ 60000 := by
    have h6 : x = 0 ∨ x = 1 ∨ x = 2 ∨ x = 3 ∨ x = 4 := by omega
    rcases h6 with rfl | rfl | rfl | rfl | rfl <;> rw [hroom] <;> decide
  have hs3 := c3.size
  have hbr3 := (hbr.ext e2).ch c3 (by simp only [Iv]; omega)
  repeat' (first | (apply Jcg; exact Jag Us.h Sz.h rfl rfl (by omega); exact rfl) | refine Jcg (Pu_load Fl.h rfl (fun _ e => by rw [e]; exact hcell)) rfl ?_)
  refine TL_call rfl en113 (specNew_c _ hrm) rfl rfl ?_
  rintro _ w4 ⟨rfl, e4⟩
  have hs4 := e4.size
  repeat' ((apply Jcg; (first | exact Jaa rfl | exact Jae rfl rfl); exact rfl))
  refine TL_alloc Zs.h rfl rfl ?_
  intro w5 gd e5 hgd hz5 hbd
  skip
  refine TL_storeAgg rfl rfl Sz.h rfl hbd rfl ?_
  clear hbd
  intro wA cA hzA hbd
  have c05 : Ch (Iv g (g + 1)) w w5 := ((((((Ch.refl _ _).ext e1).ext e2).then c3).ext e4).ext e5)
  obtain ⟨dA, hdA⟩ : ∃ d, d = newDk room := ⟨_, rfl⟩
  obtain ⟨snA, hsnA⟩ : ∃ v, v = Value.slice none 0 0 := ⟨_, rfl⟩
  obtain ⟨skA, hskA⟩ : ∃ v, v = Value.slice none 0 0 := ⟨_, rfl⟩
  obtain ⟨stA, hstA⟩ : ∃ v, v = Value.slice none 0 0 := ⟨_, rfl⟩
  have hA : MDk w wA g gr gd dA snA skA stA := by
    subst hdA hsnA hskA hstA
    exact ⟨newDk_ok hrm, rfl, c05.trans cA (fun _ _ t => t) (fun j hj t => absurd t.1 (by omega)), (((hcur3.ext e4).ext e5).ch cA (by intro k _; simp only [Iv]; omega)), ((hbr3.ext e4).ext e5).ch cA (by simp only [Iv]; omega), hbd, ⟨wA.heap.size, wA.heap.size, by omega, Nat.le_refl _, .inr (by omega), (ODk.none (Nat.le_refl _) (by rfl) (by rfl) (by rfl)).rd⟩, by omega⟩
  clear hdA hsnA hskA hstA c05 cA hbd hbr3 hcell hown2 hcur3 e4 e5 c3 e2 e1 hbr
  repeat' (first | apply Jbq | apply Jbr | apply Jbs | apply Jbt | (apply Jcg; (first | exact Jaa rfl | exact Jab rfl); exact rfl))
  refine TL_call rfl en115 (l01Below_c hA.cur (by omega)) rfl rfl ?_
  rintro _ wB ⟨k, rfl, hk0, hk1, _, cB, hcurB⟩
  have hB := hA.below cB hcurB
  clear hA cB hcurB
  repeat' (first | apply Jbq | apply Jbr | apply Jbs | apply Jbt | (apply Jcg; (first | exact Jaa rfl | exact Jab rfl | exact Jak rfl rfl); exact rfl))
  refine Jcx rfl (fun hk => ?_) (fun hk => ?_)
  · have hbB := hB.blk
    obtain ⟨lo, hi, q1, q2, q3, q4⟩ := hB.reg
    have hpB := hB.pos
    have oneB := q4.one
    have hresB := hB.res
    repeat' (first | apply Jbs | apply Jbt | refine Jcg (Pu_loadAgg (cs := dskC dA snA skA stA) Us.h rfl Sz.h rfl (fun _ e j u hu => by rw [e, add0, hbB.cell]; exact hu)) rfl ?_)
    refine TL_storeAgg rfl rfl Sz.h oneB hresB rfl ?_
    intro wC cC hzC hbC
    repeat' (first | apply Jbq | apply Jbr | apply Jbu | apply Jbv)
    exact TR_of (resA rfl rfl hbC Us.h rfl Sz.h) ⟨dA, snA, skA, stA, rfl, ⟨hB.ok, hB.fu⟩, hB.c.trans cC (fun _ _ t => t) (fun j hj t => absurd t.1 (by omega)), (q4.ch cC (by intro k _ _; simp only [Iv]; omega)).wide (by omega) (by omega) (Nat.le_refl _), hB.cur.ch cC (by intro k _; simp only [Iv]; omega)⟩
  obtain ⟨dB, hdB⟩ : ∃ d, d = dA := ⟨_, rfl⟩
  obtain ⟨snB, hsnB⟩ : ∃ d, d = snA := ⟨_, rfl⟩
  obtain ⟨skB, hskB⟩ : ∃ d, d = skA := ⟨_, rfl⟩
  obtain ⟨stB, hstB⟩ : ∃ d, d = stA := ⟨_, rfl⟩
  rw [← hdB, ← hsnB, ← hskB, ← hstB] at hB
  clear hdB hsnB hskB hstB
  have hC0 := hB
  clear hB
  obtain ⟨loC0, hiC0, hloC0, hhiC0, hapC0, hrC0⟩ := hC0.reg
  have hbC0 := hC0.blk
  have hpC0 := hC0.pos
  have hDC0 := hC0.ok
  repeat' (first | apply Jbr | apply Jbs | apply Jbt | apply Jbz | refine Jcg (Pu_loadAgg (cs := dskC dB snB skB stB) Us.h rfl Sz.h rfl (fun _ e j u hu => by rw [e, add0, hbC0.cell]; exact hu)) rfl ?_ | refine Jcg (Pu_build (cs := opC (oMk histT) (.slice none 0 0)) rfl (by kernel_rfl)) rfl ?_)
  refine TL_call rfl en22 (specDiskDo_c (o := oMk histT) hrC0 hDC0.fitsD (by have := hDC0.totD; omega) (rbn _) (fits_op _ _ _ _ (by omega) (by omega) (by decide) (by decide))) rfl rfl ?_
  rintro _ wqD ⟨snD, skD, stD, rfl, eD, hxD⟩
  have oneD := hxD.one
  repeat' ((apply Jcg; (first | exact Jaa rfl | exact Jae rfl rfl); exact rfl))
  refine TL_storeAgg rfl rfl Sz.h oneD (hbC0.ext eD) rfl ?_
  intro wD cD hzD hbnD
  have hD := hC0.step (hDC0.pDo (pOp_mk hist_name)) (pDo_fu hDC0 hC0.fu (pOp_mk hist_name)) eD hxD cD hbnD
  obtain ⟨dD, hdD⟩ : ∃ d, d = (pDo dB (oMk histT)).1 := ⟨_, rfl⟩
  rw [← hdD] at hD
  clear hrC0 hbC0 hC0 hxD hbnD cD eD hdD
  repeat' (first | apply Jbq | apply Jbr | apply Jbs)
  have hldD := hD.ld
  have hpD := hD.pos
  have hDD := hD.ok
  refine TC_anyB (fun w' => Ch (fun j => j = g ∨ j = gd) wD w') (fun w' => ∀ j u, (dskC dD snD skD stD)[j]? = some u → w'.cell? ((⟨gd, 0, none⟩ : Addr).add j) = some u) 8 mixed rfl (Ch.refl _ _).drew (fun j u hu => Ext.cell (Ch.refl _ _).drew (hldD j u hu)) ?_
  intro wmE emE hzmE hA hB
  (refine TB_takeB 0 rfl rfl rfl (by kernel_rfl) rfl (by kernel_rfl) (by kernel_rfl) (by kernel_rfl) (fun _ _ _ h => h) ⟨hA, fun _ => hB⟩ (by exact Pu_loadAgg (cs := dskC dD snD skD stD) Us.h rfl Sz.h rfl (fun _ e => e.2)) rfl ?_)
  (refine TB_take 1 rfl rfl rfl (by kernel_rfl) (by kernel_rfl) (by kernel_rfl) (fun _ _ _ h => h) ⟨hA, fun _ => hB⟩ (by exact Jaa rfl) rfl ?_)
  refine TB_one 2 (by kernel_rfl) rfl ?_
  have hmE := hD.ext emE
  refine TL_call rfl en180 (l05Log_c hmE.cur) rfl rfl ?_
  rintro vb wnE ⟨b, hbl, cnE, hrb, hcurE⟩
  have hsmE := emE.size
  have hsnE := cnE.size
  have hnE := hmE.below cnE hcurE
  replace hA := hA.then (cnE.mono (fun j hj => .inl (by have := hj.1; have := hj.2; omega)))
  replace hB := fun j u hu => Ch.cell cnE (hB j u hu) (by rw [block_of_add]; simp only [Iv]; omega)
  refine Jbq (TN_anyB ⟨hA, fun _ => hB⟩ ?_)
  have hrb' := hrb
  obtain ⟨Ab, cb, rfl, hcb, hrr⟩ := hrb'
  (refine TB_take 3 rfl rfl rfl (by kernel_rfl) (by kernel_rfl) (by kernel_rfl) (fun _ _ _ h => h) ⟨hA, fun _ => hB⟩ (by exact Pu_build (cs := opC (oApp histT b) (.slice Ab b.length cb)) rfl (by kernel_rfl)) rfl ?_)
  refine TB_one 4 (by kernel_rfl) rfl ?_
  obtain ⟨loD, hiD, hloD, hhiD, hapD, hrD⟩ := hnE.reg
  refine TL_call rfl en22 (specDiskDo_c (o := oApp histT b) hrD hDD.fitsD (by have := hDD.totD; omega) hrb (fits_app (by decide))) rfl rfl ?_
  rintro _ wqE ⟨snE, skE, stE, rfl, eE, hxE⟩
  have oneE := hxE.one
  replace hA := hA.ext eE
  replace hB := fun j u hu => eE.cell (hB j u hu)
  refine Jbq (TN_anyB ⟨hA, fun _ => hB⟩ ?_)
  (refine TB_take 5 rfl rfl rfl (by kernel_rfl) (by kernel_rfl) (by kernel_rfl) (fun _ _ _ h => h) ⟨hA, fun _ => hB⟩ (by exact Jaa rfl) rfl ?_; refine TB_take 6 rfl rfl rfl (by kernel_rfl) (by kernel_rfl) (by kernel_rfl) (fun _ _ _ h => h) ⟨hA, fun _ => hB⟩ (by exact Jae rfl rfl) rfl ?_; refine TB_take 7 rfl rfl rfl (by kernel_rfl) (by kernel_rfl) (by kernel_rfl) (fun _ _ _ h => h) ⟨hA, fun _ => hB⟩ (by exact Jae rfl rfl) rfl ?_)
  refine TB_one 8 (by kernel_rfl) rfl ?_
  refine TL_storeAgg rfl rfl Sz.h oneE (hnE.blk.ext eE) rfl ?_
  intro wE cE hzE hbnE
  refine Jbq (TN_anyB ⟨hA.then (cE.mono (fun j hj => .inr (by have := hj.1; have := hj.2; omega))), fun h => nomatch (show true = false from h)⟩ ?_)
  refine TB_done (by kernel_rfl) ?_
  have hpo : pOp (oApp histT b) = true := pOp_app hist_name hbl
  have hE := hnE.step (hDD.pDo hpo) (pDo_fu hDD hnE.fu hpo) eE hxE cE hbnE
  obtain ⟨dE, hdE⟩ : ∃ d, d = (pDo dD (oApp histT b)).1 := ⟨_, rfl⟩
  rw [← hdE] at hE
  clear hA hB hrb hrr hxE hbnE cE eE hdE hnE hmE cnE emE hldD hD hrD hcurE hpo
  repeat' (apply Jbr)
  refine TC_join (ι := DiskP × Value × Value × Value) (fun _ => [(0, pt g), (2, .pointer (some ⟨gr, 0, none⟩)), (3, .pointer (some ⟨gd, 0, none⟩)), (5, I k)]) (fun x w' => MDk w w' g gr gd x.1 x.2.1 x.2.2.1 x.2.2.2) ?_ ?_
  · repeat' (first | apply Jbs | apply Jbt | (apply Jcg; exact Jaa rfl; exact rfl))
    refine TL_call rfl en115 (l01Below_c hE.cur (by omega)) rfl rfl ?_
    rintro _ wF ⟨xF, rfl, _, _, _, cF, hcurF⟩
    have hF := hE.below cF hcurF
    clear hE hcurF cF
    obtain ⟨dF, hdF⟩ : ∃ v, v = dE := ⟨_, rfl⟩
    obtain ⟨snF, hsnF⟩ : ∃ v, v = snE := ⟨_, rfl⟩
    obtain ⟨skF, hskF⟩ : ∃ v, v = skE := ⟨_, rfl⟩
    obtain ⟨stF, hstF⟩ : ∃ v, v = stE := ⟨_, rfl⟩
    rw [← hdF, ← hsnF, ← hskF, ← hstF] at hF
    clear hdF hsnF hskF hstF
    repeat' (first | apply Jbq | apply Jbr | (apply Jcg; exact Jak rfl rfl; exact rfl))
    refine Jcx rfl (fun hc => ?_) (fun hc => ?_)
    · obtain ⟨loF, hiF, hloF, hhiF, hapF, hrF⟩ := hF.reg
      have hbF := hF.blk
      have hpF := hF.pos
      have hDF := hF.ok
      repeat' (first | apply Jbt | refine Jcg (Pu_loadAgg (cs := dskC dF snF skF stF) Us.h rfl Sz.h rfl (fun _ e j u hu => by rw [e, add0, hbF.cell]; exact hu)) rfl ?_ | refine Jcg (Pu_build (cs := opC (oSync histT) (.slice none 0 0)) rfl (by kernel_rfl)) rfl ?_)
      refine TL_call rfl en22 (specDiskDo_c (o := oSync histT) hrF hDF.fitsD (by have := hDF.totD; omega) (rbn _) (fits_op _ _ _ _ (by omega) (by omega) (by decide) (by decide))) rfl rfl ?_
      rintro _ wqG ⟨snG, skG, stG, rfl, eG, hxG⟩
      have oneG := hxG.one
      repeat' ((apply Jcg; (first | exact Jaa rfl | exact Jae rfl rfl); exact rfl))
      refine TL_storeAgg rfl rfl Sz.h oneG (hbF.ext eG) rfl ?_
      intro wG cG hzG hbnG
      have hG := hF.step (hDF.pDo (pOp_sync hist_name)) (pDo_fu hDF hF.fu (pOp_sync hist_name)) eG hxG cG hbnG
      obtain ⟨dG, hdG⟩ : ∃ d, d = (pDo dF (oSync histT)).1 := ⟨_, rfl⟩
      rw [← hdG] at hG
      clear hrF hbF hF hxG hbnG cG eG hdG
      repeat' (apply Jbq)
      exact TN_join (dG, snG, skG, stG) (subEnv_cons rfl (subEnv_cons rfl (subEnv_cons rfl (subEnv_cons rfl (subEnv_nil _))))) hG
    · repeat' (apply Jbz)
      exact TN_join (dF, snF, skF, stF) (subEnv_cons rfl (subEnv_cons rfl (subEnv_cons rfl (subEnv_cons rfl (subEnv_nil _))))) hF
  rintro ⟨dH, snH, skH, stH⟩ wH hH
  simp only at hH
  skip
  refine TC_join (ι := DiskP × Value × Value × Value) (fun _ => [(0, pt g), (2, .pointer (some ⟨gr, 0, none⟩)), (3, .pointer (some ⟨gd, 0, none⟩)), (5, I k)]) (fun x w' => MDk w w' g gr gd x.1 x.2.1 x.2.2.1 x.2.2.2) ?_ ?_
  · repeat' (first | apply Jbs | apply Jbt | (apply Jcg; exact Jaa rfl; exact rfl))
    refine TL_call rfl en115 (l01Below_c hH.cur (by omega)) rfl rfl ?_
    rintro _ wJ ⟨xJ, rfl, _, _, _, cJ, hcurJ⟩
    have hJ := hH.below cJ hcurJ
    clear hH hcurJ cJ
    obtain ⟨dJ, hdJ⟩ : ∃ v, v = dH := ⟨_, rfl⟩
    obtain ⟨snJ, hsnJ⟩ : ∃ v, v = snH := ⟨_, rfl⟩
    obtain ⟨skJ, hskJ⟩ : ∃ v, v = skH := ⟨_, rfl⟩
    obtain ⟨stJ, hstJ⟩ : ∃ v, v = stH := ⟨_, rfl⟩
    rw [← hdJ, ← hsnJ, ← hskJ, ← hstJ] at hJ
    clear hdJ hsnJ hskJ hstJ
    repeat' (first | apply Jbq | apply Jbr | (apply Jcg; exact Jak rfl rfl; exact rfl))
    refine Jcx rfl (fun hc => ?_) (fun hc => ?_)
    · obtain ⟨loJ, hiJ, hloJ, hhiJ, hapJ, hrJ⟩ := hJ.reg
      have hbJ := hJ.blk
      have hpJ := hJ.pos
      have hDJ := hJ.ok
      repeat' (first | apply Jbt | refine Jcg (Pu_loadAgg (cs := dskC dJ snJ skJ stJ) Us.h rfl Sz.h rfl (fun _ e j u hu => by rw [e, add0, hbJ.cell]; exact hu)) rfl ?_ | refine Jcg (Pu_build (cs := opC (oDir) (.slice none 0 0)) rfl (by kernel_rfl)) rfl ?_)
      refine TL_call rfl en22 (specDiskDo_c (o := oDir) hrJ hDJ.fitsD (by have := hDJ.totD; omega) (rbn _) (fits_op _ _ _ _ (by omega) (by omega) (by decide) (by decide))) rfl rfl ?_
      rintro _ wqK ⟨snK, skK, stK, rfl, eK, hxK⟩
      have oneK := hxK.one
      repeat' ((apply Jcg; (first | exact Jaa rfl | exact Jae rfl rfl); exact rfl))
      refine TL_storeAgg rfl rfl Sz.h oneK (hbJ.ext eK) rfl ?_
      intro wK cK hzK hbnK
      have hK := hJ.step (hDJ.pDo pOp_dir) (pDo_fu hDJ hJ.fu pOp_dir) eK hxK cK hbnK
      obtain ⟨dK, hdK⟩ : ∃ d, d = (pDo dJ (oDir)).1 := ⟨_, rfl⟩
      rw [← hdK] at hK
      clear hrJ hbJ hJ hxK hbnK cK eK hdK
      repeat' (apply Jbq)
      exact TN_join (dK, snK, skK, stK) (subEnv_cons rfl (subEnv_cons rfl (subEnv_cons rfl (subEnv_cons rfl (subEnv_nil _))))) hK
    · repeat' (apply Jbz)
      exact TN_join (dJ, snJ, skJ, stJ) (subEnv_cons rfl (subEnv_cons rfl (subEnv_cons rfl (subEnv_cons rfl (subEnv_nil _))))) hJ
  rintro ⟨dM, snM, skM, stM⟩ wM hM
  simp only at hM
  skip
  refine TC_join (ι := DiskP × Value × Value × Value) (fun _ => [(0, pt g), (2, .pointer (some ⟨gr, 0, none⟩)), (3, .pointer (some ⟨gd, 0, none⟩)), (5, I k)]) (fun x w' => MDk w w' g gr gd x.1 x.2.1 x.2.2.1 x.2.2.2) ?_ ?_
  · repeat' (first | apply Jbq | apply Jbr | apply Jbs | apply Jbt | (apply Jcg; (first | exact Jaa rfl | exact Jak rfl rfl); exact rfl))
    refine Jcx rfl (fun hc => ?_) (fun hc => ?_)
    · obtain ⟨loM, hiM, hloM, hhiM, hapM, hrM⟩ := hM.reg
      have hbM := hM.blk
      have hpM := hM.pos
      have hDM := hM.ok
      repeat' (first | apply Jbs | apply Jbt | refine Jcg (Pu_loadAgg (cs := dskC dM snM skM stM) Us.h rfl Sz.h rfl (fun _ e j u hu => by rw [e, add0, hbM.cell]; exact hu)) rfl ?_ | refine Jcg (Pu_build (cs := opC (oMk tempT) (.slice none 0 0)) rfl (by kernel_rfl)) rfl ?_)
      refine TL_call rfl en22 (specDiskDo_c (o := oMk tempT) hrM hDM.fitsD (by have := hDM.totD; omega) (rbn _) (fits_op _ _ _ _ (by omega) (by omega) (by decide) (by decide))) rfl rfl ?_
      rintro _ wqN ⟨snN, skN, stN, rfl, eN, hxN⟩
      have oneN := hxN.one
      repeat' ((apply Jcg; (first | exact Jaa rfl | exact Jae rfl rfl); exact rfl))
      refine TL_storeAgg rfl rfl Sz.h oneN (hbM.ext eN) rfl ?_
      intro wN cN hzN hbnN
      have hN := hM.step (hDM.pDo (pOp_mk temp_name)) (pDo_fu hDM hM.fu (pOp_mk temp_name)) eN hxN cN hbnN
      obtain ⟨dN, hdN⟩ : ∃ d, d = (pDo dM (oMk tempT)).1 := ⟨_, rfl⟩
      rw [← hdN] at hN
      clear hrM hbM hM hxN hbnN cN eN hdN
      repeat' (first | apply Jbq | apply Jbr)
      have hldN := hN.ld
      have hpN := hN.pos
      have hDN := hN.ok
      refine TC_anyB (fun w' => Ch (fun j => j = g ∨ j = gd) wN w') (fun w' => ∀ j u, (dskC dN snN skN stN)[j]? = some u → w'.cell? ((⟨gd, 0, none⟩ : Addr).add j) = some u) 8 mixed rfl (Ch.refl _ _).drew (fun j u hu => Ext.cell (Ch.refl _ _).drew (hldN j u hu)) ?_
      intro wmO emO hzmO hA hB
      (refine TB_takeB 0 rfl rfl rfl (by kernel_rfl) rfl (by kernel_rfl) (by kernel_rfl) (by kernel_rfl) (fun _ _ _ h => h) ⟨hA, fun _ => hB⟩ (by exact Pu_loadAgg (cs := dskC dN snN skN stN) Us.h rfl Sz.h rfl (fun _ e => e.2)) rfl ?_)
      (refine TB_take 1 rfl rfl rfl (by kernel_rfl) (by kernel_rfl) (by kernel_rfl) (fun _ _ _ h => h) ⟨hA, fun _ => hB⟩ (by exact Jaa rfl) rfl ?_)
      refine TB_one 2 (by kernel_rfl) rfl ?_
      have hmO := hN.ext emO
      refine TL_call rfl en180 (l05Log_c hmO.cur) rfl rfl ?_
      rintro vb wnO ⟨b, hbl, cnO, hrb, hcurO⟩
      have hsmO := emO.size
      have hsnO := cnO.size
      have hnO := hmO.below cnO hcurO
      replace hA := hA.then (cnO.mono (fun j hj => .inl (by have := hj.1; have := hj.2; omega)))
      replace hB := fun j u hu => Ch.cell cnO (hB j u hu) (by rw [block_of_add]; simp only [Iv]; omega)
      refine Jbq (TN_anyB ⟨hA, fun _ => hB⟩ ?_)
      have hrb' := hrb
      obtain ⟨Ab, cb, rfl, hcb, hrr⟩ := hrb'
      (refine TB_take 3 rfl rfl rfl (by kernel_rfl) (by kernel_rfl) (by kernel_rfl) (fun _ _ _ h => h) ⟨hA, fun _ => hB⟩ (by exact Pu_build (cs := opC (oApp tempT b) (.slice Ab b.length cb)) rfl (by kernel_rfl)) rfl ?_)
      refine TB_one 4 (by kernel_rfl) rfl ?_
      obtain ⟨loN, hiN, hloN, hhiN, hapN, hrN⟩ := hnO.reg
      refine TL_call rfl en22 (specDiskDo_c (o := oApp tempT b) hrN hDN.fitsD (by have := hDN.totD; omega) hrb (fits_app (by decide))) rfl rfl ?_
      rintro _ wqO ⟨snO, skO, stO, rfl, eO, hxO⟩
      have oneO := hxO.one
      replace hA := hA.ext eO
      replace hB := fun j u hu => eO.cell (hB j u hu)
      refine Jbq (TN_anyB ⟨hA, fun _ => hB⟩ ?_)
      (refine TB_take 5 rfl rfl rfl (by kernel_rfl) (by kernel_rfl) (by kernel_rfl) (fun _ _ _ h => h) ⟨hA, fun _ => hB⟩ (by exact Jaa rfl) rfl ?_; refine TB_take 6 rfl rfl rfl (by kernel_rfl) (by kernel_rfl) (by kernel_rfl) (fun _ _ _ h => h) ⟨hA, fun _ => hB⟩ (by exact Jae rfl rfl) rfl ?_; refine TB_take 7 rfl rfl rfl (by kernel_rfl) (by kernel_rfl) (by kernel_rfl) (fun _ _ _ h => h) ⟨hA, fun _ => hB⟩ (by exact Jae rfl rfl) rfl ?_)
      refine TB_one 8 (by kernel_rfl) rfl ?_
      refine TL_storeAgg rfl rfl Sz.h oneO (hnO.blk.ext eO) rfl ?_
      intro wO cO hzO hbnO
      refine Jbq (TN_anyB ⟨hA.then (cO.mono (fun j hj => .inr (by have := hj.1; have := hj.2; omega))), fun h => nomatch (show true = false from h)⟩ ?_)
      refine TB_done (by kernel_rfl) ?_
      have hpo : pOp (oApp tempT b) = true := pOp_app temp_name hbl
      have hO := hnO.step (hDN.pDo hpo) (pDo_fu hDN hnO.fu hpo) eO hxO cO hbnO
      obtain ⟨dO, hdO⟩ : ∃ d, d = (pDo dN (oApp tempT b)).1 := ⟨_, rfl⟩
      rw [← hdO] at hO
      clear hA hB hrb hrr hxO hbnO cO eO hdO hnO hmO cnO emO hldN hN hrN hcurO hpo
      skip
      exact TN_join (dO, snO, skO, stO) (subEnv_cons rfl (subEnv_cons rfl (subEnv_cons rfl (subEnv_cons rfl (subEnv_nil _))))) hO
    · repeat' (apply Jbz)
      exact TN_join (dM, snM, skM, stM) (subEnv_cons rfl (subEnv_cons rfl (subEnv_cons rfl (subEnv_cons rfl (subEnv_nil _))))) hM
  rintro ⟨dQ, snQ, skQ, stQ⟩ wQ hQ
  simp only at hQ
  skip
  refine TC_join (ι := DiskP × Value × Value × Value) (fun _ => [(0, pt g), (2, .pointer (some ⟨gr, 0, none⟩)), (3, .pointer (some ⟨gd, 0, none⟩)), (5, I k)]) (fun x w' => MDk w w' g gr gd x.1 x.2.1 x.2.2.1 x.2.2.2) ?_ ?_
  · repeat' (first | apply Jbq | apply Jbr | apply Jbs | apply Jbt | (apply Jcg; (first | exact Jaa rfl | exact Jak rfl rfl); exact rfl))
    refine Jcx rfl (fun hc => ?_) (fun hc => ?_)
    · repeat' (first | apply Jbq | apply Jbr | apply Jbs | apply Jbt | apply Jby | (apply Jcg; exact Jab rfl; exact rfl))
      refine TC_loop (ι := Nat × DiskP × Value × Value × Value) (fun x => [(0, pt g), (2, .pointer (some ⟨gr, 0, none⟩)), (3, .pointer (some ⟨gd, 0, none⟩)), (5, I k), (6, I x.1)]) (fun x w' => x.1 ≤ 8 ∧ MDk w w' g gr gd x.2.1 x.2.2.1 x.2.2.2.1 x.2.2.2.2) (fun x => 8 - x.1) (0, dQ, snQ, skQ, stQ) (subEnv_cons rfl (subEnv_cons rfl (subEnv_cons rfl (subEnv_cons rfl (subEnv_cons rfl (subEnv_nil _)))))) ⟨by omega, hQ⟩ ?_
      clear hQ
      rintro ⟨i, dR, snR, skR, stR⟩ wR ⟨hi8, hR⟩
      simp only at hi8 hR
      repeat' (first | apply Jbq | apply Jbr | apply Jbs | apply Jbt | (apply Jcg; (first | exact Jaa rfl | exact Jad rfl rfl); exact rfl))
      refine Jcx rfl (fun hlt => ?_) (fun hge => ?_)
      · repeat' (first | apply Jbr | apply Jbs | apply Jby | apply Jbz)
        have hldR := hR.ld
        have hpR := hR.pos
        have hDR := hR.ok
        refine TC_anyB (fun w' => Ch (fun j => j = gd) wR w') (fun w' => ∀ j u, (dskC dR snR skR stR)[j]? = some u → w'.cell? ((⟨gd, 0, none⟩ : Addr).add j) = some u) 10 mixed rfl (Ch.refl _ _).drew (fun j u hu => Ext.cell (Ch.refl _ _).drew (hldR j u hu)) ?_
        intro wm em hzm hA hB
        (refine TB_takeB 0 rfl rfl rfl (by kernel_rfl) rfl (by kernel_rfl) (by kernel_rfl) (by kernel_rfl) (fun _ _ _ h => h) ⟨hA, fun _ => hB⟩ (by exact Pu_loadAgg (cs := dskC dR snR skR stR) Us.h rfl Sz.h rfl (fun _ e => e.2)) rfl ?_)
        (refine TB_take 2 rfl rfl rfl (by kernel_rfl) (by kernel_rfl) (by kernel_rfl) (fun _ _ _ h => h) ⟨hA, fun _ => hB⟩ (by exact Jaa rfl) rfl ?_)
        refine TB_one 1 (by kernel_rfl) rfl ?_
        refine TL_buildSlice (us := namesL.map S) Us.h Zi.h rfl rfl rfl rfl (by kernel_rfl) rfl rfl ?_
        intro wn gn en hgn hzn hown
        replace hA := hA.ext en
        replace hB := fun j u hu => en.cell (hB j u hu)
        refine Jbq (TN_anyB ⟨hA, fun _ => hB⟩ ?_)
        have hil : i < namesL.length := by simp only [namesL, List.length_cons, List.length_nil]; omega
        obtain ⟨ad, had, hcell⟩ := hown.rd.get (show i < 8 by omega)
        injection had with had
        subst had
        have hgv : (namesL.map S).getD i undef = S (namesL.getD i []) := by
          rw [List.getD_eq_getElem?_getD, List.getElem?_map, List.getElem?_eq_getElem hil, List.getD_eq_getElem?_getD, List.getElem?_eq_getElem hil]; rfl
        rw [hgv] at hcell
        obtain ⟨nm, hnm⟩ : ∃ nm, nm = namesL.getD i [] := ⟨_, rfl⟩
        have hnok : pName nm = true := by
          rw [hnm]
          refine namesL_ok _ ?_
          rw [List.getD_eq_getElem?_getD, List.getElem?_eq_getElem hil]; exact List.getElem_mem hil
        rw [← hnm] at hcell
        have hnl := pName_len hnok
        refine TB_one 3 (by kernel_rfl) rfl ?_
        (apply Jcg; exact Jag Us.h Sz.h rfl rfl (by omega); exact rfl)
        refine Jbq (TN_anyB ⟨hA, fun _ => hB⟩ ?_)
        refine TB_one 4 (by kernel_rfl) rfl ?_
        refine Jcg (Pu_load Fl.h rfl (fun _ e => by rw [e]; exact hcell)) rfl ?_
        refine Jbq (TN_anyB ⟨hA, fun _ => hB⟩ ?_)
        refine TB_one 5 (by kernel_rfl) rfl ?_
        refine Jcg (Pu_build (cs := opC (oMk nm) (.slice none 0 0)) rfl (by kernel_rfl)) rfl ?_
        refine Jbq (TN_anyB ⟨hA, fun _ => hB⟩ ?_)
        refine TB_one 6 (by kernel_rfl) rfl ?_
        have hn := (hR.ext em).ext en
        obtain ⟨lo, hi, hlo, hhi, hap, hr⟩ := hn.reg
        refine TL_call rfl en22 (specDiskDo_c (o := oMk nm) hr hDR.fitsD (by have := hDR.totD; omega) (rbn _) (fits_op _ _ _ _ (by omega) (by omega) (by omega) (by simp))) rfl rfl ?_
        rintro _ wq ⟨snT, skT, stT, rfl, eT, hxT⟩
        have oneT := hxT.one
        replace hA := hA.ext eT
        replace hB := fun j u hu => eT.cell (hB j u hu)
        refine Jbq (TN_anyB ⟨hA, fun _ => hB⟩ ?_)
        (refine TB_take 7 rfl rfl rfl (by kernel_rfl) (by kernel_rfl) (by kernel_rfl) (fun _ _ _ h => h) ⟨hA, fun _ => hB⟩ (by exact Jaa rfl) rfl ?_; refine TB_take 8 rfl rfl rfl (by kernel_rfl) (by kernel_rfl) (by kernel_rfl) (fun _ _ _ h => h) ⟨hA, fun _ => hB⟩ (by exact Jae rfl rfl) rfl ?_; refine TB_take 9 rfl rfl rfl (by kernel_rfl) (by kernel_rfl) (by kernel_rfl) (fun _ _ _ h => h) ⟨hA, fun _ => hB⟩ (by exact Jae rfl rfl) rfl ?_)
        refine TB_one 10 (by kernel_rfl) rfl ?_
        refine TL_storeAgg rfl rfl Sz.h oneT (hn.blk.ext eT) rfl ?_
        intro wT cT hzT hbT
        refine Jbq (TN_anyB ⟨hA.then (cT.mono (fun j hj => by have := hj.1; have := hj.2; omega)), fun h => nomatch (show true = false from h)⟩ ?_)
        refine TB_done (by kernel_rfl) ?_
        have hT := hn.step (hDR.pDo (pOp_mk hnok)) (pDo_fu hDR hn.fu (pOp_mk hnok)) eT hxT cT hbT
        repeat' (first | apply Jbq | apply Jbr | apply Jbt | apply Jbx | (apply Jcg; (first | exact Jaa rfl | exact Jab rfl | exact Jaf rfl rfl (by omega)); exact rfl))
        exact TN_round (i + 1, (pDo dR (oMk nm)).1, snT, skT, stT) (subEnv_cons rfl (subEnv_cons rfl (subEnv_cons rfl (subEnv_cons rfl (subEnv_cons rfl (subEnv_nil _)))))) ⟨by simp only; omega, hT⟩ (by simp only; omega)
      · repeat' (first | apply Jca | apply Jcb | apply Jcc)
        exact TN_join (dR, snR, skR, stR) (subEnv_cons rfl (subEnv_cons rfl (subEnv_cons rfl (subEnv_cons rfl (subEnv_nil _))))) hR
    · repeat' (apply Jbz)
      exact TN_join (dQ, snQ, skQ, stQ) (subEnv_cons rfl (subEnv_cons rfl (subEnv_cons rfl (subEnv_cons rfl (subEnv_nil _))))) hQ
  rintro ⟨dU, snU, skU, stU⟩ wU hU
  simp only at hU
  have hbU := hU.blk
  obtain ⟨lo, hi, q1, q2, q3, q4⟩ := hU.reg
  have hpU := hU.pos
  have oneU := q4.one
  have hresU := hU.res
  repeat' (first | apply Jbs | apply Jbt | refine Jcg (Pu_loadAgg (cs := dskC dU snU skU stU) Us.h rfl Sz.h rfl (fun _ e j u hu => by rw [e, add0, hbU.cell]; exact hu)) rfl ?_)
  refine TL_storeAgg rfl rfl Sz.h oneU hresU rfl ?_
  intro wC cC hzC hbC
  repeat' (first | apply Jbq | apply Jbr | apply Jbu)
  exact TR_of (resA rfl rfl hbC Us.h rfl Sz.h) ⟨dU, snU, skU, stU, rfl, ⟨hU.ok, hU.fu⟩, hU.c.trans cC (fun _ _ t => t) (fun j hj t => absurd t.1 (by omega)), (q4.ch cC (by intro k _ _; simp only [Iv]; omega)).wide (by omega) (by omega) (Nat.le_refl _), hU.cur.ch cC (by intro k _; simp only [Iv]; omega)⟩
set_option maxRecDepth 100000 in
set_option maxHeartbeats 16000000 in
theorem l06Draw_c {w : World} {g : Nat} (hcur : Cur w g) :
    Ret Tryz.prog 111 #[pt g] w fun v w' => ∃ (s : StoreP) (f : Int) (sn sk st sl : Value), v = .agg (stoC { s with disk := withFuse s.disk f } sn sk st sl).toArray ∧ Live s ∧ Ch (Iv g (g + 1)) w w' ∧ RSt w' w.heap.size w'.heap.size s sn sk st sl ∧ Cur w' g := by
  have hg := hcur.lt
  refine Ret_enter Tryz.func111 rfl rfl rfl ?_
  repeat' (first | apply Jbs | apply Jbt)
  refine TL_alloc Zs.h rfl rfl ?_
  intro w1 gr e1 hgr hz1 hbr
  repeat' (first | apply Jbq | apply Jbr | apply Jbs | apply Jbt | (apply Jcg; exact Jaa rfl; exact rfl))
  refine TL_call rfl en156 (l06Disk_c (hcur.ext e1)) rfl rfl ?_
  rintro _ w2 ⟨d, sn, sk, st, rfl, ⟨hD, hF⟩, c2, hr2, hcur2⟩
  repeat' ((apply Jcg; exact Jaa rfl; exact rfl))
  refine TL_call rfl en157 (l06Keep_c hcur2) rfl rfl ?_
  rintro _ w3 ⟨kp, rfl, hkp, c3, hcur3⟩
  repeat' ((apply Jcg; exact Jaa rfl; exact rfl))
  refine TL_call rfl en158 (l06Size_c hcur3) rfl rfl ?_
  rintro _ w4 ⟨z, rfl, hz, c4, hcur4⟩
  have hs1 := e1.size
  have hs2 := c2.size
  have hs3 := c3.size
  have hs4 := c4.size
  have hr4 := (hr2.ch c3 (by intro k _ _; simp only [Iv]; omega)).ch c4 (by intro k _ _; simp only [Iv]; omega)
  have hbr4 := ((hbr.ch c2 (by simp only [Iv]; omega)).ch c3 (by simp only [Iv]; omega)).ch c4 (by simp only [Iv]; omega)
  have c04 : Ch (Iv g (g + 1)) w w4 := ((((Ch.refl _ _).ext e1).then c2).then c3).then c4
  have hlw := open_law (k := kp) (z := z) hD hF ⟨hkp.1, hkp.2, hz.1, hz.2⟩
  obtain ⟨s0, hs0⟩ : ∃ s, s = (pOpen d kp z).1 := ⟨_, rfl⟩
  obtain ⟨c0, hc0⟩ : ∃ s, s = (pOpen d kp z).2 := ⟨_, rfl⟩
  rw [← hs0, ← hc0] at hlw
  clear hbr hr2 c2 c3 c4 hcur2 hcur3 e1
  skip
  refine TL_call rfl en35 (specOpen_c hr4 hD.fitsD (by have := hD.totD; omega)) rfl rfl ?_
  rintro _ w5 ⟨sn5, sk5, st5, sl5, rfl, e5, ho5⟩
  rw [← hs0] at ho5 ⊢
  rw [← hc0]
  have one5 := ho5.one
  have hs5 := e5.size
  repeat' ((apply Jcg; (first | exact Jaa rfl | exact Jae rfl rfl); exact rfl))
  refine TL_alloc Zs.h rfl rfl ?_
  intro w6 gs e6 hgs hz6 hbs
  skip
  refine TL_storeAgg rfl rfl Sz.h one5 hbs rfl ?_
  clear hbs
  intro w7 c7 hz7 hbs
  have hr7 := ((ho5.ext e6).ch c7 (by intro k _ _; simp only [Iv]; omega)).rd
  have hbr7 := ((hbr4.ext e5).ext e6).ch c7 (by simp only [Iv]; omega)
  have hcur7 := ((hcur4.ext e5).ext e6).ch c7 (by intro k _; simp only [Iv]; omega)
  have c07 : Ch (Iv g (g + 1)) w w7 := ((c04.ext e5).ext e6).trans c7 (fun _ _ t => t) (fun j hj t => absurd t.1 (by omega))
  clear ho5 c7 e6 e5 hbr4 hcur4 c04 hr4 hs0 hc0
  repeat' (first | apply Jbq | apply Jbr | (apply Jcg; exact Jab rfl; exact rfl))
  refine TC_join (ι := StoreP × Value × Value × Value × Value) (fun _ => [(0, pt g), (2, .pointer (some ⟨gr, 0, none⟩)), (3, .pointer (some ⟨gs, 0, none⟩))]) (fun x w' => MSt w w' g gr gs x.1 x.2.1 x.2.2.1 x.2.2.2.1 x.2.2.2.2) ?_ ?_
  · rcases hlw with ⟨h0, hL, _⟩ | ⟨h4, _⟩
    · subst h0
      repeat' (first | apply Jbq | apply Jbr | apply Jbs | apply Jbt | apply Jbz | (refine Jcf rfl ?_) | (apply Jcg; (first | exact Jbm rfl rfl | exact Jaa rfl); exact rfl))
      exact TN_join (s0, sn5, sk5, st5, sl5) (subEnv_cons rfl (subEnv_cons rfl (subEnv_cons rfl (subEnv_nil _)))) ⟨hL, c07, hcur7, hbr7, hbs, ⟨_, _, by omega, by omega, .inl (by omega), hr7⟩, by omega⟩
    · subst h4
      repeat' (first | apply Jbq | apply Jbr | apply Jbs | apply Jbt | (refine Jce rfl ?_) | (apply Jcg; (first | exact Jaa rfl | exact Jal rfl rfl); exact rfl))
      refine TL_call rfl en113 (specNew_c (room := 200) _ (by omega)) rfl rfl ?_
      rintro _ w8 ⟨rfl, e8⟩
      have hs8 := e8.size
      repeat' ((apply Jcg; (first | exact Jaa rfl | exact Jae rfl rfl); exact rfl))
      refine TL_alloc Zs.h rfl rfl ?_
      intro w9 gd e9 hgd hz9 hbd
      skip
      refine TL_storeAgg rfl rfl Sz.h rfl hbd rfl ?_
      clear hbd
      intro w10 c10 hz10 hbd
      have hnl := newDk_live (room := 200) (k := 2) (z := 50) (by omega) ⟨by omega, by omega, by omega, by omega⟩
      have hDn := newDk_ok (room := 200) (by omega)
      have hrn : RDk w10 w10.heap.size w10.heap.size (newDk 200) (.slice none 0 0) (.slice none 0 0) (.slice none 0 0) := (ODk.none (Nat.le_refl _) rfl rfl rfl).rd
      repeat' (first | apply Jbq | apply Jbr | apply Jbt | (apply Jcg; exact Jab rfl; exact rfl) | refine Jcg (Pu_loadAgg (cs := dskC (newDk 200) (.slice none 0 0) (.slice none 0 0) (.slice none 0 0)) Us.h rfl Sz.h rfl (fun _ e j u hu => by rw [e, add0, hbd.cell]; exact hu)) rfl ?_)
      refine TL_call rfl en35 (specOpen_c hrn hDn.fitsD (by have := hDn.totD; omega)) rfl rfl ?_
      rintro _ w11 ⟨sn6, sk6, st6, sl6, rfl, e11, ho6⟩
      obtain ⟨s1, hs1'⟩ : ∃ s, s = (pOpen (newDk 200) 2 50).1 := ⟨_, rfl⟩
      rw [← hs1'] at ho6 hnl ⊢
      have one6 := ho6.one
      have hs11 := e11.size
      repeat' ((apply Jcg; (first | exact Jaa rfl | exact Jae rfl rfl); exact rfl))
      refine TL_storeAgg rfl rfl Sz.h one6 ((((hbs.ext e8).ext e9).ch c10 (by simp only [Iv]; omega)).ext e11) rfl ?_
      intro w12 c12 hz12 hb12
      repeat' (apply Jbq)
      exact TN_join (s1, sn6, sk6, st6, sl6) (subEnv_cons rfl (subEnv_cons rfl (subEnv_cons rfl (subEnv_nil _)))) ⟨hnl.2, ((((c07.ext e8).ext e9).trans c10 (fun _ _ t => t) (fun j hj t => absurd t.1 (by omega))).ext e11).trans c12 (fun _ _ t => t) (fun j hj t => absurd t.1 (by omega)), ((((hcur7.ext e8).ext e9).ch c10 (by intro k _; simp only [Iv]; omega)).ext e11).ch c12 (by intro k _; simp only [Iv]; omega), ((((hbr7.ext e8).ext e9).ch c10 (by simp only [Iv]; omega)).ext e11).ch c12 (by simp only [Iv]; omega), hb12, ⟨_, _, by omega, by omega, .inr (by omega), ho6.rd.ch c12 (by intro k _ _; simp only [Iv]; omega)⟩, by omega⟩
  clear hlw hr7 hbr7 hcur7 c07 hbs
  rintro ⟨s1, sn1, sk1, st1, sl1⟩ wA hA
  simp only at hA
  skip
  refine TC_join (ι := StoreP × Value × Value × Value × Value) (fun _ => [(0, pt g), (2, .pointer (some ⟨gr, 0, none⟩)), (3, .pointer (some ⟨gs, 0, none⟩))]) (fun x w' => MSt w w' g gr gs x.1 x.2.1 x.2.2.1 x.2.2.2.1 x.2.2.2.2) ?_ ?_
  · repeat' (first | apply Jbs | apply Jbt | (apply Jcg; exact Jaa rfl; exact rfl))
    refine TL_call rfl en115 (l01Below_c hA.cur (by omega)) rfl rfl ?_
    rintro _ wB ⟨n, rfl, hn0, hn1, _, cB, hcurB⟩
    have hB := hA.below cB hcurB
    obtain ⟨n, rfl⟩ := Int.eq_ofNat_of_zero_le hn0
    repeat' (first | apply Jbq | apply Jbr | apply Jby | (apply Jcg; exact Jab rfl; exact rfl))
    refine TC_loop (ι := Nat × StoreP × Value × Value × Value × Value) (fun x => [(0, pt g), (2, .pointer (some ⟨gr, 0, none⟩)), (3, .pointer (some ⟨gs, 0, none⟩)), (7, I x.1)]) (fun x w' => x.1 ≤ n ∧ MSt w w' g gr gs x.2.1 x.2.2.1 x.2.2.2.1 x.2.2.2.2.1 x.2.2.2.2.2) (fun x => x.1) (n, s1, sn1, sk1, st1, sl1) (subEnv_cons rfl (subEnv_cons rfl (subEnv_cons rfl (subEnv_cons rfl (subEnv_nil _))))) ⟨Nat.le_refl _, hB⟩ ?_
    clear hA hB hcurB cB
    rintro ⟨m, s2, sn2, sk2, st2, sl2⟩ wC ⟨hm, hC⟩
    simp only at hm hC
    repeat' (first | apply Jbq | apply Jbr | apply Jbs | apply Jbt | (apply Jcg; (first | exact Jaa rfl | exact Jam rfl rfl); exact rfl))
    refine Jcx rfl (fun hb => ?_) (fun hb => ?_)
    · repeat' (first | apply Jbr | apply Jbs | apply Jby | apply Jbz)
      have hld := hC.ld
      have hp := hC.pos
      have hL := hC.live
      refine TC_anyB (fun w' => Ch (fun j => j = g ∨ j = gs) wC w') (fun w' => ∀ j u, (stoC s2 sn2 sk2 st2 sl2)[j]? = some u → w'.cell? ((⟨gs, 0, none⟩ : Addr).add j) = some u) 7 mixed rfl (Ch.refl _ _).drew (fun j u hu => Ext.cell (Ch.refl _ _).drew (hld j u hu)) ?_
      intro wm em hzm hA hB
      (refine TB_takeB 0 rfl rfl rfl (by kernel_rfl) rfl (by kernel_rfl) (by kernel_rfl) (by kernel_rfl) (fun _ _ _ h => h) ⟨hA, fun _ => hB⟩ (by exact Pu_loadAgg (cs := stoC s2 sn2 sk2 st2 sl2) Us.h rfl Sz.h rfl (fun _ e => e.2)) rfl ?_)
      (refine TB_take 1 rfl rfl rfl (by kernel_rfl) (by kernel_rfl) (by kernel_rfl) (fun _ _ _ h => h) ⟨hA, fun _ => hB⟩ (by exact Jaa rfl) rfl ?_)
      refine TB_one 2 (by kernel_rfl) rfl ?_
      have hm1 := hC.ext em
      refine TL_call rfl en114 (l05Text_c hm1.cur) rfl rfl ?_
      rintro _ wn ⟨t, rfl, ht, cn, hcurn⟩
      have hsm := em.size
      have hsn := cn.size
      have hn2 := hm1.below cn hcurn
      replace hA := hA.then (cn.mono (fun j hj => .inl (by have := hj.1; have := hj.2; omega)))
      replace hB := fun j u hu => Ch.cell cn (hB j u hu) (by rw [block_of_add]; simp only [Iv]; omega)
      refine Jbq (TN_anyB ⟨hA, fun _ => hB⟩ ?_)
      refine TB_one 3 (by kernel_rfl) rfl ?_
      obtain ⟨lo, hi, hlo, hhi, hap, hr⟩ := hn2.reg
      have htx : 1 ≤ t.length ∧ t.length ≤ 1000 := by omega
      refine TL_call rfl en43 (specAdd_c hr hL.fitsS hL.tot hL.ok htx) rfl rfl ?_
      rintro _ wq ⟨sn3, sk3, st3, sl3, rfl, eq, hx3⟩
      have one3 := hx3.one
      replace hA := hA.ext eq
      replace hB := fun j u hu => eq.cell (hB j u hu)
      refine Jbq (TN_anyB ⟨hA, fun _ => hB⟩ ?_)
      (refine TB_take 4 rfl rfl rfl (by kernel_rfl) (by kernel_rfl) (by kernel_rfl) (fun _ _ _ h => h) ⟨hA, fun _ => hB⟩ (by exact Jaa rfl) rfl ?_; refine TB_take 5 rfl rfl rfl (by kernel_rfl) (by kernel_rfl) (by kernel_rfl) (fun _ _ _ h => h) ⟨hA, fun _ => hB⟩ (by exact Jae rfl rfl) rfl ?_; refine TB_take 6 rfl rfl rfl (by kernel_rfl) (by kernel_rfl) (by kernel_rfl) (fun _ _ _ h => h) ⟨hA, fun _ => hB⟩ (by exact Jae rfl rfl) rfl ?_)
      refine TB_one 7 (by kernel_rfl) rfl ?_
      refine TL_storeAgg rfl rfl Sz.h one3 (hn2.blk.ext eq) rfl ?_
      intro wT cT hzT hbT
      refine Jbq (TN_anyB ⟨hA.then (cT.mono (fun j hj => .inr (by have := hj.1; have := hj.2; omega))), fun h => nomatch (show true = false from h)⟩ ?_)
      refine TB_done (by kernel_rfl) ?_
      have hT := hn2.step (add_live hL htx).1 eq hx3 cT hbT
      repeat' (first | apply Jbq | apply Jbr | apply Jbt | apply Jbx | (apply Jcg; (first | exact Jaa rfl | exact Jab rfl | exact Jap rfl rfl (by omega)); exact rfl))
      exact TN_round (m - 1, (pAdd s2 t).1, sn3, sk3, st3, sl3) (subEnv_cons rfl (subEnv_cons rfl (subEnv_cons rfl (subEnv_cons (congrArg (fun z => some (I z)) (by simp only; omega)) (subEnv_nil _))))) ⟨by simp only; omega, hT⟩ (by simp only; omega)
    · repeat' (first | apply Jca | apply Jcb | apply Jcc)
      exact TN_join (s2, sn2, sk2, st2, sl2) (subEnv_cons rfl (subEnv_cons rfl (subEnv_cons rfl (subEnv_nil _)))) hC
  clear hA
  rintro ⟨s2, sn2, sk2, st2, sl2⟩ wD hD'
  simp only at hD'
  have hbD := hD'.blk
  have hp := hD'.pos
  obtain ⟨lo, hi, hlo, hhi, hap, hr⟩ := hD'.reg
  have oneD := hr.1.one
  repeat' (first | apply Jbs | apply Jbt | (apply Jcg; (first | exact Jaa rfl | (apply Jbl; exact Us.h; exact rfl; exact Sz.h; exact rfl)); exact rfl) | refine Jcg (Pu_loadAgg (cs := dskC s2.disk sn2 sk2 st2) Us.h rfl Sz.h rfl (fun _ e j u hu => blk_disk hbD e j u hu)) rfl ?_)
  refine TL_call rfl en159 (l06Fused_c hD'.cur oneD) rfl rfl ?_
  rintro _ wE ⟨f, rfl, cE, hcurE⟩
  have hE := hD'.below cE hcurE
  have hsE := cE.size
  have oneF : (dskC (withFuse s2.disk f) sn2 sk2 st2).all (·.oneCell') = true := oneD
  repeat' ((apply Jcg; (apply Jbl; exact Us.h; exact rfl; exact Sz.h; exact rfl); exact rfl))
  refine TL_storeBlk rfl (add0 gs 0) rfl Sz.h oneF hE.blk (by show 0 + 6 ≤ 10; omega) ?_
  intro wF cF hzF hbF
  replace hbF : Blk wF gs 66 (stoC { s2 with disk := withFuse s2.disk f } sn2 sk2 st2 sl2) := hbF
  have oneG : (stoC { s2 with disk := withFuse s2.disk f } sn2 sk2 st2 sl2).all (·.oneCell') = true := hr.one
  have hresF := hE.res.ch cF (by simp only [Iv]; omega)
  repeat' (first | apply Jbq | apply Jbr | apply Jbs | apply Jbt | refine Jcg (Pu_loadAgg (cs := stoC { s2 with disk := withFuse s2.disk f } sn2 sk2 st2 sl2) Us.h rfl Sz.h rfl (fun _ e j u hu => by rw [e, add0, hbF.cell]; exact hu)) rfl ?_)
  refine TL_storeAgg rfl rfl Sz.h oneG hresF rfl ?_
  intro wG cG hzG hbG
  have hrE := (hr.ch cE (by intro k _ _; simp only [Iv]; omega))
  repeat' (first | apply Jbq | apply Jbr | apply Jbu)
  exact TR_of (resA rfl rfl hbG Us.h rfl Sz.h) ⟨s2, f, sn2, sk2, st2, sl2, rfl, hE.live, (hE.c.trans cF (fun _ _ t => t) (fun j hj t => absurd t.1 (by omega))).trans cG (fun _ _ t => t) (fun j hj t => absurd t.1 (by omega)), (((hrE.ch cF (by intro k _ _; simp only [Iv]; omega)).ch cG (by intro k _ _; simp only [Iv]; omega))).wide (by omega) (by omega) (Nat.le_refl _), (hcurE.ch cF (by intro k _; simp only [Iv]; omega)).ch cG (by intro k _; simp only [Iv]; omega)⟩
set_option maxRecDepth 100000 in
set_option maxHeartbeats 8000000 in
theorem MakeStore_c {w : World} {lo hi : Nat} {v : Value} {b : List UInt8} (hR : RB w lo hi v b) (hl : b.length ≤ 1048576) :
    Ret Tryz.prog 40 #[v] w fun v' w' => ∃ (s : StoreP) (t : List UInt8) (sn sk st sl : Value), v' = .tuple #[.agg (stoC s sn sk st sl).toArray, S t] ∧ Live s ∧ (1 ≤ t.length ∧ t.length ≤ 1000) ∧ Ext w w' ∧ RSt w' w.heap.size w'.heap.size s sn sk st sl := by
  refine Ret_enter Tryz.func40 rfl rfl rfl ?_
  repeat' (first | apply Jbs | apply Jbt)
  refine TL_alloc Zs.h rfl rfl ?_
  intro w1 gr e1 hgr hz1 hbr
  repeat' (first | apply Jbq | apply Jbr | apply Jbs | apply Jbt | (apply Jcg; (first | exact Jaa rfl | exact Jab rfl); exact rfl))
  refine TL_call rfl en99 (l01New_c (hR.ext e1) hl) rfl rfl ?_
  rintro _ w2 ⟨g, rfl, e2, hg, hz2, hcur⟩
  repeat' (first | apply Jbq | apply Jbr | apply Jbs | apply Jbt | (apply Jcg; (first | exact Jaa rfl | exact Jab rfl); exact rfl))
  refine TL_call rfl en111 (l06Draw_c hcur) rfl rfl ?_
  rintro _ w3 ⟨s, f, sn, sk, st, sl, rfl, hL, c3, hr3, hcur3⟩
  have hs1 := e1.size
  have hs2 := e2.size
  have hs3 := c3.size
  have hbr3 := (hbr.ext e2).ch c3 (by simp only [Iv]; omega)
  have oneS := hr3.one
  have oneF : (stoC { s with disk := withFuse s.disk f } sn sk st sl).all (·.oneCell') = true := oneS
  skip
  refine TL_alloc Zs.h rfl rfl ?_
  intro w4 gs e4 hgs hz4 hbs
  skip
  refine TL_storeAgg rfl rfl Sz.h oneF hbs rfl ?_
  clear hbs
  intro w5 c5 hz5 hbs
  repeat' (first | apply Jbq | apply Jbr | apply Jbs | apply Jbt | (apply Jcg; (apply Jbl; exact Us.h; exact rfl; exact Sz.h; exact rfl); exact rfl))
  refine TL_store rfl rfl Sz.h rfl hbs rfl ?_
  intro w6 c6 hz6 hb6
  have hcells : stoC s sn sk st sl = [I s.disk.room, I (-1), I s.disk.next, sn, sk, st, I s.keep, I s.size, sl, I s.len] := by unfold stoC; rw [hL.fuse]
  replace hb6 : Blk w6 gs 66 (stoC s sn sk st sl) := by rw [hcells]; exact hb6
  have hr6 := ((hr3.ext e4).ch c5 (by intro k _ _; simp only [Iv]; omega)).ch c6 (by intro k _ _; simp only [Iv]; omega)
  have hbr6 := ((hbr3.ext e4).ch c5 (by simp only [Iv]; omega)).ch c6 (by simp only [Iv]; omega)
  have hcur6 := ((hcur3.ext e4).ch c5 (by intro k _; simp only [Iv]; omega)).ch c6 (by intro k _; simp only [Iv]; omega)
  have E3 : Ext w w3 := Ext.then_iv (e1.ext e2) c3 (by omega)
  have E6 : Ext w w6 := Ext.then_iv (Ext.then_iv (E3.ext e4) c5 (by omega)) c6 (by omega)
  clear hbs hr3 hbr3 hcur3 c5 c6 e4 c3 hcells oneF
  repeat' (first | apply Jbq | apply Jbr | apply Jbs | apply Jbt | refine Jcg (Pu_loadAgg (cs := stoC s sn sk st sl) Us.h rfl Sz.h rfl (fun _ e j u hu => by rw [e, add0, hb6.cell]; exact hu)) rfl ?_)
  refine TL_call rfl en112 (specStoreOk_c hr6 hL.fitsS hL.tot) rfl rfl ?_
  rintro _ w7 ⟨rfl, e7⟩
  rw [pSOk_yes hL.ok]
  have hr7 := hr6.ext e7
  have hbr7 := hbr6.ext e7
  have hcur7 := hcur6.ext e7
  have hb7 := hb6.ext e7
  have E7 := E6.ext e7
  have hs7 := e7.size
  have hgr1 : gr < g ∧ g < gs ∧ gs < w7.heap.size ∧ w.heap.size ≤ gr := by omega
  clear hr6 hbr6 hcur6 hb6 E6 e7
  repeat' (first | apply Jbq | apply Jbr | apply Jbs | apply Jbz | (refine Jcf rfl ?_) | (apply Jcg; exact Jaj rfl; exact rfl))
  refine TC_anyS (fun w' => Ch (fun j => j = g ∨ j = gr) w7 w') mixed rfl (Ch.refl _ _).drew ?_
  intro w8 e8 hz8 hE
  have hs8 := e8.size
  (refine Jco 0 rfl (by kernel_rfl) (by kernel_rfl) (by kernel_rfl) (fun _ _ _ h => h) hE (by exact Pu_loadAgg (cs := stoC s sn sk st sl) Us.h rfl Sz.h rfl (fun _ e j u hu => Ch.cell e (by rw [add0, hb7.cell]; exact hu) (by rw [block_of_add]; simp only; omega))) rfl ?_; refine Jco 1 rfl (by kernel_rfl) (by kernel_rfl) (by kernel_rfl) (fun _ _ _ h => h) hE (by exact Jaa rfl) rfl ?_)
  refine TA_one 2 (by kernel_rfl) rfl ?_
  refine TL_call rfl en114 (l05Text_c (hcur7.ext e8)) rfl rfl ?_
  rintro _ w9 ⟨t, rfl, ht, c9, hcur9⟩
  have hs9 := c9.size
  replace hE := hE.then (c9.mono (fun j hj => .inl (by have := hj.1; have := hj.2; omega)))
  refine Jbq (TN_any hE ?_)
  refine TA_one 3 (by kernel_rfl) rfl ?_
  refine TL_storeAgg rfl rfl Sz.h oneS ((hbr7.ext e8).ch c9 (by simp only [Iv]; omega)) rfl ?_
  intro w10 c10 hz10 hb10
  replace hE := hE.then (c10.mono (fun j hj => .inr (by have := hj.1; have := hj.2; omega)))
  refine Jbq (TN_any hE ?_)
  (refine Jco 4 rfl (by kernel_rfl) (by kernel_rfl) (by kernel_rfl) (fun _ _ _ h => h) hE (by exact Jab rfl) rfl ?_)
  refine TA_done (by kernel_rfl) ?_
  repeat' (first | apply Jbr | apply Jbu)
  exact TR_of (resA1 rfl rfl rfl hb10 Us.h rfl Sz.h) ⟨s, t, sn, sk, st, sl, rfl, hL, by omega, Ext.then_iv (Ext.then_iv (E7.ext e8) c9 (by omega)) c10 (by omega), (((hr7.ext e8).ch c9 (by intro k _ _; simp only [Iv]; omega)).ch c10 (by intro k _ _; simp only [Iv]; omega)).wide (by omega) (by omega) (Nat.le_refl _)⟩
end Go.Proofs.YtggaghghclomkaaGreat

/- Contracts: a history is opened, by the program. -/
namespace Go.Proofs.YtggaghghclomkaaGreat
open Go.RowKit
attribute [local irreducible] TL TC TN TX TR TQ TA Pu Ret
set_option maxRecDepth 100000 in
set_option maxHeartbeats 16000000 in
theorem implOpen_c {w : World} {lo hi : Nat} {d : DiskP} {sn sk st : Value} {k z : Int} (h : RDk w lo hi d sn sk st) (hf : d.fits) (hl : totD d ≤ 1048576) :
    Ret Tryz.prog 34 #[.agg (dskC d sn sk st).toArray, I k, I z] w fun v' w' => ∃ sn' sk' st' sl', v' = .tuple #[.agg (stoC (pOpen d k z).1 sn' sk' st' sl').toArray, I (pOpen d k z).2] ∧ Ext w w' ∧ OSt w' w.heap.size w'.heap.size (pOpen d k z).1 sn' sk' st' sl' := by
  have hh := h
  refine Ret_enter Tryz.func34 rfl rfl rfl ?_
  repeat' (first | apply Jbs | apply Jbt)
  refine TL_box (cs := dskC d sn sk st) rfl rfl ?_
  intro w1 g3 e1 hg3 hz1 hb3
  skip
  refine TL_alloc Zs.h rfl rfl ?_
  intro w2 g6 e2 hg6 hz2 hb6
  replace hb3 := hb3.ext e2
  have E2 : Ext w w2 := e1.ext e2
  repeat' (first | apply Jbq | apply Jbr | apply Jbs | apply Jbt | (apply Jcg; exact Jab rfl; exact rfl) | refine Jcg (Pu_loadAgg (cs := dskC d sn sk st) Us.h rfl Sz.h rfl (fun _ e j u hu => by rw [e, add0, hb3.cell]; exact hu)) rfl ?_)
  refine TL_call rfl en65 (implDiskOk_c (hh.ext E2) hf hl) rfl rfl ?_
  rintro _ w3 ⟨rfl, e3⟩
  replace hb3 := hb3.ext e3
  replace hb6 := hb6.ext e3
  have hs3 := e3.size
  have E3 := E2.ext e3
  have hg36 : w.heap.size ≤ g3 ∧ g3 < g6 ∧ g6 < w3.heap.size := by omega
  cases hp : pDOk d with
  | false =>
    rw [pOpen_no (fun h => by rw [pDOk_yes h.1] at hp; cases hp)]
    repeat' (first | apply Jbq | apply Jbr | apply Jbs | apply Jbt | (refine Jce rfl ?_) | (apply Jcg; (first | exact Jaa rfl | exact Jah rfl rfl | exact Jaj rfl); exact rfl) | refine Jci rfl rfl rfl rfl rfl ?_ | refine Jcg (Pu_build (cs := stoC noSt (.slice none 0 0) (.slice none 0 0) (.slice none 0 0) (.slice none 0 0)) rfl (by kernel_rfl)) rfl ?_)
    refine TL_storeAgg rfl rfl Sz.h rfl hb6 rfl ?_
    intro w8 c8 hz8 hb8
    have E8 : Ext w w8 := Ext.then_iv E3 c8 (by omega)
    repeat' (first | apply Jbq | apply Jbr | apply Jbu | apply Jbv | (apply Jcg; exact Jab rfl; exact rfl))
    exact TR_of (resA1 rfl rfl rfl hb8 Us.h rfl Sz.h) ⟨_, _, _, _, rfl, E8, OSt.nil E8.size (Nat.le_refl _)⟩
  | true =>
    have hD := pDOk_of hp
    by_cases hk : 1 ≤ k ∧ k ≤ 100
    case neg =>
      rw [pOpen_no (fun h => hk ⟨h.2.1, h.2.2.1⟩)]
      repeat' (first | (apply Jcg; (first | exact Jaa rfl | exact Jaj rfl); exact rfl) | refine Jch rfl rfl rfl ?_)
      refine TL_call rfl en101 (in_f _ hk) rfl rfl ?_
      rintro _ _ ⟨rfl, rfl⟩
      repeat' (first | apply Jbq | apply Jbr | apply Jbs | apply Jbt | (refine Jce rfl ?_) | (apply Jcg; (first | exact Jaa rfl | exact Jah rfl rfl | exact Jai rfl rfl | exact Jaj rfl); exact rfl) | refine Jch rfl rfl rfl ?_ | refine Jci rfl rfl rfl rfl rfl ?_ | refine Jcg (Pu_build (cs := stoC noSt (.slice none 0 0) (.slice none 0 0) (.slice none 0 0) (.slice none 0 0)) rfl (by kernel_rfl)) rfl ?_)
      refine TL_storeAgg rfl rfl Sz.h rfl hb6 rfl ?_
      intro w8 c8 hz8 hb8
      have E8 : Ext w w8 := Ext.then_iv E3 c8 (by omega)
      repeat' (first | apply Jbq | apply Jbr | apply Jbu | apply Jbv | (apply Jcg; exact Jab rfl; exact rfl))
      exact TR_of (resA1 rfl rfl rfl hb8 Us.h rfl Sz.h) ⟨_, _, _, _, rfl, E8, OSt.nil E8.size (Nat.le_refl _)⟩
    by_cases hz : 0 ≤ z ∧ z ≤ 60000
    case neg =>
      rw [pOpen_no (fun h => hz ⟨h.2.2.2.1, h.2.2.2.2⟩)]
      repeat' (first | (apply Jcg; (first | exact Jaa rfl | exact Jaj rfl); exact rfl) | refine Jch rfl rfl rfl ?_)
      refine TL_call rfl en101 (in_t _ hk) rfl rfl ?_
      rintro _ _ ⟨rfl, rfl⟩
      repeat' (first | (apply Jcg; (first | exact Jaa rfl | exact Jai rfl rfl | exact Jaj rfl); exact rfl) | refine Jch rfl rfl rfl ?_)
      refine TL_call rfl en101 (in_f _ hz) rfl rfl ?_
      rintro _ _ ⟨rfl, rfl⟩
      repeat' (first | apply Jbq | apply Jbr | apply Jbs | apply Jbt | (refine Jce rfl ?_) | (apply Jcg; (first | exact Jai rfl rfl | exact Jaj rfl); exact rfl) | refine Jch rfl rfl rfl ?_ | refine Jcg (Pu_build (cs := stoC noSt (.slice none 0 0) (.slice none 0 0) (.slice none 0 0) (.slice none 0 0)) rfl (by kernel_rfl)) rfl ?_)
      refine TL_storeAgg rfl rfl Sz.h rfl hb6 rfl ?_
      intro w8 c8 hz8 hb8
      have E8 : Ext w w8 := Ext.then_iv E3 c8 (by omega)
      repeat' (first | apply Jbq | apply Jbr | apply Jbu | apply Jbv | (apply Jcg; exact Jab rfl; exact rfl))
      exact TR_of (resA1 rfl rfl rfl hb8 Us.h rfl Sz.h) ⟨_, _, _, _, rfl, E8, OSt.nil E8.size (Nat.le_refl _)⟩
    have hr : rangeK k z := ⟨hk.1, hk.2, hz.1, hz.2⟩
    obtain ⟨xA, hxA⟩ : ∃ x, x = opA d := ⟨_, rfl⟩
    obtain ⟨xB, hxB⟩ : ∃ x, x = opB xA := ⟨_, rfl⟩
    obtain ⟨xC, hxC⟩ : ∃ x, x = opC' xB := ⟨_, rfl⟩
    obtain ⟨xD, hxD⟩ : ∃ x, x = opCutx xC := ⟨_, rfl⟩
    obtain ⟨xE, hxE⟩ : ∃ x, x = stepD xD (oSync histT) := ⟨_, rfl⟩
    obtain ⟨y, hy⟩ : ∃ x, x = stepD xE oDir := ⟨_, rfl⟩
    obtain ⟨b, hb⟩ : ∃ b, b = (pRead xC.1 histT).1 := ⟨_, rfl⟩
    have hP := pOpen_is (k := k) (z := z) (x := xC) (y := y) (b := b) hD hr (by rw [hxC, hxB, hxA]) (by rw [hy, hxE, hxD]; rfl) hb
    repeat' (first | (apply Jcg; (first | exact Jaa rfl | exact Jaj rfl); exact rfl) | refine Jch rfl rfl rfl ?_)
    refine TL_call rfl en101 (in_t _ hk) rfl rfl ?_
    rintro _ _ ⟨rfl, rfl⟩
    repeat' (first | (apply Jcg; (first | exact Jaa rfl | exact Jai rfl rfl | exact Jaj rfl); exact rfl) | refine Jch rfl rfl rfl ?_)
    refine TL_call rfl en101 (in_t _ hz) rfl rfl ?_
    rintro _ _ ⟨rfl, rfl⟩
    repeat' (first | apply Jbq | apply Jbr | apply Jbs | apply Jbt | apply Jbz | (refine Jcf rfl ?_) | (apply Jcg; (first | exact Jai rfl rfl | exact Jaj rfl); exact rfl) | refine Jch rfl rfl rfl ?_ | refine Jcg (Pu_loadAgg (cs := dskC d sn sk st) Us.h rfl Sz.h rfl (fun _ e j u hu => by rw [e, add0, hb3.cell]; exact hu)) rfl ?_)
    refine TL_call rfl en66 (implcopyDisk_c (hh.ext E3) hl) rfl rfl ?_
    rintro _ w4 ⟨sn1, sk1, st1, rfl, e4, hx⟩
    replace hb6 := hb6.ext e4
    have hs4 := e4.size
    have E4 := E3.ext e4
    have hone : (drC d sn1 sk1 st1 0).all (·.oneCell') = true := by
      have := hx.one
      rw [show drC d sn1 sk1 st1 0 = dskC d sn1 sk1 st1 ++ [I 0] from rfl, List.all_append, this]; rfl
    repeat' (refine Jcg (Pu_build (cs := drC d sn1 sk1 st1 0) rfl (by kernel_rfl)) rfl ?_)
    refine TL_alloc Zs.h rfl rfl ?_
    intro w5 g8 e5 hg8 hz5 hb8
    replace hb6 := hb6.ext e5
    replace hx := hx.ext e5
    skip
    refine TL_storeAgg rfl rfl Sz.h hone hb8 rfl ?_
    clear hb8
    intro w6 c6 hz6 hb8
    replace hb6 := hb6.ch c6 (by simp only [Iv]; omega)
    replace hx := hx.ch c6 (by intro k _ _; simp only [Iv]; omega)
    have E6 : Ext w w6 := Ext.then_iv (E4.ext e5) c6 (by have := E4.size; omega)
    have hD6 : DrX w6 g8 (d, 0) sn1 sk1 st1 w3.heap.size w4.heap.size := ⟨hb8, hx, .inl (by omega), hf, hl⟩
    have hst0 : stepD (d, 0) oDir = xA := by rw [hxA]; unfold opA stepD; rw [if_pos rfl]
    clear hx hb8 hb3 hone
    repeat' (first | apply Jbq | apply Jbr | apply Jbs | apply Jbt | refine Jcg (Pu_build (cs := opC oDir (.slice none 0 0)) rfl (by kernel_rfl)) rfl ?_)
    refine TL_call rfl en102 (do_c (o := oDir) hD6 (rbn _) (fits_op _ _ _ _ (by omega) (by omega) (by simp) (by simp))) rfl rfl ?_
    rintro _ w7 ⟨rfl, c7, sn7, sk7, st7, lo7, hi7, hD7, hq7⟩
    rw [hst0] at hD7
    have hs7 := c7.size
    have hl7 : g6 < lo7 := by omega
    replace hb6 := hb6.ch c7 (by simp only [Iv]; omega)
    have E7 : Ext w w7 := Ext.then_iv E6 c7 (by omega)
    have hg8' : g6 < g8 ∧ g8 < w7.heap.size := by omega
    repeat' (first | apply Jbq | apply Jbr)
    refine TC_join (ι := Unit) (fun _ => [(1, I k), (2, I z), (6, .pointer (some ⟨g6, 0, none⟩)), (8, .pointer (some ⟨g8, 0, none⟩))]) (fun _ w' => Ext w w' ∧ w7.heap.size ≤ w'.heap.size ∧ Blk w' g6 66 (stoC noSt (.slice none 0 0) (.slice none 0 0) (.slice none 0 0) (.slice none 0 0)) ∧ (∃ sn sk st lo hi, DrX w' g8 xB sn sk st lo hi ∧ g6 < lo)) ?_ ?_
    · repeat' (first | apply Jbs | apply Jbt | (apply Jcg; (apply Jbl; exact Us.h; exact rfl; exact Sz.h; exact rfl); exact rfl) | refine Jcg (Pu_loadAgg (cs := dskC xA.1 sn7 sk7 st7) Us.h rfl Sz.h rfl (fun _ e j u hu => by rw [e]; exact hD7.ld j u hu)) rfl ?_)
      refine TL_call rfl en37 (implDiskRead_c (s := tempT) hD7.own.rd hD7.fits hD7.tot (by decide)) rfl rfl ?_
      rintro _ w8a ⟨v8, rfl, e8a, ho8⟩
      have hs8a := e8a.size
      have h8D := hD7.ext e8a
      have h8b := hb6.ext e8a
      have h8E := E7.ext e8a
      cases hr8 : (pRead xA.1 tempT).2 with
      | true =>
        repeat' (first | apply Jbq | apply Jbr | apply Jbs | apply Jbt | (refine Jce rfl ?_) | (apply Jcg; (first | exact Jaa rfl | exact Jab rfl | exact Jae rfl rfl); exact rfl) | refine Jcg (Pu_build (cs := opC (oRm tempT) (.slice none 0 0)) rfl (by kernel_rfl)) rfl ?_)
        refine TL_call rfl en102 (do_c (o := oRm tempT) h8D (rbn _) (fits_op _ _ _ _ (by omega) (by omega) (by decide) (by decide))) rfl rfl ?_
        rintro _ w8b ⟨rfl, c8, sn8, sk8, st8, lo8, hi8, h8D2, hq8⟩
        have hs8b := c8.size
        have hst : stepD xA (oRm tempT) = xB := by rw [hxB]; unfold opB; rw [hr8]; rfl
        rw [hst] at h8D2
        repeat' (apply Jbq)
        exact TN_join () (subEnv_cons rfl (subEnv_cons rfl (subEnv_cons rfl (subEnv_cons rfl (subEnv_nil _))))) ⟨Ext.then_iv h8E c8 (by omega), by omega, h8b.ch c8 (by simp only [Iv]; omega), _, _, _, _, _, h8D2, by omega⟩
      | false =>
        have hst : xB = xA := by rw [hxB]; unfold opB; rw [hr8]; rfl
        repeat' (first | apply Jbq | apply Jbr | apply Jbs | apply Jbt | apply Jbz | (refine Jcf rfl ?_) | (apply Jcg; (first | exact Jaa rfl | exact Jab rfl | exact Jae rfl rfl); exact rfl))
        exact TN_join () (subEnv_cons rfl (subEnv_cons rfl (subEnv_cons rfl (subEnv_cons rfl (subEnv_nil _))))) ⟨h8E, by omega, h8b, _, _, _, _, _, by rw [hst]; exact h8D, by omega⟩
    rintro _ w8 ⟨E8, hs8, hb68, sn8, sk8, st8, lo8, hi8, hD8, hl8⟩
    skip
    refine TC_join (ι := Unit) (fun _ => [(1, I k), (2, I z), (6, .pointer (some ⟨g6, 0, none⟩)), (8, .pointer (some ⟨g8, 0, none⟩))]) (fun _ w' => Ext w w' ∧ w7.heap.size ≤ w'.heap.size ∧ Blk w' g6 66 (stoC noSt (.slice none 0 0) (.slice none 0 0) (.slice none 0 0) (.slice none 0 0)) ∧ (∃ sn sk st lo hi, DrX w' g8 xC sn sk st lo hi ∧ g6 < lo)) ?_ ?_
    · repeat' (first | apply Jbs | apply Jbt | (apply Jcg; (apply Jbl; exact Us.h; exact rfl; exact Sz.h; exact rfl); exact rfl) | refine Jcg (Pu_loadAgg (cs := dskC xB.1 sn8 sk8 st8) Us.h rfl Sz.h rfl (fun _ e j u hu => by rw [e]; exact hD8.ld j u hu)) rfl ?_)
      refine TL_call rfl en37 (implDiskRead_c (s := histT) hD8.own.rd hD8.fits hD8.tot (by decide)) rfl rfl ?_
      rintro _ w9a ⟨v9, rfl, e9a, ho9⟩
      have hs9a := e9a.size
      have h9D := hD8.ext e9a
      have h9b := hb68.ext e9a
      have h9E := E8.ext e9a
      cases hr9 : (pRead xB.1 histT).2 with
      | false =>
        repeat' (first | apply Jbq | apply Jbr | apply Jbs | apply Jbt | (refine Jce rfl ?_) | (apply Jcg; (first | exact Jaa rfl | exact Jab rfl | exact Jae rfl rfl | exact Jaj rfl); exact rfl) | refine Jcg (Pu_build (cs := opC (oMk histT) (.slice none 0 0)) rfl (by kernel_rfl)) rfl ?_)
        refine TL_call rfl en102 (do_c (o := oMk histT) h9D (rbn _) (fits_op _ _ _ _ (by omega) (by omega) (by decide) (by decide))) rfl rfl ?_
        rintro _ w9b ⟨rfl, c9, sn9, sk9, st9, lo9, hi9, h9D2, hq9⟩
        have hs9b := c9.size
        have hst : stepD xB (oMk histT) = xC := by rw [hxC]; unfold opC'; rw [hr9]; rfl
        rw [hst] at h9D2
        repeat' (apply Jbq)
        exact TN_join () (subEnv_cons rfl (subEnv_cons rfl (subEnv_cons rfl (subEnv_cons rfl (subEnv_nil _))))) ⟨Ext.then_iv h9E c9 (by omega), by omega, h9b.ch c9 (by simp only [Iv]; omega), _, _, _, _, _, h9D2, by omega⟩
      | true =>
        have hst : xC = xB := by rw [hxC]; unfold opC'; rw [hr9]; rfl
        repeat' (first | apply Jbq | apply Jbr | apply Jbs | apply Jbt | apply Jbz | (refine Jcf rfl ?_) | (apply Jcg; (first | exact Jaa rfl | exact Jab rfl | exact Jae rfl rfl | exact Jaj rfl); exact rfl))
        exact TN_join () (subEnv_cons rfl (subEnv_cons rfl (subEnv_cons rfl (subEnv_cons rfl (subEnv_nil _))))) ⟨h9E, by omega, h9b, _, _, _, _, _, by rw [hst]; exact h9D, by omega⟩
    rintro _ w9 ⟨E9, hs9, hb69, sn9, sk9, st9, lo9, hi9, hD9, hl9⟩
    repeat' (first | apply Jbs | apply Jbt | (apply Jcg; (apply Jbl; exact Us.h; exact rfl; exact Sz.h; exact rfl); exact rfl) | refine Jcg (Pu_loadAgg (cs := dskC xC.1 sn9 sk9 st9) Us.h rfl Sz.h rfl (fun _ e j u hu => by rw [e]; exact hD9.ld j u hu)) rfl ?_)
    refine TL_call rfl en37 (implDiskRead_c (s := histT) hD9.own.rd hD9.fits hD9.tot (by decide)) rfl rfl ?_
    rintro _ w10 ⟨v10, rfl, e10, ho10⟩
    have hs10 := e10.size
    have hbl : b.length ≤ 1048576 := by rw [hb]; exact pRead_len _ _ hD9.tot
    rw [← hb] at ho10
    have ho10r := ho10.rd
    obtain ⟨Ab, cb, rfl, hcb, hrb⟩ := ho10r
    repeat' (first | apply Jbq | apply Jbr | apply Jbs | apply Jbt | (apply Jcg; (first | exact Jaa rfl | exact Jab rfl | exact Jae rfl rfl); exact rfl))
    refine TL_call rfl en103 (implScan_k ⟨_, _, rfl, hcb, hrb⟩ hbl) rfl rfl ?_
    rintro _ w11 ⟨vl, rfl, e11, hoe⟩
    have hs11 := e11.size
    have hn := (pScan_is b).2.2
    have e911 := e10.ext e11
    have hD11 := hD9.ext e911
    have hb611 := hb69.ext e911
    have E11 := E9.ext e911
    repeat' (first | apply Jbq | apply Jbr | (apply Jcg; (first | exact Jaa rfl | exact Jab rfl | exact Jae rfl rfl); exact rfl))
    refine TC_join (ι := Unit) (fun _ => [(1, I k), (2, I z), (6, .pointer (some ⟨g6, 0, none⟩)), (8, .pointer (some ⟨g8, 0, none⟩)), (15, vl), (16, I ((pScan b).2 : Int))]) (fun _ w' => Ext w w' ∧ w7.heap.size ≤ w'.heap.size ∧ Blk w' g6 66 (stoC noSt (.slice none 0 0) (.slice none 0 0) (.slice none 0 0) (.slice none 0 0)) ∧ (∃ sn sk st lo hi, DrX w' g8 xD sn sk st lo hi ∧ g6 < lo ∧ (hi ≤ w10.heap.size ∨ w11.heap.size ≤ lo)) ∧ OE w' w10.heap.size w11.heap.size vl (pScan b).1 ∧ w11.heap.size ≤ w'.heap.size) ?_ ?_
    · repeat' (first | apply Jbq | apply Jbr | apply Jbs | apply Jbt | (apply Jcg; (first | exact Jaa rfl | exact Jac Us.h rfl | exact Jad rfl rfl); exact rfl))
      refine Jcx rfl (fun hlt => ?_) (fun hge => ?_)
      · repeat' (first | apply Jbt | (apply Jcg; exact Jaa rfl; exact rfl) | refine Jcg (Pu_build (cs := opC (oCut histT ((pScan b).2 : Int)) (.slice none 0 0)) rfl (by kernel_rfl)) rfl ?_)
        refine TL_call rfl en102 (do_c (o := oCut histT ((pScan b).2 : Int)) hD11 (rbn _) (fits_op _ _ _ _ (by omega) (by omega) (by decide) (by simp))) rfl rfl ?_
        rintro _ w12 ⟨rfl, c12, sn12, sk12, st12, lo12, hi12, hD12, hq12⟩
        have hs12 := c12.size
        have hst : stepD xC (oCut histT ((pScan b).2 : Int)) = xD := by rw [hxD]; unfold opCutx; rw [← hb, if_pos (by omega)]
        rw [hst] at hD12
        repeat' (apply Jbq)
        exact TN_join () (subEnv_cons rfl (subEnv_cons rfl (subEnv_cons rfl (subEnv_cons rfl (subEnv_cons rfl (subEnv_cons rfl (subEnv_nil _))))))) ⟨Ext.then_iv E11 c12 (by omega), by omega, hb611.ch c12 (by simp only [Iv]; omega), ⟨_, _, _, _, _, hD12, by omega, by have := hD9.own.1; omega⟩, hoe.ch c12 (by intro k _ _; simp only [Iv]; omega), by omega⟩
      · have hst : xD = xC := by rw [hxD]; unfold opCutx; rw [← hb, if_neg (by omega)]
        repeat' (apply Jbz)
        exact TN_join () (subEnv_cons rfl (subEnv_cons rfl (subEnv_cons rfl (subEnv_cons rfl (subEnv_cons rfl (subEnv_cons rfl (subEnv_nil _))))))) ⟨E11, by omega, hb611, ⟨_, _, _, _, _, by rw [hst]; exact hD11, by omega, by have := hD9.own.1; omega⟩, hoe, by omega⟩
    clear hrb ho10 hoe hD11 hb611 E11
    rintro _ w12 ⟨E12, hs12, hb612, ⟨sn12, sk12, st12, lo12, hi12, hD12, hl12, hap12⟩, hoe, hs12'⟩
    repeat' (first | apply Jbs | apply Jbt | refine Jcg (Pu_build (cs := opC (oSync histT) (.slice none 0 0)) rfl (by kernel_rfl)) rfl ?_)
    refine TL_call rfl en102 (do_c (o := oSync histT) hD12 (rbn _) (fits_op _ _ _ _ (by omega) (by omega) (by decide) (by decide))) rfl rfl ?_
    rintro _ w13 ⟨rfl, c13, sn13, sk13, st13, lo13, hi13, hD13, hq13⟩
    rw [← hxE] at hD13
    have hs13 := c13.size
    repeat' (first | apply Jbq | apply Jbr | apply Jbs | apply Jbt | refine Jcg (Pu_build (cs := opC oDir (.slice none 0 0)) rfl (by kernel_rfl)) rfl ?_)
    refine TL_call rfl en102 (do_c (o := oDir) hD13 (rbn _) (fits_op _ _ _ _ (by omega) (by omega) (by decide) (by decide))) rfl rfl ?_
    rintro _ w14 ⟨rfl, c14, sn14, sk14, st14, lo14, hi14, hD14, hq14⟩
    rw [← hy] at hD14
    have hs14 := c14.size
    have E14 : Ext w w14 := Ext.then_iv (Ext.then_iv E12 c13 (by omega)) c14 (by omega)
    have hb614 := (hb612.ch c13 (by simp only [Iv]; omega)).ch c14 (by simp only [Iv]; omega)
    have hoe14 := (hoe.ch c13 (by intro k _ _; simp only [Iv]; omega)).ch c14 (by intro k _ _; simp only [Iv]; omega)
    have hb8y := hD14.blk
    have honeD := hD14.own.one
    have hone0 : (stoC ⟨y.1, k, z, [], 0⟩ sn14 sk14 st14 (.slice none 0 0)).all (·.oneCell') = true := by
      rw [show stoC ⟨y.1, k, z, [], 0⟩ sn14 sk14 st14 (.slice none 0 0) = dskC y.1 sn14 sk14 st14 ++ [I k, I z, .slice none 0 0, I 0] from rfl, List.all_append, honeD]; rfl
    have hll : g6 < lo14 := by omega
    repeat' (first | apply Jbq | apply Jbr | apply Jbs | apply Jbt | (apply Jcg; (first | exact Jaa rfl | (apply Jbl; exact Us.h; exact rfl; exact Sz.h; exact rfl)); exact rfl) | refine Jcg (Pu_loadAgg (cs := dskC y.1 sn14 sk14 st14) Us.h rfl Sz.h rfl (fun _ e j u hu => by rw [e]; exact hD14.ld j u hu)) rfl ?_ | refine Jcg (Pu_build (cs := stoC ⟨y.1, k, z, [], 0⟩ sn14 sk14 st14 (.slice none 0 0)) rfl (by kernel_rfl)) rfl ?_)
    refine TL_alloc Zs.h rfl rfl ?_
    intro w15 g17 e15 hg17 hz15 hb17
    skip
    refine TL_storeAgg rfl rfl Sz.h hone0 hb17 rfl ?_
    clear hb17
    intro w16 c16 hz16 hb17
    have e1416 : Ext w14 w16 := Ext.then_iv e15 c16 (by omega)
    have hD16 := hD14.ext e1416
    have hb616 := hb614.ext e1416
    have hoe16 := hoe14.ext e1416
    have E16 := E14.ext e1416
    have hb8x := hD16.blk
    have hvl : vl.oneCell' = true := by obtain ⟨A, c, rfl, _⟩ := hoe16; rfl
    repeat' (first | apply Jbq | apply Jbr)
    refine TC_join (ι := Value) (fun _ => [(6, .pointer (some ⟨g6, 0, none⟩)), (8, .pointer (some ⟨g8, 0, none⟩)), (17, .pointer (some ⟨g17, 0, none⟩))]) (fun sl w' => Ch (Iv g17 (g17 + 1)) w16 w' ∧ Blk w' g17 66 (stoC (pOpen d k z).1 sn14 sk14 st14 sl) ∧ (sl = vl ∧ (pOpen d k z).1.list = (pScan b).1 ∨ sl = .slice none 0 0 ∧ (pOpen d k z).1.list = [])) ?_ ?_
    · repeat' (first | apply Jbq | apply Jbr | apply Jbs | apply Jbt | (apply Jcg; (first | exact Jak rfl rfl | (apply Jbl; exact Us.h; exact rfl; exact Sz.h; exact rfl)); exact rfl) | refine Jcg (Pu_load Fl.h rfl (fun _ e => by rw [e]; exact hb8x.ld rfl)) rfl ?_)
      refine Jcx rfl (fun h0 => ?_) (fun h0 => ?_)
      · repeat' (first | apply Jbt | (apply Jcg; (first | exact Jaa rfl | (apply Jbl; exact Us.h; exact rfl; exact Sz.h; exact rfl)); exact rfl))
        refine TL_store rfl rfl Sz.h hvl hb17 rfl ?_
        intro w17 c17 hz17 hb177
        repeat' ((apply Jcg; (apply Jbl; exact Us.h; exact rfl; exact Sz.h; exact rfl); exact rfl))
        refine TL_store rfl rfl Sz.h rfl hb177 rfl ?_
        intro w18 c18 hz18 hb178
        repeat' (apply Jbq)
        refine TN_join vl (subEnv_cons rfl (subEnv_cons rfl (subEnv_cons rfl (subEnv_nil _)))) ⟨c17.then c18, ?_, .inl ⟨rfl, by rw [hP]; simp only [if_pos h0]⟩⟩
        rw [hP]
        simp only [if_pos h0]
        exact hb178
      · repeat' (apply Jbz)
        refine TN_join (.slice none 0 0) (subEnv_cons rfl (subEnv_cons rfl (subEnv_cons rfl (subEnv_nil _)))) ⟨Ch.refl _ _, ?_, .inr ⟨rfl, by rw [hP]; simp only [if_neg h0]⟩⟩
        rw [hP]
        simp only [if_neg h0]
        exact hb17
    rintro sl w17 ⟨c17, hb177, hsl⟩
    have hs17 := c17.size
    have hlt17 := hb177.lt
    have hd8 := hD16.own.ch c17 (by intro k _ _; simp only [Iv]; have := hD14.own.1; omega)
    have hb617 := hb616.ch c17 (by simp only [Iv]; omega)
    have hoe17 := hoe16.ch c17 (by intro k _ _; simp only [Iv]; omega)
    have hb817 := hb8x.ch c17 (by simp only [Iv]; omega)
    have E17 : Ext w w17 := Ext.then_iv E16 c17 (by have := E14.size; omega)
    have hdk : (pOpen d k z).1.disk = y.1 := by rw [hP]
    have hcd : (pOpen d k z).2 = y.2 := by rw [hP]
    obtain ⟨S, hS⟩ : ∃ S, S = (pOpen d k z).1 := ⟨_, rfl⟩
    rw [← hS] at hb177 hsl hdk ⊢
    rw [hcd]
    rw [← hdk] at hd8
    have hO : ∀ w', Ch (Iv g6 (g6 + 1)) w17 w' → OSt w' w.heap.size w'.heap.size S sn14 sk14 st14 sl := fun w' c => by
      have hcs := c.size
      have hd1 := hD14.own.1
      have h1 := hd8.ch c (by intro k _ _; simp only [Iv]; omega)
      rcases hsl with ⟨rfl, hsl⟩ | ⟨rfl, hsl⟩
      · refine ⟨lo14, hi14, w10.heap.size, w11.heap.size, h1, by rw [hsl]; exact hoe17.ch c (by intro k _ _; simp only [Iv]; omega), by omega, by omega, by omega, by omega, by omega, Nat.le_refl _⟩
      · have hEs := E17.size
        refine ⟨lo14, hi14, w.heap.size, w.heap.size, h1, by rw [hsl]; exact ⟨none, 0, rfl, Own.nil _ _ _ _ _ (by omega)⟩, .inr (by omega), by omega, Nat.le_refl _, by omega, by omega, Nat.le_refl _⟩
    have honeS : (stoC S sn14 sk14 st14 sl).all (·.oneCell') = true := (hO w17 (Ch.refl _ _)).one
    repeat' (apply Jbs)
    refine TC_anyS (fun w' => Ch (Iv g6 (g6 + 1)) w17 w') mixed rfl (Ch.refl _ _).drew ?_
    intro w18 e18 hz18 hE
    (refine Jco 0 rfl (by kernel_rfl) (by kernel_rfl) (by kernel_rfl) (fun _ _ _ h => h) hE (by exact Pu_loadAgg (cs := stoC S sn14 sk14 st14 sl) Us.h rfl Sz.h rfl (fun _ e j u hu => Ch.cell e (by rw [add0, hb177.cell]; exact hu) (by rw [block_of_add]; simp only [Iv]; omega))) rfl ?_; refine Jco 1 rfl (by kernel_rfl) (by kernel_rfl) (by kernel_rfl) (fun _ _ _ h => h) hE (by (apply Jbl; exact Us.h; exact rfl; exact Sz.h; exact rfl)) rfl ?_; refine Jco 2 rfl (by kernel_rfl) (by kernel_rfl) (by kernel_rfl) (fun _ _ _ h => h) hE (by exact Pu_load Fl.h rfl (fun _ e => Ch.cell e (hb817.ld rfl) (by rw [block_of_add]; simp only [Iv]; omega))) rfl ?_)
    refine TA_one 3 (by kernel_rfl) rfl ?_
    have hb618 := hb617.ext e18
    refine TL_storeAgg rfl rfl Sz.h honeS hb618 rfl ?_
    intro w19 c19 hz19 hb19
    replace hE := hE.then c19
    refine Jbq (TN_any hE ?_)
    (refine Jco 4 rfl (by kernel_rfl) (by kernel_rfl) (by kernel_rfl) (fun _ _ _ h => h) hE (by exact Jab rfl) rfl ?_)
    refine TA_done (by kernel_rfl) ?_
    repeat' (first | apply Jbr | apply Jbu)
    exact TR_of (resA1 rfl rfl rfl hb19 Us.h rfl Sz.h) ⟨sn14, sk14, st14, sl, rfl, Ext.then_iv (E17.ext e18) c19 (by omega), hO w19 ((Ch.mono e18 (fun _ t => t.elim)).then c19)⟩
end Go.Proofs.YtggaghghclomkaaGreat

/- What the laws of stores need: entries held against each other, a store with another fuse. No condition. -/
namespace Go.Proofs.YtggaghghclomkaaGreat
open Go.RowKit
section
variable {C : World → Prop} {n : Nat} {l : Env} {dd : Option Nat} {ty : TypeId} {pos : String} {af : Array Edge} {x y : Operand} {t' : TypeId}
variable {P : Program} {k : IntKind} {a b : Int} {t : TypeId}
end
theorem RE.eq {w : World} {lo hi : Nat} {v : Value} {l l' : List Ent} (h : RE w lo hi v l) (e : l = l') : RE w lo hi v l' := e ▸ h
theorem pLast_same {l : List Ent} {n : Int} (h : (pLast l n).length = l.length) : pLast l n = l := by
  unfold pLast at h ⊢
  rw [List.length_drop] at h
  by_cases h0 : l.length = 0
  · rw [List.eq_nil_of_length_eq_zero h0]; simp
  · rw [show l.length - min n.toNat l.length = 0 by omega, List.drop_zero]
/-- A live store with another fuse. -/
theorem Live.fused {s : StoreP} (h : Live s) {f : Int} (hf : -1 ≤ f ∧ f ≤ 1000) : SOk { s with disk := withFuse s.disk f } := by
  obtain ⟨p, H, h1, h2⟩ := h.hist
  have hl := h.ok.list
  have hd' : DOk (withFuse s.disk f) := h.ok.disk.withF hf
  have H' : Has (withFuse s.disk f) histT p := H
  have hb := h.ok.disk.bodyLe H.mem
  have hlog : pLog s.list = (s.list.flatMap frame, true) := by unfold pLog; rw [if_pos ⟨hl, by rw [← h1]; omega⟩]
  refine ⟨hd', h.ok.range, hl, .inr ⟨?_, ?_, ?_, ?_, ?_⟩⟩
  · simp only; rw [H'.read hd']
  · simp only; rw [hlog]
  · simp only; rw [H'.read hd', hlog]; exact h1
  · simp only; rw [hlog]; exact h.len
  · simp only; rw [read_none (d := withFuse s.disk f) h.temp]
theorem Live.fusedFits {s : StoreP} (h : Live s) {f : Int} (hf : -1 ≤ f ∧ f ≤ 1000) : StoreP.fits { s with disk := withFuse s.disk f } := ⟨(h.ok.disk.withF hf).fitsD, h.fitsS.2⟩
theorem Live.fusedTot {s : StoreP} (h : Live s) (f : Int) : totS { s with disk := withFuse s.disk f } ≤ 1048576 := h.tot
/-- Opening what a loss of power has left. -/
theorem open_crash {d : DiskP} {k z : Int} {tn : Int} {cuts : List Int} (hd : DOk (crashD d tn cuts)) (hh : dHas (pDir (crashD d tn cuts)) histT = true) (hr : rangeK k z) :
    (pOpen (crashD d tn cuts) k z).2 = 0 ∧ Live (pOpen (crashD d tn cuts) k z).1 ∧ (pOpen (crashD d tn cuts) k z).1.list = (pScan (pRead (crashD d tn cuts) histT).1).1 := by
  rcases open_law hd rfl hr with ⟨h1, h2, _, _, h3, _⟩ | ⟨_, _, h3, _⟩
  · exact ⟨h1, h2, h3⟩
  · rw [hh] at h3; cases h3
attribute [local irreducible] TL TC TN TX TR TQ TA Pu Ret
set_option maxHeartbeats 1000000 in
theorem sameEntries_l {w : World} {lo hi lo2 hi2 : Nat} {v v2 : Value} {t t2 : List Ent} (h : RE w lo hi v t) (h2 : RE w lo2 hi2 v2 t2) (hl : t.length ≠ t2.length) :
    Ret Tryz.prog 38 #[v, v2] w fun v' w' => v' = .bool false ∧ Ext w w' := by
  obtain ⟨A, c, rfl, _, hr⟩ := h
  obtain ⟨A2, c2, rfl, _, hr2⟩ := h2
  refine Ret_enter Tryz.func38 rfl rfl rfl ?_
  repeat' (first | apply Jbq | apply Jbr | apply Jbs | apply Jbt | (apply Jcg; (first | exact Jaa rfl | exact Jab rfl | exact Jac Us.h rfl | exact Jal rfl rfl); exact rfl))
  refine Jcy rfl (fun hb => ?_) (fun hb => absurd (by omega) hl)
  repeat' (first | apply Jbq | apply Jbr | apply Jbs | apply Jbt | apply Jbu | apply Jbv | (apply Jcg; exact Jab rfl; exact rfl))
  exact TR_of (res1 rfl rfl) ⟨rfl, Ch.refl _ _⟩
end Go.Proofs.YtggaghghclomkaaGreat
