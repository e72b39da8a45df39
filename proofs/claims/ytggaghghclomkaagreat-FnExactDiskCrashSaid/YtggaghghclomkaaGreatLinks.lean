/- Contracts: a directory's links in the order of their names. -/
import Derived.Test.YtggaghghclomkaaGreatSortL
import Derived.Test.YtggaghghclomkaaGreatShelfS
import Derived.Test.YtggaghghclomkaaGreatDokI
namespace Go.Proofs.YtggaghghclomkaaGreat
open Go.RowKit
attribute [local irreducible] TL TC TN TX TR TQ TA Pu Ret
noncomputable def infT : TypeInfo := (Tryz.prog.info? 30).get (by kernel_rfl)
noncomputable def infE : TypeInfo := (Tryz.prog.info? 162).get (by kernel_rfl)
theorem swK (n : Nat) (h2 : 2 ≤ n) : Lib.swapperK n infE 25 = 9 := by
  have a : infE.hasPointers = true := by kernel_rfl
  have b : infE.bytes = 24 := by kernel_rfl
  have c : (n == 0) = false := by simp; omega
  have d : (n == 1) = false := by simp; omega
  simp [Lib.swapperK, a, b, c, d]
set_option maxHeartbeats 1000000 in
theorem less_c {w : World} {g b c size : Nat} {dk : Array LkD} {i j : Nat} (hs : w.cell? ⟨b, 0, none⟩ = some (.slice (some ⟨g, 0, none⟩) size c))
    (hc : ∀ t, t < size → w.cell? ⟨g, t * 2, none⟩ = some (S dk[t]!.name)) (hi : i < size) (hj : j < size) (hsz : size < 4611686018427387904) :
    Ret Tryz.prog 144 #[I i, I j, .pointer (some ⟨b, 0, none⟩)] w fun v w' => v = .bool (ltK dk[i]! dk[j]!) ∧ ∃ q, w' = w.drewN q := by
  have ci := hc i hi
  have cj := hc j hj
  refine Ret_enter Tryz.func144 rfl rfl rfl ?_
  repeat' (first | apply Jbq | apply Jbr | apply Jbs | apply Jbt | (apply Jcg; exact Jab rfl; exact rfl))
  refine TC_quiet (fun w' => ∃ q, w' = w.drewN q) mixed (by kernel_rfl) ⟨1, rfl⟩ ?_
  repeat' (first | (apply Jck; (first | exact Jaa rfl | exact Jab rfl | exact Jar Us.h Sz.h rfl rfl (by omega) | (apply Jbl; exact Us.h; exact rfl; exact Sz.h; exact rfl)); exact rfl) | refine Jck (v := .slice (some ⟨g, 0, none⟩) size c) (Pu_load Fl.h rfl (fun w' hw => by obtain ⟨q, rfl⟩ := hw; exact hs)) rfl ?_ | refine Jck (v := S dk[i]!.name) (Pu_load Fl.h rfl (fun w' hw => by obtain ⟨q, rfl⟩ := hw; rw [add_of_add, add0]; simpa using ci)) rfl ?_ | refine Jck (v := S dk[j]!.name) (Pu_load Fl.h rfl (fun w' hw => by obtain ⟨q, rfl⟩ := hw; rw [add_of_add, add0]; simpa using cj)) rfl ?_ | (apply Jck; exact Pu_lsss rfl rfl; exact rfl))
  refine TQ_nil fun w' hw => ?_
  repeat' (first | apply Jbr | apply Jbu)
  exact TR_of (res1 rfl rfl) ⟨by rw [less_before]; rfl, hw⟩
theorem sort_c {w : World} {g g3 c lo hi : Nat} {A : List LkD} (ho : Own w lo hi 162 2 (some ⟨g, 0, none⟩) A.length c (cellsL LkC A)) (hb : Blk w g3 30 [.slice (some ⟨g, 0, none⟩) A.length c]) (hg : g ≠ g3) (h12 : A.length ≤ 12) :
    Ret Tryz.prog 143 #[.iface 30 (.slice (some ⟨g, 0, none⟩) A.length c), .func (.func 144) #[] #[.pointer (some ⟨g3, 0, none⟩)]] w fun v w' =>
      v = .tuple #[] ∧ ∃ B : List LkD, B.Perm A ∧ (∀ i j, i < j → j < B.length → ltK B[j]! B[i]! = false) ∧ Ch (Iv g (g + 1)) w w' ∧ Own w' lo hi 162 2 (some ⟨g, 0, none⟩) A.length c (cellsL LkC B) := by
  have hgl : g < w.heap.size := Nat.lt_of_lt_of_le (ho.lt _ rfl) ho.hi_le
  have hH := holdsK_own ho
  rcases Nat.lt_or_ge A.length 2 with h1 | h2
  · obtain ⟨f, hf⟩ : ∃ f, Tryz.prog.funcs.findIdx? (·.name == "internal/reflectlite" ++ ".Swapper$" ++ toString (Lib.swapperK A.length infE 25)) = some f := by
      rcases Nat.lt_or_ge A.length 1 with h | h
      · rw [show A.length = 0 by omega]; exact ⟨182, by kernel_rfl⟩
      · rw [show A.length = 1 by omega]; exact ⟨183, by kernel_rfl⟩
    have h := Any.sort_Slice_tiny Tryz.laysGg6 30 162 infT infE (by kernel_rfl) (by kernel_rfl) (by kernel_rfl) (by kernel_rfl) 25 (fun _ => by kernel_rfl) (some ⟨g, 0, none⟩) A.length c (by omega) f hf (.func 144) #[] #[.pointer (some ⟨g3, 0, none⟩)] w
    change Calls Tryz.prog 143 _ _ _ at h
    unfold Ret
    refine Calls.mono h fun e w' ⟨he, os, hw⟩ => ⟨_, he, rfl, A, List.Perm.refl _, fun i j hij hj => by omega, ?_, ?_⟩
    · subst hw; exact Ch.mono (grow_ch w os) (fun _ t => t.elim)
    · subst hw; exact ho.ext (grow_ch w os)
  · have hless : LessReadsK Tryz.prog 144 #[.pointer (some ⟨g3, 0, none⟩)] LkC 2 ltK g 0 A.toArray.size w := by
      intro m os dk hs i j hi hj
      have e : sortWorldK LkC 2 w g 0 m dk os = Sort.putRowK LkC 2 (Sort.grow (Sort.ahead w m) os) g 0 dk := by
        unfold sortWorldK; rw [Sort.putRowK_grow _ _ (Sort.ahead w m) _ g 0 _ hgl]
      have hHg : Sort.HoldsK LkC 2 (Sort.grow (Sort.ahead w m) os) g 0 A.toArray := Sort.holdsK_grow _ _ _ _ g 0 _ hgl (Sort.holdsK_ahead _ _ _ _ _ _ _ hH)
      have hl := less_c (w := sortWorldK LkC 2 w g 0 m dk os) (g := g) (b := g3) (c := c) (size := A.length) (dk := dk) (i := i) (j := j) ?_ (fun t ht => ?_) (by simpa using hi) (by simpa using hj) (by omega)
      · unfold Ret at hl
        exact Calls.mono hl fun e w' ⟨v, he, hv, hq⟩ => ⟨by rw [he, hv], hq⟩
      · rw [e, Sort.cell?_putRowK_other _ _ _ g 0 dk _ (fun h => hg h.symm), Sort.cell?_grow _ _ _ hb.lt]
        show w.cell? _ = _
        rw [hb.cell]; rfl
      · rw [e]
        have := ((Sort.holdsK_putRowK _ _ _ g 0 _ dk hHg hs).cell (i := t) (c := 0) (by rw [hs]; simpa using ht) (by omega)).1
        simpa [LkC] using this
    have h := Any.sort_Slice_small_cells_sorted Tryz.laysGg6 30 162 infT infE (by kernel_rfl) (by kernel_rfl) (by kernel_rfl) (by kernel_rfl) 25 (fun _ => by kernel_rfl) LkC 2 LkC_len (by kernel_rfl) (fun _ => by kernel_rfl)
      LkC_one ltK swoK 144 #[.pointer (some ⟨g3, 0, none⟩)] en144 g 0 c A.toArray (by simpa using h2) (by simpa using h12) 190 (by rw [swK _ (by simpa using h2)]; kernel_rfl) false
      (fun args W => run_callFunc_extern Tryz.func190 (by kernel_rfl) (by kernel_rfl) (by kernel_rfl) (e := Extern.ReflectliteSwapper.swap false) (by kernel_rfl) args W) w hless hH hgl
    change Calls Tryz.prog 143 _ _ _ at h
    unfold Ret
    refine Calls.mono h fun e w' ⟨he, d', n, os, hp, hso, hw⟩ => ⟨_, he, rfl, d'.toList, ?_, fun i j hij hj => ?_, ?_⟩
    · have h3 := hp.2.2
      have e1 : d'.extract 0 A.toArray.size = d' := by rw [← hp.1]; simp
      have e2 : A.toArray.extract 0 A.toArray.size = A.toArray := by simp
      rw [e1, e2] at h3
      simpa using h3
    · have h3 := hso i j (Nat.zero_le _) hij (by have := hp.1; simp at this hj; simp; omega)
      have key : ∀ k : Nat, d'.toList[k]! = d'[k]! := fun k => by simp only [getElem!_def, Array.getElem?_toList]
      rw [key, key]
      exact h3
    · have h3 := Own.sorted (m := n) (l' := d'.toList) ho (by have := hp.1; simpa using this) os
      rw [show d'.toList.toArray = d' from rfl] at h3
      rw [hw]; exact h3
theorem sort_r {w : World} {g3 lo hi : Nat} {v : Value} {A : List LkD} (ho : RowO LkC 162 2 w lo hi v A) (hb : Blk w g3 30 [v]) (hg : g3 < lo) (h12 : A.length ≤ 12) :
    Ret Tryz.prog 143 #[.iface 30 v, .func (.func 144) #[] #[.pointer (some ⟨g3, 0, none⟩)]] w fun u w' =>
      u = .tuple #[] ∧ ∃ B : List LkD, B.Perm A ∧ (∀ i j, i < j → j < B.length → ltK B[j]! B[i]! = false) ∧ Ch (Iv lo hi) w w' ∧ RowO LkC 162 2 w' lo hi v B := by
  obtain ⟨p, c, rfl, ho⟩ := ho
  rcases ho.head with rfl | ⟨g, rfl, h1, h2⟩
  · have h0 : A.length = 0 := by
      rcases Nat.eq_zero_or_pos A.length with h | h
      · exact h
      · obtain ⟨ad, h, _⟩ := ho.rd.at_ h; cases h
    have h := Any.sort_Slice_tiny Tryz.laysGg6 30 162 infT infE (by kernel_rfl) (by kernel_rfl) (by kernel_rfl) (by kernel_rfl) 25 (fun _ => by kernel_rfl) none A.length c (by omega) 182 (by rw [h0]; kernel_rfl) (.func 144) #[] #[.pointer (some ⟨g3, 0, none⟩)] w
    change Calls Tryz.prog 143 _ _ _ at h
    unfold Ret
    refine Calls.mono h fun e w' ⟨he, os, hw⟩ => ⟨_, he, rfl, A, List.Perm.refl _, fun i j hij hj => by omega, ?_, ?_⟩
    · subst hw; exact Ch.mono (grow_ch w os) (fun _ t => t.elim)
    · subst hw; exact ⟨_, _, rfl, ho.ext (grow_ch w os)⟩
  · refine (sort_c ho hb (by omega) h12).mono fun u w' ⟨hu, B, hp, hs, hc, hown⟩ => ⟨hu, B, hp, hs, hc.mono (fun k hk => by simp only [Iv] at *; omega), ?_⟩
    have : A.length = B.length := hp.length_eq.symm
    rw [this] at hown ⊢
    exact ⟨_, _, rfl, hown⟩
set_option maxHeartbeats 2000000 in
theorem links_c {w : World} {b k : Nat} {L : List LkD} (hM : MD w b k L) (ha : Asc L) (hl : L.length ≤ 12) :
    Ret Tryz.prog 69 #[.map (some b)] w fun v w' => Ext w w' ∧ RowO LkC 162 2 w' w.heap.size w'.heap.size v L := by
  have hbl := World.ownsMap.lt hM
  refine Ret_enter Tryz.func69 rfl rfl rfl ?_
  repeat' (first | apply Jbq | apply Jbr | apply Jbs | apply Jbt | (apply Jcg; exact Jab rfl; exact rfl))
  refine TL_alloc Zs.h rfl rfl ?_
  intro w1 g3 e1 hg1 hz1 hb1
  replace hM := hM.ext e1
  repeat' (first | apply Jbq | apply Jbr | apply Jbs | apply Jbt | (apply Jcg; exact Jaa rfl; exact rfl))
  refine TL_range rfl hM rfl ?_
  intro w2 r e2 hr hz2 hR
  repeat' (first | apply Jbq | apply Jbr | apply Jby)
  refine TC_loop (ι := Nat) (fun _ => [(3, .pointer (some ⟨g3, 0, none⟩)), (7, .pointer (some ⟨r, 0, none⟩))])
    (fun cnt w' => ∃ left ss vo, MR w' b r k L left cnt ∧ Collected (toD L) left ss ∧ ss.length + cnt ≤ L.length ∧ Blk w' g3 30 [vo] ∧ RowO LkC 162 2 w' (r + 1) w'.heap.size vo (ss.map fun s => (⟨s, dFind L s⟩ : LkD)) ∧ Ext w w') (fun cnt => cnt) L.length
    (subEnv_cons rfl (subEnv_cons rfl (subEnv_nil _))) ⟨_, [], .slice none 0 0, hR, Collected.start _, by simp, hb1.ext e2, RowO.nil _ _ (by omega), e1.ext e2⟩ ?_
  rintro cnt w3 ⟨left, ss, vo, hR3, hC, hlen, hb3, hrow, E3⟩
  have hs3 := E3.size
  have hrl := World.ranges.lt hR3
  repeat' (first | apply Jbs | apply Jbt)
  refine TL_next rfl hR3 rfl (fun h0 => ?_) (fun s w4 cnt' hlk hs hat hR4 hcnt c4 hz4 hent => ?_)
  · have hperm := hC.perm (World.ranges.owns hR3) kStr Tryz.underlying9 h0
    rw [strKeys_toD] at hperm
    have hperm2 := hperm.map (fun s => (⟨s, dFind L s⟩ : LkD))
    rw [asc_gather ha] at hperm2
    repeat' (first | apply Jbq | apply Jbr | apply Jbs | apply Jbt | apply Jca | apply Jcb | apply Jcc | (refine Jcf rfl ?_) | (apply Jcg; exact Jae rfl rfl; exact rfl) | refine Jcg (v := vo) (Pu_load Fl.h rfl (fun _ e => by rw [e, hb3.cell]; rfl)) rfl ?_ | refine Jcg (Pu_iface Us.h rfl) rfl ?_ | refine Jcg (Pu_func1 rfl) rfl ?_)
    refine TL_call rfl en143 (sort_r hrow hb3 (by omega) (by rw [hperm2.length_eq]; exact hl)) rfl rfl ?_
    rintro _ w4 ⟨rfl, B, hp, hsd, c4, hown⟩
    obtain rfl := asc_unique (hp.trans hperm2) ha hsd
    have hb4 := hb3.ch c4 (by simp only [Iv]; omega)
    repeat' (first | apply Jbq | apply Jbr | apply Jbs | apply Jbt | apply Jbu | (apply Jcg; exact Jab rfl; exact rfl) | refine Jcg (v := vo) (Pu_load Fl.h rfl (fun _ e => by rw [e, hb4.cell]; rfl)) rfl ?_)
    have hs4 := c4.size
    exact TR_of (res1 rfl rfl) ⟨Ext.then_iv E3 c4 (by omega), hown.wide (by omega) (by omega) (Nat.le_refl _)⟩
  · have hb4 := hb3.ch c4 (by simp only [Iv]; omega)
    have hrow4 := hrow.ch c4 (by intro j _ _; simp only [Iv]; omega)
    have E4 : Ext w w4 := Ext.then_iv E3 c4 (by omega)
    have hC4 := hC.step hlk hat
    repeat' (first | apply Jbq | apply Jbr | apply Jbs | apply Jbt | apply Jby | apply Jbz | (refine Jce rfl ?_) | (apply Jcg; (first | exact Jaa rfl | exact Jab rfl | exact Jae rfl rfl); exact rfl) | refine Jcg (Pu_entryG rfl (fun _ e => by rw [e]; exact hent)) rfl ?_ | refine Jcg (v := vo) (Pu_load Fl.h rfl (fun _ e => by rw [e, hb4.cell]; rfl)) rfl ?_ | refine Jcg (Pu_build (cs := LkC ⟨s, dFind L s⟩) rfl (by kernel_rfl)) rfl ?_)
    refine TL_buildSlice Us.h Zi.h rfl rfl rfl rfl (fillK ⟨s, dFind L s⟩) rfl rfl ?_
    intro w5 g5 e5 hg5 hz5 hown5
    have hrow5 := hrow4.ext e5
    skip
    refine TL_appendRow Us.h Inf.h rfl rfl rfl LkC_one rfl rfl hrow5 (lk_own hown5 rfl hg5 hz5).rd (by omega) (by simp only [List.length_map, List.length_cons, List.length_nil]; omega) rfl ?_
    intro w6 v6 c6 ho6
    have hR5 := hR4.ch e5 (fun t => t) (fun t => t)
    have hR6 := hR5.ch c6 (by simp only [Iv]; omega) (by simp only [Iv]; omega)
    have hb6 := (hb4.ext e5).ch c6 (by simp only [Iv]; omega)
    have hs6 := c6.size
    skip
    refine TL_store (off := 0) rfl rfl Sz.h ho6.rd.one hb6 rfl ?_
    intro w7 c7 hz7 hb7
    have hR7 := hR6.ch c7 (by simp only [Iv]; omega) (by simp only [Iv]; omega)
    have ho7 := ho6.ch c7 (by intro j _ _; simp only [Iv]; omega)
    repeat' (first | apply Jbq | apply Jbx)
    exact TN_round cnt' (subEnv_cons rfl (subEnv_cons rfl (subEnv_nil _))) ⟨_, ss ++ [s], v6, hR7, hC4, by simp only [List.length_append, List.length_cons, List.length_nil]; omega, hb7, by rw [hz7, List.map_append]; exact ho7, Ext.then_iv (Ext.then_iv (E4.ext e5) c6 (by omega)) c7 (by omega)⟩ hcnt
end Go.Proofs.YtggaghghclomkaaGreat
