/- FnTwice: the law answers true for every input and leaves its arguments as they were. Conditions: none but those of the given row. -/
import Derived.Test.YtggaghghclomkaaGreatQFEOFT25m
import Derived.Test.YtggaghghclomkaaGreatRows
namespace Go.Proofs.YtggaghghclomkaaGreat.FnTwiceP
open Go.RowKit Go.ChangeShapes Go.WideShapes Go.ChangeAt Go.Deep
open Go.ChangeMaps (open_string shut_string)
section
attribute [local irreducible] TL TC TN TX TR TQ TA Pu Ret
set_option maxRecDepth 100000 in
set_option maxHeartbeats 16000000 in
theorem law_c {v : Value} (code : List UInt8) (W : World) (p : RB W 0 W.heap.size v code) (bl : code.length ≤ 9223372036854775807) : Ret Tryz.prog 6 #[v] W fun v' w' => v' = .bool true ∧ Ext W w' := by
  refine Ret_enter Tryz.func6 rfl rfl rfl ?_
  have p0 := p
  obtain ⟨A, c, rfl, hc, _⟩ := p0
  repeat' (first | apply Jbq | apply Jbr | apply Jbs | apply Jbt | (apply Jcg; (first | exact Jaa rfl | exact Jab rfl | exact Jac Us.h rfl | exact Jam rfl rfl); exact rfl))
  refine Jcx rfl (fun hb => ?_) (fun hb => ?_)
  · repeat' (first | apply Jbq | apply Jbr | apply Jbs | apply Jbt | apply Jbu | apply Jbv | (apply Jcg; exact Jab rfl; exact rfl))
    exact TR_of (res1 rfl rfl) ⟨rfl, Ch.refl _ _⟩
  have hn : code.length ≤ 1048576 := by omega
  repeat' (first | apply Jbr | apply Jbs | apply Jbt | apply Jbz | (apply Jcg; exact Jaa rfl; exact rfl))
  refine TL_call rfl en33 (MakeDisk_n p hn) rfl rfl ?_
  rintro _ w1 ⟨d0, sn, sk, st, rfl, ⟨hD0, hN0⟩, E, hd⟩
  have z1 := E.size
  have oned := hd.one
  skip
  refine TL_alloc Zs.h rfl rfl ?_
  intro w2 ghbd0 e hghbd0 hzghbd0 hbd0
  replace hd := hd.ext e
  replace E := E.ext e
  have z2 := e.size
  clear e
  have hlthbd0 := hbd0.lt
  skip
  refine TL_storeAgg rfl rfl Sz.h oned hbd0 rfl ?_
  clear hbd0
  intro w3 c hzz hbd0
  replace hd := hd.ch c (by intro k _ _; simp only [Iv]; omega)
  replace E : Ext W _ := Ext.then_iv E c (by omega)
  have z3 := c.size
  clear c
  repeat' (first | apply Jbq | apply Jbr | apply Jbs | apply Jbt | (apply Jcg; (apply Jbl; exact Us.h; exact rfl; exact Sz.h; exact rfl); exact rfl))
  refine TL_store rfl rfl Sz.h rfl hbd0 rfl ?_
  intro w4 c hzz hbd9
  replace hd := hd.ch c (by intro k _ _; simp only [Iv]; omega)
  replace E : Ext W _ := Ext.then_iv E c (by omega)
  have z4 := c.size
  clear c
  obtain ⟨d, hdd⟩ : ∃ d, d = withFuse d0 (-1) := ⟨_, rfl⟩
  have hbd : Blk w4 ghbd0 33 (dskC d sn sk st) := by rw [hdd]; exact hbd9
  replace hd : RDk w4 W.heap.size w1.heap.size d sn sk st := by rw [hdd]; exact hd
  have hD : DOk d := by rw [hdd]; exact hD0.withF (by omega)
  have hfu : d.fuse = -1 := by rw [hdd]
  have hnx : d.next ≤ 22 := by rw [hdd]; exact hN0
  clear hbd9 hbd0 hdd
  have hfit := hD.fitsD
  have htot : totD d ≤ 1048576 := by have := hD.totD; omega
  have hlw := open_law (k := 3) (z := 50) hD hfu ⟨by omega, by omega, by omega, by omega⟩
  have hST := pOpen_tot d 3 50
  obtain ⟨S1, hS1⟩ : ∃ S, S = (pOpen d 3 50).1 := ⟨_, rfl⟩
  obtain ⟨c1, hc1⟩ : ∃ c, c = (pOpen d 3 50).2 := ⟨_, rfl⟩
  rw [← hS1, ← hc1] at hlw
  rw [← hS1] at hST
  repeat' (first | apply Jbq | apply Jbr | apply Jbs | apply Jbt | refine Jcg (Pu_loadAgg (cs := dskC d sn sk st) Us.h rfl Sz.h rfl (fun _ e j u hu => by rw [e, add0, hbd.cell]; exact hu)) rfl ?_)
  refine TL_call rfl en34 (implOpen_c hd hfit htot) rfl rfl ?_
  rintro _ w5 ⟨sn1, sk1, st1, sl1, rfl, e, h1⟩
  rw [← hS1] at h1 ⊢
  rw [← hc1]
  replace hd := hd.ext e
  replace hbd := hbd.ext e
  replace E := E.ext e
  have z5 := e.size
  clear e
  have one1 := h1.one
  repeat' ((apply Jcg; (first | exact Jaa rfl | exact Jae rfl rfl); exact rfl))
  refine TL_alloc Zs.h rfl rfl ?_
  intro w6 ghb1 e hghb1 hzghb1 hb1
  replace hd := hd.ext e
  replace hbd := hbd.ext e
  replace h1 := h1.ext e
  replace E := E.ext e
  have z6 := e.size
  clear e
  have hlthb1 := hb1.lt
  skip
  refine TL_storeAgg rfl rfl Sz.h one1 hb1 rfl ?_
  clear hb1
  intro w7 c hzz hb1
  replace hd := hd.ch c (by intro k _ _; simp only [Iv]; omega)
  replace hbd := hbd.ch c (by simp only [Iv]; omega)
  replace h1 := h1.ch c (by intro k _ _; simp only [Iv]; omega)
  replace E : Ext W _ := Ext.then_iv E c (by omega)
  have z7 := c.size
  clear c
  repeat' (first | apply Jbq | apply Jbr | apply Jbs | apply Jbt | (apply Jcg; exact Jab rfl; exact rfl) | refine Jcg (Pu_loadAgg (cs := dskC d sn sk st) Us.h rfl Sz.h rfl (fun _ e j u hu => by rw [e, add0, hbd.cell]; exact hu)) rfl ?_)
  refine TL_call rfl en35 (specOpen_c hd hfit htot) rfl rfl ?_
  rintro _ w8 ⟨sn2, sk2, st2, sl2, rfl, e, h2⟩
  rw [← hS1] at h2 ⊢
  rw [← hc1]
  replace hd := hd.ext e
  replace hbd := hbd.ext e
  replace h1 := h1.ext e
  replace hb1 := hb1.ext e
  replace E := E.ext e
  have z8 := e.size
  clear e
  have one2 := h2.one
  repeat' ((apply Jcg; (first | exact Jaa rfl | exact Jae rfl rfl); exact rfl))
  refine TL_alloc Zs.h rfl rfl ?_
  intro w9 ghb2 e hghb2 hzghb2 hb2
  replace hd := hd.ext e
  replace hbd := hbd.ext e
  replace h1 := h1.ext e
  replace hb1 := hb1.ext e
  replace h2 := h2.ext e
  replace E := E.ext e
  have z9 := e.size
  clear e
  have hlthb2 := hb2.lt
  skip
  refine TL_storeAgg rfl rfl Sz.h one2 hb2 rfl ?_
  clear hb2
  intro w10 c hzz hb2
  replace hd := hd.ch c (by intro k _ _; simp only [Iv]; omega)
  replace hbd := hbd.ch c (by simp only [Iv]; omega)
  replace h1 := h1.ch c (by intro k _ _; simp only [Iv]; omega)
  replace hb1 := hb1.ch c (by simp only [Iv]; omega)
  replace h2 := h2.ch c (by intro k _ _; simp only [Iv]; omega)
  replace E : Ext W _ := Ext.then_iv E c (by omega)
  have z10 := c.size
  clear c
  clear h2 hb2
  obtain ⟨A1, k1, hv1, hk1, hr1⟩ : ∃ A1 k1, sl1 = .slice A1 S1.list.length k1 ∧ S1.list.length ≤ k1 ∧ True := by
    obtain ⟨l1, q1, l2, q2, _, ⟨A1, k1, hv, ho⟩, _⟩ := h1
    exact ⟨A1, k1, hv, ho.cap.1, trivial⟩
  subst hv1
  rcases hlw with ⟨hc0, hL, _, _, hls, hrd⟩ | ⟨hc4, hl4, hno, h8⟩
  rotate_left
  · rw [hc4, hl4]
    rw [hl4] at h1 hb1
    have h88 : 8 ≤ (pDir d).length := by omega
    repeat' (first | apply Jbq | apply Jbr | apply Jbs | apply Jbt | apply Jbz | (refine Jce rfl ?_) | (refine Jcf rfl ?_) | (apply Jcg; (first | exact Jbm rfl rfl | exact Jaa rfl | exact Jab rfl | exact Jac Us.h rfl | exact Jak rfl rfl | exact Jal rfl rfl | (apply Jbl; exact Us.h; exact rfl; exact Sz.h; exact rfl)); exact rfl) | refine Jch rfl rfl rfl ?_ | refine Jcg (Pu_load Fl.h rfl (fun _ e => by rw [e]; exact hb1.ld rfl)) rfl ?_ | refine Jcg (Pu_loadAgg (cs := dskC d sn sk st) Us.h rfl Sz.h rfl (fun _ e j u hu => by rw [e, add0, hbd.cell]; exact hu)) rfl ?_)
    refine TL_call rfl en36 (implDiskDir_c hd hfit htot) rfl rfl ?_
    rintro v1 w11 ⟨e, hok⟩
    rw [pDirs_yes hD] at hok
    obtain ⟨Ak, ck, rfl, hok⟩ := hok
    repeat' (first | apply Jbq | apply Jbr | apply Jbu | apply Jbv | (apply Jcg; (first | exact Jab rfl | exact Jac Us.h rfl | exact Jah rfl rfl | exact Jam rfl rfl); exact rfl) | refine Jch rfl rfl rfl ?_)
    exact TR_of (res1 rfl rfl) ⟨by simp; omega, E.ext e⟩
  rw [hc0]
  have hD1 := hL.ok.disk
  have hfit1 := hD1.fitsD
  have htot1 : totD S1.disk ≤ 1048576 := by have := hD1.totD; omega
  have hlw2 := open_law (k := 3) (z := 50) hD1 hL.fuse ⟨by omega, by omega, by omega, by omega⟩
  have hST2 := pOpen_tot S1.disk 3 50
  obtain ⟨p1, H1, hp1, _⟩ := hL.hist
  have hrd1 : pRead S1.disk histT = (S1.list.flatMap frame, true) := by rw [H1.read hD1, hp1]
  obtain ⟨S2, hS2⟩ : ∃ S, S = (pOpen S1.disk 3 50).1 := ⟨_, rfl⟩
  obtain ⟨c2, hc2⟩ : ∃ c, c = (pOpen S1.disk 3 50).2 := ⟨_, rfl⟩
  rw [← hS2, ← hc2, hrd1] at hlw2
  rw [← hS2] at hST2
  have hfin : c2 = 0 ∧ Live S2 ∧ S2.list = S1.list ∧ pRead S2.disk histT = (S1.list.flatMap frame, true) := by
    rcases hlw2 with ⟨a1, a2, _, _, a5, a6⟩ | ⟨_, _, a3, _⟩
    · simp only [scan_whole hL.ok.list] at a5 a6
      rw [List.take_length] at a6
      obtain ⟨p2, H2, hp2, _⟩ := a2.hist
      refine ⟨a1, a2, a5, ?_⟩
      rw [H2.read a2.ok.disk, hp2, a5]
    · rw [H1.there] at a3; cases a3
  clear hlw2
  obtain ⟨hc20, hL2, hl2, hrd2⟩ := hfin
  repeat' (first | apply Jbq | apply Jbr | apply Jbs | apply Jbt | apply Jbz | (refine Jcf rfl ?_) | (apply Jcg; (first | exact Jbm rfl rfl | exact Jaa rfl | exact Jab rfl | (apply Jbl; exact Us.h; exact rfl; exact Sz.h; exact rfl)); exact rfl) | refine Jcg (Pu_loadAgg (cs := dskC S1.disk sn1 sk1 st1) Us.h rfl Sz.h rfl (fun _ e j u hu => blk_disk hb1 e j u hu)) rfl ?_)
  refine TL_call rfl en34 (implOpen_c (h1.rd.1) hfit1 htot1) rfl rfl ?_
  rintro _ w12 ⟨sn3, sk3, st3, sl3, rfl, e, h3⟩
  rw [← hS2] at h3 ⊢
  rw [← hc2, hc20]
  replace hd := hd.ext e
  replace hbd := hbd.ext e
  replace h1 := h1.ext e
  replace hb1 := hb1.ext e
  replace E := E.ext e
  have z12 := e.size
  clear e
  have one3 := h3.one
  repeat' ((apply Jcg; (first | exact Jaa rfl | exact Jae rfl rfl); exact rfl))
  refine TL_alloc Zs.h rfl rfl ?_
  intro w13 ghb3 e hghb3 hzghb3 hb3
  replace hd := hd.ext e
  replace hbd := hbd.ext e
  replace h1 := h1.ext e
  replace hb1 := hb1.ext e
  replace h3 := h3.ext e
  replace E := E.ext e
  have z13 := e.size
  clear e
  have hlthb3 := hb3.lt
  skip
  refine TL_storeAgg rfl rfl Sz.h one3 hb3 rfl ?_
  clear hb3
  intro w14 c hzz hb3
  replace hd := hd.ch c (by intro k _ _; simp only [Iv]; omega)
  replace hbd := hbd.ch c (by simp only [Iv]; omega)
  replace h1 := h1.ch c (by intro k _ _; simp only [Iv]; omega)
  replace hb1 := hb1.ch c (by simp only [Iv]; omega)
  replace h3 := h3.ch c (by intro k _ _; simp only [Iv]; omega)
  replace E : Ext W _ := Ext.then_iv E c (by omega)
  have z14 := c.size
  clear c
  have hD2 := hL2.ok.disk
  have hfit2 := hD2.fitsD
  have htot2 : totD S2.disk ≤ 1048576 := by have := hD2.totD; omega
  repeat' (first | apply Jbq | apply Jbr | apply Jbs | apply Jbt | (apply Jcg; (first | exact Jab rfl | (apply Jbl; exact Us.h; exact rfl; exact Sz.h; exact rfl)); exact rfl) | refine Jcg (Pu_loadAgg (cs := dskC S1.disk sn1 sk1 st1) Us.h rfl Sz.h rfl (fun _ e j u hu => blk_disk hb1 e j u hu)) rfl ?_)
  refine TL_call rfl en37 (implDiskRead_c (s := histT) h1.rd.1 hfit1 htot1 (by decide)) rfl rfl ?_
  rintro _ w15 ⟨va, rfl, e, ha⟩
  rw [hrd1] at ha ⊢
  simp only at ha
  replace hd := hd.ext e
  replace hbd := hbd.ext e
  replace h1 := h1.ext e
  replace hb1 := hb1.ext e
  replace h3 := h3.ext e
  replace hb3 := hb3.ext e
  replace E := E.ext e
  have z15 := e.size
  clear e
  repeat' (first | apply Jbq | apply Jbr | apply Jbs | apply Jbt | (apply Jcg; (first | exact Jaa rfl | exact Jab rfl | exact Jae rfl rfl | (apply Jbl; exact Us.h; exact rfl; exact Sz.h; exact rfl)); exact rfl) | refine Jcg (Pu_loadAgg (cs := dskC S2.disk sn3 sk3 st3) Us.h rfl Sz.h rfl (fun _ e j u hu => blk_disk hb3 e j u hu)) rfl ?_)
  refine TL_call rfl en37 (implDiskRead_c (s := histT) h3.rd.1 hfit2 htot2 (by decide)) rfl rfl ?_
  rintro _ w16 ⟨vb, rfl, e, hb4⟩
  rw [hrd2] at hb4 ⊢
  simp only at hb4
  replace hd := hd.ext e
  replace hbd := hbd.ext e
  replace h1 := h1.ext e
  replace hb1 := hb1.ext e
  replace h3 := h3.ext e
  replace hb3 := hb3.ext e
  replace ha := ha.ext e
  replace E := E.ext e
  have z16 := e.size
  clear e
  obtain ⟨Aa, ca, rfl, hca, hra⟩ := ha.rd
  obtain ⟨Ab, cb, rfl, hcb, hrb⟩ := hb4.rd
  clear ha hb4
  have hse := h3.rd.2
  rw [hl2] at hse
  repeat' (first | apply Jbq | apply Jbr | apply Jbs | apply Jbt | (apply Jcg; (first | exact Jaa rfl | exact Jab rfl | exact Jae rfl rfl | exact Jah rfl rfl | exact Jak rfl rfl | (apply Jbl; exact Us.h; exact rfl; exact Sz.h; exact rfl)); exact rfl) | refine Jch rfl rfl rfl ?_ | refine Jcg (Pu_load Fl.h rfl (fun _ e => by rw [e]; exact hb1.ld rfl)) rfl ?_ | refine Jcg (Pu_load Fl.h rfl (fun _ e => by rw [e]; exact hb3.ld rfl)) rfl ?_)
  have htl := (totS_parts hST).2
  refine TL_call rfl en38 (sameEntries_c h1.rd.2 hse htl) rfl rfl ?_
  rintro _ w17 ⟨rfl, e⟩
  clear hse
  replace hd := hd.ext e
  replace hbd := hbd.ext e
  replace h1 := h1.ext e
  replace hb1 := hb1.ext e
  replace h3 := h3.ext e
  replace hb3 := hb3.ext e
  replace hra := hra.ext e
  replace hrb := hrb.ext e
  replace E := E.ext e
  have z17 := e.size
  clear e
  repeat' (first | (apply Jcg; (first | exact Jbp rfl rfl | exact Jaa rfl | exact Jah rfl rfl); exact rfl) | refine Jch rfl rfl rfl ?_ | refine Jcg (Pu_string Us.h Us.h Us.h rfl (fun w' e => by rw [e]; exact ⟨_, _, hra⟩)) rfl ?_ | refine Jcg (Pu_string Us.h Us.h Us.h rfl (fun w' e => by rw [e]; exact ⟨_, _, hrb⟩)) rfl ?_ | refine Jcg (Pu_loadAgg (cs := stoC S2 sn3 sk3 st3 sl3) Us.h rfl Sz.h rfl (fun _ e j u hu => by rw [e, add0, hb3.cell]; exact hu)) rfl ?_)
  refine TL_call rfl en39 (implStoreOk_c h3.rd hL2.fitsS hST2) rfl rfl ?_
  rintro _ w18 ⟨rfl, e⟩
  rw [pSOk_yes hL2.ok]
  repeat' (first | apply Jbq | apply Jbr | apply Jbu | (apply Jcg; (first | exact Jab rfl | exact Jah rfl rfl); exact rfl))
  exact TR_of (res1 rfl rfl) ⟨rfl, E.ext e⟩
end
theorem own : ownKnob Tryz.prog.godebug = none := by kernel_rfl
theorem laidOut : laidOutB Tryz.prog = true := by kernel_rfl
set_option maxRecDepth 100000 in
theorem lifted (os : Os) (started : os.Started) (H : Type) (enc : TypeId × Value → H) :
    ReturnsInHanded {} Tryz.checked os 6 .any (Rows.fnTwiceSpec.pre6 enc Tryz.prog Tryz.f6 Rows.fnTwiceRow.domain false) (Rows.fnTwiceSpec.post enc Tryz.prog Tryz.f6 false true false false) := by
  refine returnsInHanded_of_change (C := Tryz.checked) own started (by kernel_rfl) Tryz.func6
    (ChangeSpec.witness6 (enc := enc) (C := Tryz.checked) false ⟨#[], #[.slice none 0 0], []⟩ 8 (by kernel_rfl) (by kernel_rfl) (by kernel_rfl) (by kernel_rfl)) ?_
  intro W base args ds gs before hval0 hW hcnd _
  have hval : ∀ (j : Nat) t v, Tryz.f6.params[j]? = some t → args[j]? = some v → Value.okWide Tryz.prog W .any base t v := hval0
  have hW' := hW
  obtain ⟨p, q, hA0, hV, rfl, hfz, hnd⟩ := hW
  have hA : DataW.TrodAll enc Tryz.prog W 0 (fun _ => true) true Tryz.f6.params.toList args.toList ds p := hA0
  rw [Tryz.params6] at hA hval
  obtain ⟨v0, vs0, d0, ds0, p0, q0, hargs, rfl, rfl, h0, r0⟩ := trodAll_cons hA
  obtain ⟨rfl, rfl, rfl⟩ := trodAll_nil r0
  obtain rfl : args = #[v0] := by cases args; simp_all
  obtain ⟨rfl, rfl⟩ := trodVars_none hV
  have k0 := h0
  have lt0 : ∀ x ∈ p0, x.block < W.heap.size := by obtain ⟨m, hm⟩ := k0; exact DataW.trod_lt m _ _ _ hm
  obtain ⟨a0, len0, cap0, rfl⟩ := okWide_slice Tryz.underlying43 (hval 0 43 v0 rfl rfl)
  obtain ⟨fuel0, hf0⟩ := h0
  obtain ⟨A0, c0, code, e0, b0, m0, R0⟩ := arg_bytes Tryz.underlying43 Tryz.underlying5 (by kernel_rfl) hf0
  clear hA0 hval0
  have hc := law_c code W ⟨_, _, rfl, b0, R0⟩ (by omega)
  have hc : Calls Tryz.prog 6 _ W _ := hc
  rw [← e0] at hc
  refine hc.mono fun e W' ⟨v, he, hv, hx⟩ => ?_
  subst hv
  subst he
  have bel := Ch.below hx
  exact ⟨_, rfl, _, _, _, [], _, [], hW', trodAll_mk1 (shut_bool Tryz.underlying4 _), (trodAll_cons_mk (Below.trod laidOut (by kernel_rfl) (of_decide_eq_true (by kernel_rfl)) k0 bel lt0) trodAll_mk0), rfl, bel.frame _, fun h => by cases h⟩
theorem over : Rows.fnTwiceRow.holds Tryz.pinned (OpenSpec.ofChange Rows.fnTwiceSpec) :=
  OpenClaim.holds_of_wide 6 Tryz.f6 rfl rfl rfl rfl rfl rfl rfl ⟨rfl, rfl, rfl, rfl, rfl⟩ rfl rfl rfl rfl rfl (by kernel_rfl) Tryz.func6 (by kernel_rfl)
    (of_decide_eq_true (by kernel_rfl)) (by unfold Func.isWrapper; first | (rw [if_pos (by decide +kernel)]; kernel_rfl) | (rw [if_neg (by decide +kernel)]; exact ⟨rfl, rfl⟩))
    (fun os started H enc _ => lifted os started H enc)
theorem proved : Rows.FnTwiceSaid := over
#print axioms proved
end Go.Proofs.YtggaghghclomkaaGreat.FnTwiceP
