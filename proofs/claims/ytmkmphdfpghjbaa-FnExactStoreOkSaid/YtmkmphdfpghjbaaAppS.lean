/- append of a text onto own bytes. No condition. -/
import Derived.Test.YtmkmphdfpghjbaaKind
import Derived.Lib.AppendStr
namespace Go.Proofs.Ytmkmphdfpghjbaa
open Go.RowKit
theorem strCells_u8s (s : List UInt8) : Lib.strCells ⟨s.toArray⟩ = u8s s := by simp [Lib.strCells, u8s]
section
variable {P : Program} {L : List Oper} {Q : Exit → Act → World → Prop} {n d : Nat} {l : Env} {w : World} {rest : List Oper} {ty : TypeId} {pos : String} {af : Array Edge} {v v2 : Value} {x y : Operand} {t u : TypeId}
theorem TL_appendS {lo hi : Nat} {s s2 : List UInt8} (ht : Try.prog.underlying t = some (.slice 5)) (hu : Try.prog.underlying u = some .string) (hx : ev l x = some v) (hy : ev l y = some (S s2)) (ho : OB w lo hi v s)
    (hlo : lo ≤ w.heap.size) (hm : s.length + s2.length ≤ 17592186044416) (hn : Nat.blt d n = true)
    (h : ∀ w' v', Ch (Iv lo hi) w w' → OB w' lo w'.heap.size v' (s ++ s2) → TL Try.prog L Q rest n ((d, v') :: l) w') :
    TL Try.prog L Q (⟨some d, .call { callee := .builtin .append, args := #[x, y], argTypes := #[t, u] }, ty, pos, af, none⟩ :: rest) n l w := by
  obtain ⟨A, c, rfl, ho⟩ := ho
  have hi0 := inf5
  cases hq : Try.prog.info? 5 with
  | none => simp [hq] at hi0
  | some inf =>
    simp only [hq, Option.map_some, Option.some.injEq, Prod.mk.injEq] at hi0
    obtain ⟨e1, e2, e3⟩ := hi0
    have hsz : (ByteArray.mk s2.toArray).size = s2.length := by simp [ByteArray.size]
    obtain ⟨v', w', hrun, hown, hg, _⟩ := Lib.run_append_own_string (P := Try.prog) w lo t u ty 5 inf ht hu hq e1 e2 e3 (.slice A s.length c) s.length (u8s s) ho.row ⟨s2.toArray⟩ (by rw [hsz]; simp only [maxLen]; omega) (by rw [hsz]; omega) hlo
    rw [hsz, strCells_u8s] at hown
    have hch : Ch (Iv lo hi) w w' := Ch.of_grown hg (fun k hk => by
      rcases A with _ | a1
      · simp [Value.ownBlock] at hk
      · simp [Value.ownBlock] at hk
        subst hk
        exact ⟨ho.ge _ rfl, ho.lt _ rfl⟩)
    have hob : OB w' lo w'.heap.size v' (s ++ s2) := by
      have hl : (s ++ s2).length = s.length + s2.length := List.length_append
      have hu8 : u8s (s ++ s2) = u8s s ++ u8s s2 := by simp [u8s]
      rcases hown.2 with ⟨hv, h0⟩ | ⟨g, cap, cur, hv, hgl, hgg, hrest⟩
      · refine ⟨none, 0, by rw [hv, hl, h0], ⟨Nat.le_refl _, ?_, fun ad h => by cases h⟩⟩
        rw [hl, hu8, h0, ← hv]
        rw [h0] at hown
        exact hown
      · refine ⟨some ⟨g, 0, none⟩, cap, by rw [hv, hl], ⟨Nat.le_refl _, ?_, fun ad h => ?_⟩⟩
        · rw [hl, hu8, ← hv]; exact hown
        · injection h with h; subst h; exact (Array.getElem?_eq_some_iff.1 hgg).1
    refine TL_run (w' := w') rfl rfl hn (fun a hs => ?_) (h w' v' hch hob)
    simp only [execOp, resolve, invoke, builtin, Sem.run_bind, Sem.run_pure, Result.andThen_ok, List.map_toArray, List.map_cons, List.map_nil, hs.eval hx, hs.eval hy, hrun]
end
end Go.Proofs.Ytmkmphdfpghjbaa
