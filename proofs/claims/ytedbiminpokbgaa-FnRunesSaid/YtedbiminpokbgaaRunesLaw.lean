/- Runes and their texts: what the law asks of them. No condition. -/
import Derived.Test.YtedbiminpokbgaaRunesOf
import Derived.Test.YtedbiminpokbgaaTextOf
namespace Go.Proofs.Ytedbiminpokbgaa
open Go.RowKit

theorem rd_enc {b : List UInt8} {a : Nat} {r : Int} (hp : pRuneOk r = true) (h : ∀ i, i < (pRuneBytes r).length → b.getD (a + i) 0 = (pRuneBytes r).getD i 0) : rd b a (pRuneBytes r).length = r := by
  have hp' := hp
  simp only [pRuneOk, decide_eq_true_eq] at hp'
  by_cases c1 : r < 128
  · rw [rb1 hp c1] at h ⊢
    have h0 := h 0 (by simp)
    simp at h0
    have e0 := pb_nat (x := r) (by omega)
    simp [rd, rdF, rdOff, by8]
    rw [h0]
    omega
  · by_cases c2 : r < 2048
    · rw [rb2 hp (by omega) c2] at h ⊢
      have h0 := h 0 (by simp)
      have h1 := h 1 (by simp)
      simp at h0 h1
      have e0 := pb_nat (x := 192 + r / 64) (by omega)
      have e1 := pb_nat (x := 128 + r % 64) (by omega)
      simp [rd, rdF, rdOff, by8]
      rw [h0, h1]
      omega
    · by_cases c3 : r < 65536
      · rw [rb3 hp (by omega) c3] at h ⊢
        have h0 := h 0 (by simp)
        have h1 := h 1 (by simp)
        have h2 := h 2 (by simp)
        simp at h0 h1 h2
        have e0 := pb_nat (x := 224 + r / 4096) (by omega)
        have e1 := pb_nat (x := 128 + r / 64 % 64) (by omega)
        have e2 := pb_nat (x := 128 + r % 64) (by omega)
        simp [rd, rdF, rdOff, by8]
        rw [h0, h1, h2]
        omega
      · rw [rb4 hp (by omega)] at h ⊢
        have h0 := h 0 (by simp)
        have h1 := h 1 (by simp)
        have h2 := h 2 (by simp)
        have h3 := h 3 (by simp)
        simp at h0 h1 h2 h3
        have e0 := pb_nat (x := 240 + r / 262144) (by omega)
        have e1 := pb_nat (x := 128 + r / 4096 % 64) (by omega)
        have e2 := pb_nat (x := 128 + r / 64 % 64) (by omega)
        have e3 := pb_nat (x := 128 + r % 64) (by omega)
        simp [rd, rdF, rdOff, by8]
        rw [h0, h1, h2, h3]
        omega
theorem enc_pos {r : Int} (hp : pRuneOk r = true) : 1 ≤ (pRuneBytes r).length := by
  by_cases c1 : r < 128
  · rw [rb1 hp c1]; simp
  · by_cases c2 : r < 2048
    · rw [rb2 hp (by omega) c2]; simp
    · by_cases c3 : r < 65536
      · rw [rb3 hp (by omega) c3]; simp
      · rw [rb4 hp (by omega)]; simp
theorem read_enc {r : Int} (hp : pRuneOk r = true) (pre post : List UInt8) : pReadAt (pre ++ pRuneBytes r ++ post) pre.length = (r, (pRuneBytes r).length) := by
  have hl := pRuneBytes_le r
  have h1 := enc_pos hp
  have hrd : rd (pre ++ pRuneBytes r ++ post) pre.length (pRuneBytes r).length = r := rd_enc hp fun i hi => by
    simp only [List.getD_eq_getElem?_getD]
    rw [List.getElem?_append_left (by simp; omega), List.getElem?_append_right (by omega), Nat.add_sub_cancel_left]
  have hok : okAt (pre ++ pRuneBytes r ++ post) pre.length (pRuneBytes r).length = true := by
    unfold okAt
    rw [hrd]
    refine decide_eq_true ⟨by simp only [List.length_append]; omega, ?_⟩
    rw [List.take_append_of_le_length (by simp), List.take_of_length_le (by simp), List.drop_append_of_le_length (Nat.le_refl _), List.drop_length, List.nil_append]
  rw [pReadAt_ok ⟨h1, hl⟩ hok, hrd]
theorem runes_back : ∀ (t : List Int) (pre : List UInt8), (∀ r ∈ t, pRuneOk r = true) → runesFrom (pre ++ t.flatMap pRuneBytes) pre.length = some t
  | [], pre, _ => by rw [runesFrom_end (by simp)]
  | r :: t, pre, h => by
    have hp := h r (by simp)
    have h1 := enc_pos hp
    have hr := read_enc hp pre (t.flatMap pRuneBytes)
    rw [List.flatMap_cons, ← List.append_assoc]
    have ih := runes_back t (pre ++ pRuneBytes r) (fun x hx => h x (by simp [hx]))
    rw [runesFrom_step (by simp only [List.length_append]; omega) (by rw [hr]; simp only; omega), hr]
    rw [List.length_append] at ih
    simp only
    rw [ih]
    rfl
theorem pRunesOf_back {t : List Int} (h : ∀ r ∈ t, pRuneOk r = true) (hl : t.length ≤ 16384) : pRunesOf (t.flatMap pRuneBytes) = (t, true) := by
  have h4 := flat_len t
  have hb := runes_back t [] h
  rw [List.nil_append] at hb
  unfold pRunesOf
  rw [if_neg (by omega), show (0 : Nat) = ([] : List UInt8).length from rfl, hb]
theorem pRead_back {b : List UInt8} {i : Int} (h : 0 < (pRead b i).2) (h0 : i = 0) : pRuneBytes (pRead b i).1 = b.take (pRead b i).2 ∧ pRuneOk (pRead b i).1 = true ∧ (pRead b i).2 ≤ b.length := by
  subst h0
  have hle := (pRead_le b 0).2 (by omega)
  have key : ∀ n, 1 ≤ n → okAt b 0 n = true → pRuneBytes (rd b 0 n) = b.take n ∧ pRuneOk (rd b 0 n) = true := fun n hn hok => by
    obtain ⟨_, hlen, _⟩ := okAt_len hok
    simp only [okAt, decide_eq_true_eq] at hok
    refine ⟨by rw [hok.2]; simp, ?_⟩
    cases hp : pRuneOk (rd b 0 n)
    · unfold pRuneBytes at hlen
      rw [if_neg (by simp [hp])] at hlen
      simp at hlen; omega
    · rfl
  have hl : (pRead b 0).2 ≤ b.length := by omega
  refine ⟨?_, ?_, hl⟩
  all_goals
    unfold pRead at h ⊢
    split at h
    · rename_i hc
      rw [if_pos hc]
      unfold pReadAt at h ⊢
      simp only [Int.toNat_zero] at h ⊢
      split
      · rename_i h1; first | exact (key 1 (by omega) h1).1 | exact (key 1 (by omega) h1).2
      · split
        · rename_i h1; first | exact (key 2 (by omega) h1).1 | exact (key 2 (by omega) h1).2
        · split
          · rename_i h1; first | exact (key 3 (by omega) h1).1 | exact (key 3 (by omega) h1).2
          · split
            · rename_i h1; first | exact (key 4 (by omega) h1).1 | exact (key 4 (by omega) h1).2
            · rename_i a1 a2 a3 a4; rw [if_neg a1, if_neg a2, if_neg a3, if_neg a4] at h; simp at h
    · simp at h
theorem pWidth_one {r : Int} (h : pPrintable r = true) : 1 ≤ pWidth r := by unfold pWidth; rw [if_pos h]; split <;> omega
theorem width_ge : ∀ {t : List Int}, (∀ r ∈ t, pPrintable r = true) → (t.length : Int) ≤ widthOf t
  | [], _ => by simp [widthOf]
  | r :: t, h => by
    have := width_ge (t := t) (fun x hx => h x (by simp [hx]))
    have := pWidth_one (h r (by simp))
    simp only [widthOf, List.map_cons, List.sum_cons, List.length_cons] at *
    omega
theorem printable_ok {r : Int} (h : pPrintable r = true) : pRuneOk r = true := by
  simp only [pPrintable, pRuneOk, decide_eq_true_eq] at *
  omega
end Go.Proofs.Ytedbiminpokbgaa
