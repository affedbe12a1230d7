/- Laws on the bytes of a number, for BerInts: plain. No condition. -/
import Derived.Test.YtmgkflkpompchaaNum
namespace Go.Proofs.Ytmgkflkpompchaa.NumInts
open Go.RowKit Go.Proofs.YtmgkflkpompchaaW.PrintWords
open Go.Proofs.Ytmgkflkpompchaa.Num
set_option linter.unusedVariables false
set_option linter.unusedSimpArgs false

theorem bytesOf_append (s t : ByteArray) : bytesOf (s ++ t) = bytesOf s ++ bytesOf t := by
  simp [bytesOf, ByteArray.data_append]
theorem RI_empty : RI ⟨#[]⟩ = (0, false) := by
  unfold RI
  rw [if_pos (.inl rfl)]
/-- The first byte tells the sign. -/
theorem leB_last : ∀ (k : Nat) (n : Int), R k n → ∃ l c, leB k n = l ++ [c] ∧ (n < 0 → 128 ≤ c) ∧ (0 ≤ n → c < 128) ∧ 0 ≤ c ∧ c < 256
  | 0, n, h => by
    have : -128 ≤ n ∧ n ≤ 127 := by obtain ⟨a, b⟩ := h; simp at a b; omega
    exact ⟨[], n % 256, rfl, by omega, by omega, by omega, by omega⟩
  | k + 1, n, h => by
    unfold leB
    split
    · exact ⟨[], n % 256, rfl, by omega, by omega, by omega, by omega⟩
    · obtain ⟨l, c, h1, h2, h3, h4, h5⟩ := leB_last k (n / 256) (R_div h)
      exact ⟨n % 256 :: l, c, by rw [h1]; rfl, by omega, by omega, h4, h5⟩
theorem size_ne {s t : ByteArray} (h : s.toList = t.toList) : s.size = t.size := by
  rw [← data_length, ← data_length, ← ByteArray.toList_eq, ← ByteArray.toList_eq, h]
theorem pad_not (k : Int) (p : Int) (hp : k < 0 ∧ p = 255 ∨ 0 ≤ k ∧ p = 0) (h1 : -9223372036854775808 ≤ k) (h2 : k < 9223372036854775808) (u : ByteArray) (hu : bytesOf u = [p]) : ∃ v, RI (u ++ encI k) = (v, false) := by
  have hs : (u ++ encI k).size = 1 + (encI k).size := by
    rw [ByteArray.size_append, ← bytesOf_length u, hu]; rfl
  obtain ⟨l, c, e1, e2, e3, e4, e5⟩ := leB_last 7 k (R7 k h1 h2)
  have hv : valB (bytesOf (u ++ encI k)) = k := by
    have h0 := leB_val 7 k (R7 k h1 h2) h1 h2
    rw [bytesOf_append, hu, encI_bytes, e1, List.reverse_append]
    rw [e1, List.reverse_append] at h0
    simp only [List.reverse_cons, List.reverse_nil, List.nil_append, List.singleton_append] at h0 ⊢
    rw [← h0]
    show valF (wrap64 (i8 p * 256 + c)) l.reverse = valF (i8 c) l.reverse
    congr 1
    unfold wrap64 i8
    split <;> split <;> omega
  unfold RI
  split
  · exact ⟨_, rfl⟩
  · rw [hv, if_neg (fun e => by have := size_ne e; omega)]
    exact ⟨_, rfl⟩
theorem tail_not (k y : Int) (less : Bool) (h : RI ((encI k).extract 1 (encI k).size) = (y, less)) : less = true → y ≠ k := by
  rintro rfl rfl
  have hs := encI_size y
  unfold RI at h
  split at h
  · simp at h
  · split at h
    · rename_i hc
      simp at h
      rw [h] at hc
      have := size_ne hc
      rw [ByteArray.size_extract] at this
      omega
    · simp at h
theorem pow256 (j : Nat) : (128 : Int) * 256 ^ j = 2 ^ (8 * (j + 1) - 1) := by
  rw [show 8 * (j + 1) - 1 = 7 + 8 * j from by omega, Int.pow_add]
  congr 1
  induction j with
  | zero => rfl
  | succ j ih => rw [Int.pow_succ, ih, show 8 * (j + 1) = 8 * j + 8 from by omega, Int.pow_add]; rfl
theorem leB_fits : ∀ (k : Nat) (n : Int), R k n → R ((leB k n).length - 1) n
  | 0, n, h => h
  | k + 1, n, h => by
    unfold leB
    split
    · simp [R]; omega
    · obtain ⟨a, b⟩ := leB_fits k (n / 256) (R_div h)
      have hl := (leB_len k (n / 256)).1
      rw [List.length_cons, show (leB k (n / 256)).length + 1 - 1 = ((leB k (n / 256)).length - 1) + 1 from by omega]
      constructor <;> rw [Int.pow_succ] <;> omega
theorem fits_of (k : Int) (h1 : -9223372036854775808 ≤ k) (h2 : k < 9223372036854775808) : (encI k).size = 8 ∨ -(2 : Int) ^ (8 * (encI k).size - 1) ≤ k ∧ k < (2 : Int) ^ (8 * (encI k).size - 1) := by
  right
  have hl : (encI k).size = (leB 7 k).length := by rw [← bytesOf_length, encI_bytes, List.length_reverse]
  obtain ⟨a, b⟩ := leB_fits 7 k (R7 k h1 h2)
  have h3 := (leB_len 7 k).1
  rw [pow256] at a b
  rw [hl]
  rw [show (leB 7 k).length - 1 + 1 = (leB 7 k).length from by omega] at a b
  exact ⟨a, b⟩
theorem pow_small (j : Nat) (h : j ≤ 55) : wrap64 ((2 : Int) ^ j) = 2 ^ j ∧ wrap64 (-(2 : Int) ^ j) = -2 ^ j := by
  have h1 : (2 : Nat) ^ j ≤ 2 ^ 55 := Nat.pow_le_pow_right (by decide) h
  have h2 : ((2 ^ j : Nat) : Int) = (2 : Int) ^ j := by rw [Int.natCast_pow]; rfl
  rw [← h2]
  generalize (2 : Nat) ^ j = q at h1
  unfold wrap64
  constructor <;> omega
/-- In the walk's own form. -/
theorem fits_walk {s : Nat} {k : Int} (hs : s ≤ 7) (h : s = 8 ∨ -(2 : Int) ^ (8 * s - 1) ≤ k ∧ k < (2 : Int) ^ (8 * s - 1)) :
    decide (wrap64 (-wrap64 (2 ^ (8 * s - 1))) ≤ k) = true ∧ decide (k < wrap64 (2 ^ (8 * s - 1))) = true := by
  have h := h.resolve_left (by omega)
  obtain ⟨p1, p2⟩ := pow_small (8 * s - 1) (by omega)
  rw [p1, p2]
  exact ⟨by simpa using h.1, by simpa using h.2⟩
end Go.Proofs.Ytmgkflkpompchaa.NumInts
