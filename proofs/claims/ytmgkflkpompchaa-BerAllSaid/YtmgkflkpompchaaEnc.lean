/- What a tlv's bytes are, as lists of numbers: plain definitions. No condition. -/
import Derived.Test.YtmgkflkpompchaaPBerAllx2
namespace Go.Proofs.Ytmgkflkpompchaa.Enc
open Go.RowKit Go.Proofs.YtmgkflkpompchaaW.PrintWords
open Go.Proofs.Ytmgkflkpompchaa.PBerAll (S32)

/-- How many bytes a number has, 0 none. -/
def digs (n : Nat) : Nat := if h : n = 0 then 0 else digs (n / 256) + 1
termination_by n
decreasing_by omega
/-- How many bytes a number has, at least one. -/
def sizeN (n : Nat) : Nat := 1 + digs (n / 256)
/-- The last so many bytes of a number, the highest first. -/
def topB (n : Nat) : Nat → List Int
  | 0 => []
  | k + 1 => ((n / 256 ^ k % 256 : Nat) : Int) :: topB n k
/-- A length as bytes. -/
def lenB (n : Nat) : List Int := if n < 128 then [(n : Int)] else ((128 + sizeN n : Nat) : Int) % 256 :: topB n (sizeN n)
mutual
/-- A tlv's bytes. -/
def encT : S32 → List Int
  | ⟨t, s, l⟩ => t % 256 :: (lenB (s.size + (encL l).length) ++ (bytesOf s ++ encL l))
def encL : List S32 → List Int
  | [] => []
  | x :: r => encT x ++ encL r
end
theorem encL_append : ∀ (a b : List S32), encL (a ++ b) = encL a ++ encL b
  | [], b => by simp [encL]
  | x :: r, b => by simp [encL, encL_append r b]
theorem encT_eq (x : S32) : encT x = x.f0 % 256 :: (lenB (x.f1.size + (encL x.f2).length) ++ (bytesOf x.f1 ++ encL x.f2)) := by
  cases x; simp [encT]
theorem encT_len (t : Int) (s : ByteArray) (l : List S32) : s.size + (encL l).length < (encT ⟨t, s, l⟩).length := by
  have := bytesOf_length s
  simp [encT, this]; omega
theorem encL_take_len (l : List S32) (j : Nat) (h : j < l.length) : encL (l.take (j + 1)) = encL (l.take j) ++ encT (l[j]'h) := by
  rw [List.take_succ_eq_append_getElem h, encL_append]
  simp [encL]
theorem encL_le (l : List S32) (j : Nat) : (encL (l.take j)).length ≤ (encL l).length := by
  have h : encL l = encL (l.take j) ++ encL (l.drop j) := by rw [← encL_append, List.take_append_drop]
  rw [h, List.length_append]; omega
theorem encL_at (l : List S32) (j : Nat) (h : j < l.length) : (encL (l.take j)).length + (encT (l[j]'h)).length ≤ (encL l).length := by
  have := encL_le l (j + 1)
  rw [encL_take_len l j h, List.length_append] at this
  exact this
theorem digs_le : ∀ (k n : Nat), n < 256 ^ k → digs n ≤ k
  | 0, n, h => by
    have : n = 0 := by omega
    subst this
    unfold digs; simp
  | k + 1, n, h => by
    unfold digs
    split
    · omega
    · have := digs_le k (n / 256) (by rw [Nat.div_lt_iff_lt_mul (by omega)]; rw [Nat.pow_succ] at h; exact h)
      omega
theorem sizeN_le (n : Nat) (h : n ≤ 1099511627776) : 1 ≤ sizeN n ∧ sizeN n ≤ 6 := by
  have := digs_le 5 (n / 256) (by omega)
  unfold sizeN
  omega
theorem size_l0 : ∀ (d m x : Nat), m ≤ 1099511627776 → x + d ≤ 1000000 → m < 256 ^ d → PBerAll.ber_size.l0 (d + 1) (m : Int) (x : Int) = some ((x + digs m : Nat) : Int)
  | 0, m, x, hm, hx, hd => by
    have : m = 0 := by omega
    subst this
    simp only [PBerAll.ber_size.l0]
    rw [if_neg (by omega)]
    unfold digs; simp
  | d + 1, m, x, hm, hx, hd => by
    rw [PBerAll.ber_size.l0]
    by_cases h0 : m = 0
    · subst h0
      rw [if_neg (by omega)]
      unfold digs; simp
    · rw [if_pos (by omega)]
      have h1 : ((m : Int) / 256) = ((m / 256 : Nat) : Int) := by omega
      have h2 : wrap64 ((x : Int) + 1) = ((x + 1 : Nat) : Int) := by unfold wrap64; omega
      have h3 : m / 256 < 256 ^ d := by rw [Nat.div_lt_iff_lt_mul (by omega)]; rw [Nat.pow_succ] at hd; exact hd
      have h4 : digs m = digs (m / 256) + 1 := by rw [digs, dif_neg h0]
      rw [h1, h2, size_l0 d (m / 256) (x + 1) (by omega) (by omega) h3, h4]
      congr 1; omega
theorem size_f (n : Nat) (h : n ≤ 1099511627776) : PBerAll.ber_size.f 7 (n : Int) = some ((sizeN n : Nat) : Int) := by
  unfold PBerAll.ber_size.f sizeN
  have h1 : ((n : Int) / 256) = ((n / 256 : Nat) : Int) := by omega
  rw [h1]
  exact size_l0 6 (n / 256) 1 (by omega) (by omega) (by omega)
theorem topB_pos (n j : Nat) (h : 1 ≤ j) : topB n j = ((n : Int) / 2 ^ (8 * (j - 1)) % 256) :: topB n (j - 1) := by
  obtain ⟨k, rfl⟩ : ∃ k, j = k + 1 := ⟨j - 1, by omega⟩
  rw [Nat.add_sub_cancel, topB]
  have h2 : (2 : Int) ^ (8 * k) = ((256 ^ k : Nat) : Int) := by
    rw [show (256 : Nat) = 2 ^ 8 from rfl, ← Nat.pow_mul, Int.natCast_pow]; rfl
  have h3 : ((n / 256 ^ k % 256 : Nat) : Int) = (n : Int) / ((256 ^ k : Nat) : Int) % 256 := by
    rw [Int.natCast_emod, Int.natCast_ediv]; rfl
  rw [h2, h3]
theorem topB_len (n : Nat) : ∀ k, (topB n k).length = k
  | 0 => rfl
  | k + 1 => by simp [topB, topB_len n k]
end Go.Proofs.Ytmgkflkpompchaa.Enc
