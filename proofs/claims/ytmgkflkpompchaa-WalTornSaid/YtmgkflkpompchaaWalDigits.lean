/- brookref1.Digits at a number of at most two digits, the first 0 or 1. Condition: the number is less than 20. -/
import Derived.Test.YtmgkflkpompchaaWalMore
namespace Go.Proofs.Ytmgkflkpompchaa.Wal
open Go.RowKit Go.Proofs.YtmgkflkpompchaaW.PrintWords Go.Proofs.YtmgkflkpompchaaW.PrintLast Go.Proofs.YtmgkflkpompchaaW.PrintMore Go.Proofs.Ytmgkflkpompchaa.Strip
set_option linter.unusedVariables false
set_option linter.unusedSimpArgs false
def dg1 (k : Nat) : ByteArray := strOfNums [(48 + k : Int)]
theorem dg1_size (k : Nat) : (dg1 k).size = 1 := rfl
def dgs (i : Nat) : ByteArray := if i < 10 then dg1 i else dg1 1 ++ dg1 (i - 10)
theorem dgs_size (i : Nat) : (dgs i).size ≤ 2 := by
  unfold dgs
  split
  · rw [dg1_size]; omega
  · rw [ByteArray.size_append, dg1_size, dg1_size]; omega
theorem app_none (b : ByteArray) : b ++ ⟨#[]⟩ = b := by
  apply ba_ext; simp
theorem conv1 (w : World) (x : Int) : (convert 50 9 (.slice (some ⟨w.heap.size, 0, none⟩) 1 1)).run Try.prog (w.alloc (.cells #[.int .u8 x] 5)) = .ok (.string (strOfNums [x])) (w.alloc (.cells #[.int .u8 x] 5)) :=
  convB (xs := [x]) (blk_new w (.cells #[.int .u8 x] 5)) (by show 1 ≤ _; omega)
set_option maxHeartbeats 1600000 in
set_option maxRecDepth 100000 in
theorem digits_calls (i : Nat) (hi : i < 20) (w : World) : Calls Try.prog 56 #[.int .i64 (i : Int)] w fun e w' => e = .returned (.string (dgs i)) ∧ Below w.heap.size w w' := by
  have hn : ¬ (i : Int) < 0 := by omega
  have hn0 : 0 ≤ (i : Int) := by omega
  have hn2 : (i : Int) ≤ 20 := by omega
  have hcv := conv1
  go_enter Try.func56, Try.ntmps56
  go_wp2
  go_loopw [3, 4] (fun v3 v4 w' => ∃ (k : Nat) (s : ByteArray), v3 = .int .u64 k ∧ v4 = .string s ∧ Aside0 ((k = i ∧ s = ⟨#[]⟩) ∨ (10 ≤ i ∧ k = 1 ∧ s = dg1 (i - 10))) ∧ Aside0 (Below w.heap.size w w')) (fun v3 _ _ => (intOf v3).toNat)
  case atStart => exact ⟨i, _, by go_num, rfl, ⟨.inl ⟨rfl, rfl⟩⟩, ⟨Below.refl _ _⟩⟩
  case round =>
    obtain ⟨k, s, rfl, rfl, HK, HB⟩ := hrel
    have hk := HK.out
    have hk1 : 0 ≤ (k : Int) := by omega
    have hk2 : (k : Int) ≤ 20 := by omega
    by_cases h10 : k < 10
    · have hg : ¬ (10 : Int) ≤ (k : Int) := by omega
      have hz : (strOfNums [48 + (k : Int)]).size + s.size ≤ 9223372036854775807 := by
        have : s.size ≤ 1 := by
          rcases hk with ⟨_, rfl⟩ | ⟨_, _, rfl⟩
          · decide
          · rw [dg1_size]; omega
        rw [strOfNums_size]; simp only [List.length_cons, List.length_nil]; omega
      clear hk
      go_wp2
      go_ret
      refine ⟨?_, below_alloc HB.out _⟩
      rcases HK.out with ⟨rfl, rfl⟩ | ⟨h2, rfl, rfl⟩
      · unfold dgs dg1; rw [if_pos h10, app_none]; rfl
      · unfold dgs; rw [if_neg (by omega)]; rfl
    · have hg : (10 : Int) ≤ (k : Int) := by omega
      have ht : (k : Int).tmod 10 = ((k - 10 : Nat) : Int) := by rw [Int.tmod_eq_emod_of_nonneg (by omega)]; omega
      have hz : (strOfNums [48 + ((k - 10 : Nat) : Int)]).size + s.size ≤ 9223372036854775807 := by
        have : s.size ≤ 1 := by
          rcases hk with ⟨_, rfl⟩ | ⟨_, _, rfl⟩
          · decide
          · rw [dg1_size]; omega
        rw [strOfNums_size]; simp only [List.length_cons, List.length_nil]; omega
      clear hk
      go_wp2
      go_roundw
      case rel =>
        rcases HK.out with ⟨rfl, rfl⟩ | ⟨h2, rfl, rfl⟩
        · refine ⟨1, dg1 (k - 10), ?_, ?_, ⟨.inr ⟨by omega, rfl, rfl⟩⟩, ⟨below_alloc HB.out _⟩⟩
          · congr 1; omega
          · unfold dg1; rw [app_none]
        · omega
      case measure => simp [intOf]; omega
end Go.Proofs.Ytmgkflkpompchaa.Wal
