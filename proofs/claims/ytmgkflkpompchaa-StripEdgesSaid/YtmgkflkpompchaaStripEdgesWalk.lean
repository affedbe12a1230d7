/- brooklaw16.StripEdges, walked: at every input it answers true. No condition. -/
import Derived.Test.YtmgkflkpompchaaStripAwake
namespace Go.Proofs.Ytmgkflkpompchaa.StripEdges
open Go.RowKit Go.Proofs.YtmgkflkpompchaaW.PrintWords Go.Proofs.YtmgkflkpompchaaW.PrintLast Go.Proofs.YtmgkflkpompchaaW.PrintMore Go.Proofs.Ytmgkflkpompchaa.Strip
set_option linter.unusedVariables false
set_option linter.unusedSimpArgs false

theorem madeN (n : Nat) (h : n ≤ 65536) (w : World) : (Instr.makeSlice 50 (.int .i64 (n : Int)) (.int .i64 (n : Int))).run Try.prog w = .ok (.slice (some ⟨w.heap.size, 0, none⟩) n n) (w.alloc (.cells (madeCells #[.int .u8 0] n) 5)) :=
  run_make_row' 50 5 (.int .u8 0) 1 Try.underlying50 infoB rfl .i64 .i64 n (by omega) (by omega) w
theorem convN (n : Nat) (h : n ≤ 65536) (w : World) : (convert 50 9 (.slice (some ⟨w.heap.size, 0, none⟩) n n)).run Try.prog (w.alloc (.cells (madeCells #[.int .u8 0] n) 5)) = .ok (.string (strOfNums (List.replicate n 0))) (w.alloc (.cells (madeCells #[.int .u8 0] n) 5)) :=
  own_string Try.underlying50 Try.underlying5 Try.underlying9 (own_made w 0 5 .u8 n (Nat.zero_le _) (by omega))
theorem str_size (n : Nat) : (strOfNums (List.replicate n 0)).size = n := by simp [strOfNums, ByteArray.size]

theorem at_new (n i : Int) : atE (newS n 1) i = if 0 ≤ i ∧ i < (newN n : Int) then 0 else 1 := by
  unfold atE newS
  rw [if_neg (by simp)]
  simp only [List.length_replicate]
  split <;> split <;> first | rfl | omega
theorem cnt1 (x : List ByteArray) : cntS ⟨x, [], 1, 0, false⟩ = ⟨x, [], 1, 1, true⟩ := by
  have : wrap64 (0 + 1) = 1 := by unfold wrap64; omega
  simp only [cntS, this]
  rfl
theorem edge_yes (n i : Int) (b : ByteArray) (h : 0 ≤ i ∧ i < (newN n : Int)) (hb : b.size = 32) : wrE (newS n 1) i b = 8 ∧ wrS (newS n 1) i b = ⟨List.replicate (newN n) zero32, [], 1, 1, true⟩ := by
  unfold wrE wrS
  rw [at_new, if_pos h, if_pos rfl, if_pos hb, if_pos rfl, if_pos hb]
  rw [show cntS (newS n 1) = ⟨List.replicate (newN n) zero32, [], 1, 1, true⟩ from cnt1 _]
  exact ⟨rfl, if_neg (by simp [askE])⟩
theorem edge_no (n i : Int) (b : ByteArray) (h : 0 ≤ i ∧ i < (newN n : Int)) (hb : ¬ b.size = 32) : wrE (newS n 1) i b = 1 ∧ wrS (newS n 1) i b = newS n 1 := by
  unfold wrE wrS
  rw [at_new, if_pos h, if_pos rfl, if_neg hb, if_pos rfl, if_neg hb]
  exact ⟨rfl, rfl⟩
theorem edge_out (n i : Int) (b : ByteArray) (h : ¬ (0 ≤ i ∧ i < (newN n : Int))) : wrE (newS n 1) i b = 1 ∧ wrS (newS n 1) i b = newS n 1 := by
  unfold wrE wrS
  rw [at_new, if_neg h, if_neg (by decide), if_neg (by decide)]
  exact ⟨rfl, rfl⟩

set_option maxHeartbeats 1600000 in
set_option maxRecDepth 100000 in
theorem walk (n : Int) (hn : (Lit.int .i64 n).wf = true) (i : Int) (hi : (Lit.int .i64 i).wf = true) (z : Int) (hz : (Lit.int .u8 z).wf = true) (w : World) : Calls Try.prog 8 #[.int .i64 n, .int .i64 i, .int .u8 z] w fun e w' => e = .returned (.bool true) ∧ Below w.heap.size w w' := by
  clear hn hi
  have hz0 : 0 ≤ z ∧ z ≤ 255 := (show IntKind.u8.min ≤ z ∧ z ≤ IntKind.u8.max by simpa [Lit.wf] using hz)
  clear hz
  obtain ⟨m, hm, hm70⟩ : ∃ m : Nat, z % 70 = (m : Int) ∧ m < 70 := ⟨(z % 70).toNat, by omega, by omega⟩
  obtain ⟨h0, h1⟩ := hz0
  go_enter Try.func8, Try.ntmps8
  go_wp2_with fail
  refine Calls.mono (new_calls n 1 0 0 w) ?_
  rintro e w1 ⟨p, F, rfl, hs, hb⟩
  have H := Aside0.mk hs
  have HB := Aside0.mk hb
  clear hs hb
  go_upto_region 5 with fail
  have hw : max 0 (min n 65536) = ((newN n : Nat) : Int) := by unfold newN; omega
  rw [hw]
  clear hw
  have hmk := madeN m (by omega) w1
  have hcv := convN m (by omega) w1
  have HSZ := str_size m
  generalize strOfNums (List.replicate m 0) = b at hcv HSZ
  go_upto_region 6 with fail
  clear hmk hcv h0 h1 hm
  have n1 := Aside0.mk (H.out.below (below_alloc (Below.refl _ _) (.cells (madeCells #[.int .u8 0] m) 5)))
  have n2 := Aside0.mk (below_alloc HB.out (.cells (madeCells #[.int .u8 0] m) 5))
  clear H HB
  have H := n1
  have HB := n2
  clear n1 n2
  generalize w1.alloc (.cells (madeCells #[.int .u8 0] m) 5) = w2 at H HB ⊢
  have HN := Aside0.mk (show (((newS n 1).safe.length : Nat) : Int) = ((newN n : Nat) : Int) by simp [newS])
  by_cases hA : 0 ≤ i ∧ i < (newN n : Int)
  · by_cases hB : b.size = 32
    · have HW := Aside0.mk (edge_yes n i b hA hB)
      obtain ⟨p1, p2⟩ := hA
      have p3 : (b.size : Int) = 32 := by omega
      clear HSZ hB
      go_wp2_with (first | (go_at_call 33; refine Calls.mono (num_calls _ _) ?_; rintro e w9 ⟨rfl, rfl⟩) | (go_at_call 42; refine Calls.mono (size_calls H.out) ?_; rw [HN.out]; rintro e w9 ⟨rfl, rfl⟩) | (go_at_call 43; refine Calls.mono (write_calls H.out i b (Nat.zero_le _)) ?_; rw [HW.out.1, HW.out.2]; rintro e w9 ⟨rfl, F', hs, hn⟩; have n1 := Aside0.mk hs; have n2 := Aside0.mk (below_thru HB.out H.out.ge hn.1); clear H HB hs hn; have H := n1; have HB := n2; clear n1 n2) | (go_at_call 41; refine Calls.mono (down_calls H.out) ?_; rintro e w9 ⟨rfl, rfl⟩) | (go_at_call 44; refine Calls.mono (awake_calls _) ?_; rintro e w9 ⟨rfl, hb⟩; have HB2 := Aside0.mk (below_step HB.out hb); clear hb) | fail)
      go_ret
      exact ⟨rfl, HB2.out⟩
    · have HW := Aside0.mk (edge_no n i b hA hB)
      have HA := Aside0.mk (at_new n i |>.trans (if_pos hA))
      obtain ⟨p1, p2⟩ := hA
      have p3 : ¬ (b.size : Int) = 32 := by omega
      clear HSZ hB
      go_wp2_with (first | (go_at_call 33; refine Calls.mono (num_calls _ _) ?_; rintro e w9 ⟨rfl, rfl⟩) | (go_at_call 42; refine Calls.mono (size_calls H.out) ?_; rw [HN.out]; rintro e w9 ⟨rfl, rfl⟩) | (go_at_call 43; refine Calls.mono (write_calls H.out i b (Nat.zero_le _)) ?_; rw [HW.out.1, HW.out.2]; rintro e w9 ⟨rfl, F', hs, hn⟩; have n1 := Aside0.mk hs; have n2 := Aside0.mk (below_thru HB.out H.out.ge hn.1); clear H HB hs hn; have H := n1; have HB := n2; clear n1 n2) | (go_at_call 41; refine Calls.mono (down_calls H.out) ?_; rintro e w9 ⟨rfl, rfl⟩) | (go_at_call 44; refine Calls.mono (awake_calls _) ?_; rintro e w9 ⟨rfl, hb⟩; have HB2 := Aside0.mk (below_step HB.out hb); clear hb) | (go_at_call 45; refine Calls.mono (read_calls H.out i) ?_; rw [HA.out]; rintro e w9 ⟨rfl, hb⟩; have n1 := Aside0.mk (H.out.below hb); have n2 := Aside0.mk (below_step HB.out hb); clear H HB hb; have H := n1; have HB := n2; clear n1 n2) | fail)
      go_ret
      exact ⟨rfl, HB2.out⟩
  · have HA := Aside0.mk (at_new n i |>.trans (if_neg hA))
    have HW := Aside0.mk (edge_out n i b hA)
    clear HSZ
    by_cases p1 : 0 ≤ i
    · have p2 : ¬ i < (newN n : Int) := fun h => hA ⟨p1, h⟩
      clear hA
      go_wp2_with (first | (go_at_call 33; refine Calls.mono (num_calls _ _) ?_; rintro e w9 ⟨rfl, rfl⟩) | (go_at_call 42; refine Calls.mono (size_calls H.out) ?_; rw [HN.out]; rintro e w9 ⟨rfl, rfl⟩) | (go_at_call 43; refine Calls.mono (write_calls H.out i b (Nat.zero_le _)) ?_; rw [HW.out.1, HW.out.2]; rintro e w9 ⟨rfl, F', hs, hn⟩; have n1 := Aside0.mk hs; have n2 := Aside0.mk (below_thru HB.out H.out.ge hn.1); clear H HB hs hn; have H := n1; have HB := n2; clear n1 n2) | (go_at_call 41; refine Calls.mono (down_calls H.out) ?_; rintro e w9 ⟨rfl, rfl⟩) | (go_at_call 44; refine Calls.mono (awake_calls _) ?_; rintro e w9 ⟨rfl, hb⟩; have HB2 := Aside0.mk (below_step HB.out hb); clear hb) | (go_at_call 45; refine Calls.mono (read_calls H.out i) ?_; rw [HA.out]; rintro e w9 ⟨rfl, hb⟩; have n1 := Aside0.mk (H.out.below hb); have n2 := Aside0.mk (below_step HB.out hb); clear H HB hb; have H := n1; have HB := n2; clear n1 n2) | fail)
      go_ret
      exact ⟨by rw [show decide (i < ((newN n : Nat) : Int)) = false from decide_eq_false (by omega)]; rfl, HB2.out⟩
    · clear hA
      go_wp2_with (first | (go_at_call 33; refine Calls.mono (num_calls _ _) ?_; rintro e w9 ⟨rfl, rfl⟩) | (go_at_call 42; refine Calls.mono (size_calls H.out) ?_; rw [HN.out]; rintro e w9 ⟨rfl, rfl⟩) | (go_at_call 43; refine Calls.mono (write_calls H.out i b (Nat.zero_le _)) ?_; rw [HW.out.1, HW.out.2]; rintro e w9 ⟨rfl, F', hs, hn⟩; have n1 := Aside0.mk hs; have n2 := Aside0.mk (below_thru HB.out H.out.ge hn.1); clear H HB hs hn; have H := n1; have HB := n2; clear n1 n2) | (go_at_call 41; refine Calls.mono (down_calls H.out) ?_; rintro e w9 ⟨rfl, rfl⟩) | (go_at_call 44; refine Calls.mono (awake_calls _) ?_; rintro e w9 ⟨rfl, hb⟩; have HB2 := Aside0.mk (below_step HB.out hb); clear hb) | (go_at_call 45; refine Calls.mono (read_calls H.out i) ?_; rw [HA.out]; rintro e w9 ⟨rfl, hb⟩; have n1 := Aside0.mk (H.out.below hb); have n2 := Aside0.mk (below_step HB.out hb); clear H HB hb; have H := n1; have HB := n2; clear n1 n2) | fail)
      go_ret
      exact ⟨rfl, HB2.out⟩
end Go.Proofs.Ytmgkflkpompchaa.StripEdges
