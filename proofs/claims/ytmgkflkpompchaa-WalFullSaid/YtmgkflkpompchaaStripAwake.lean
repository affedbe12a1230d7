/- brooklaw16's Block and awake. -/
import Derived.Test.YtmgkflkpompchaaStripNew
import Derived.Test.YtmgkflkpompchaaPStripRunsx1
namespace Go.Proofs.Ytmgkflkpompchaa.Strip
open Go.RowKit Go.Proofs.YtmgkflkpompchaaW.PrintWords Go.Proofs.YtmgkflkpompchaaW.PrintLast Go.Proofs.YtmgkflkpompchaaW.PrintMore Go.Proofs.Ytmgkflkpompchaa.PStripRuns
set_option linter.unusedVariables false
set_option linter.unusedSimpArgs false

set_option maxHeartbeats 400000 in
set_option maxRecDepth 100000 in
theorem num_calls (x : Int) (w : World) : Calls Try.prog 33 #[.int .i64 x] w fun e w' => e = .returned (.int .i64 x) ∧ w = w' := by
  go_enter Try.func33, Try.ntmps33
  go_wp2
  go_ret
  exact ⟨rfl, rfl⟩
theorem block_l0 : ∀ (k : Nat) (a : Int) (xs : List Int) (j : Nat), xs.length = 32 → j ≤ 32 → 32 - j < k → ∃ r, brooklaw16_Block.l0 k a xs (j : Int) = some r ∧ r.size = 32
  | 0, a, xs, j, _, _, h => by omega
  | k + 1, a, xs, j, hx, hj, h => by
    unfold brooklaw16_Block.l0
    by_cases h1 : (j : Int) < 32
    · rw [if_pos h1, if_pos (by omega), if_pos (by omega), show wrap64 ((j : Int) + 1) = ((j + 1 : Nat) : Int) by unfold wrap64; omega]
      exact block_l0 k a _ (j + 1) (by rw [List.length_set]; exact hx) (by omega) (by omega)
    · rw [if_neg h1]
      exact ⟨_, rfl, by simp [strOfNums, ByteArray.size, hx]⟩
/-- A law's block of a byte. -/
def blk (a : Int) : ByteArray := (brooklaw16_Block.f 40 a).getD ⟨#[]⟩
theorem blk_f (a : Int) : brooklaw16_Block.f 40 a = some (blk a) := by
  unfold blk brooklaw16_Block.f
  rw [if_pos (by decide)]
  obtain ⟨r, h, _⟩ := block_l0 40 a (List.replicate 32 0) 0 (by simp) (by omega) (by omega)
  have h' : brooklaw16_Block.l0 40 a (List.replicate 32 0) 0 = some r := h
  rw [h']; rfl
theorem blk_size (a : Int) : (blk a).size = 32 := by
  unfold blk brooklaw16_Block.f
  rw [if_pos (by decide)]
  obtain ⟨r, h, hr⟩ := block_l0 40 a (List.replicate 32 0) 0 (by simp) (by omega) (by omega)
  have h' : brooklaw16_Block.l0 40 a (List.replicate 32 0) 0 = some r := h
  rw [h']; exact hr
theorem block_calls (a : Int) (w : World) : Calls Try.prog 46 #[.int .u8 a] w fun e w' => e = .returned (.string (blk a)) ∧ Below w.heap.size w w' := brooklaw16_Block.calls 40 a _ w (blk_f a)

theorem IsStrip.ge {B : Nat} {w : World} {p : Nat} {S : St} {F : Nat → Prop} (h : IsStrip B w p S F) : ∀ k, F k → B ≤ k := by
  obtain ⟨gs, vl, _, _, _, _, _, _, h7, _⟩ := h
  exact h7
theorem below_thru {w w1 w2 : World} {F : Nat → Prop} (h : Below w.heap.size w w1) (hF : ∀ k, F k → w.heap.size ≤ k) (hk : Kept F w1 w2) : Below w.heap.size w w2 :=
  h.trans (hk.below hF h.size)
theorem infoB : (Try.prog.info? 5).map (fun i => (i.zero, i.size, i.bytes)) = some (some (.int .u8 0), 1, 1) := by kernel_rfl
theorem made32 (w : World) : (Instr.makeSlice 50 (.int .i64 32) (.int .i64 32)).run Try.prog w = .ok (.slice (some ⟨w.heap.size, 0, none⟩) 32 32) (w.alloc (.cells (madeCells #[.int .u8 0] 32) 5)) :=
  run_make_row' 50 5 (.int .u8 0) 1 Try.underlying50 infoB rfl .i64 .i64 32 (by omega) (by omega) w
theorem strZero : strOfNums (List.replicate 32 0) = zero32 := by decide
theorem conv32 (w : World) : (convert 50 9 (.slice (some ⟨w.heap.size, 0, none⟩) 32 32)).run Try.prog (w.alloc (.cells (madeCells #[.int .u8 0] 32) 5)) = .ok (.string zero32) (w.alloc (.cells (madeCells #[.int .u8 0] 32) 5)) := by
  rw [← strZero]
  exact own_string Try.underlying50 Try.underlying5 Try.underlying9 (own_made w 0 5 .u8 32 (Nat.zero_le _) (by omega))
def aw1 : St := wrS (newS 3 0) 1 (blk 7)
theorem new3 : newS 3 0 = ⟨[zero32, zero32, zero32], [], 0, 0, false⟩ := rfl
theorem cnt0 (x : List ByteArray) (l : List (Nat × ByteArray)) (n : Int) (h0 : 0 ≤ n) (h1 : n < 1099511627776) : cntS ⟨x, l, 0, n, false⟩ = ⟨x, l, 0, n + 1, false⟩ := by
  have : wrap64 (n + 1) = n + 1 := by unfold wrap64; omega
  simp only [cntS, this]
  rw [show (n + 1 == 0) = false by simp; omega]
theorem aw1_eq : aw1 = ⟨[zero32, zero32, zero32], [(1, blk 7)], 0, 1, false⟩ := by
  unfold aw1 wrS
  rw [new3]
  rw [if_pos (by decide), if_pos (blk_size 7), cnt0 _ _ _ (by decide) (by decide), if_pos (by decide)]
  rfl
theorem awE : wrE (newS 3 0) 1 (blk 7) = 0 := by
  unfold wrE
  rw [new3]
  rw [if_pos (by decide), if_pos (blk_size 7), cnt0 _ _ _ (by decide) (by decide)]
  rfl
theorem aw2_eq : fallS aw1 0 0 0 0 = ⟨[zero32, (blk 7).extract 0 0 ++ zero32.extract 0 32, zero32], [], 0, 0, false⟩ := by
  rw [aw1_eq]; rfl
theorem zero_size : zero32.size = 32 := by decide
theorem extract_all (b : ByteArray) (h : b.size = 32) (c : ByteArray) : c.extract 0 0 ++ b.extract 0 32 = b := by
  rw [← h]
  simp

set_option maxHeartbeats 1600000 in
set_option maxRecDepth 100000 in
theorem awake_calls (w : World) : Calls Try.prog 44 #[] w fun e w' => e = .returned (.bool true) ∧ Below w.heap.size w w' := by
  go_enter Try.func44, Try.ntmps44
  go_wp2_with fail
  refine Calls.mono (new_calls 3 0 0 0 w) ?_
  rintro e w1 ⟨p, F, rfl, hs, hb⟩
  have H := Aside0.mk hs
  have HB := Aside0.mk hb
  clear hs hb
  go_wp2_with fail
  refine Calls.mono (block_calls 7 w1) ?_
  rintro e w2 ⟨rfl, hb⟩
  have n1 := Aside0.mk (H.out.below hb)
  have n2 := Aside0.mk (below_step HB.out hb)
  clear H HB hb
  have H := n1
  have HB := n2
  clear n1 n2
  go_wp2_with fail
  refine Calls.mono (write_calls H.out 1 (blk 7) (by decide)) ?_
  rw [awE]
  rintro e w3 ⟨rfl, F', hs, hn⟩
  have n1 := Aside0.mk hs
  have n2 := Aside0.mk (below_thru HB.out H.out.ge hn.1)
  clear H HB hs hn
  have H := n1
  have HB := n2
  clear n1 n2
  rw [show wrS (newS 3 0) 1 (blk 7) = aw1 from rfl, aw1_eq] at H
  go_wp2_with fail
  refine Calls.mono (loose_calls H.out) ?_
  rintro e w4 ⟨rfl, rfl⟩
  go_wp2_with fail
  refine Calls.mono (fall_calls H.out ?f1 ?f2 ?f3 ?f4 0 0 0 0) ?_
  case f1 => intro c hc; simp at hc; subst hc; decide
  case f2 => intro c hc; simp at hc; subst hc; exact blk_size 7
  case f3 => intro c hc; simp at hc; subst hc; exact zero_size
  case f4 => decide
  rw [← aw1_eq, aw2_eq, extract_all _ zero_size]
  rintro e w4 ⟨rfl, F2, hs, hn⟩
  have n1 := Aside0.mk hs
  have n2 := Aside0.mk (below_thru HB.out H.out.ge hn.1)
  clear H HB hs hn
  have H := n1
  have HB := n2
  clear n1 n2
  go_wp2_with fail
  refine Calls.mono (read_calls H.out 1) ?_
  rintro e w5 ⟨rfl, hb⟩
  have n1 := Aside0.mk (H.out.below hb)
  have n2 := Aside0.mk (below_step HB.out hb)
  clear H HB hb
  have H := n1
  have HB := n2
  clear n1 n2
  rw [show rdS ⟨[zero32, zero32, zero32], [], 0, 0, false⟩ 1 = zero32 from rfl, show atE ⟨[zero32, zero32, zero32], [], 0, 0, false⟩ 1 = 0 from rfl]
  have hmk := made32 w5
  have hcv := conv32 w5
  go_wp2_with (first | (go_at_call 33; refine Calls.mono (num_calls _ _) ?_; rintro e w9 ⟨rfl, rfl⟩) | (go_at_call 42; refine Calls.mono (size_calls (H.out.below (below_alloc (Below.refl _ _) _))) ?_; rintro e w9 ⟨rfl, rfl⟩) | fail)
  go_ret
  exact ⟨rfl, below_alloc HB.out _⟩
end Go.Proofs.Ytmgkflkpompchaa.Strip
