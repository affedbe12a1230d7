/- brooklaw1.BerNumbers: the call returns true, whatever the number and the text; nothing that was there is changed. No condition. -/
import Derived.Test.YtmgkflkpompchaaNum
import Derived.Test.YtmgkflkpompchaaBerAwake
namespace Go.Proofs.Ytmgkflkpompchaa.BerNumbers
open Go.RowKit Go.Proofs.YtmgkflkpompchaaW.PrintWords Go.Proofs.YtmgkflkpompchaaW.PrintLast Go.Proofs.YtmgkflkpompchaaW.PrintMore
open Go.Proofs.Ytmgkflkpompchaa.PBerNumbers Go.Proofs.Ytmgkflkpompchaa.Num
set_option linter.unusedVariables false
set_option linter.unusedSimpArgs false

set_option maxHeartbeats 1000000 in
set_option maxRecDepth 100000 in
theorem large (n : Int) (s : ByteArray) (w : World) (h : 100 < s.size) : Calls Try.prog 3 #[.int .i64 n, .string s] w fun e w' => e = .returned (.bool true) ∧ Below w.heap.size w w' := by
  go_enter Try.func3, Try.ntmps3
  go_wp2_with fail
  refine Calls.mono (BerAwake.awake_calls _) ?_
  rintro e w5 ⟨rfl, hb5⟩
  have HB := Aside0.mk hb5
  clear hb5
  go_wp2
  go_ret
  exact ⟨rfl, HB.out⟩

set_option maxHeartbeats 1000000 in
set_option maxRecDepth 100000 in
theorem small (n : Int) (s : ByteArray) (w : World) (h : s.size ≤ 100) (h1 : -9223372036854775808 ≤ n) (h2 : n < 9223372036854775808) : Calls Try.prog 3 #[.int .i64 n, .string s] w fun e w' => e = .returned (.bool true) ∧ Below w.heap.size w w' := by
  have hu26 := Try.underlying26
  have H1 := Aside0.mk (readint_f 1000 s h (by omega))
  have H2 := Aside0.mk (refreadint_f 1000 s h (by omega))
  have H3 := Aside0.mk (readint_f 1000 (encI n) (by have := encI_size n; omega) (by omega))
  rw [RI_enc n h1 h2] at H3
  have H4 := Aside0.mk (int_f 1000 n h1 h2 (by omega))
  have H5 := Aside0.mk (refint_f 1000 n h1 h2 (by omega))
  clear h1 h2
  generalize encI n = t at H3 H4 H5
  generalize RI s = r at H1 H2
  obtain ⟨x, ok⟩ := r
  go_enter Try.func3, Try.ntmps3
  go_wp2_with fail
  refine Calls.mono (ber_ReadInt.calls 1000 s x ok _ H1.out) ?_
  rintro e w5 ⟨rfl, hb5⟩
  have HB := Aside0.mk hb5
  clear hb5
  go_wp2_with fail
  refine Calls.mono (brookref1_ReadInt.calls 1000 s x ok _ H2.out) ?_
  rintro e w6 ⟨rfl, hb6⟩
  have HB6 := Aside0.mk (below_step HB.out hb6)
  clear hb6 HB
  go_wp2_with fail
  refine Calls.mono (ber_Int.calls 1000 n t _ H4.out) ?_
  rintro e w7 ⟨rfl, hb7⟩
  have HB7 := Aside0.mk (below_step (below_alloc HB6.out _) hb7)
  have BK7 := Aside0.mk (blk_below (blk_new w6 (.cells #[.int .i64 x, .bool ok] 26)) hb7)
  clear hb7 HB6
  go_wp2_with fail
  refine Calls.mono (ber_ReadInt.calls 1000 t n true _ H3.out) ?_
  rintro e w8 ⟨rfl, hb8⟩
  have HB8 := Aside0.mk (below_step HB7.out hb8)
  have BK8 := Aside0.mk (blk_below BK7.out hb8)
  clear hb8 HB7 BK7
  go_wp2_with fail
  refine Calls.mono (ber_Int.calls 1000 n t _ H4.out) ?_
  rintro e w9 ⟨rfl, hb9⟩
  have HB9 := Aside0.mk (below_step HB8.out hb9)
  have BK9 := Aside0.mk (blk_below BK8.out hb9)
  clear hb9 HB8 BK8
  go_wp2_with fail
  refine Calls.mono (brookref1_Int.calls 1000 n t _ H5.out) ?_
  rintro e wa ⟨rfl, hba⟩
  have HBa := Aside0.mk (below_step HB9.out hba)
  have BKa := Aside0.mk (blk_below BK9.out hba)
  clear hba HB9 BK9
  have hcz0 : wa.cell? ⟨w6.heap.size, 0, none⟩ = some (.int .i64 x) := (blk_cell BKa.out 0).trans rfl
  have hcz1 : wa.cell? ⟨w6.heap.size, 1, none⟩ = some (.bool ok) := (blk_cell BKa.out 1).trans rfl
  go_wp2_with fail
  refine Calls.mono (BerAwake.awake_calls _) ?_
  rintro e wb ⟨rfl, hbb⟩
  have HBb := Aside0.mk (below_step HBa.out hbb)
  clear hbb
  go_wp2
  go_ret
  exact ⟨rfl, HBb.out⟩

theorem wf_i64 {n : Int} (h : (Lit.int .i64 n).wf = true) : -9223372036854775808 ≤ n ∧ n < 9223372036854775808 := by
  simp [Lit.wf, IntKind.min, IntKind.max, IntKind.bits, IntKind.signed] at h
  omega
theorem walk (n : Int) (h : (Lit.int .i64 n).wf = true) (s : ByteArray) (hs : s.size ≤ 140737488351232) (w : World) : Calls Try.prog 3 #[.int .i64 n, .string s] w fun e w' => e = .returned (.bool true) ∧ Below w.heap.size w w' := by
  by_cases hl : s.size ≤ 100
  · exact small n s w hl (wf_i64 h).1 (wf_i64 h).2
  · exact large n s w (by omega)
end Go.Proofs.Ytmgkflkpompchaa.BerNumbers
