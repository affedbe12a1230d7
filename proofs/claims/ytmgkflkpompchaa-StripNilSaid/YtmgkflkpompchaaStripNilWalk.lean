/- brooklaw16.StripNil, walked: at every input it answers true. No condition. -/
import Derived.Test.YtmgkflkpompchaaStripAwake
namespace Go.Proofs.Ytmgkflkpompchaa.StripNil
open Go.RowKit Go.Proofs.YtmgkflkpompchaaW.PrintWords Go.Proofs.YtmgkflkpompchaaW.PrintLast Go.Proofs.YtmgkflkpompchaaW.PrintMore Go.Proofs.Ytmgkflkpompchaa.Strip
set_option linter.unusedVariables false
set_option linter.unusedSimpArgs false

set_option maxHeartbeats 1600000 in
set_option maxRecDepth 100000 in
theorem walk (i : Int) (hi : (Lit.int .i64 i).wf = true) (b : ByteArray) (hb : b.size ≤ 140737488351232) (w : World) : Calls Try.prog 13 #[.int .i64 i, .string b] w fun e w' => e = .returned (.bool true) ∧ Below w.heap.size w w' := by
  clear hi hb
  go_enter Try.func13, Try.ntmps13
  go_wp2_with fail
  refine Calls.mono (tear_nil i w) ?_
  rintro e w1 ⟨rfl, rfl⟩
  go_wp2_with fail
  refine Calls.mono (fall_nil _ ⟨0, 0, 0, 0, rfl⟩ w) ?_
  rintro e w1 ⟨rfl, hb⟩
  have HB := Aside0.mk hb
  clear hb
  go_wp2_with fail
  refine Calls.mono (read_nil i w1) ?_
  rintro e w2 ⟨rfl, rfl⟩
  go_wp2_with (first | (go_at_call 33; refine Calls.mono (num_calls _ _) ?_; rintro e w9 ⟨rfl, rfl⟩) | (go_at_call 43; refine Calls.mono (write_nil _ _ _) ?_; rintro e w9 ⟨rfl, rfl⟩) | (go_at_call 47; refine Calls.mono (sync_nil _) ?_; rintro e w9 ⟨rfl, rfl⟩) | (go_at_call 41; refine Calls.mono (down_nil _) ?_; rintro e w9 ⟨rfl, rfl⟩) | (go_at_call 48; refine Calls.mono (loose_nil _) ?_; rintro e w9 ⟨rfl, rfl⟩) | (go_at_call 42; refine Calls.mono (size_nil _) ?_; rintro e w9 ⟨rfl, rfl⟩) | (go_at_call 44; refine Calls.mono (awake_calls _) ?_; rintro e w9 ⟨rfl, hb⟩; have HB2 := Aside0.mk (below_step HB.out hb); clear hb) | fail)
  go_ret
  exact ⟨rfl, HB2.out⟩
end Go.Proofs.Ytmgkflkpompchaa.StripNil
