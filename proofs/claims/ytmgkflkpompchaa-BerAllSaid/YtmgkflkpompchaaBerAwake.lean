/- brooklaw1.awake: it returns true. No condition. -/
import Derived.Test.YtmgkflkpompchaaBerPut
namespace Go.Proofs.Ytmgkflkpompchaa.BerAwake
open Go.RowKit Go.Proofs.YtmgkflkpompchaaW.PrintWords Go.Proofs.YtmgkflkpompchaaW.PrintLast Go.Proofs.YtmgkflkpompchaaW.PrintMore
open Go.Proofs.Ytmgkflkpompchaa.PBerAll Go.Proofs.Ytmgkflkpompchaa.Mem Go.Proofs.Ytmgkflkpompchaa.Enc Go.Proofs.Ytmgkflkpompchaa.BerPut
set_option linter.unusedVariables false
set_option linter.unusedSimpArgs false

def leaf : S32 := ⟨4, ⟨#[97, 98]⟩, []⟩
theorem leaf_may : ber_May.f 10 4 ⟨#[97, 98]⟩ [] = some true := by rfl
theorem leaf_len : (encT leaf).length ≤ 1099511627776 := by decide +kernel
theorem leaf_enc : strOfNums (encT leaf) = ⟨#[4, 2, 97, 98]⟩ := by rfl
theorem int_128 : ber_Int.f 10 128 = some ⟨#[0, 128]⟩ := by decide +kernel

set_option maxHeartbeats 1000000 in
set_option maxRecDepth 100000 in
theorem awake_calls (w : World) : Calls Try.prog 18 #[] w fun e w' => e = .returned (.bool true) ∧ Below w.heap.size w w' := by
  go_enter Try.func18, Try.ntmps18
  go_wp2_with fail
  refine Calls.mono (Put_yes 10 leaf none 0 _ (Kd.C_nil _ _) (Nat.le_refl _) leaf_may leaf_len) ?_
  rw [leaf_enc]
  rintro e w5 ⟨rfl, hb5⟩
  have HB := Aside0.mk hb5
  clear hb5
  go_wp2_with fail
  refine Calls.mono (ber_Int.calls 10 128 ⟨#[0, 128]⟩ _ int_128) ?_
  rintro e w6 ⟨rfl, hb6⟩
  have HB6 := Aside0.mk (below_step HB.out hb6)
  clear hb6
  go_wp2
  go_ret
  exact ⟨rfl, HB6.out⟩
end Go.Proofs.Ytmgkflkpompchaa.BerAwake
