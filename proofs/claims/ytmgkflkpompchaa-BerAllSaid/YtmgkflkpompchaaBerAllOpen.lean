/- brooklaw1.BerAll's walk, at arguments as the row's form reads them. No condition. -/
import Derived.Test.YtmgkflkpompchaaBerAllWalk
import Derived.Test.YtmgkflkpompchaaOpenTlv
namespace Go.Proofs.Ytmgkflkpompchaa.BerAll
open Go.RowKit
set_option linter.unusedVariables false
set_option maxRecDepth 100000 in
theorem walk {H : Type} {enc : TypeId × Value → H} {W : World} {r : Reach} {b0 : Nat} {base : Nat} {spare : Nat → Bool} {held : Bool} {d0 d1 : DataW H} {p0 p1 : List MemPlace}
    (v0 : Value) (o0 : Value.okWide Try.prog W r b0 32 v0) (h0 : DataW.Trod enc Try.prog W base spare held 32 v0 d0 p0)
    (v1 : Value) (o1 : Value.okWide Try.prog W r b0 32 v1) (h1 : DataW.Trod enc Try.prog W base spare held 32 v1 d1 p1) (_w : World) :
    Calls Try.prog 4 #[v0, v1] W fun e w' => e = .returned (.bool true) ∧ Below W.heap.size W w' := by
  obtain ⟨x, A, c, rfl, hc, hx⟩ := OpenTlv.arg_open o0 h0
  obtain ⟨y, B, d, rfl, hd, hy⟩ := OpenTlv.arg_open o1 h1
  exact all x y A B c d W hc hd hx hy
end Go.Proofs.Ytmgkflkpompchaa.BerAll
