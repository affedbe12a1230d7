/-
  NARROWER THAN 'FOR EVERY INPUT', by the rows' own cells (each row's printed sentence says how): BerAll: loops.
  DERIVED. THE GIVEN ROWS OF THIS SEAT. 15 by the template 'for every input the law returns true; each argument reads behind the call as it read before'; 0 by the template 'total and deterministic' (their statements: YtmgkflkpompchaaTotals.lean).
  GIVEN WITH THE SEED: the statements are not yours to turn. If you find one false, say at which input.
  Laid BY PROGRAM, IN A SANDBOX (cutbox-rows.mjs): the forced cells as the released guide's own fill.sh prints them over the translation cee0fb0e4c6a53d9… (all of the seat's roots in one cut). By AI agents, Wed Nov 11 2026. No macro, syntax, notation, axiom, sorry.
-/
import Derived.Test.YtmgkflkpompchaaChecked
import GoSem.Claim
import GoSem.ClaimJoined
import GoSem.ClaimMapViews
import Derived.JoinedTies
import Derived.KernelRfl
namespace Go.Proofs.Ytmgkflkpompchaa
/- THE CELL 'sum', in the pinned program and in every row, IS THE sha256 OF THE DUMP (.gsa) THAT YtmgkflkpompchaaProg.lean LOADS. Nothing in Lean hashes anything: it is a label: what it is worth is what the hold of that sum in a sandbox is worth. -/
noncomputable def Try.pinned : Pinned := { name := "ytmgkflkpompchaa", sum := "cee0fb0e4c6a53d9e6c246dfb272f2da6e850d54f6f6331f75d539181ad181f8", checked := Try.checked }
namespace Rows
def none {H : Type} : Left H := { results := [], args := [] }

/-- 'brooklaw1.BerNumbers': WHATEVER THE INPUT: true; the input reads as it did. -/
def berNumbersSpec : ChangeSpec := { name := "berNumbers", fn := fun _ => fun
  | [d1, d2] => { results := [.lit (.bool true)], args := [d1, d2] }
  | _ => none }
def berNumbersRow : OpenClaim := { program := "ytmgkflkpompchaa", sum := "cee0fb0e4c6a53d9e6c246dfb272f2da6e850d54f6f6331f75d539181ad181f8", func := "brook/brooklaw1.BerNumbers", spec := "berNumbers", recurses := true, apart := false }
def BerNumbersSaid : Prop := berNumbersRow.holds Try.pinned (OpenSpec.ofChange berNumbersSpec)

/-- ITS FALSE NEIGHBOUR: 'it returns false'. Refute it at one input. -/
def berNumbersWrong : ChangeSpec := { name := "berNumbers", fn := fun _ => fun
  | [d1, d2] => { results := [.lit (.bool false)], args := [d1, d2] }
  | _ => none }
def BerNumbersWrongFalsely : Prop := berNumbersRow.holds Try.pinned (OpenSpec.ofChange berNumbersWrong)

/-- 'brooklaw1.BerAll': WHATEVER THE INPUT: true; the input reads as it did. -/
def berAllSpec : ChangeSpec := { name := "berAll", fn := fun _ => fun
  | [d1, d2] => { results := [.lit (.bool true)], args := [d1, d2] }
  | _ => none }
def berAllRow : OpenClaim := { program := "ytmgkflkpompchaa", sum := "cee0fb0e4c6a53d9e6c246dfb272f2da6e850d54f6f6331f75d539181ad181f8", func := "brook/brooklaw1.BerAll", spec := "berAll", unfollowed := true, recurses := true, loops := true, apart := false }
def BerAllSaid : Prop := berAllRow.holds Try.pinned (OpenSpec.ofChange berAllSpec)

/-- ITS FALSE NEIGHBOUR: 'it returns false'. Refute it at one input. -/
def berAllWrong : ChangeSpec := { name := "berAll", fn := fun _ => fun
  | [d1, d2] => { results := [.lit (.bool false)], args := [d1, d2] }
  | _ => none }
def BerAllWrongFalsely : Prop := berAllRow.holds Try.pinned (OpenSpec.ofChange berAllWrong)

/-- 'brooklaw1.BerInts': WHATEVER THE INPUT: true; the input reads as it did. -/
def berIntsSpec : ChangeSpec := { name := "berInts", fn := fun _ => fun
  | [d1, d2] => { results := [.lit (.bool true)], args := [d1, d2] }
  | _ => none }
def berIntsRow : OpenClaim := { program := "ytmgkflkpompchaa", sum := "cee0fb0e4c6a53d9e6c246dfb272f2da6e850d54f6f6331f75d539181ad181f8", func := "brook/brooklaw1.BerInts", spec := "berInts", unfollowed := true, recurses := true, apart := false }
def BerIntsSaid : Prop := berIntsRow.holds Try.pinned (OpenSpec.ofChange berIntsSpec)

/-- ITS FALSE NEIGHBOUR: 'it returns false'. Refute it at one input. -/
def berIntsWrong : ChangeSpec := { name := "berInts", fn := fun _ => fun
  | [d1, d2] => { results := [.lit (.bool false)], args := [d1, d2] }
  | _ => none }
def BerIntsWrongFalsely : Prop := berIntsRow.holds Try.pinned (OpenSpec.ofChange berIntsWrong)

/-- 'brooklaw17.WalFull': WHATEVER THE INPUT: true; the input reads as it did. -/
def walFullSpec : ChangeSpec := { name := "walFull", fn := fun _ => fun
  | [d1, d2] => { results := [.lit (.bool true)], args := [d1, d2] }
  | _ => none }
def walFullRow : OpenClaim := { program := "ytmgkflkpompchaa", sum := "cee0fb0e4c6a53d9e6c246dfb272f2da6e850d54f6f6331f75d539181ad181f8", func := "brook/brooklaw17.WalFull", spec := "walFull", inPlace := ["internal/abi.NoEscape", "internal/bytealg.MakeNoZero", "sync/atomic.StoreInt64", "sync/atomic.LoadInt64", "sync/atomic.AddInt64"], unfollowed := true, recurses := true, apart := false }
def WalFullSaid : Prop := walFullRow.holds Try.pinned (OpenSpec.ofChange walFullSpec)

/-- ITS FALSE NEIGHBOUR: 'it returns false'. Refute it at one input. -/
def walFullWrong : ChangeSpec := { name := "walFull", fn := fun _ => fun
  | [d1, d2] => { results := [.lit (.bool false)], args := [d1, d2] }
  | _ => none }
def WalFullWrongFalsely : Prop := walFullRow.holds Try.pinned (OpenSpec.ofChange walFullWrong)

/-- 'brooklaw17.WalFalls': WHATEVER THE INPUT: true; the input reads as it did. -/
def walFallsSpec : ChangeSpec := { name := "walFalls", fn := fun _ => fun
  | [d1, d2, d3, d4, d5] => { results := [.lit (.bool true)], args := [d1, d2, d3, d4, d5] }
  | _ => none }
def walFallsRow : OpenClaim := { program := "ytmgkflkpompchaa", sum := "cee0fb0e4c6a53d9e6c246dfb272f2da6e850d54f6f6331f75d539181ad181f8", func := "brook/brooklaw17.WalFalls", spec := "walFalls", inPlace := ["internal/abi.NoEscape", "internal/bytealg.MakeNoZero", "sync/atomic.StoreInt64", "sync/atomic.LoadInt64", "sync/atomic.AddInt64"], unfollowed := true, recurses := true, apart := false }
def WalFallsSaid : Prop := walFallsRow.holds Try.pinned (OpenSpec.ofChange walFallsSpec)

/-- ITS FALSE NEIGHBOUR: 'it returns false'. Refute it at one input. -/
def walFallsWrong : ChangeSpec := { name := "walFalls", fn := fun _ => fun
  | [d1, d2, d3, d4, d5] => { results := [.lit (.bool false)], args := [d1, d2, d3, d4, d5] }
  | _ => none }
def WalFallsWrongFalsely : Prop := walFallsRow.holds Try.pinned (OpenSpec.ofChange walFallsWrong)

/-- 'brooklaw16.StripEdges': WHATEVER THE INPUT: true; the input reads as it did. -/
def stripEdgesSpec : ChangeSpec := { name := "stripEdges", fn := fun _ => fun
  | [d1, d2, d3] => { results := [.lit (.bool true)], args := [d1, d2, d3] }
  | _ => none }
def stripEdgesRow : OpenClaim := { program := "ytmgkflkpompchaa", sum := "cee0fb0e4c6a53d9e6c246dfb272f2da6e850d54f6f6331f75d539181ad181f8", func := "brook/brooklaw16.StripEdges", spec := "stripEdges", inPlace := ["internal/abi.NoEscape", "internal/bytealg.MakeNoZero", "sync/atomic.AddInt64", "sync/atomic.StoreInt64"], apart := false }
def StripEdgesSaid : Prop := stripEdgesRow.holds Try.pinned (OpenSpec.ofChange stripEdgesSpec)

/-- ITS FALSE NEIGHBOUR: 'it returns false'. Refute it at one input. -/
def stripEdgesWrong : ChangeSpec := { name := "stripEdges", fn := fun _ => fun
  | [d1, d2, d3] => { results := [.lit (.bool false)], args := [d1, d2, d3] }
  | _ => none }
def StripEdgesWrongFalsely : Prop := stripEdgesRow.holds Try.pinned (OpenSpec.ofChange stripEdgesWrong)

/-- 'brooklaw16.StripFalls': WHATEVER THE INPUT: true; the input reads as it did. -/
def stripFallsSpec : ChangeSpec := { name := "stripFalls", fn := fun _ => fun
  | [d1, d2, d3] => { results := [.lit (.bool true)], args := [d1, d2, d3] }
  | _ => none }
def stripFallsRow : OpenClaim := { program := "ytmgkflkpompchaa", sum := "cee0fb0e4c6a53d9e6c246dfb272f2da6e850d54f6f6331f75d539181ad181f8", func := "brook/brooklaw16.StripFalls", spec := "stripFalls", inPlace := ["internal/abi.NoEscape", "internal/bytealg.MakeNoZero", "sync/atomic.AddInt64", "sync/atomic.StoreInt64"], apart := false }
def StripFallsSaid : Prop := stripFallsRow.holds Try.pinned (OpenSpec.ofChange stripFallsSpec)

/-- ITS FALSE NEIGHBOUR: 'it returns false'. Refute it at one input. -/
def stripFallsWrong : ChangeSpec := { name := "stripFalls", fn := fun _ => fun
  | [d1, d2, d3] => { results := [.lit (.bool false)], args := [d1, d2, d3] }
  | _ => none }
def StripFallsWrongFalsely : Prop := stripFallsRow.holds Try.pinned (OpenSpec.ofChange stripFallsWrong)

/-- 'brooklaw16.StripReads': WHATEVER THE INPUT: true; the input reads as it did. -/
def stripReadsSpec : ChangeSpec := { name := "stripReads", fn := fun _ => fun
  | [d1, d2] => { results := [.lit (.bool true)], args := [d1, d2] }
  | _ => none }
def stripReadsRow : OpenClaim := { program := "ytmgkflkpompchaa", sum := "cee0fb0e4c6a53d9e6c246dfb272f2da6e850d54f6f6331f75d539181ad181f8", func := "brook/brooklaw16.StripReads", spec := "stripReads", inPlace := ["internal/abi.NoEscape", "internal/bytealg.MakeNoZero", "sync/atomic.AddInt64", "sync/atomic.StoreInt64"], apart := false }
def StripReadsSaid : Prop := stripReadsRow.holds Try.pinned (OpenSpec.ofChange stripReadsSpec)

/-- ITS FALSE NEIGHBOUR: 'it returns false'. Refute it at one input. -/
def stripReadsWrong : ChangeSpec := { name := "stripReads", fn := fun _ => fun
  | [d1, d2] => { results := [.lit (.bool false)], args := [d1, d2] }
  | _ => none }
def StripReadsWrongFalsely : Prop := stripReadsRow.holds Try.pinned (OpenSpec.ofChange stripReadsWrong)

/-- 'brooklaw16.StripRuns': WHATEVER THE INPUT: true; the input reads as it did. -/
def stripRunsSpec : ChangeSpec := { name := "stripRuns", fn := fun _ => fun
  | [d1, d2] => { results := [.lit (.bool true)], args := [d1, d2] }
  | _ => none }
def stripRunsRow : OpenClaim := { program := "ytmgkflkpompchaa", sum := "cee0fb0e4c6a53d9e6c246dfb272f2da6e850d54f6f6331f75d539181ad181f8", func := "brook/brooklaw16.StripRuns", spec := "stripRuns", inPlace := ["internal/abi.NoEscape", "internal/bytealg.MakeNoZero", "sync/atomic.AddInt64", "sync/atomic.StoreInt64"], apart := false }
def StripRunsSaid : Prop := stripRunsRow.holds Try.pinned (OpenSpec.ofChange stripRunsSpec)

/-- ITS FALSE NEIGHBOUR: 'it returns false'. Refute it at one input. -/
def stripRunsWrong : ChangeSpec := { name := "stripRuns", fn := fun _ => fun
  | [d1, d2] => { results := [.lit (.bool false)], args := [d1, d2] }
  | _ => none }
def StripRunsWrongFalsely : Prop := stripRunsRow.holds Try.pinned (OpenSpec.ofChange stripRunsWrong)

/-- 'brooklaw16.StripTear': WHATEVER THE INPUT: true; the input reads as it did. -/
def stripTearSpec : ChangeSpec := { name := "stripTear", fn := fun _ => fun
  | [d1, d2, d3] => { results := [.lit (.bool true)], args := [d1, d2, d3] }
  | _ => none }
def stripTearRow : OpenClaim := { program := "ytmgkflkpompchaa", sum := "cee0fb0e4c6a53d9e6c246dfb272f2da6e850d54f6f6331f75d539181ad181f8", func := "brook/brooklaw16.StripTear", spec := "stripTear", inPlace := ["internal/abi.NoEscape", "internal/bytealg.MakeNoZero", "sync/atomic.StoreInt64", "sync/atomic.AddInt64"], apart := false }
def StripTearSaid : Prop := stripTearRow.holds Try.pinned (OpenSpec.ofChange stripTearSpec)

/-- ITS FALSE NEIGHBOUR: 'it returns false'. Refute it at one input. -/
def stripTearWrong : ChangeSpec := { name := "stripTear", fn := fun _ => fun
  | [d1, d2, d3] => { results := [.lit (.bool false)], args := [d1, d2, d3] }
  | _ => none }
def StripTearWrongFalsely : Prop := stripTearRow.holds Try.pinned (OpenSpec.ofChange stripTearWrong)

/-- 'brooklaw16.StripNil': WHATEVER THE INPUT: true; the input reads as it did. -/
def stripNilSpec : ChangeSpec := { name := "stripNil", fn := fun _ => fun
  | [d1, d2] => { results := [.lit (.bool true)], args := [d1, d2] }
  | _ => none }
def stripNilRow : OpenClaim := { program := "ytmgkflkpompchaa", sum := "cee0fb0e4c6a53d9e6c246dfb272f2da6e850d54f6f6331f75d539181ad181f8", func := "brook/brooklaw16.StripNil", spec := "stripNil", inPlace := ["sync/atomic.StoreInt64", "sync/atomic.AddInt64", "internal/abi.NoEscape", "internal/bytealg.MakeNoZero"], apart := false }
def StripNilSaid : Prop := stripNilRow.holds Try.pinned (OpenSpec.ofChange stripNilSpec)

/-- ITS FALSE NEIGHBOUR: 'it returns false'. Refute it at one input. -/
def stripNilWrong : ChangeSpec := { name := "stripNil", fn := fun _ => fun
  | [d1, d2] => { results := [.lit (.bool false)], args := [d1, d2] }
  | _ => none }
def StripNilWrongFalsely : Prop := stripNilRow.holds Try.pinned (OpenSpec.ofChange stripNilWrong)

/-- 'brooklaw17.WalHas': WHATEVER THE INPUT: true; the input reads as it did. -/
def walHasSpec : ChangeSpec := { name := "walHas", fn := fun _ => fun
  | [d1, d2] => { results := [.lit (.bool true)], args := [d1, d2] }
  | _ => none }
def walHasRow : OpenClaim := { program := "ytmgkflkpompchaa", sum := "cee0fb0e4c6a53d9e6c246dfb272f2da6e850d54f6f6331f75d539181ad181f8", func := "brook/brooklaw17.WalHas", spec := "walHas", inPlace := ["internal/abi.NoEscape", "internal/bytealg.MakeNoZero", "sync/atomic.StoreInt64", "sync/atomic.LoadInt64", "sync/atomic.AddInt64"], unfollowed := true, recurses := true, apart := false }
def WalHasSaid : Prop := walHasRow.holds Try.pinned (OpenSpec.ofChange walHasSpec)

/-- ITS FALSE NEIGHBOUR: 'it returns false'. Refute it at one input. -/
def walHasWrong : ChangeSpec := { name := "walHas", fn := fun _ => fun
  | [d1, d2] => { results := [.lit (.bool false)], args := [d1, d2] }
  | _ => none }
def WalHasWrongFalsely : Prop := walHasRow.holds Try.pinned (OpenSpec.ofChange walHasWrong)

/-- 'brooklaw17.WalLarge': WHATEVER THE INPUT: true; the input reads as it did. -/
def walLargeSpec : ChangeSpec := { name := "walLarge", fn := fun _ => fun
  | [d1, d2] => { results := [.lit (.bool true)], args := [d1, d2] }
  | _ => none }
def walLargeRow : OpenClaim := { program := "ytmgkflkpompchaa", sum := "cee0fb0e4c6a53d9e6c246dfb272f2da6e850d54f6f6331f75d539181ad181f8", func := "brook/brooklaw17.WalLarge", spec := "walLarge", inPlace := ["internal/abi.NoEscape", "internal/bytealg.MakeNoZero", "sync/atomic.StoreInt64", "sync/atomic.LoadInt64", "sync/atomic.AddInt64"], unfollowed := true, recurses := true, apart := false }
def WalLargeSaid : Prop := walLargeRow.holds Try.pinned (OpenSpec.ofChange walLargeSpec)

/-- ITS FALSE NEIGHBOUR: 'it returns false'. Refute it at one input. -/
def walLargeWrong : ChangeSpec := { name := "walLarge", fn := fun _ => fun
  | [d1, d2] => { results := [.lit (.bool false)], args := [d1, d2] }
  | _ => none }
def WalLargeWrongFalsely : Prop := walLargeRow.holds Try.pinned (OpenSpec.ofChange walLargeWrong)

/-- 'brooklaw17.WalNil': WHATEVER THE INPUT: true; the input reads as it did. -/
def walNilSpec : ChangeSpec := { name := "walNil", fn := fun _ => fun
  | [d] => { results := [.lit (.bool true)], args := [d] }
  | _ => none }
def walNilRow : OpenClaim := { program := "ytmgkflkpompchaa", sum := "cee0fb0e4c6a53d9e6c246dfb272f2da6e850d54f6f6331f75d539181ad181f8", func := "brook/brooklaw17.WalNil", spec := "walNil", inPlace := ["sync/atomic.LoadInt64", "internal/abi.NoEscape", "internal/bytealg.MakeNoZero", "sync/atomic.AddInt64", "sync/atomic.StoreInt64"], unfollowed := true, recurses := true, apart := false }
def WalNilSaid : Prop := walNilRow.holds Try.pinned (OpenSpec.ofChange walNilSpec)

/-- ITS FALSE NEIGHBOUR: 'it returns false'. Refute it at one input. -/
def walNilWrong : ChangeSpec := { name := "walNil", fn := fun _ => fun
  | [d] => { results := [.lit (.bool false)], args := [d] }
  | _ => none }
def WalNilWrongFalsely : Prop := walNilRow.holds Try.pinned (OpenSpec.ofChange walNilWrong)

/-- 'brooklaw17.WalTorn': WHATEVER THE INPUT: true; the input reads as it did. -/
def walTornSpec : ChangeSpec := { name := "walTorn", fn := fun _ => fun
  | [d1, d2, d3, d4] => { results := [.lit (.bool true)], args := [d1, d2, d3, d4] }
  | _ => none }
def walTornRow : OpenClaim := { program := "ytmgkflkpompchaa", sum := "cee0fb0e4c6a53d9e6c246dfb272f2da6e850d54f6f6331f75d539181ad181f8", func := "brook/brooklaw17.WalTorn", spec := "walTorn", inPlace := ["internal/abi.NoEscape", "internal/bytealg.MakeNoZero", "sync/atomic.StoreInt64", "sync/atomic.LoadInt64", "sync/atomic.AddInt64"], unfollowed := true, recurses := true, apart := false }
def WalTornSaid : Prop := walTornRow.holds Try.pinned (OpenSpec.ofChange walTornSpec)

/-- ITS FALSE NEIGHBOUR: 'it returns false'. Refute it at one input. -/
def walTornWrong : ChangeSpec := { name := "walTorn", fn := fun _ => fun
  | [d1, d2, d3, d4] => { results := [.lit (.bool false)], args := [d1, d2, d3, d4] }
  | _ => none }
def WalTornWrongFalsely : Prop := walTornRow.holds Try.pinned (OpenSpec.ofChange walTornWrong)

/- THE SECOND FORM. 'bulk': how many values and letters a reading holds, each counted each time it is reached (what is shared counts as often as it is met; a slice's spare places count too). A statement '..UptoSaid' is the law's where the arguments, and the package variables that the reading takes, are together of bulk at most 1048576: NARROWER than '..Said'. Prove '..Said' where nothing that the law and all that it calls make is longer than what came in: it says more and counts as full. Else prove '..UptoSaid'. A law counts once. -/
mutual
def uptoBulk {H : Type} : DataW H → Nat
  | .lit (.string bytes) => bytes.length + 1
  | .lit _ => 1
  | .nil => 1
  | .ptr d => uptoBulk d + 1
  | .slice elems spare => uptoBulkAll elems + uptoBulkAll spare + 1
  | .agg parts => uptoBulkAll parts + 1
  | .iface _ d => uptoBulk d + 1
  | .map entries => uptoBulkEntries entries + 1
  | .held _ => 1
def uptoBulkAll {H : Type} : List (DataW H) → Nat
  | [] => 0
  | d :: r => uptoBulk d + uptoBulkAll r
def uptoBulkEntries {H : Type} : List (Lit × DataW H) → Nat
  | [] => 0
  | x :: r => uptoBulkEntry x + uptoBulkEntries r
def uptoBulkEntry {H : Type} : Lit × DataW H → Nat
  | (.string bytes, d) => bytes.length + uptoBulk d + 1
  | (_, d) => uptoBulk d + 1
 end
def uptoSmall : (H : Type) → List (DataW H) → Bool := fun _ ds => decide (uptoBulkAll ds ≤ 1048576)
def OpenSpec.upto (s : _root_.Go.ChangeSpec) : _root_.Go.OpenSpec := { _root_.Go.OpenSpec.ofChange s with cond := some uptoSmall }

/-- 'brooklaw1.BerNumbers', WHERE WHAT IT READS IS OF BULK AT MOST 1048576: true; the input reads as it did. -/
def berNumbersUptoRow : OpenClaim := { program := "ytmgkflkpompchaa", sum := "cee0fb0e4c6a53d9e6c246dfb272f2da6e850d54f6f6331f75d539181ad181f8", func := "brook/brooklaw1.BerNumbers", spec := "berNumbers", recurses := true, apart := false, narrowed := true }
def BerNumbersUptoSaid : Prop := berNumbersUptoRow.holds Try.pinned (OpenSpec.upto berNumbersSpec)

/-- 'brooklaw1.BerAll', WHERE WHAT IT READS IS OF BULK AT MOST 1048576: true; the input reads as it did. -/
def berAllUptoRow : OpenClaim := { program := "ytmgkflkpompchaa", sum := "cee0fb0e4c6a53d9e6c246dfb272f2da6e850d54f6f6331f75d539181ad181f8", func := "brook/brooklaw1.BerAll", spec := "berAll", unfollowed := true, recurses := true, loops := true, apart := false, narrowed := true }
def BerAllUptoSaid : Prop := berAllUptoRow.holds Try.pinned (OpenSpec.upto berAllSpec)

/-- 'brooklaw1.BerInts', WHERE WHAT IT READS IS OF BULK AT MOST 1048576: true; the input reads as it did. -/
def berIntsUptoRow : OpenClaim := { program := "ytmgkflkpompchaa", sum := "cee0fb0e4c6a53d9e6c246dfb272f2da6e850d54f6f6331f75d539181ad181f8", func := "brook/brooklaw1.BerInts", spec := "berInts", unfollowed := true, recurses := true, apart := false, narrowed := true }
def BerIntsUptoSaid : Prop := berIntsUptoRow.holds Try.pinned (OpenSpec.upto berIntsSpec)

/-- 'brooklaw17.WalFull', WHERE WHAT IT READS IS OF BULK AT MOST 1048576: true; the input reads as it did. -/
def walFullUptoRow : OpenClaim := { program := "ytmgkflkpompchaa", sum := "cee0fb0e4c6a53d9e6c246dfb272f2da6e850d54f6f6331f75d539181ad181f8", func := "brook/brooklaw17.WalFull", spec := "walFull", inPlace := ["internal/abi.NoEscape", "internal/bytealg.MakeNoZero", "sync/atomic.StoreInt64", "sync/atomic.LoadInt64", "sync/atomic.AddInt64"], unfollowed := true, recurses := true, apart := false, narrowed := true }
def WalFullUptoSaid : Prop := walFullUptoRow.holds Try.pinned (OpenSpec.upto walFullSpec)

/-- 'brooklaw17.WalFalls', WHERE WHAT IT READS IS OF BULK AT MOST 1048576: true; the input reads as it did. -/
def walFallsUptoRow : OpenClaim := { program := "ytmgkflkpompchaa", sum := "cee0fb0e4c6a53d9e6c246dfb272f2da6e850d54f6f6331f75d539181ad181f8", func := "brook/brooklaw17.WalFalls", spec := "walFalls", inPlace := ["internal/abi.NoEscape", "internal/bytealg.MakeNoZero", "sync/atomic.StoreInt64", "sync/atomic.LoadInt64", "sync/atomic.AddInt64"], unfollowed := true, recurses := true, apart := false, narrowed := true }
def WalFallsUptoSaid : Prop := walFallsUptoRow.holds Try.pinned (OpenSpec.upto walFallsSpec)

/-- 'brooklaw16.StripEdges', WHERE WHAT IT READS IS OF BULK AT MOST 1048576: true; the input reads as it did. -/
def stripEdgesUptoRow : OpenClaim := { program := "ytmgkflkpompchaa", sum := "cee0fb0e4c6a53d9e6c246dfb272f2da6e850d54f6f6331f75d539181ad181f8", func := "brook/brooklaw16.StripEdges", spec := "stripEdges", inPlace := ["internal/abi.NoEscape", "internal/bytealg.MakeNoZero", "sync/atomic.AddInt64", "sync/atomic.StoreInt64"], apart := false, narrowed := true }
def StripEdgesUptoSaid : Prop := stripEdgesUptoRow.holds Try.pinned (OpenSpec.upto stripEdgesSpec)

/-- 'brooklaw16.StripFalls', WHERE WHAT IT READS IS OF BULK AT MOST 1048576: true; the input reads as it did. -/
def stripFallsUptoRow : OpenClaim := { program := "ytmgkflkpompchaa", sum := "cee0fb0e4c6a53d9e6c246dfb272f2da6e850d54f6f6331f75d539181ad181f8", func := "brook/brooklaw16.StripFalls", spec := "stripFalls", inPlace := ["internal/abi.NoEscape", "internal/bytealg.MakeNoZero", "sync/atomic.AddInt64", "sync/atomic.StoreInt64"], apart := false, narrowed := true }
def StripFallsUptoSaid : Prop := stripFallsUptoRow.holds Try.pinned (OpenSpec.upto stripFallsSpec)

/-- 'brooklaw16.StripReads', WHERE WHAT IT READS IS OF BULK AT MOST 1048576: true; the input reads as it did. -/
def stripReadsUptoRow : OpenClaim := { program := "ytmgkflkpompchaa", sum := "cee0fb0e4c6a53d9e6c246dfb272f2da6e850d54f6f6331f75d539181ad181f8", func := "brook/brooklaw16.StripReads", spec := "stripReads", inPlace := ["internal/abi.NoEscape", "internal/bytealg.MakeNoZero", "sync/atomic.AddInt64", "sync/atomic.StoreInt64"], apart := false, narrowed := true }
def StripReadsUptoSaid : Prop := stripReadsUptoRow.holds Try.pinned (OpenSpec.upto stripReadsSpec)

/-- 'brooklaw16.StripRuns', WHERE WHAT IT READS IS OF BULK AT MOST 1048576: true; the input reads as it did. -/
def stripRunsUptoRow : OpenClaim := { program := "ytmgkflkpompchaa", sum := "cee0fb0e4c6a53d9e6c246dfb272f2da6e850d54f6f6331f75d539181ad181f8", func := "brook/brooklaw16.StripRuns", spec := "stripRuns", inPlace := ["internal/abi.NoEscape", "internal/bytealg.MakeNoZero", "sync/atomic.AddInt64", "sync/atomic.StoreInt64"], apart := false, narrowed := true }
def StripRunsUptoSaid : Prop := stripRunsUptoRow.holds Try.pinned (OpenSpec.upto stripRunsSpec)

/-- 'brooklaw16.StripTear', WHERE WHAT IT READS IS OF BULK AT MOST 1048576: true; the input reads as it did. -/
def stripTearUptoRow : OpenClaim := { program := "ytmgkflkpompchaa", sum := "cee0fb0e4c6a53d9e6c246dfb272f2da6e850d54f6f6331f75d539181ad181f8", func := "brook/brooklaw16.StripTear", spec := "stripTear", inPlace := ["internal/abi.NoEscape", "internal/bytealg.MakeNoZero", "sync/atomic.StoreInt64", "sync/atomic.AddInt64"], apart := false, narrowed := true }
def StripTearUptoSaid : Prop := stripTearUptoRow.holds Try.pinned (OpenSpec.upto stripTearSpec)

/-- 'brooklaw16.StripNil', WHERE WHAT IT READS IS OF BULK AT MOST 1048576: true; the input reads as it did. -/
def stripNilUptoRow : OpenClaim := { program := "ytmgkflkpompchaa", sum := "cee0fb0e4c6a53d9e6c246dfb272f2da6e850d54f6f6331f75d539181ad181f8", func := "brook/brooklaw16.StripNil", spec := "stripNil", inPlace := ["sync/atomic.StoreInt64", "sync/atomic.AddInt64", "internal/abi.NoEscape", "internal/bytealg.MakeNoZero"], apart := false, narrowed := true }
def StripNilUptoSaid : Prop := stripNilUptoRow.holds Try.pinned (OpenSpec.upto stripNilSpec)

/-- 'brooklaw17.WalHas', WHERE WHAT IT READS IS OF BULK AT MOST 1048576: true; the input reads as it did. -/
def walHasUptoRow : OpenClaim := { program := "ytmgkflkpompchaa", sum := "cee0fb0e4c6a53d9e6c246dfb272f2da6e850d54f6f6331f75d539181ad181f8", func := "brook/brooklaw17.WalHas", spec := "walHas", inPlace := ["internal/abi.NoEscape", "internal/bytealg.MakeNoZero", "sync/atomic.StoreInt64", "sync/atomic.LoadInt64", "sync/atomic.AddInt64"], unfollowed := true, recurses := true, apart := false, narrowed := true }
def WalHasUptoSaid : Prop := walHasUptoRow.holds Try.pinned (OpenSpec.upto walHasSpec)

/-- 'brooklaw17.WalLarge', WHERE WHAT IT READS IS OF BULK AT MOST 1048576: true; the input reads as it did. -/
def walLargeUptoRow : OpenClaim := { program := "ytmgkflkpompchaa", sum := "cee0fb0e4c6a53d9e6c246dfb272f2da6e850d54f6f6331f75d539181ad181f8", func := "brook/brooklaw17.WalLarge", spec := "walLarge", inPlace := ["internal/abi.NoEscape", "internal/bytealg.MakeNoZero", "sync/atomic.StoreInt64", "sync/atomic.LoadInt64", "sync/atomic.AddInt64"], unfollowed := true, recurses := true, apart := false, narrowed := true }
def WalLargeUptoSaid : Prop := walLargeUptoRow.holds Try.pinned (OpenSpec.upto walLargeSpec)

/-- 'brooklaw17.WalNil', WHERE WHAT IT READS IS OF BULK AT MOST 1048576: true; the input reads as it did. -/
def walNilUptoRow : OpenClaim := { program := "ytmgkflkpompchaa", sum := "cee0fb0e4c6a53d9e6c246dfb272f2da6e850d54f6f6331f75d539181ad181f8", func := "brook/brooklaw17.WalNil", spec := "walNil", inPlace := ["sync/atomic.LoadInt64", "internal/abi.NoEscape", "internal/bytealg.MakeNoZero", "sync/atomic.AddInt64", "sync/atomic.StoreInt64"], unfollowed := true, recurses := true, apart := false, narrowed := true }
def WalNilUptoSaid : Prop := walNilUptoRow.holds Try.pinned (OpenSpec.upto walNilSpec)

/-- 'brooklaw17.WalTorn', WHERE WHAT IT READS IS OF BULK AT MOST 1048576: true; the input reads as it did. -/
def walTornUptoRow : OpenClaim := { program := "ytmgkflkpompchaa", sum := "cee0fb0e4c6a53d9e6c246dfb272f2da6e850d54f6f6331f75d539181ad181f8", func := "brook/brooklaw17.WalTorn", spec := "walTorn", inPlace := ["internal/abi.NoEscape", "internal/bytealg.MakeNoZero", "sync/atomic.StoreInt64", "sync/atomic.LoadInt64", "sync/atomic.AddInt64"], unfollowed := true, recurses := true, apart := false, narrowed := true }
def WalTornUptoSaid : Prop := walTornUptoRow.holds Try.pinned (OpenSpec.upto walTornSpec)

end Rows
end Go.Proofs.Ytmgkflkpompchaa
