/- Slices among a law's arguments, as the row's form reads them out of memory. No condition. -/
import Derived.Test.YtmgkflkpompchaaWWords
import Derived.Test.YtmgkflkpompchaaProg
import Derived.ProofKit
import Derived.Deep.Slices
namespace Go.Proofs.Ytmgkflkpompchaa.Args
open Go.RowKit Go.Proofs.YtmgkflkpompchaaW.PrintWords
set_option linter.unusedVariables false
set_option linter.unusedSimpArgs false

/-- A row of elements of n cells each. -/
def ARow {α : Type} (R : World → α → List Value → Prop) (n : Nat) (w : World) (A : Option Addr) (xs : List α) : Prop :=
  ∀ j (h : j < xs.length), ∃ a cs, A = some a ∧ cs.length = n ∧ R w xs[j] cs ∧ ∀ i u, cs[i]? = some u → w.cell? (a.add (j * n + i)) = some u
theorem ARow.below {α : Type} {R : World → α → List Value → Prop} {n : Nat} {w w1 : World} {A : Option Addr} {xs : List α} (h : ARow R n w A xs) (hR : ∀ x cs, R w x cs → R w1 x cs) (hb : Below w.heap.size w w1) : ARow R n w1 A xs :=
  fun j hj => by
    obtain ⟨a, cs, h1, h2, h3, h4⟩ := h j hj
    exact ⟨a, cs, h1, h2, hR _ _ h3, fun i u hu => pw_cell_below hb (h4 i u hu)⟩
theorem add_add (ad : Addr) (i j : Nat) : (ad.add i).add j = ad.add (i + j) := by
  unfold Addr.add
  by_cases h1 : i = 0 <;> by_cases h2 : j = 0 <;> simp [h1, h2, Nat.add_assoc]
/-- A byte. -/
def U8 (_w : World) (x : Int) (cs : List Value) : Prop := cs = [.int .u8 x] ∧ 0 ≤ x ∧ x ≤ 255
/-- A bool. -/
def B1 (_w : World) (b : Bool) (cs : List Value) : Prop := cs = [.bool b]
/-- A slice of bytes. -/
def U8s (w : World) (xs : List Int) (cs : List Value) : Prop := ∃ A c, cs = [.slice A xs.length c] ∧ xs.length ≤ c ∧ c ≤ maxLen ∧ ARow U8 1 w A xs
theorem ARow.u8 {w w1 : World} {A : Option Addr} {xs : List Int} (h : ARow U8 1 w A xs) (hb : Below w.heap.size w w1) : ARow U8 1 w1 A xs := h.below (fun _ _ h => h) hb
theorem ARow.b1 {w w1 : World} {A : Option Addr} {xs : List Bool} (h : ARow B1 1 w A xs) (hb : Below w.heap.size w w1) : ARow B1 1 w1 A xs := h.below (fun _ _ h => h) hb
theorem U8s.below {w w1 : World} {xs : List Int} {cs : List Value} (h : U8s w xs cs) (hb : Below w.heap.size w w1) : U8s w1 xs cs := by
  obtain ⟨A, c, h1, h2, h3, h4⟩ := h
  exact ⟨A, c, h1, h2, h3, h4.u8 hb⟩
theorem ARow.u8s {w w1 : World} {A : Option Addr} {xs : List (List Int)} (h : ARow U8s 1 w A xs) (hb : Below w.heap.size w w1) : ARow U8s 1 w1 A xs := h.below (fun _ _ h => h.below hb) hb
theorem ARow.u8_at {w : World} {A : Option Addr} {xs : List Int} (h : ARow U8 1 w A xs) (j : Nat) (hj : j < xs.length) : ∃ a, A = some a ∧ w.cell? (a.add j) = some (.int .u8 xs[j]) ∧ 0 ≤ xs[j] ∧ xs[j] ≤ 255 := by
  obtain ⟨a, cs, h1, h2, ⟨h3, h5⟩, h4⟩ := h j hj
  refine ⟨a, h1, ?_, h5⟩
  have := h4 0 (.int .u8 xs[j]) (by rw [h3]; rfl)
  simpa using this
theorem ARow.b1_at {w : World} {A : Option Addr} {xs : List Bool} (h : ARow B1 1 w A xs) (j : Nat) (hj : j < xs.length) : ∃ a, A = some a ∧ w.cell? (a.add j) = some (.bool xs[j]) := by
  obtain ⟨a, cs, h1, h2, h3, h4⟩ := h j hj
  refine ⟨a, h1, ?_⟩
  have := h4 0 (.bool xs[j]) (by rw [h3]; rfl)
  simpa using this
theorem ARow.u8s_at {w : World} {A : Option Addr} {xs : List (List Int)} (h : ARow U8s 1 w A xs) (j : Nat) (hj : j < xs.length) : ∃ a B c, A = some a ∧ w.cell? (a.add j) = some (.slice B xs[j].length c) ∧ xs[j].length ≤ c ∧ c ≤ maxLen ∧ ARow U8 1 w B xs[j] := by
  obtain ⟨a, cs, h1, h2, ⟨B, c, h3, h5, h6, h7⟩, h4⟩ := h j hj
  refine ⟨a, B, c, h1, ?_, h5, h6, h7⟩
  have := h4 0 (.slice B xs[j].length c) (by rw [h3]; rfl)
  simpa using this

section
variable {H : Type} {enc : TypeId × Value → H} {W : World} {base : Nat} {spare : Nat → Bool} {held : Bool}
set_option maxRecDepth 100000 in
theorem rows_open {α : Type} [Inhabited α] {T E : TypeId} {n : Nat} (hT : Try.prog.underlying T = some (.slice E)) (hE : Try.prog.cellsOf E = n) (R : World → α → List Value → Prop)
    (hR : ∀ fuel cs x, DataW.trod enc Try.prog W base spare held fuel E cs = some x → ∃ y, R W y cs) {fuel : Nat} {cs : List Value} {x : DataW H × List MemPlace}
    (h : DataW.trod enc Try.prog W base spare held fuel T cs = some x) : ∃ (xs : List α) (A : Option Addr) (c : Nat), cs = [.slice A xs.length c] ∧ xs.length ≤ c ∧ c ≤ maxLen ∧ ARow R n W A xs := by
  rcases DataW.trod_slice hT h with ⟨e2, _⟩ | ⟨a, len, cap, elems, rest, n', rfl, e2, _, hb, hlc, hcm, hel, he, _, _⟩
  · exact ⟨[], none, 0, e2, Nat.le_refl _, Nat.zero_le _, fun j hj => absurd hj (by simp)⟩
  · have hch : ∀ i, i < len → ∃ y : α, ∃ c, c.length = n ∧ R W y c ∧ ∀ j u, c[j]? = some u → W.cell? (a.add (i * n + j)) = some u := by
      intro i hi
      have h1 := he i hi
      rw [List.getElem?_eq_getElem (by omega), hE] at h1
      obtain ⟨c, hc, ht⟩ := Option.bind_eq_some_iff.1 h1
      obtain ⟨y, hy⟩ := hR n' c _ ht
      obtain ⟨_, hcl, hcell⟩ := World.cells?_some hc
      refine ⟨y, c, hcl, hy, fun j u hu => ?_⟩
      have hj : j < n := by
        rw [← hcl]
        exact (List.getElem?_eq_some_iff.1 hu).1
      rw [← add_add, hcell j hj]
      exact hu
    obtain ⟨F, hF⟩ : ∃ F : Nat → α, ∀ i, i < len → ∃ c, c.length = n ∧ R W (F i) c ∧ ∀ j u, c[j]? = some u → W.cell? (a.add (i * n + j)) = some u := by
      refine ⟨fun i => if h : i < len then (hch i h).choose else default, fun i hi => ?_⟩
      simp only [dif_pos hi]
      exact (hch i hi).choose_spec
    refine ⟨(List.range len).map F, some a, cap, by simpa using e2, by simpa using hlc, hcm, fun j hj => ?_⟩
    have hj' : j < len := by simpa using hj
    obtain ⟨c, h1, h2, h3⟩ := hF j hj'
    exact ⟨a, c, rfl, h1, by simpa using h2, h3⟩
set_option maxRecDepth 100000 in
theorem u8_read (fuel : Nat) (cs : List Value) (x : DataW H × List MemPlace) (h : DataW.trod enc Try.prog W base spare held fuel 5 cs = some x) : ∃ y, U8 W y cs := by
  obtain ⟨n, e, _, hw⟩ := DataW.trod_int Try.underlying5 h
  exact ⟨n, e, (show IntKind.u8.min ≤ n ∧ n ≤ IntKind.u8.max by simpa [Lit.wf] using hw)⟩
set_option maxRecDepth 100000 in
theorem b1_read (fuel : Nat) (cs : List Value) (x : DataW H × List MemPlace) (h : DataW.trod enc Try.prog W base spare held fuel 4 cs = some x) : ∃ y, B1 W y cs := by
  obtain ⟨n, e, _⟩ := DataW.trod_bool Try.underlying4 h
  exact ⟨n, e⟩
theorem cells5 : Try.prog.cellsOf 5 = 1 := by kernel_rfl
theorem cells4 : Try.prog.cellsOf 4 = 1 := by kernel_rfl
theorem cells50 : Try.prog.cellsOf 50 = 1 := by kernel_rfl
set_option maxRecDepth 100000 in
theorem u8s_read (fuel : Nat) (cs : List Value) (x : DataW H × List MemPlace) (h : DataW.trod enc Try.prog W base spare held fuel 50 cs = some x) : ∃ y, U8s W y cs := by
  obtain ⟨xs, A, c, h1, h2, h3, h4⟩ := rows_open Try.underlying50 cells5 U8 u8_read h
  exact ⟨xs, A, c, h1, h2, h3, h4⟩
variable {r : Reach} {b0 : Nat} {v : Value} {d : DataW H} {p : List MemPlace}
set_option maxRecDepth 100000 in
theorem slice_arg {α : Type} [Inhabited α] {T E : TypeId} {n : Nat} (hT : Try.prog.underlying T = some (.slice E)) (hE : Try.prog.cellsOf E = n) (R : World → α → List Value → Prop)
    (hR : ∀ fuel cs x, DataW.trod enc Try.prog W base spare held fuel E cs = some x → ∃ y, R W y cs) (hv : Value.okWide Try.prog W r b0 T v) (h : DataW.Trod enc Try.prog W base spare held T v d p) :
    ∃ (xs : List α) (A : Option Addr) (c : Nat), v = .slice A xs.length c ∧ xs.length ≤ c ∧ c ≤ maxLen ∧ ARow R n W A xs := by
  obtain ⟨a, len, cap, rfl⟩ := WideShapes.okWide_slice hT hv
  obtain ⟨fuel, hf⟩ := h
  obtain ⟨xs, A, c, h1, h2, h3, h4⟩ := rows_open hT hE R hR hf
  refine ⟨xs, A, c, ?_, h2, h3, h4⟩
  simpa [Value.cells] using h1
set_option maxRecDepth 100000 in
/-- A []uint8. -/
theorem u8_arg (hv : Value.okWide Try.prog W r b0 50 v) (h : DataW.Trod enc Try.prog W base spare held 50 v d p) : ∃ (xs : List Int) (A : Option Addr) (c : Nat), v = .slice A xs.length c ∧ xs.length ≤ c ∧ c ≤ maxLen ∧ ARow U8 1 W A xs :=
  slice_arg Try.underlying50 cells5 U8 u8_read hv h
set_option maxRecDepth 100000 in
/-- A []bool. -/
theorem bool_arg (hv : Value.okWide Try.prog W r b0 66 v) (h : DataW.Trod enc Try.prog W base spare held 66 v d p) : ∃ (xs : List Bool) (A : Option Addr) (c : Nat), v = .slice A xs.length c ∧ xs.length ≤ c ∧ c ≤ maxLen ∧ ARow B1 1 W A xs :=
  slice_arg Try.underlying66 cells4 B1 b1_read hv h
set_option maxRecDepth 100000 in
/-- A [][]uint8. -/
theorem u8s_arg (hv : Value.okWide Try.prog W r b0 38 v) (h : DataW.Trod enc Try.prog W base spare held 38 v d p) : ∃ (xs : List (List Int)) (A : Option Addr) (c : Nat), v = .slice A xs.length c ∧ xs.length ≤ c ∧ c ≤ maxLen ∧ ARow U8s 1 W A xs :=
  slice_arg Try.underlying38 cells50 U8s u8s_read hv h
end
end Go.Proofs.Ytmgkflkpompchaa.Args
