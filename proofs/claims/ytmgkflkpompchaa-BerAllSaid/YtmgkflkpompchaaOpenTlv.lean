/- A tlv that the row's form reads out of memory is a tree as the walks take it. No condition. -/
import Derived.Test.YtmgkflkpompchaaPBerAllx0
import Derived.ProofKit
import Derived.Deep.Slices
namespace Go.Proofs.Ytmgkflkpompchaa.OpenTlv
open Go.RowKit Go.Proofs.YtmgkflkpompchaaW.PrintWords Go.Proofs.YtmgkflkpompchaaW.PrintLast Go.Proofs.YtmgkflkpompchaaW.PrintMore
open Go.Proofs.Ytmgkflkpompchaa.PBerAll
set_option linter.unusedVariables false
set_option linter.unusedSimpArgs false

theorem cells32 : Try.prog.cellsOf 32 = 3 := by kernel_rfl
theorem cells3 : Try.prog.cellsOf 3 = 1 := by kernel_rfl
theorem cells9 : Try.prog.cellsOf 9 = 1 := by kernel_rfl
theorem cells30 : Try.prog.cellsOf 30 = 1 := by kernel_rfl
theorem add_add (ad : Addr) (i j : Nat) : (ad.add i).add j = ad.add (i + j) := by
  unfold Addr.add
  by_cases h1 : i = 0 <;> by_cases h2 : j = 0 <;> simp [h1, h2, Nat.add_assoc]

theorem three : ∀ (cs : List Value), cs.length = 3 → ∃ c0 c1 c2, cs = [c0, c1, c2]
  | [c0, c1, c2], _ => ⟨c0, c1, c2, rfl⟩
  | [], h => by simp at h
  | [_], h => by simp at h
  | [_, _], h => by simp at h
  | _ :: _ :: _ :: _ :: _, h => by simp at h
section
variable {H : Type} {enc : TypeId × Value → H} {W : World} {base : Nat} {spare : Nat → Bool} {held : Bool}
set_option maxRecDepth 100000 in
theorem tlv_open : ∀ (n fuel : Nat), fuel < n → ∀ (cs : List Value) (x : DataW H × List MemPlace), DataW.trod enc Try.prog W base spare held fuel 32 cs = some x → ∃ t : S32, k32.K W t cs
  | 0, fuel, h => by omega
  | n + 1, fuel, h => by
    intro cs x hx
    obtain ⟨xs, m, rfl, rfl, hl, hxl, hf⟩ := DataW.trod_struct Try.underlying32 hx
    rw [cells32] at hl
    obtain ⟨c0, c1, c2, rfl⟩ : ∃ c0 c1 c2, cs = [c0, c1, c2] := three cs hl
    have f0 : DataW.trod enc Try.prog W base spare held m 3 [c0] = xs[0]? := by
      have := hf 0 { name := "Tag", type := 3, offset := 0, embedded := false, tag := "", pkgPath := "", byteOffset := 0 } rfl
      dsimp only at this
      rw [cells3] at this
      exact this
    have f1 : DataW.trod enc Try.prog W base spare held m 9 [c1] = xs[1]? := by
      have := hf 1 { name := "S", type := 9, offset := 1, embedded := false, tag := "", pkgPath := "", byteOffset := 8 } rfl
      dsimp only at this
      rw [cells9] at this
      exact this
    have f2 : DataW.trod enc Try.prog W base spare held m 30 [c2] = xs[2]? := by
      have := hf 2 { name := "L", type := 30, offset := 2, embedded := false, tag := "", pkgPath := "", byteOffset := 24 } rfl
      dsimp only at this
      rw [cells30] at this
      exact this
    have hxl' : xs.length = 3 := hxl
    rw [List.getElem?_eq_getElem (by omega)] at f0 f1 f2
    obtain ⟨t, e0, _, _⟩ := DataW.trod_int Try.underlying3 f0
    obtain ⟨s, e1, _, _⟩ := DataW.trod_string Try.underlying9 f1
    simp at e0 e1
    subst e0 e1
    have f2' : DataW.trod enc Try.prog W base spare held m 30 [c2] = some (xs[2]'(by omega)) := f2
    rcases DataW.trod_slice Try.underlying30 f2' with ⟨e2, _⟩ | ⟨a, len, cap, elems, rest, n', rfl, e2, _, hb, hlc, hcm, hel, he, _, _⟩
    · simp at e2
      subst e2
      exact ⟨⟨t, s, []⟩, k32_mk W ⟨t, s, []⟩ (A2 := none) (c2 := 0) (Nat.le_refl _) (Kd.C_nil _ _)⟩
    · simp at e2
      subst e2
      have hch : ∀ i, i < len → ∃ y : S32, ∃ c, c.length = 3 ∧ k32.K W y c ∧ ∀ j u, c[j]? = some u → W.cell? (a.add (i * 3 + j)) = some u := by
        intro i hi
        have h1 := he i hi
        rw [List.getElem?_eq_getElem (by omega), cells32] at h1
        obtain ⟨c, hc, ht⟩ := Option.bind_eq_some_iff.1 h1
        obtain ⟨y, hy⟩ := tlv_open n n' (by omega) c _ ht
        obtain ⟨_, hcl, hcell⟩ := World.cells?_some hc
        refine ⟨y, c, hcl, hy, fun j u hu => ?_⟩
        have hj : j < 3 := by
          rw [← hcl]
          exact (List.getElem?_eq_some_iff.1 hu).1
        rw [← add_add, hcell j hj]
        exact hu
      obtain ⟨F, hF⟩ : ∃ F : Nat → S32, ∀ i, i < len → ∃ c, c.length = 3 ∧ k32.K W (F i) c ∧ ∀ j u, c[j]? = some u → W.cell? (a.add (i * 3 + j)) = some u := by
        refine ⟨fun i => if h : i < len then (hch i h).choose else z32, fun i hi => ?_⟩
        simp only [dif_pos hi]
        exact (hch i hi).choose_spec
      have hlen : ((List.range len).map F).length = len := by simp
      refine ⟨⟨t, s, (List.range len).map F⟩, ?_⟩
      have := k32_mk W ⟨t, s, (List.range len).map F⟩ (A2 := some a) (c2 := cap) (by simp; exact hlc) ?_
      · simpa using this
      · show ReadsRow (k32.K W) k32.sz W (some a) _ _
        refine ⟨rfl, by simp; simp only [maxLen] at hcm; omega, fun _ => ⟨a, rfl, fun j p hp => ?_⟩⟩
        have hj : j < len := by
          have := (List.getElem?_eq_some_iff.1 hp).1
          simpa using this
        have hp' : F j = p := by
          simp [List.getElem?_map, List.getElem?_range, hj] at hp
          exact hp
        subst hp'
        exact hF j hj

set_option maxRecDepth 100000 in
/-- An argument of that type: its value, and the tree. -/
theorem arg_open {r : Reach} {b0 : Nat} {v : Value} {d : DataW H} {p : List MemPlace} (hv : Value.okWide Try.prog W r b0 32 v) (h : DataW.Trod enc Try.prog W base spare held 32 v d p) :
    ∃ (x : S32) (A : Option Addr) (c : Nat), v = .agg #[.int .i64 x.f0, .string x.f1, .slice A x.f2.length c] ∧ x.f2.length ≤ c ∧ Kd.C k32 W A x.f2.length x.f2 := by
  obtain ⟨cs, rfl, hsz⟩ := WideShapes.okWide_struct Try.underlying32 hv
  obtain ⟨fuel, hf⟩ := h
  obtain ⟨x, hx⟩ := tlv_open _ fuel (Nat.lt_succ_self _) _ _ hf
  obtain ⟨A2, c2, e, l2, g2⟩ := k32_open hx
  refine ⟨x, A2, c2, ?_, l2, g2⟩
  congr 1
  apply Array.ext'
  simpa [Value.cells] using e
end
end Go.Proofs.Ytmgkflkpompchaa.OpenTlv
