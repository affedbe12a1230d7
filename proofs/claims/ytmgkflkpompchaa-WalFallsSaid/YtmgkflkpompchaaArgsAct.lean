/- A plan, and a row of Acts, among a law's arguments, as the row's form reads them. No condition. -/
import Derived.Test.YtmgkflkpompchaaArgs
namespace Go.Proofs.Ytmgkflkpompchaa.Args
open Go.RowKit Go.Proofs.YtmgkflkpompchaaW.PrintWords
set_option linter.unusedVariables false
set_option linter.unusedSimpArgs false

/-- An Act's fields. -/
structure ActV where
  do_ : Int
  i : Int
  b : ByteArray
  bl : Int
  cr : Int
  ke : Int
  tn : Int
instance : Inhabited ActV := ⟨⟨0, 0, ⟨#[]⟩, 0, 0, 0, 0⟩⟩
def IsAct (_w : World) (a : ActV) (cs : List Value) : Prop := cs = [.int .i64 a.do_, .int .i64 a.i, .string a.b, .int .i64 a.bl, .int .i64 a.cr, .int .i64 a.ke, .int .i64 a.tn] ∧ a.i ≤ 9223372036854775807 ∧ a.cr ≤ 9223372036854775807
theorem ARow.acts {w w1 : World} {A : Option Addr} {xs : List ActV} (h : ARow IsAct 7 w A xs) (hb : Below w.heap.size w w1) : ARow IsAct 7 w1 A xs := h.below (fun _ _ h => h) hb
theorem cells72 : Try.prog.cellsOf 72 = 7 := by kernel_rfl
theorem cells42 : Try.prog.cellsOf 42 = 4 := by kernel_rfl
theorem cells3 : Try.prog.cellsOf 3 = 1 := by kernel_rfl
theorem cells9 : Try.prog.cellsOf 9 = 1 := by kernel_rfl
theorem four : ∀ (cs : List Value), cs.length = 4 → ∃ c0 c1 c2 c3, cs = [c0, c1, c2, c3]
  | [c0, c1, c2, c3], _ => ⟨c0, c1, c2, c3, rfl⟩
  | [], h => by simp at h
  | [_], h => by simp at h
  | [_, _], h => by simp at h
  | [_, _, _], h => by simp at h
  | _ :: _ :: _ :: _ :: _ :: _, h => by simp at h
theorem seven : ∀ (cs : List Value), cs.length = 7 → ∃ c0 c1 c2 c3 c4 c5 c6, cs = [c0, c1, c2, c3, c4, c5, c6]
  | [c0, c1, c2, c3, c4, c5, c6], _ => ⟨c0, c1, c2, c3, c4, c5, c6, rfl⟩
  | [], h => by simp at h
  | [_], h => by simp at h
  | [_, _], h => by simp at h
  | [_, _, _], h => by simp at h
  | [_, _, _, _], h => by simp at h
  | [_, _, _, _, _], h => by simp at h
  | [_, _, _, _, _, _], h => by simp at h
  | _ :: _ :: _ :: _ :: _ :: _ :: _ :: _ :: _, h => by simp at h
section
variable {H : Type} {enc : TypeId × Value → H} {W : World} {base : Nat} {spare : Nat → Bool} {held : Bool}
set_option maxRecDepth 100000 in
theorem int_read {fuel : Nat} {c : Value} {x : DataW H × List MemPlace} (h : DataW.trod enc Try.prog W base spare held fuel 3 [c] = some x) : ∃ n, c = .int .i64 n ∧ n ≤ 9223372036854775807 := by
  obtain ⟨n, e, _, hw⟩ := DataW.trod_int Try.underlying3 h
  simp at e
  exact ⟨n, e, (show IntKind.i64.min ≤ n ∧ n ≤ IntKind.i64.max by simpa [Lit.wf] using hw).2⟩
set_option maxRecDepth 100000 in
theorem plan_read (fuel : Nat) (cs : List Value) (x : DataW H × List MemPlace) (h : DataW.trod enc Try.prog W base spare held fuel 42 cs = some x) :
    ∃ bl cr ke tn, cs = [.int .i64 bl, .int .i64 cr, .int .i64 ke, .int .i64 tn] ∧ cr ≤ 9223372036854775807 := by
  obtain ⟨xs, m, rfl, rfl, hl, hxl, hf⟩ := DataW.trod_struct Try.underlying42 h
  rw [cells42] at hl
  obtain ⟨c0, c1, c2, c3, rfl⟩ := four cs hl
  have hxl' : xs.length = 4 := hxl
  have f0 : DataW.trod enc Try.prog W base spare held m 3 (([c0, c1, c2, c3].drop 0).take (Try.prog.cellsOf 3)) = xs[0]? := hf 0 _ rfl
  have f1 : DataW.trod enc Try.prog W base spare held m 3 (([c0, c1, c2, c3].drop 1).take (Try.prog.cellsOf 3)) = xs[1]? := hf 1 _ rfl
  have f2 : DataW.trod enc Try.prog W base spare held m 3 (([c0, c1, c2, c3].drop 2).take (Try.prog.cellsOf 3)) = xs[2]? := hf 2 _ rfl
  have f3 : DataW.trod enc Try.prog W base spare held m 3 (([c0, c1, c2, c3].drop 3).take (Try.prog.cellsOf 3)) = xs[3]? := hf 3 _ rfl
  rw [cells3] at f0 f1 f2 f3
  rw [List.getElem?_eq_getElem (by omega)] at f0 f1 f2 f3
  obtain ⟨bl, rfl, _⟩ := int_read (c := c0) f0
  obtain ⟨cr, rfl, hc⟩ := int_read (c := c1) f1
  obtain ⟨ke, rfl, _⟩ := int_read (c := c2) f2
  obtain ⟨tn, rfl, _⟩ := int_read (c := c3) f3
  exact ⟨bl, cr, ke, tn, rfl, hc⟩
set_option maxRecDepth 100000 in
theorem act_read (fuel : Nat) (cs : List Value) (x : DataW H × List MemPlace) (h : DataW.trod enc Try.prog W base spare held fuel 72 cs = some x) : ∃ a, IsAct W a cs := by
  obtain ⟨xs, m, rfl, rfl, hl, hxl, hf⟩ := DataW.trod_struct Try.underlying72 h
  rw [cells72] at hl
  obtain ⟨c0, c1, c2, c3, c4, c5, c6, rfl⟩ := seven cs hl
  have hxl' : xs.length = 4 := hxl
  have f0 : DataW.trod enc Try.prog W base spare held m 3 (([c0, c1, c2, c3, c4, c5, c6].drop 0).take (Try.prog.cellsOf 3)) = xs[0]? := hf 0 _ rfl
  have f1 : DataW.trod enc Try.prog W base spare held m 3 (([c0, c1, c2, c3, c4, c5, c6].drop 1).take (Try.prog.cellsOf 3)) = xs[1]? := hf 1 _ rfl
  have f2 : DataW.trod enc Try.prog W base spare held m 9 (([c0, c1, c2, c3, c4, c5, c6].drop 2).take (Try.prog.cellsOf 9)) = xs[2]? := hf 2 _ rfl
  have f3 : DataW.trod enc Try.prog W base spare held m 42 (([c0, c1, c2, c3, c4, c5, c6].drop 3).take (Try.prog.cellsOf 42)) = xs[3]? := hf 3 _ rfl
  rw [cells3] at f0 f1
  rw [cells9] at f2
  rw [cells42] at f3
  rw [List.getElem?_eq_getElem (by omega)] at f0 f1 f2 f3
  obtain ⟨d, rfl, _⟩ := int_read (c := c0) f0
  obtain ⟨i, rfl, hi⟩ := int_read (c := c1) f1
  obtain ⟨s, e1, _, _⟩ := DataW.trod_string (cs := [c2]) Try.underlying9 f2
  obtain ⟨bl, cr, ke, tn, e, hc⟩ := plan_read _ [c3, c4, c5, c6] _ f3
  simp at e1 e
  obtain ⟨rfl, rfl, rfl, rfl⟩ := e
  subst e1
  exact ⟨⟨d, i, s, bl, cr, ke, tn⟩, rfl, hi, hc⟩
variable {r : Reach} {b0 : Nat} {v : Value} {d : DataW H} {p : List MemPlace}
set_option maxRecDepth 100000 in
/-- A []Act. -/
theorem act_arg (hv : Value.okWide Try.prog W r b0 68 v) (h : DataW.Trod enc Try.prog W base spare held 68 v d p) : ∃ (xs : List ActV) (A : Option Addr) (c : Nat), v = .slice A xs.length c ∧ xs.length ≤ c ∧ c ≤ maxLen ∧ ARow IsAct 7 W A xs :=
  slice_arg Try.underlying68 cells72 IsAct act_read hv h
set_option maxRecDepth 100000 in
/-- A Plan. -/
theorem plan_arg (hv : Value.okWide Try.prog W r b0 42 v) (h : DataW.Trod enc Try.prog W base spare held 42 v d p) : ∃ bl cr ke tn, v = .agg #[.int .i64 bl, .int .i64 cr, .int .i64 ke, .int .i64 tn] ∧ cr ≤ 9223372036854775807 := by
  obtain ⟨cs, rfl, hsz⟩ := WideShapes.okWide_struct Try.underlying42 hv
  obtain ⟨fuel, hf⟩ := h
  obtain ⟨bl, cr, ke, tn, e, hc⟩ := plan_read fuel _ _ hf
  refine ⟨bl, cr, ke, tn, ?_, hc⟩
  congr 1
  apply Array.ext'
  simpa [Value.cells] using e
theorem ARow.act_at {w : World} {A : Option Addr} {xs : List ActV} (h : ARow IsAct 7 w A xs) (j : Nat) (hj : j < xs.length) :
    ∃ a, A = some a ∧ w.cell? (a.add (j * 7)) = some (.int .i64 xs[j].do_) ∧ w.cell? ⟨(a.add (j * 7)).block, (a.add (j * 7)).off + 1, none⟩ = some (.int .i64 xs[j].i) ∧ w.cell? ⟨(a.add (j * 7)).block, (a.add (j * 7)).off + 2, none⟩ = some (.string xs[j].b) ∧
      w.cell? ⟨(a.add (j * 7)).block, (a.add (j * 7)).off + 3, none⟩ = some (.int .i64 xs[j].bl) ∧ w.cell? ⟨(a.add (j * 7)).block, (a.add (j * 7)).off + 4, none⟩ = some (.int .i64 xs[j].cr) ∧ w.cell? ⟨(a.add (j * 7)).block, (a.add (j * 7)).off + 5, none⟩ = some (.int .i64 xs[j].ke) ∧ w.cell? ⟨(a.add (j * 7)).block, (a.add (j * 7)).off + 6, none⟩ = some (.int .i64 xs[j].tn) ∧
      xs[j].i ≤ 9223372036854775807 ∧ xs[j].cr ≤ 9223372036854775807 := by
  obtain ⟨a, cs, h1, h2, ⟨rfl, h5⟩, h4⟩ := h j hj
  have f := fun k (hk : 0 < k) u (hu : _) => (add_field a (j * 7) k hk) ▸ h4 k u hu
  exact ⟨a, h1, by simpa using h4 0 _ rfl, f 1 (by omega) _ rfl, f 2 (by omega) _ rfl, f 3 (by omega) _ rfl, f 4 (by omega) _ rfl, f 5 (by omega) _ rfl, f 6 (by omega) _ rfl, h5⟩
end
end Go.Proofs.Ytmgkflkpompchaa.Args
