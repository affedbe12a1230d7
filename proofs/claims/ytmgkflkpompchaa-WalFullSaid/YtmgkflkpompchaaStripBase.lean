/- Words on the strip's memory; sync/atomic's Int64 by its contracts. No condition. -/
import Derived.Test.YtmgkflkpompchaaWWords
import Derived.Test.YtmgkflkpompchaaWLast
import Derived.Test.YtmgkflkpompchaaWMore
import Derived.Test.YtmgkflkpompchaaWGuard
import Derived.Test.YtmgkflkpompchaaProg
import Derived.WalkLawsBesides
import Derived.WalkSpells
namespace Go.Proofs.Ytmgkflkpompchaa.Strip
open Go.RowKit Go.Proofs.YtmgkflkpompchaaW.PrintWords Go.Proofs.YtmgkflkpompchaaW.PrintLast Go.Proofs.YtmgkflkpompchaaW.PrintMore
set_option linter.unusedVariables false
set_option linter.unusedSimpArgs false

set_option maxHeartbeats 400000 in
set_option maxRecDepth 100000 in
theorem add_calls (p o : Nat) (x : Int) (w : World) (hc : w.cell? ⟨p, o, none⟩ = some (.int .i64 x)) (hz : w.frozen? ⟨p, o, none⟩ = false) :
    Calls Try.prog 95 #[.pointer (some ⟨p, o, none⟩), .int .i64 1] w fun e w' => e = .returned (.int .i64 (wrap64 (x + 1))) ∧ w' = w.setCell ⟨p, o, none⟩ (.int .i64 (wrap64 (x + 1))) := by
  have hadd := run_call_add (P := Try.prog) (f := 105) Try.func105 (by kernel_rfl) (by kernel_rfl) (by kernel_rfl) .i64 (by kernel_rfl) (a := ⟨p, o, none⟩) (x := x) (y := 1) (s := wrap64 (x + 1)) hc hz (by simp [go_sem, wrap64, IntKind.wrap_i64])
  go_enter Try.func95, Try.ntmps95
  go_wp2
  go_ret
  exact ⟨rfl, rfl⟩

set_option maxHeartbeats 400000 in
set_option maxRecDepth 100000 in
theorem store_calls (p o : Nat) (x y : Int) (w : World) (hc : w.cell? ⟨p, o, none⟩ = some (.int .i64 x)) (hz : w.frozen? ⟨p, o, none⟩ = false) :
    Calls Try.prog 68 #[.pointer (some ⟨p, o, none⟩), .int .i64 y] w fun e w' => e = .returned (.tuple #[]) ∧ w' = w.setCell ⟨p, o, none⟩ (.int .i64 y) := by
  have hst := run_call_store (P := Try.prog) (f := 89) Try.func89 (by kernel_rfl) (by kernel_rfl) (by kernel_rfl) (by kernel_rfl) (a := ⟨p, o, none⟩) (k := .i64) (y := y) (u := .int .i64 x) hc hz
  go_enter Try.func68, Try.ntmps68
  go_wp2
  go_end0
  exact ⟨rfl, rfl⟩

set_option maxHeartbeats 400000 in
set_option maxRecDepth 100000 in
theorem load_calls (p o : Nat) (x : Int) (w : World) (hc : w.cell? ⟨p, o, none⟩ = some (.int .i64 x)) :
    Calls Try.prog 71 #[.pointer (some ⟨p, o, none⟩)] w fun e w' => e = .returned (.int .i64 x) ∧ w' = w := by
  have hld := run_call_load (P := Try.prog) (f := 94) Try.func94 (by kernel_rfl) (by kernel_rfl) (by kernel_rfl) .i64 (by kernel_rfl) (a := ⟨p, o, none⟩) (x := x) (w := w) hc
  go_enter Try.func71, Try.ntmps71
  go_wp2
  go_ret
  exact ⟨rfl, rfl⟩

/-! ### the strip's state -/
structure St where
  safe : List ByteArray
  loose : List (Nat × ByteArray)
  crash : Int
  count : Int
  down : Bool
/-- A change's cells. -/
def chCells (l : List (Nat × ByteArray)) : List Value := l.flatMap fun c => [.int .i64 (c.1 : Int), .string c.2]
theorem chCells_len : ∀ l, (chCells l).length = l.length * 2
  | [] => rfl
  | c :: r => by
    have := chCells_len r
    simp only [chCells, List.flatMap_cons, List.length_append, List.length_cons, List.length_nil] at this ⊢
    omega
theorem chCells_append (a b : List (Nat × ByteArray)) : chCells (a ++ b) = chCells a ++ chCells b := by simp [chCells]
theorem chCells_at : ∀ (l : List (Nat × ByteArray)) (j : Nat) (h : j < l.length), (chCells l)[j * 2]? = some (.int .i64 (l[j].1 : Int)) ∧ (chCells l)[j * 2 + 1]? = some (.string l[j].2)
  | c :: r, 0, _ => ⟨rfl, rfl⟩
  | c :: r, j + 1, h => by
    have := chCells_at r j (by simpa using h)
    have e : chCells (c :: r) = [.int .i64 (c.1 : Int), .string c.2] ++ chCells r := rfl
    rw [e]
    refine ⟨?_, ?_⟩
    · rw [List.getElem?_append_right (by simp; omega), show (j + 1) * 2 - [Value.int .i64 (c.1 : Int), .string c.2].length = j * 2 by simp; omega]
      exact this.1
    · rw [List.getElem?_append_right (by simp; omega), show (j + 1) * 2 + 1 - [Value.int .i64 (c.1 : Int), .string c.2].length = j * 2 + 1 by simp; omega]
      exact this.2
/-- All that was there but these blocks is as it was. -/
structure Kept (F : Nat → Prop) (w w' : World) : Prop where
  os : w'.os = w.os
  tape : w'.tape = w.tape
  output : w'.output = w.output
  size : w.heap.size ≤ w'.heap.size
  block : ∀ k, k < w.heap.size → ¬ F k → w'.heap[k]? = w.heap[k]?
theorem Kept.refl (F : Nat → Prop) (w : World) : Kept F w w := ⟨rfl, rfl, rfl, Nat.le_refl _, fun _ _ _ => rfl⟩
theorem Kept.of_below {F : Nat → Prop} {w w' : World} (h : Below w.heap.size w w') : Kept F w w' := ⟨h.os, h.tape, h.output, h.size, fun k hk _ => h.block k hk⟩
theorem Kept.trans {F G : Nat → Prop} {a b c : World} (h : Kept F a b) (k : Kept G b c) (hG : ∀ i, G i → F i ∨ a.heap.size ≤ i) : Kept F a c :=
  ⟨k.os.trans h.os, k.tape.trans h.tape, k.output.trans h.output, Nat.le_trans h.size k.size, fun i hi hn => (k.block i (Nat.lt_of_lt_of_le hi h.size) (fun g => (hG i g).elim hn (fun g => by omega))).trans (h.block i hi hn)⟩
theorem Kept.below {F : Nat → Prop} {w w' : World} {B : Nat} (h : Kept F w w') (hF : ∀ k, F k → B ≤ k) (hB : B ≤ w.heap.size) : Below B w w' :=
  ⟨h.os, h.tape, h.output, h.size, fun k hk => h.block k (by omega) (fun f => by have := hF k f; omega)⟩
theorem Kept.set {F : Nat → Prop} {a w : World} (h : Kept F a w) {g o : Nat} (v : Value) (hg : F g ∨ a.heap.size ≤ g) : Kept F a (w.setCell ⟨g, o, none⟩ v) :=
  h.trans (G := fun k => k = g) ⟨rfl, rfl, rfl, by simp [World.setCell], fun k hk hn => Below.heap_setCell _ _ _ _ hn⟩ (fun i hi => by subst hi; exact hg)
/-- What a call leaves of a strip's own blocks. -/
def Next (F F' : Nat → Prop) (w w' : World) : Prop := Kept F w w' ∧ ∀ k, F' k → F k ∨ w.heap.size ≤ k
theorem Next.refl (F : Nat → Prop) (w : World) : Next F F w w := ⟨Kept.refl _ _, fun k hk => .inl hk⟩
theorem Next.trans {F F' F'' : Nat → Prop} {a b c : World} (h : Next F F' a b) (k : Next F' F'' b c) : Next F F'' a c :=
  ⟨h.1.trans k.1 (fun i hi => h.2 i hi), fun i hi => by
    rcases k.2 i hi with g | g
    · exact h.2 i g
    · exact .inr (Nat.le_trans h.1.size g)⟩
theorem Next.of_below {F : Nat → Prop} {w w' : World} (h : Below w.heap.size w w') : Next F F w w' := ⟨Kept.of_below h, fun k hk => .inl hk⟩
/-- A strip at a block. -/
def IsStrip (B : Nat) (w : World) (p : Nat) (S : St) (F : Nat → Prop) : Prop := ∃ gs vl,
  w.heap[p]? = some (.cells #[.slice (some ⟨gs, 0, none⟩) S.safe.length S.safe.length, vl, .int .i64 S.crash, .int .i64 S.count, .bool S.down] 101 (0, 0)) ∧
  w.heap[gs]? = some (.cells (S.safe.map Value.string).toArray 9 (0, 0)) ∧ w.ownsRow B 117 2 vl S.loose.length (chCells S.loose) ∧
  F p ∧ F gs ∧ (∀ k, vl.ownBlock = some k → F k) ∧ (∀ k, F k → B ≤ k) ∧ S.safe.length ≤ 65536
theorem IsStrip.keep {B : Nat} {w w' : World} {p : Nat} {S : St} {F G : Nat → Prop} (h : IsStrip B w p S F) (hk : Kept G w w') (hd : ∀ k, F k → ¬ G k) : IsStrip B w' p S F := by
  obtain ⟨gs, vl, h1, h2, h3, h4, h5, h6, h7, h8⟩ := h
  refine ⟨gs, vl, (hk.block p (blk_lt h1) (hd _ h4)).trans h1, (hk.block gs (blk_lt h2) (hd _ h5)).trans h2, ?_, h4, h5, h6, h7, h8⟩
  obtain ⟨r1, r2⟩ := h3
  refine ⟨r1, ?_⟩
  rcases r2 with r2 | ⟨g, cap, cur, rfl, e1, e2, e3⟩
  · exact .inl r2
  · exact .inr ⟨g, cap, cur, rfl, e1, (hk.block g (blk_lt e2) (hd _ (h6 g rfl))).trans e2, e3⟩
theorem IsStrip.below {B : Nat} {w w' : World} {p : Nat} {S : St} {F : Nat → Prop} (h : IsStrip B w p S F) (hb : Below w.heap.size w w') : IsStrip B w' p S F :=
  h.keep (G := fun _ => False) (Kept.of_below hb) (fun _ _ => id)
theorem IsStrip.lt {B : Nat} {w : World} {p : Nat} {S : St} {F : Nat → Prop} (h : IsStrip B w p S F) : p < w.heap.size := by
  obtain ⟨gs, vl, h1, _⟩ := h
  exact blk_lt h1
/-- The strip's own blocks alone. -/
theorem IsStrip.shrink {B : Nat} {w : World} {p : Nat} {S : St} {F : Nat → Prop} (h : IsStrip B w p S F) : ∃ F', IsStrip B w p S F' ∧ (∀ k, F' k → F k ∧ k < w.heap.size) := by
  obtain ⟨gs, vl, h1, h2, h3, h4, h5, h6, h7, h8⟩ := h
  refine ⟨fun k => k = p ∨ k = gs ∨ vl.ownBlock = some k, ⟨gs, vl, h1, h2, h3, .inl rfl, .inr (.inl rfl), fun k hk => .inr (.inr hk), ?_, h8⟩, ?_⟩
  · rintro k (rfl | rfl | hk)
    · exact h7 _ h4
    · exact h7 _ h5
    · exact h7 _ (h6 _ hk)
  · rintro k (rfl | rfl | hk)
    · exact ⟨h4, blk_lt h1⟩
    · exact ⟨h5, blk_lt h2⟩
    · exact ⟨h6 _ hk, own_lt h3 k hk⟩

/-! ### asked, at, Size, Down, Loose -/
def askE (S : St) : Int := if S.down = true then 8 else 0
def atE (S : St) (i : Int) : Int := if S.down = true then 8 else if i < 0 ∨ (S.safe.length : Int) ≤ i then 1 else 0

set_option maxHeartbeats 400000 in
set_option maxRecDepth 100000 in
theorem asked_calls {B : Nat} {w : World} {p : Nat} {S : St} {F : Nat → Prop} (h : IsStrip B w p S F) :
    Calls Try.prog 75 #[.pointer (some ⟨p, 0, none⟩)] w fun e w' => e = .returned (.int .i64 (askE S)) ∧ w = w' := by
  obtain ⟨gs, vl, hp, _⟩ := h
  have hc4 : w.cell? ⟨p, 4, none⟩ = some (.bool S.down) := (blk_cell hp 4).trans rfl
  clear hp
  unfold askE
  generalize S.down = d at hc4 ⊢
  cases d
  · go_enter Try.func75, Try.ntmps75
    go_wp2
    go_ret
    exact ⟨rfl, rfl⟩
  · go_enter Try.func75, Try.ntmps75
    go_wp2
    go_ret
    exact ⟨rfl, rfl⟩
set_option maxHeartbeats 400000 in
set_option maxRecDepth 100000 in
theorem asked_nil (w : World) : Calls Try.prog 75 #[.pointer none] w fun e w' => e = .returned (.int .i64 2) ∧ w = w' := by
  go_enter Try.func75, Try.ntmps75
  go_wp2
  go_ret
  exact ⟨rfl, rfl⟩

set_option maxHeartbeats 400000 in
set_option maxRecDepth 100000 in
theorem at_calls {B : Nat} {w : World} {p : Nat} {S : St} {F : Nat → Prop} (h : IsStrip B w p S F) (i : Int) :
    Calls Try.prog 73 #[.pointer (some ⟨p, 0, none⟩), .int .i64 i] w fun e w' => e = .returned (.int .i64 (atE S i)) ∧ w = w' := by
  have HA := Aside0.mk (asked_calls h)
  obtain ⟨gs, vl, hp, _⟩ := h
  have hc0 : w.cell? ⟨p, 0, none⟩ = some (.slice (some ⟨gs, 0, none⟩) S.safe.length S.safe.length) := (blk_cell hp 0).trans rfl
  clear hp
  have HE := Aside0.mk (show atE S i = if S.down = true then 8 else if i < 0 ∨ (S.safe.length : Int) ≤ i then 1 else 0 from rfl)
  have HA' := Aside0.mk (show askE S = if S.down = true then 8 else 0 from rfl)
  go_enter Try.func73, Try.ntmps73
  go_wp2_with fail
  refine Calls.mono HA.out ?_
  rintro e w' ⟨rfl, rfl⟩
  clear HA
  rw [HA'.out]
  clear HA'
  by_cases hd : S.down = true
  · have HE3 := Aside0.mk (HE.out.trans (if_pos hd))
    clear HE
    rw [if_pos hd]
    go_wp2
    go_ret
    exact ⟨by rw [HE3.out]; rfl, rfl⟩
  · have HE2 := Aside0.mk (HE.out.trans (if_neg hd))
    clear HE
    rw [if_neg hd]
    by_cases h1 : i < 0
    · have HE3 := Aside0.mk (HE2.out.trans (if_pos (.inl h1)))
      clear HE2
      go_wp2
      go_ret
      exact ⟨by rw [HE3.out]; rfl, rfl⟩
    · by_cases h2 : (S.safe.length : Int) ≤ i
      · have HE3 := Aside0.mk (HE2.out.trans (if_pos (.inr h2)))
        clear HE2
        go_wp2
        go_ret
        exact ⟨by rw [HE3.out]; rfl, rfl⟩
      · have HE3 := Aside0.mk (HE2.out.trans (if_neg (by omega)))
        clear HE2
        go_wp2
        go_ret
        exact ⟨by rw [HE3.out]; rfl, rfl⟩
set_option maxHeartbeats 400000 in
set_option maxRecDepth 100000 in
theorem at_nil (i : Int) (w : World) : Calls Try.prog 73 #[.pointer none, .int .i64 i] w fun e w' => e = .returned (.int .i64 2) ∧ w = w' := by
  go_enter Try.func73, Try.ntmps73
  go_wp2_with fail
  refine Calls.mono (asked_nil _) ?_
  rintro e w' ⟨rfl, rfl⟩
  go_wp2
  go_ret
  exact ⟨rfl, rfl⟩
end Go.Proofs.Ytmgkflkpompchaa.Strip
