/- What the rounds of brooklaw17.WalFull keep. No condition. -/
import Derived.Test.YtmgkflkpompchaaWalMore
namespace Go.Proofs.Ytmgkflkpompchaa.WalFull
open Go.RowKit Go.Proofs.YtmgkflkpompchaaW.PrintWords Go.Proofs.YtmgkflkpompchaaW.PrintLast Go.Proofs.YtmgkflkpompchaaW.PrintMore Go.Proofs.Ytmgkflkpompchaa.Strip Go.Proofs.Ytmgkflkpompchaa.Wal Go.Proofs.Ytmgkflkpompchaa.Args
set_option linter.unusedVariables false
set_option linter.unusedSimpArgs false
section
variable {B b0 : Nat} {w w' : World} {p q i N : Nat} {S S' : St} {W : Wl} {X X' : Nat → Prop} {v v' : Value} {xs ys all : List ByteArray} {R : Res}
theorem new_full (n : Nat) (hn : n ≤ 600) (w : World) : Calls Try.prog 31 #[.agg #[.int .i64 (n : Int), .int .i64 0, .int .i64 0, .int .i64 0]] w fun e w' => ∃ p X S, e = .returned (.pointer (some ⟨p, 0, none⟩)) ∧ StripM w.heap.size w' p S X ∧
    S.down = false ∧ S.loose = [] ∧ S.safe.length = n ∧ Disk S.safe 0 0 0 [] ∧ Quiet S 0 ∧ Below w.heap.size w w' := by
  refine Calls.mono (new_strip n 0 0 0 w) ?_
  rintro e w' ⟨p, X, rfl, h1, h2⟩
  refine ⟨p, X, _, rfl, h1, rfl, rfl, ?_, Disk.fresh n 0, new_quiet n 0 (by omega), h2⟩
  unfold newS newN
  simp only [List.length_replicate]
  omega
/-- What the law counts. -/
def sumL : List ByteArray → Nat
  | [] => 0
  | b :: r => b.size + 64 + sumL r
theorem sumL_append : ∀ (a b : List ByteArray), sumL (a ++ b) = sumL a + sumL b
  | [], b => by simp [sumL]
  | c :: r, b => by simp only [List.cons_append, sumL, sumL_append r b]; omega
theorem sumL_take (g : List ByteArray) (k : Nat) (hk : k < g.length) : sumL (g.take (k + 1)) = sumL (g.take k) + g[k].size + 64 := by
  rw [List.take_add_one, List.getElem?_eq_getElem hk, sumL_append]; simp [sumL]; omega
theorem sumL_le (m : Nat) : ∀ (l : List ByteArray), (∀ b ∈ l, b.size ≤ m) → sumL l ≤ l.length * (m + 64)
  | [], _ => by simp [sumL]
  | c :: r, h => by
    have h1 := h c List.mem_cons_self
    have h2 := sumL_le m r (fun b hb => h b (List.mem_cons_of_mem _ hb))
    simp only [sumL, List.length_cons, Nat.succ_mul]; omega
theorem sumL_frame : ∀ (l : List ByteArray), (framedL l).length ≤ sumL l
  | [] => Nat.zero_le _
  | c :: r => by
    have e : (framedL (c :: r)).length = c.size + 4 + (framedL r).length := by show (frameL c ++ framedL r).length = _; rw [List.length_append, frameL_len]
    have := sumL_frame r
    rw [e]; simp only [sumL]; omega
theorem few_sumL {n : Nat} (h : Few n xs) : sumL xs ≤ n * 113 := Nat.le_trans (sumL_le 49 xs h.2) (Nat.mul_le_mul_right _ h.1)
structure FU (b0 B : Nat) (w : World) (p q : Nat) (S : St) (W : Wl) (X : Nat → Prop) (v : Value) (N i : Nat) : Prop where
  log : LogM B w p q S W X
  whole : Whole S W
  room : S.safe.length = N
  quiet : Quiet S (40000 * i)
  turn : W.turn ≤ i
  few : Few (6 * i) W.l
  row : Row b0 w X v W.l
theorem FU.below (h : FU b0 B w p q S W X v N i) (hb : Below w.heap.size w w') : FU b0 B w' p q S W X v N i := ⟨h.log.below hb, h.whole, h.room, h.quiet, h.turn, h.few, h.row.same hb⟩
theorem FU.len (h : FU b0 B w p q S W X v N i) : W.l.length ≤ 1099511627776 := Nat.le_trans (len_le W.l) (Nat.le_trans h.whole.len (by omega))
theorem may_seven {l : List ByteArray} {n : Nat} (hl : ∀ b ∈ l, b.size ≤ 1048576) (h : mayE S l n ≠ 0) : mayE S l n = 7 ∧ (roomN S.safe.length < n ∨ S.safe.length < 2) := by
  have hb : l.any large = false := by
    rw [List.any_eq_false]
    intro b hb
    have := hl b hb
    unfold large
    simp; omega
  unfold mayE at h ⊢
  rw [hb, if_neg (by simp)] at h ⊢
  by_cases hx : roomN S.safe.length < n ∨ S.safe.length < 2
  · rw [if_pos hx]; exact ⟨rfl, hx⟩
  · rw [if_neg hx] at h; exact absurd rfl h
/-- A change on a strip that may have no room. -/
theorem chg_full (h : Whole S W) (ht : W.turn + 1 ≤ 1000000) {l all : List ByteArray} {side at_ : Nat} (ha : Apart W.side W.size side at_) (hs : side ≤ 1) (hb : framedB all = bytesB S.safe (firstN S.safe.length side) at_ ++ framedB l)
    (hsum : at_ + (framedL l).length = (framedL all).length) (hl : ∀ b ∈ l, b.size ≤ 1048576) {M : Int} (hq : Quiet S M) (hM : M ≤ 1000000000) :
    (chgR S W l all side at_ = ⟨7, S, W⟩ ∧ 32 * S.safe.length < 96 + 2 * (framedL all).length) ∨
    ((chgR S W l all side at_).e = 0 ∧ Whole (chgR S W l all side at_).S (chgR S W l all side at_).W ∧ (chgR S W l all side at_).W.l = all ∧ (chgR S W l all side at_).W.turn = W.turn + 1 ∧ (chgR S W l all side at_).S.safe.length = S.safe.length ∧ Quiet (chgR S W l all side at_).S (M + 40000)) := by
  rcases chg_is h ht ha hs hb with ⟨h1, h2⟩ | ⟨h0, h1, h2, h3, h4⟩
  · left
    obtain ⟨m1, m2⟩ := may_seven hl h1
    refine ⟨by rw [h2, m1], ?_⟩
    rw [framedB_size, hsum] at m2
    unfold roomN at m2
    omega
  · right
    obtain ⟨q1, q2⟩ := h4 M hq hM
    rcases h3 with ⟨a1, a2, a3, a4⟩ | ⟨a1, _⟩
    · exact ⟨a1, a2, a3, a4, h1, q2⟩
    · rw [q1] at a1; cases a1
/-- An Append. -/
theorem full_append (h : FU b0 B w p q S W X v N i) (hi : i ≤ 40) {g : List ByteArray} (hg : Few 6 g) :
    (chgR S W g (W.l ++ g) W.side W.size = ⟨7, S, W⟩ ∧ 32 * N < 4 * (512 + sumL W.l + sumL g)) ∨
    ((chgR S W g (W.l ++ g) W.side W.size).e = 0 ∧ Whole (chgR S W g (W.l ++ g) W.side W.size).S (chgR S W g (W.l ++ g) W.side W.size).W ∧ (chgR S W g (W.l ++ g) W.side W.size).W.l = W.l ++ g ∧ (chgR S W g (W.l ++ g) W.side W.size).W.turn = W.turn + 1 ∧ (chgR S W g (W.l ++ g) W.side W.size).S.safe.length = N ∧ Quiet (chgR S W g (W.l ++ g) W.side W.size).S (40000 * i + 40000)) := by
  have ht := h.turn
  have hs : W.size + (framedL g).length = (framedL (W.l ++ g)).length := by rw [framedL_append, List.length_append, ← h.whole.sum]
  have := chg_full h.whole (by omega) (l := g) (all := W.l ++ g) (apart_append W) h.whole.disk.hside (framed_append h.whole g) hs (fun b hb => by have := hg.2 b hb; omega) h.quiet (by omega)
  rcases this with ⟨a1, a2⟩ | ⟨a1, a2, a3, a4, a5, a6⟩
  · refine .inl ⟨a1, ?_⟩
    have f := sumL_frame (W.l ++ g)
    rw [sumL_append] at f
    rw [h.room] at a2
    omega
  · exact .inr ⟨a1, a2, a3, a4, a5.trans h.room, a6⟩
def littleB : ByteArray := ⟨#[108, 105, 116, 116, 108, 101]⟩
theorem little_few : Few 1 [littleB] := ⟨Nat.le_refl _, fun b hb => by rw [List.mem_singleton] at hb; subst hb; decide⟩
theorem little_sum : (framedL [littleB]).length = 10 := by decide
/-- The Checkpoint. -/
theorem full_check (h : FU b0 B w p q S W X v N i) (hi : i ≤ 40) :
    (chgR S W [littleB] [littleB] ((W.side + 1) % 2) 0 = ⟨7, S, W⟩ ∧ 32 * N < 116) ∨
    ((chgR S W [littleB] [littleB] ((W.side + 1) % 2) 0).e = 0 ∧ Whole (chgR S W [littleB] [littleB] ((W.side + 1) % 2) 0).S (chgR S W [littleB] [littleB] ((W.side + 1) % 2) 0).W ∧ (chgR S W [littleB] [littleB] ((W.side + 1) % 2) 0).W.l = [littleB] ∧
      (chgR S W [littleB] [littleB] ((W.side + 1) % 2) 0).W.turn = W.turn + 1 ∧ (chgR S W [littleB] [littleB] ((W.side + 1) % 2) 0).S.safe.length = N) := by
  have ht := h.turn
  have := chg_full h.whole (by omega) (l := [littleB]) (all := [littleB]) (apart_check W h.whole.disk.hside) (by omega) (framed_check (S := S) [littleB] _) (by omega) (fun b hb => by have := little_few.2 b hb; omega) h.quiet (by omega)
  rcases this with ⟨a1, a2⟩ | ⟨a1, a2, a3, a4, a5, a6⟩
  · refine .inl ⟨a1, ?_⟩
    rw [h.room, little_sum] at a2
    omega
  · exact .inr ⟨a1, a2, a3, a4, a5.trans h.room⟩
/-- A fall of a log that lives leaves it. -/
theorem falls_full (h : Whole S W) (ht : W.turn ≤ 1001) : ∀ bl cr ke tn, ∃ C cs cz l, (C ≤ 1001 ∧ l = W.l) ∧ Disk (fallS S bl cr ke tn).safe C cs cz l :=
  fun bl cr ke tn => ⟨W.turn, W.side, W.size, W.l, ⟨ht, rfl⟩, by rw [fall_none _ h.lo]; exact h.disk⟩
end
end Go.Proofs.Ytmgkflkpompchaa.WalFull
