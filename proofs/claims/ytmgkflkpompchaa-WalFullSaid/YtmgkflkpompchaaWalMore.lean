/- What the log's laws with falls share: lists that are only read, what a fall can leave, and the log's functions on it. No condition. -/
import Derived.Test.YtmgkflkpompchaaWalLoops
namespace Go.Proofs.Ytmgkflkpompchaa.Wal
open Go.RowKit Go.Proofs.YtmgkflkpompchaaW.PrintWords Go.Proofs.YtmgkflkpompchaaW.PrintLast Go.Proofs.YtmgkflkpompchaaW.PrintMore Go.Proofs.Ytmgkflkpompchaa.Strip Go.Proofs.Ytmgkflkpompchaa.Args
set_option linter.unusedVariables false
set_option linter.unusedSimpArgs false
section
variable {B b0 : Nat} {w w' : World} {p q : Nat} {S : St} {W : Wl} {X X' : Nat → Prop} {v : Value} {xs ys : List ByteArray}
/-- A list that is only read, apart from X. -/
def Rd (w : World) (X : Nat → Prop) (v : Value) (xs : List ByteArray) : Prop := StrS w v xs (fun k => ¬ X k)
theorem Rd.next (h : Rd w X v xs) (hn : Strip.Next X X' w w') : Rd w' X' v xs := by
  have h1 : StrS w v xs (fun k => ¬ X k ∧ k < w.heap.size) := StrS.mono h (fun k h1 h2 => ⟨h2, h1⟩)
  have h2 := h1.keep hn.1 (fun k hk => hk.1)
  refine h2.mono (fun k _ hk hx => ?_)
  rcases hn.2 k hx with g | g
  · exact hk.1 g
  · have := hk.2; omega
theorem Rd.below (h : Rd w X v xs) (hb : Below w.heap.size w w') (hX : ∀ k, X' k → X k ∨ w.heap.size ≤ k) : Rd w' X' v xs := h.next ⟨Strip.Kept.of_below hb, hX⟩
theorem Rd.same (h : Rd w X v xs) (hb : Below w.heap.size w w') : Rd w' X v xs := h.below hb (fun k hk => .inl hk)
theorem Rd.sub (h : Rd w X v xs) (hX : ∀ k, X' k → X k) : Rd w X' v xs := StrS.mono h (fun k _ hk hx => hk (hX k hx))
theorem Rd.nil (w : World) (X : Nat → Prop) : Rd w X (.slice none 0 0) [] := StrS.nil _ _
theorem Rd.fresh {n : Nat} (h : StrS w v xs (fun k => n ≤ k)) (hX : ∀ k, X k → k < n) : Rd w X v xs := StrS.mono h (fun k _ hk hx => by have := hX k hx; omega)
theorem Rd.slice (h : Rd w X v xs) : ∃ A c, v = .slice A xs.length c := by obtain ⟨A, c, e, _⟩ := StrS.slice h; exact ⟨A, c, e⟩
theorem Row.rd (h : Row b0 w X v xs) : Rd w X v xs := h.strS
theorem Row.slice (h : Row b0 w X v xs) : ∃ A c, v = .slice A xs.length c := h.rd.slice
theorem Row.base {b1 : Nat} (h : Row b0 w X v xs) (hb : b1 ≤ b0) : Row b1 w X v xs := by
  refine Row.of_own ⟨h.own.1, ?_⟩ h.off
  rcases h.own.2 with h2 | ⟨g, cap, cur, e, h3, h4⟩
  · exact .inl h2
  · exact .inr ⟨g, cap, cur, e, Nat.le_trans hb h3, h4⟩
theorem LogM.lt' (h : LogM B w p q S W X) (hb : Below w.heap.size w w') : ∀ k, X k → k < w'.heap.size := (h.below hb).lt
theorem StripM.lt' (h : StripM B w p S X) (hb : Below w.heap.size w w') : ∀ k, X k → k < w'.heap.size := (h.below hb).lt
theorem alloc_below (w : World) (o : Obj) : Below w.heap.size w (w.alloc o) := below_alloc (Below.refl _ _) o
/-- append of a new list and another one: the first step, on a list just made. -/
theorem Row.lit (w : World) (X : Nat → Prop) (hX : ∀ k, X k → k < w.heap.size) : Row w.heap.size (w.alloc (.cells #[] 9)) X (.slice (some ⟨w.heap.size, 0, none⟩) 0 0) [] := Row.lit0 _ w X (Nat.le_refl _) hX
theorem texts_yes {va vb : Value} {a b : List ByteArray} {GA GB : Nat → Prop} (ha : StrS w va a GA) (hb : StrS w vb b GB) (hm : a.length ≤ 1099511627776) (h : a = b) :
    Calls Try.prog 36 #[va, vb] w fun e w' => e = .returned (.bool true) ∧ Below w.heap.size w w' := by
  have := texts_calls ha hb hm
  rw [decide_eq_true h] at this; exact this
theorem texts_no {va vb : Value} {a b : List ByteArray} {GA GB : Nat → Prop} (ha : StrS w va a GA) (hb : StrS w vb b GB) (hm : a.length ≤ 1099511627776) (h : ¬ a = b) :
    Calls Try.prog 36 #[va, vb] w fun e w' => e = .returned (.bool false) ∧ Below w.heap.size w w' := by
  have := texts_calls ha hb hm
  rw [decide_eq_false h] at this; exact this
set_option maxRecDepth 100000 in
theorem run_half (A : Option Addr) (n c h : Nat) (hh : h ≤ c) (w : World) : (Instr.slice 48 (.slice A n c) none (some (.int .i64 (h : Int))) none).run Try.prog w = .ok (.slice A h c) w := by
  have e0 : A.map (·.add (0 * 1)) = A := by
    cases A with
    | none => rfl
    | some a => simp [Addr.add]
  have e1 := run_slice_h (P := Try.prog) w 48 A n c Try.underlying48 .i64 (h : Int) (by omega) (by omega)
  rw [e1]
  have e2 : (sizeOf (Try.prog.elem 48)).run Try.prog w = .ok 1 w := by kernel_rfl
  rw [e2]
  show Result.ok (sliced A 0 (h : Int).toNat c 1) w = _
  unfold sliced
  rw [Int.toNat_natCast, e0]
  split <;> rfl
/-- What any fall of a strip leaves is one of two lists. -/
def FallsTo (S : St) (xs ys : List ByteArray) : Prop := ∀ bl cr ke tn, ∃ C cs cz l, C ≤ 1000 ∧ (l = xs ∨ l = ys) ∧ Disk (fallS S bl cr ke tn).safe C cs cz l
theorem FallsTo.of_whole (h : Whole S W) (ht : W.turn ≤ 1000) (ys : List ByteArray) : FallsTo S W.l ys := fun bl cr ke tn => ⟨W.turn, W.side, W.size, W.l, ht, .inl rfl, by rw [fall_none S h.lo]; exact h.disk⟩
theorem FallsTo.of_fell {cs cz : Nat} (h : Fell S W.turn W.side W.size W.l (W.turn + 1) cs cz ys) (ht : W.turn + 1 ≤ 1000) : FallsTo S W.l ys := fun bl cr ke tn => by
  rcases h bl cr ke tn with g | g
  · exact ⟨_, _, _, _, by omega, .inl rfl, g⟩
  · exact ⟨_, _, _, _, ht, .inr rfl, g⟩
theorem FallsTo.fall (h : FallsTo S xs ys) (bl cr ke tn : Int) : FallsTo (fallS S bl cr ke tn) xs ys := fun b2 c2 k2 t2 => by
  obtain ⟨C, cs, cz, l, h1, h2, h3⟩ := h bl cr ke tn
  exact ⟨C, cs, cz, l, h1, h2, by rw [fall_none _ rfl]; exact h3⟩
theorem fall_len (hi : SInv S) (bl cr ke tn : Int) : (fallS S bl cr ke tn).safe.length = S.safe.length := by
  unfold fallS fallAt
  split
  · exact doAll_len _ _
  · rw [List.length_set, doAll_len]
theorem fall_quiet (S : St) (bl ke tn : Int) : Quiet (fallS S bl 0 ke tn) 0 := by
  unfold fallS fallAt
  exact ⟨Int.le_refl _, Int.le_refl _, Int.le_refl _⟩
theorem tear_whole (h : Whole S W) (n : Int) : Whole (tearS S n) W := ⟨h.inv.tear n, h.up, h.lo, h.disk, h.live, h.turn, h.sum⟩
/-- How much is loose behind a change. -/
theorem chg_loose (h : Whole S W) {l all : List ByteArray} {side at_ : Nat} (hs : side ≤ 1) : (chgR S W l all side at_).S.loose.length ≤ 1099511627776 := by
  unfold chgR
  rw [if_neg (by rw [h.live]; simp)]
  by_cases hm : mayE S l (at_ + (framedB l).size) ≠ 0
  · rw [if_pos hm]; show S.loose.length ≤ _; rw [h.lo]; simp
  rw [if_neg hm]
  replace hm := Decidable.not_not.1 hm
  obtain ⟨m1, m2, m3⟩ := mayE_zero hm
  have hp := put_is (b := framedB l) h.inv h.up h.lo hs m1 m2 (W.turn + 1) (at_ + (framedB l).size)
  have hl := putC_len (b := framedB l) h.inv hs (at_ := at_) (by omega)
  have hr := room_lt h.inv.len
  have : (putR S (W.turn + 1) side (at_ + (framedB l).size) at_ (framedB l)).2.loose.length ≤ 1099511627776 := by
    rcases hp with ⟨_, _, p3, _⟩ | ⟨_, _, p3⟩
    · rw [p3]; simp
    · rcases p3 with ⟨_, k, q2⟩ | ⟨_, q2 | q2⟩
      · rw [q2, rowed_len, List.length_take, hl]; omega
      · rw [q2]; simp
      · rw [q2]; simp
  split <;> exact this
/-- A fall, and what it leaves, in one. -/
theorem fall_to (h : StripM B w p S X) {N : Nat} (hN : S.safe.length = N) {P : Nat → List ByteArray → Prop} (hD : ∀ bl cr ke tn, ∃ C cs cz l, P C l ∧ Disk (fallS S bl cr ke tn).safe C cs cz l) (bl cr ke tn : Int) :
    Calls Try.prog 39 #[.pointer (some ⟨p, 0, none⟩), .agg #[.int .i64 bl, .int .i64 cr, .int .i64 ke, .int .i64 tn]] w fun e w' => e = .returned (.tuple #[]) ∧ ∃ S' X', StripM B w' p S' X' ∧ Strip.Next X X' w w' ∧
      S'.down = false ∧ S'.loose = [] ∧ S'.safe.length = N ∧ (cr ≤ 0 → Quiet S' 0) ∧ ∃ C cs cz l, P C l ∧ Disk S'.safe C cs cz l := by
  refine Calls.mono (fall_strip h bl cr ke tn) ?_
  rintro e w' ⟨rfl, X', h1, h2⟩
  refine ⟨rfl, _, X', h1, h2, rfl, rfl, (fall_len h.inv bl cr ke tn).trans hN, fun hc => ?_, hD bl cr ke tn⟩
  unfold fallS fallAt
  exact ⟨hc, Int.le_refl _, Int.le_refl _⟩
theorem fall_log (h : LogM B w p q S W X) (hf : S.loose.length ≤ 1099511627776) {N : Nat} (hN : S.safe.length = N) {P : Nat → List ByteArray → Prop} (hD : ∀ bl cr ke tn, ∃ C cs cz l, P C l ∧ Disk (fallS S bl cr ke tn).safe C cs cz l) (bl cr ke tn : Int) :
    Calls Try.prog 39 #[.pointer (some ⟨p, 0, none⟩), .agg #[.int .i64 bl, .int .i64 cr, .int .i64 ke, .int .i64 tn]] w fun e w' => e = .returned (.tuple #[]) ∧ ∃ S' X', StripM B w' p S' X' ∧ Strip.Next X X' w w' ∧
      S'.down = false ∧ S'.loose = [] ∧ S'.safe.length = N ∧ (cr ≤ 0 → Quiet S' 0) ∧ ∃ C cs cz l, P C l ∧ Disk S'.safe C cs cz l := by
  obtain ⟨F, h1, h2⟩ := h.strip hf
  refine Calls.mono (fall_to h1 hN hD bl cr ke tn) ?_
  rintro e w' ⟨rfl, S', X', g1, g2, g3⟩
  exact ⟨rfl, S', X', g1, ⟨⟨g2.1.os, g2.1.tape, g2.1.output, g2.1.size, fun k hk hx => g2.1.block k hk (fun e => hx (h2 k e))⟩, fun k hk => (g2.2 k hk).imp (h2 k) id⟩, g3⟩
theorem StripM.thru {w0 : World} (h : StripM B w p S X) (hb : Below w0.heap.size w0 w) (hB : w0.heap.size ≤ B) (hn : Strip.Next X X' w w') : Below w0.heap.size w0 w' :=
  below_thru hb (fun k hk => Nat.le_trans hB (h.ge k hk)) hn.1
end
end Go.Proofs.Ytmgkflkpompchaa.Wal
