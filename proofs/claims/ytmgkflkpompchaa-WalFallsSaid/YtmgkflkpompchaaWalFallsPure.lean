/- What the rounds of brooklaw17.WalFalls keep. No condition. -/
import Derived.Test.YtmgkflkpompchaaWalMore
namespace Go.Proofs.Ytmgkflkpompchaa.WalFalls
open Go.RowKit Go.Proofs.YtmgkflkpompchaaW.PrintWords Go.Proofs.YtmgkflkpompchaaW.PrintLast Go.Proofs.YtmgkflkpompchaaW.PrintMore Go.Proofs.Ytmgkflkpompchaa.Strip Go.Proofs.Ytmgkflkpompchaa.Wal Go.Proofs.Ytmgkflkpompchaa.Args
set_option linter.unusedVariables false
set_option linter.unusedSimpArgs false
section
variable {B : Nat} {w w' : World} {p q i : Nat} {S S' : St} {W : Wl} {X X' : Nat → Prop} {v v' : Value} {xs ys all : List ByteArray} {R : Res}
/-- A new strip with room, whatever else its plan says. -/
theorem new_any (cr ke tn : Int) (w : World) : Calls Try.prog 31 #[.agg #[.int .i64 4096, .int .i64 cr, .int .i64 ke, .int .i64 tn]] w fun e w' => ∃ p X S, e = .returned (.pointer (some ⟨p, 0, none⟩)) ∧ StripM w.heap.size w' p S X ∧
    S.down = false ∧ S.loose = [] ∧ S.safe.length = 4096 ∧ Disk S.safe 0 0 0 [] ∧ Below w.heap.size w w' := by
  refine Calls.mono (new_strip 4096 cr ke tn w) ?_
  rintro e w' ⟨p, X, rfl, h1, h2⟩
  exact ⟨p, X, _, rfl, h1, rfl, rfl, new_room' cr, Disk.fresh 4096 cr, h2⟩
theorem down_log (h : LogM B w p q S W X) {b : Bool} (hd : S.down = b) : Calls Try.prog 41 #[.pointer (some ⟨p, 0, none⟩)] w fun e w' => e = .returned (.bool b) ∧ w = w' := by
  obtain ⟨F, G, h1, h2, h3⟩ := h.mem
  have := down_calls h1.a
  rw [hd] at this; exact this
/-- Any fall leaves one of two lists. -/
def FallsTo (S : St) (xs ys : List ByteArray) : Prop := ∀ bl cr ke tn, ∃ C cs cz l, (C ≤ 1000 ∧ (l = xs ∨ l = ys)) ∧ Disk (fallS S bl cr ke tn).safe C cs cz l
theorem FallsTo.of_whole (h : Whole S W) (ht : W.turn ≤ 1000) (ys : List ByteArray) : FallsTo S W.l ys := fun bl cr ke tn => ⟨W.turn, W.side, W.size, W.l, ⟨ht, .inl rfl⟩, by rw [fall_none S h.lo]; exact h.disk⟩
theorem FallsTo.of_fell {cs cz : Nat} (h : Fell S W.turn W.side W.size W.l (W.turn + 1) cs cz ys) (ht : W.turn + 1 ≤ 1000) : FallsTo S W.l ys := fun bl cr ke tn => by
  rcases h bl cr ke tn with g | g
  · exact ⟨_, _, _, _, ⟨by omega, .inl rfl⟩, g⟩
  · exact ⟨_, _, _, _, ⟨ht, .inr rfl⟩, g⟩
theorem FallsTo.of_disk (hlo : S.loose = []) (h : ∃ C cs cz l, (C ≤ 1000 ∧ (l = xs ∨ l = ys)) ∧ Disk S.safe C cs cz l) : FallsTo S xs ys := fun bl cr ke tn => by
  rw [fall_none S hlo]; exact h
/-- An Append to a log that fell. -/
theorem append_dead {S0 : St} (h : LogM B w p q S { W with dead := true } X) (hw : Whole S0 W) {vl : Value} {l : List ByteArray} {G : Nat → Prop} (hl : StrS w vl l G) (hsum : (framedL l).length ≤ 1099511627) :
    Calls Try.prog 35 #[.pointer (some ⟨q, 0, none⟩), vl] w fun e w' => e = .returned (.int .i64 8) ∧ ∃ X', LogM B w' p q S { W with dead := true } X' ∧ Strip.Next X X' w w' := by
  have hc : chgR S { W with dead := true } l (W.l ++ l) W.side W.size = ⟨8, S, { W with dead := true }⟩ := by unfold chgR; rw [if_pos rfl]
  have := append_log h (fun e => by cases e) hw.turn hw.disk.hside hw.len (Nat.le_trans hw.disk.hsize (room_lt hw.inv.len)) hl hsum
  refine Calls.mono this ?_
  rintro e w' ⟨rfl, hx⟩
  rw [show chgR S { W with dead := true } l (({ W with dead := true } : Wl).l ++ l) ({ W with dead := true } : Wl).side ({ W with dead := true } : Wl).size = ⟨8, S, { W with dead := true }⟩ from hc] at hx
  exact ⟨by rw [hc], hx h.inv⟩
/-- What the first loop keeps. -/
structure FA (B : Nat) (w : World) (p q : Nat) (S : St) (W : Wl) (X : Nat → Prop) (v v' : Value) (xs ys : List ByteArray) (i : Nat) : Prop where
  log : LogM B w p q S W X
  room : S.safe.length = 4096
  loose : S.loose.length ≤ 1099511627776
  held : Rd w X v xs
  next : Rd w X v' ys
  fewx : Few (6 * i) xs
  fewy : Few (6 * i) ys
  falls : FallsTo S xs ys
  live : S.down = false → Whole S W ∧ W.l = xs ∧ W.turn ≤ i
theorem FA.below (h : FA B w p q S W X v v' xs ys i) (hb : Below w.heap.size w w') : FA B w' p q S W X v v' xs ys i :=
  ⟨h.log.below hb, h.room, h.loose, h.held.same hb, h.next.same hb, h.fewx, h.fewy, h.falls, h.live⟩
theorem fa_done (hf : FewRes S W all R) (hi : i ≤ 100) (ht : W.turn ≤ i) (e0 : R.e = 0) (hl : LogM B w' p q R.S R.W X') (hr : Rd w' X' v all) (hw : Few (6 * (i + 1)) all) : FA B w' p q R.S R.W X' v v all all (i + 1) := by
  obtain ⟨h1, h2, h3, h4⟩ := hf
  rcases h3 with ⟨a1, a2, a3, a4⟩ | ⟨a1, _⟩
  · exact ⟨hl, h1, by rw [a2.lo]; simp, hr, hr, hw, hw, by have := FallsTo.of_whole a2 (by omega) all; rw [a3] at this; exact this, fun _ => ⟨a2, a3, by omega⟩⟩
  · rw [e0] at a1; cases a1
theorem fa_fell (hf : FewRes S W all R) (hi : i ≤ 100) (ht : W.turn ≤ i) (e8 : R.e = 8) (hlo : R.S.loose.length ≤ 1099511627776) (hl : LogM B w' p q R.S { W with dead := true } X') (hh : Rd w' X' v W.l) (hr : Rd w' X' v' all) (hx : Few (6 * i) W.l) (hw : Few (6 * (i + 1)) all) : FA B w' p q R.S { W with dead := true } X' v v' W.l all (i + 1) := by
  obtain ⟨h1, h2, h3, h4⟩ := hf
  rcases h3 with ⟨a1, _⟩ | ⟨a1, a2, a3, cs, cz, a4⟩
  · rw [e8] at a1; cases a1
  · exact ⟨hl, h1, hlo, hh, hr, hx.mono (by omega), hw, FallsTo.of_fell a4 (by omega), fun h => by rw [a2] at h; cases h⟩
theorem res_two (hf : FewRes S W all R) : R.e = 0 ∧ Whole R.S R.W ∨ R.e = 8 ∧ R.S.down = true ∧ R.W = { W with dead := true } := by
  rcases hf.2.2.1 with ⟨a1, a2, a3, a4⟩ | ⟨a1, a2, a3, _⟩
  · exact .inl ⟨a1, a2⟩
  · exact .inr ⟨a1, a2, a3⟩
/-- What the second loop keeps. -/
structure FB (B : Nat) (w : World) (p : Nat) (S : St) (X : Nat → Prop) (v v' : Value) (xs ys : List ByteArray) : Prop where
  strip : StripM B w p S X
  room : S.safe.length = 4096
  held : Rd w X v xs
  next : Rd w X v' ys
  fewx : Few 90 xs
  fewy : Few 90 ys
  falls : FallsTo S xs ys
theorem FB.below (h : FB B w p S X v v' xs ys) (hb : Below w.heap.size w w') : FB B w' p S X v v' xs ys :=
  ⟨h.strip.below hb, h.room, h.held.same hb, h.next.same hb, h.fewx, h.fewy, h.falls⟩
theorem FA.fb (h : FA B w p q S W X v v' xs ys i) (hi : i ≤ 15) : ∃ F, FB B w p S F v v' xs ys := by
  obtain ⟨F, h1, h2⟩ := h.log.strip h.loose
  exact ⟨F, h1, h.room, h.held.sub h2, h.next.sub h2, h.fewx.mono (by omega), h.fewy.mono (by omega), h.falls⟩
/-- A fall of what the second loop keeps. -/
theorem fb_fall (h : FB B w p S X v v' xs ys) (bl cr ke tn : Int) :
    Calls Try.prog 39 #[.pointer (some ⟨p, 0, none⟩), .agg #[.int .i64 bl, .int .i64 cr, .int .i64 ke, .int .i64 tn]] w fun e w' => e = .returned (.tuple #[]) ∧ ∃ S' X', FB B w' p S' X' v v' xs ys ∧ Strip.Next X X' w w' ∧
      S'.down = false ∧ S'.loose = [] ∧ (cr ≤ 0 → Quiet S' 0) ∧ ∃ C cs cz l, (C ≤ 1000 ∧ (l = xs ∨ l = ys)) ∧ Disk S'.safe C cs cz l := by
  refine Calls.mono (fall_to h.strip h.room h.falls bl cr ke tn) ?_
  rintro e w' ⟨rfl, S', X', g1, g2, g3, g4, g5, g6, g7⟩
  exact ⟨rfl, S', X', ⟨g1, g5, h.held.next g2, h.next.next g2, h.fewx, h.fewy, FallsTo.of_disk g4 g7⟩, g2, g3, g4, g6, g7⟩
def moreB : ByteArray := ⟨#[109, 111, 114, 101]⟩
theorem more_few : Few 1 [moreB] := ⟨Nat.le_refl _, fun b hb => by rw [List.mem_singleton] at hb; subst hb; decide⟩
/-- The last Append. -/
theorem more_is {l : List ByteArray} {C cs cz : Nat} (hw : Whole S' ⟨C, cs, cz, l, false⟩) (hC : C ≤ 1000) (hN : S'.safe.length = 4096) (hq : Quiet S' 0) (hl : Few 90 l) :
    (chgR S' ⟨C, cs, cz, l, false⟩ [moreB] (l ++ [moreB]) cs cz).e = 0 ∧ Whole (chgR S' ⟨C, cs, cz, l, false⟩ [moreB] (l ++ [moreB]) cs cz).S (chgR S' ⟨C, cs, cz, l, false⟩ [moreB] (l ++ [moreB]) cs cz).W ∧
      (chgR S' ⟨C, cs, cz, l, false⟩ [moreB] (l ++ [moreB]) cs cz).W.l = l ++ [moreB] ∧ (chgR S' ⟨C, cs, cz, l, false⟩ [moreB] (l ++ [moreB]) cs cz).S.safe.length = 4096 ∧ (chgR S' ⟨C, cs, cz, l, false⟩ [moreB] (l ++ [moreB]) cs cz).W.turn ≤ 1001 := by
  have hf2 : Few 1000 (l ++ [moreB]) := (hl.append more_few).mono (by omega)
  obtain ⟨h1, h2, h3, h4⟩ := append_few hw (by show C + 1 ≤ _; omega) hN (l := [moreB]) hf2
  obtain ⟨q1, q2⟩ := h4 0 hq (by omega)
  have e0 : (chgR S' ⟨C, cs, cz, l, false⟩ [moreB] (l ++ [moreB]) cs cz).e = 0 := q1
  rcases h3 with ⟨a1, a2, a3, a4⟩ | ⟨a1, _⟩
  · refine ⟨e0, a2, a3, h1, ?_⟩
    have a5 : (chgR S' ⟨C, cs, cz, l, false⟩ [moreB] (l ++ [moreB]) cs cz).W.turn = C + 1 := a4
    omega
  · have e8 : (chgR S' ⟨C, cs, cz, l, false⟩ [moreB] (l ++ [moreB]) cs cz).e = 8 := a1
    rw [e0] at e8; cases e8
/-- A fall of a log that lives leaves it. -/
theorem falls_same (h : Whole S W) (ht : W.turn ≤ 1001) : ∀ bl cr ke tn, ∃ C cs cz l, (C ≤ 1001 ∧ l = W.l) ∧ Disk (fallS S bl cr ke tn).safe C cs cz l :=
  fun bl cr ke tn => ⟨W.turn, W.side, W.size, W.l, ⟨ht, rfl⟩, by rw [fall_none _ h.lo]; exact h.disk⟩
end
end Go.Proofs.Ytmgkflkpompchaa.WalFalls
