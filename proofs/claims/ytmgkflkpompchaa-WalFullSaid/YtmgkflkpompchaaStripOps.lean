/- The strip's small methods: Size, Down, Loose, counted, Tear. No condition but that there is a strip. -/
import Derived.Test.YtmgkflkpompchaaStripBase
import Derived.Deep.RegionHeld3
namespace Go.Proofs.Ytmgkflkpompchaa.Strip
open Go.RowKit Go.Proofs.YtmgkflkpompchaaW.PrintWords Go.Proofs.YtmgkflkpompchaaW.PrintLast Go.Proofs.YtmgkflkpompchaaW.PrintMore
set_option linter.unusedVariables false
set_option linter.unusedSimpArgs false

set_option maxHeartbeats 400000 in
set_option maxRecDepth 100000 in
theorem size_calls {B : Nat} {w : World} {p : Nat} {S : St} {F : Nat → Prop} (h : IsStrip B w p S F) :
    Calls Try.prog 42 #[.pointer (some ⟨p, 0, none⟩)] w fun e w' => e = .returned (.int .i64 S.safe.length) ∧ w = w' := by
  obtain ⟨gs, vl, hp, _⟩ := h
  have hc0 : w.cell? ⟨p, 0, none⟩ = some (.slice (some ⟨gs, 0, none⟩) S.safe.length S.safe.length) := (blk_cell hp 0).trans rfl
  clear hp
  go_enter Try.func42, Try.ntmps42
  go_wp2
  go_ret
  exact ⟨rfl, rfl⟩
set_option maxHeartbeats 400000 in
set_option maxRecDepth 100000 in
theorem size_nil (w : World) : Calls Try.prog 42 #[.pointer none] w fun e w' => e = .returned (.int .i64 0) ∧ w = w' := by
  go_enter Try.func42, Try.ntmps42
  go_wp2
  go_ret
  exact ⟨rfl, rfl⟩
set_option maxHeartbeats 400000 in
set_option maxRecDepth 100000 in
theorem down_calls {B : Nat} {w : World} {p : Nat} {S : St} {F : Nat → Prop} (h : IsStrip B w p S F) :
    Calls Try.prog 41 #[.pointer (some ⟨p, 0, none⟩)] w fun e w' => e = .returned (.bool S.down) ∧ w = w' := by
  obtain ⟨gs, vl, hp, _⟩ := h
  have hc4 : w.cell? ⟨p, 4, none⟩ = some (.bool S.down) := (blk_cell hp 4).trans rfl
  clear hp
  go_enter Try.func41, Try.ntmps41
  go_wp2
  go_ret
  exact ⟨rfl, rfl⟩
set_option maxHeartbeats 400000 in
set_option maxRecDepth 100000 in
theorem down_nil (w : World) : Calls Try.prog 41 #[.pointer none] w fun e w' => e = .returned (.bool false) ∧ w = w' := by
  go_enter Try.func41, Try.ntmps41
  go_wp2
  go_ret
  exact ⟨rfl, rfl⟩
set_option maxHeartbeats 400000 in
set_option maxRecDepth 100000 in
theorem loose_calls {B : Nat} {w : World} {p : Nat} {S : St} {F : Nat → Prop} (h : IsStrip B w p S F) :
    Calls Try.prog 48 #[.pointer (some ⟨p, 0, none⟩)] w fun e w' => e = .returned (.int .i64 S.loose.length) ∧ w = w' := by
  obtain ⟨gs, vl, hp, _, hl, _⟩ := h
  obtain ⟨A, c, rfl⟩ := own_slice hl
  clear hl
  have hc1 : w.cell? ⟨p, 1, none⟩ = some (.slice A S.loose.length c) := (blk_cell hp 1).trans rfl
  clear hp
  go_enter Try.func48, Try.ntmps48
  go_wp2
  go_ret
  exact ⟨rfl, rfl⟩
set_option maxHeartbeats 400000 in
set_option maxRecDepth 100000 in
theorem loose_nil (w : World) : Calls Try.prog 48 #[.pointer none] w fun e w' => e = .returned (.int .i64 0) ∧ w = w' := by
  go_enter Try.func48, Try.ntmps48
  go_wp2
  go_ret
  exact ⟨rfl, rfl⟩

/-! ### counted -/
def cntS (S : St) : St := { S with count := wrap64 (S.count + 1), down := wrap64 (S.count + 1) == S.crash }
def tearS (S : St) (n : Int) : St := { S with crash := n, count := 0 }
/-- The strip's own fields turn; its slices stay. -/
theorem IsStrip.turn {B : Nat} {w w' : World} {p : Nat} {S S' : St} {F : Nat → Prop} (h : IsStrip B w p S F) (e1 : S'.safe = S.safe) (e2 : S'.loose = S.loose) (hk : Kept (fun k => k = p) w w')
    (hp : ∀ a b, w.heap[p]? = some (.cells #[a, b, .int .i64 S.crash, .int .i64 S.count, .bool S.down] 101 (0, 0)) → w'.heap[p]? = some (.cells #[a, b, .int .i64 S'.crash, .int .i64 S'.count, .bool S'.down] 101 (0, 0))) : IsStrip B w' p S' F := by
  obtain ⟨gs, vl, h1, h2, h3, h4, h5, h6, h7, h8⟩ := h
  have hn : gs ≠ p := blk_ne h2 h1 (by decide)
  refine ⟨gs, vl, ?_, ?_, ?_, h4, h5, ?_, h7, ?_⟩
  · rw [e1]; exact hp _ _ h1
  · rw [e1]; exact (hk.block gs (blk_lt h2) hn).trans h2
  · rw [e2]
    obtain ⟨r1, r2⟩ := h3
    refine ⟨r1, ?_⟩
    rcases r2 with r2 | ⟨g, cap, cur, rfl, e1, e2, e3⟩
    · exact .inl r2
    · exact .inr ⟨g, cap, cur, rfl, e1, (hk.block g (blk_lt e2) (blk_ne e2 h1 (by decide))).trans e2, e3⟩
  · exact h6
  · rw [e1]; exact h8

theorem cnt_turn {B : Nat} {w : World} {p : Nat} {S : St} {F : Nat → Prop} (h : IsStrip B w p S F) :
    IsStrip B (((w.setCell ⟨p, 3, none⟩ (.int .i64 (wrap64 (S.count + 1)))).setCell ⟨p, 4, none⟩ (.bool (wrap64 (S.count + 1) == S.crash))).drew) p (cntS S) F ∧
    IsStrip B ((w.drew.setCell ⟨p, 3, none⟩ (.int .i64 (wrap64 (S.count + 1)))).setCell ⟨p, 4, none⟩ (.bool (wrap64 (S.count + 1) == S.crash))) p (cntS S) F ∧
    Kept (fun k => k = p) w (((w.setCell ⟨p, 3, none⟩ (.int .i64 (wrap64 (S.count + 1)))).setCell ⟨p, 4, none⟩ (.bool (wrap64 (S.count + 1) == S.crash))).drew) ∧
    Kept (fun k => k = p) w ((w.drew.setCell ⟨p, 3, none⟩ (.int .i64 (wrap64 (S.count + 1)))).setCell ⟨p, 4, none⟩ (.bool (wrap64 (S.count + 1) == S.crash))) := by
  have k1 : Kept (fun k => k = p) w ((w.setCell ⟨p, 3, none⟩ (.int .i64 (wrap64 (S.count + 1)))).setCell ⟨p, 4, none⟩ (.bool (wrap64 (S.count + 1) == S.crash))) := ((Kept.refl (fun k => k = p) w).set (g := p) _ (.inl rfl)).set (g := p) _ (.inl rfl)
  have hp : ∀ a b, w.heap[p]? = some (.cells #[a, b, .int .i64 S.crash, .int .i64 S.count, .bool S.down] 101 (0, 0)) → ((w.setCell ⟨p, 3, none⟩ (.int .i64 (wrap64 (S.count + 1)))).setCell ⟨p, 4, none⟩ (.bool (wrap64 (S.count + 1) == S.crash))).heap[p]? = some (.cells #[a, b, .int .i64 (cntS S).crash, .int .i64 (cntS S).count, .bool (cntS S).down] 101 (0, 0)) := fun a b e => blk_set (blk_set e 3 _) 4 _
  have k2 : Kept (fun k => k = p) w (((w.setCell ⟨p, 3, none⟩ (.int .i64 (wrap64 (S.count + 1)))).setCell ⟨p, 4, none⟩ (.bool (wrap64 (S.count + 1) == S.crash))).drew) := ⟨k1.os, k1.tape, k1.output, k1.size, k1.block⟩
  have k3 : Kept (fun k => k = p) w ((w.drew.setCell ⟨p, 3, none⟩ (.int .i64 (wrap64 (S.count + 1)))).setCell ⟨p, 4, none⟩ (.bool (wrap64 (S.count + 1) == S.crash))) := ⟨k1.os, k1.tape, k1.output, k1.size, k1.block⟩
  exact ⟨h.turn rfl rfl k2 hp, h.turn rfl rfl k3 hp, k2, k3⟩
set_option maxHeartbeats 400000 in
set_option maxRecDepth 100000 in
theorem counted_calls {B : Nat} {w : World} {p : Nat} {S : St} {F : Nat → Prop} (h : IsStrip B w p S F) :
    Calls Try.prog 74 #[.pointer (some ⟨p, 0, none⟩)] w fun e w' => e = .returned (.int .i64 (askE (cntS S))) ∧ IsStrip B w' p (cntS S) F ∧ Kept (fun k => k = p) w w' := by
  have H := Aside0.mk h
  obtain ⟨gs, vl, hp, _⟩ := h
  have BK := Aside0.mk hp
  have hc2 : w.cell? ⟨p, 2, none⟩ = some (.int .i64 S.crash) := (blk_cell hp 2).trans rfl
  clear hp
  go_enter Try.func74, Try.ntmps74
  go_wp2_with fail
  have hc4 : w.cell? ⟨p, 4, none⟩ = some (.bool S.down) := (blk_cell BK.out 4).trans rfl
  have hcx : ∀ v, (w.setCell ⟨p, 3, none⟩ v).cell? ⟨p, 2, none⟩ = some (.int .i64 S.crash) := fun v => (blk_cell (blk_set BK.out 3 v) 2).trans rfl
  have hcy : ∀ v, (w.setCell ⟨p, 3, none⟩ v).cell? ⟨p, 4, none⟩ = some (.bool S.down) := fun v => (blk_cell (blk_set BK.out 3 v) 4).trans rfl
  have hfy : ∀ v, (w.setCell ⟨p, 3, none⟩ v).frozen? ⟨p, 4, none⟩ = false := fun v => blk_frozen (blk_set BK.out 3 v) 4
  go_region_with (go_at_call 95; refine Calls.mono (add_calls p 3 S.count _ ?a1 ?a2) ?_; (case a1 => first | exact (blk_cell BK.out 3).trans rfl | exact (blk_cell (blk_drew BK.out) 3).trans rfl); (case a2 => first | exact blk_frozen BK.out 3 | exact blk_frozen (blk_drew BK.out) 3); rintro e wn ⟨rfl, rfl⟩)
  all_goals (
    have HT := Aside0.mk (cnt_turn H.out)
    clear hc2 hc4 hcx hcy hfy
    go_wp2_with fail
    refine Calls.mono (asked_calls (B := B) (S := cntS S) (F := F) (by first | exact HT.out.1 | exact HT.out.2.1)) ?_
    rintro e wn ⟨rfl, rfl⟩
    go_wp2
    go_ret
    exact ⟨rfl, by first | exact HT.out.1 | exact HT.out.2.1, by first | exact HT.out.2.2.1 | exact HT.out.2.2.2⟩)
end Go.Proofs.Ytmgkflkpompchaa.Strip
