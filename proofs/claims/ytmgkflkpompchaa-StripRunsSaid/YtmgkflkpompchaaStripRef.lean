/- The reference's strip (brookref16): its memory, count, Tear, Read. No condition but bounds on what was counted. -/
import Derived.Test.YtmgkflkpompchaaStripNew
namespace Go.Proofs.Ytmgkflkpompchaa.Strip
open Go.RowKit Go.Proofs.YtmgkflkpompchaaW.PrintWords Go.Proofs.YtmgkflkpompchaaW.PrintLast Go.Proofs.YtmgkflkpompchaaW.PrintMore
set_option linter.unusedVariables false
set_option linter.unusedSimpArgs false

/-- What is left till it goes down. -/
def left (S : St) : Int := max 0 (S.crash - S.count)
/-- The reference's strip at a block, told by the program's state. -/
def IsRf (B : Nat) (w : World) (p : Nat) (S : St) (F : Nat → Prop) : Prop := ∃ vs vl,
  w.heap[p]? = some (.cells #[vs, vl, .int .i64 (left S), .bool S.down] 77 (0, 0)) ∧
  w.ownsRow B 9 1 vs S.safe.length (encs Value.string S.safe) ∧ w.ownsRow B 120 2 vl S.loose.length (chCells S.loose) ∧
  F p ∧ (∀ k, vs.ownBlock = some k → F k) ∧ (∀ k, vl.ownBlock = some k → F k) ∧ (∀ k, F k → B ≤ k)
theorem own_kept {w w' : World} {B e s n : Nat} {v : Value} {xs : List Value} {G : Nat → Prop} (h : w.ownsRow B e s v n xs) (hk : Kept G w w') (hd : ∀ k, v.ownBlock = some k → ¬ G k) : w'.ownsRow B e s v n xs := by
  obtain ⟨r1, r2⟩ := h
  refine ⟨r1, ?_⟩
  rcases r2 with r2 | ⟨g, cap, cur, rfl, e1, e2, e3⟩
  · exact .inl r2
  · exact .inr ⟨g, cap, cur, rfl, e1, (hk.block g (blk_lt e2) (hd _ rfl)).trans e2, e3⟩
theorem IsRf.keep {B : Nat} {w w' : World} {p : Nat} {S : St} {F G : Nat → Prop} (h : IsRf B w p S F) (hk : Kept G w w') (hd : ∀ k, F k → ¬ G k) : IsRf B w' p S F := by
  obtain ⟨vs, vl, h1, h2, h3, h4, h5, h6, h7⟩ := h
  exact ⟨vs, vl, (hk.block p (blk_lt h1) (hd _ h4)).trans h1, own_kept h2 hk (fun k hk => hd _ (h5 k hk)), own_kept h3 hk (fun k hk => hd _ (h6 k hk)), h4, h5, h6, h7⟩
theorem IsRf.below {B : Nat} {w w' : World} {p : Nat} {S : St} {F : Nat → Prop} (h : IsRf B w p S F) (hb : Below w.heap.size w w') : IsRf B w' p S F :=
  h.keep (G := fun _ => False) (Kept.of_below hb) (fun _ _ => id)
theorem IsRf.ge {B : Nat} {w : World} {p : Nat} {S : St} {F : Nat → Prop} (h : IsRf B w p S F) : ∀ k, F k → B ≤ k := by
  obtain ⟨vs, vl, h1, h2, h3, h4, h5, h6, h7⟩ := h
  exact h7
theorem IsRf.own {B : Nat} {w : World} {p : Nat} {S : St} {F : Nat → Prop} (h : IsRf B w p S F) : F p := by
  obtain ⟨vs, vl, h1, h2, h3, h4, h5, h6, h7⟩ := h
  exact h4
theorem IsRf.shrink {B : Nat} {w : World} {p : Nat} {S : St} {F : Nat → Prop} (h : IsRf B w p S F) : ∃ F', IsRf B w p S F' ∧ (∀ k, F' k → F k ∧ k < w.heap.size) := by
  obtain ⟨vs, vl, h1, h2, h3, h4, h5, h6, h7⟩ := h
  refine ⟨fun k => k = p ∨ vs.ownBlock = some k ∨ vl.ownBlock = some k, ⟨vs, vl, h1, h2, h3, .inl rfl, fun k hk => .inr (.inl hk), fun k hk => .inr (.inr hk), ?_⟩, ?_⟩
  · rintro k (rfl | hk | hk)
    · exact h7 _ h4
    · exact h7 _ (h5 _ hk)
    · exact h7 _ (h6 _ hk)
  · rintro k (rfl | hk | hk)
    · exact ⟨h4, blk_lt h1⟩
    · exact ⟨h5 _ hk, own_lt h2 k hk⟩
    · exact ⟨h6 _ hk, own_lt h3 k hk⟩
/-- The fields turn; the slices stay. -/
theorem IsRf.turn {B : Nat} {w w' : World} {p : Nat} {S S' : St} {F : Nat → Prop} (h : IsRf B w p S F) (e1 : S'.safe = S.safe) (e2 : S'.loose = S.loose) (hk : Kept (fun k => k = p) w w')
    (hp : ∀ a b, w.heap[p]? = some (.cells #[a, b, .int .i64 (left S), .bool S.down] 77 (0, 0)) → w'.heap[p]? = some (.cells #[a, b, .int .i64 (left S'), .bool S'.down] 77 (0, 0))) : IsRf B w' p S' F := by
  obtain ⟨vs, vl, h1, h2, h3, h4, h5, h6, h7⟩ := h
  have n1 : ∀ k, vs.ownBlock = some k → ¬ k = p := fun k hk e => own_ne h2 h1 (by decide) (by rw [hk, e])
  have n2 : ∀ k, vl.ownBlock = some k → ¬ k = p := fun k hk e => own_ne h3 h1 (by decide) (by rw [hk, e])
  refine ⟨vs, vl, hp _ _ h1, ?_, ?_, h4, h5, h6, h7⟩
  · rw [e1]; exact own_kept h2 hk n1
  · rw [e2]; exact own_kept h3 hk n2
theorem Next.of_kept' {B : Nat} {w w2 : World} {p : Nat} {S : St} {F : Nat → Prop} (hk : Kept (fun k => k = p) w w2) (h : IsRf B w2 p S F) : Next F F w w2 :=
  ⟨⟨hk.os, hk.tape, hk.output, hk.size, fun k hk' hn => hk.block k hk' (fun e => hn (e ▸ h.own))⟩, fun k hk => .inl hk⟩
/-- Bounds that hold through a run. -/
structure Bnd (S : St) : Prop where
  c0 : 0 ≤ S.count
  c1 : S.count ≤ 1000000
  cr : S.crash ≤ 9223372036854775807
theorem cnt_up {S : St} (h : Bnd S) : (cntS S).count = S.count + 1 ∧ (cntS S).down = decide (S.count + 1 = S.crash) := by
  have h0 := h.c0
  have h1 := h.c1
  have hw : wrap64 (S.count + 1) = S.count + 1 := by unfold wrap64; omega
  refine ⟨hw, ?_⟩
  show (wrap64 (S.count + 1) == S.crash) = _
  rw [hw]
  rfl

set_option maxHeartbeats 400000 in
set_option maxRecDepth 100000 in
theorem rcount_calls {B : Nat} {w : World} {p : Nat} {S : St} {F : Nat → Prop} (h : IsRf B w p S F) (hb : Bnd S) (hd : S.down = false) :
    Calls Try.prog 76 #[.pointer (some ⟨p, 0, none⟩)] w fun e w' => e = .returned (.bool (!(cntS S).down)) ∧ IsRf B w' p (cntS S) F ∧ Kept (fun k => k = p) w w' := by
  have H := Aside0.mk h
  obtain ⟨u1, u2⟩ := cnt_up hb
  have hcr := hb.cr
  have hc0 := hb.c0
  have hL : left S = max 0 (S.crash - S.count) := rfl
  have hL2 : left (cntS S) = max 0 (S.crash - (S.count + 1)) := by unfold left; rw [u1]; rfl
  obtain ⟨vs, vl, hp, _⟩ := h
  have BK := Aside0.mk hp
  have hx2 : w.cell? ⟨p, 2, none⟩ = some (.int .i64 (left S)) := (blk_cell hp 2).trans rfl
  have hx3 : w.cell? ⟨p, 3, none⟩ = some (.bool S.down) := (blk_cell hp 3).trans rfl
  have hf2 : w.frozen? ⟨p, 2, none⟩ = false := blk_frozen hp 2
  rw [hd] at hx3
  clear hp
  by_cases hl : S.crash ≤ S.count
  · have h0 : left S = 0 := by omega
    have h1 : left (cntS S) = 0 := by omega
    have h2 : (cntS S).down = false := by rw [u2]; exact decide_eq_false (by omega)
    have HT := Aside0.mk (H.out.turn (S' := cntS S) rfl rfl (Kept.refl (fun k => k = p) w) (fun a b e => by rw [h1, h2, ← h0, ← hd]; exact e))
    have HD := Aside0.mk h2
    rw [h0] at hx2
    clear h0 h1 h2 hL hL2 u1 u2 hd
    go_enter Try.func76, Try.ntmps76
    go_wp2
    go_ret
    exact ⟨by rw [HD.out]; rfl, HT.out, Kept.refl _ _⟩
  · have hpos : 0 < left S := by omega
    have hmx : left S ≤ 9223372036854775807 := by omega
    have h1 : left (cntS S) = left S - 1 := by omega
    have h2 : (cntS S).down = decide (left S = 1) := by rw [u2]; by_cases e : S.count + 1 = S.crash <;> simp [e] <;> omega
    have hk : Kept (fun k => k = p) w ((w.setCell ⟨p, 2, none⟩ (.int .i64 (left S - 1))).setCell ⟨p, 3, none⟩ (.bool (decide (left S = 1)))) := ((Kept.refl (fun k => k = p) w).set (g := p) _ (.inl rfl)).set (g := p) _ (.inl rfl)
    have HT := Aside0.mk (H.out.turn (S' := cntS S) rfl rfl hk (fun a b e => by rw [h1, h2]; exact blk_set (blk_set e 2 _) 3 _))
    have HK := Aside0.mk hk
    have HD := Aside0.mk h2
    clear h1 h2 hL hL2 u1 u2 hd hk hl
    generalize left S = L at *
    have hy2 : (w.setCell ⟨p, 2, none⟩ (.int .i64 (L - 1))).cell? ⟨p, 2, none⟩ = some (.int .i64 (L - 1)) := (blk_cell (blk_set BK.out 2 _) 2).trans rfl
    have hy3 : (w.setCell ⟨p, 2, none⟩ (.int .i64 (L - 1))).cell? ⟨p, 3, none⟩ = some (.bool S.down) := (blk_cell (blk_set BK.out 2 _) 3).trans rfl
    have hg3 : (w.setCell ⟨p, 2, none⟩ (.int .i64 (L - 1))).frozen? ⟨p, 3, none⟩ = false := blk_frozen (blk_set BK.out 2 _) 3
    by_cases e : L = 1
    · subst e
      clear hpos hmx
      rw [show (1 : Int) - 1 = 0 from rfl] at HT HK hy2 hy3 hg3
      rw [decide_eq_true rfl] at HT HK HD
      go_enter Try.func76, Try.ntmps76
      go_wp2
      go_ret
      exact ⟨by rw [HD.out]; rfl, HT.out, HK.out⟩
    · have e1 : ¬ (L - 1 = 0) := by omega
      have e2 : (L - 1 == 0) = false := by rw [beq_eq_false_iff_ne]; exact e1
      rw [decide_eq_false e] at HT HK HD
      clear e
      go_enter Try.func76, Try.ntmps76
      go_wp2
      go_ret
      exact ⟨by rw [HD.out]; rfl, HT.out, HK.out⟩
end Go.Proofs.Ytmgkflkpompchaa.Strip
