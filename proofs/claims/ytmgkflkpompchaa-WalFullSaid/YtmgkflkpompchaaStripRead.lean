/- The strip's Read. -/
import Derived.Test.YtmgkflkpompchaaStripWrite
namespace Go.Proofs.Ytmgkflkpompchaa.Strip
open Go.RowKit Go.Proofs.YtmgkflkpompchaaW.PrintWords Go.Proofs.YtmgkflkpompchaaW.PrintLast Go.Proofs.YtmgkflkpompchaaW.PrintMore
set_option linter.unusedVariables false
set_option linter.unusedSimpArgs false

/-- A block's bytes behind some of the loose changes. -/
def look (l : List (Nat × ByteArray)) (i : Int) (b : ByteArray) : ByteArray := l.foldl (fun b c => if (c.1 : Int) = i then c.2 else b) b
theorem look_take (l : List (Nat × ByteArray)) (i : Int) (b : ByteArray) (j : Nat) (h : j < l.length) : look (l.take (j + 1)) i b = if (l[j].1 : Int) = i then l[j].2 else look (l.take j) i b := by
  rw [List.take_add_one, List.getElem?_eq_getElem h]
  unfold look
  rw [List.foldl_append]
  rfl
def rdS (S : St) (i : Int) : ByteArray := if atE S i = 0 then look S.loose i (S.safe.getD i.toNat ⟨#[]⟩) else ⟨#[]⟩
theorem own_chg {w : World} {B : Nat} {A : Option Addr} {c : Nat} {l : List (Nat × ByteArray)} (h : w.ownsRow B 117 2 (.slice A l.length c) l.length (chCells l)) (j : Nat) (hj : j < l.length) :
    ∃ g, A = some ⟨g, 0, none⟩ ∧ B ≤ g ∧ w.cell? ⟨g, j * 2, none⟩ = some (.int .i64 (l[j].1 : Int)) ∧ w.cell? ⟨g, j * 2 + 1, none⟩ = some (.string l[j].2) := by
  obtain ⟨h1, h2 | ⟨g, cap, cur, e, h3, h4, h5⟩⟩ := h
  · injection h2.1 with e1 e2
    omega
  · injection e with e1 e2 e3
    obtain ⟨q1, q2⟩ := chCells_at l j hj
    have at_ : ∀ k u, (chCells l)[k]? = some u → w.cell? ⟨g, k, none⟩ = some u := by
      intro k u hk
      rw [blk_cell h4 k]
      have hk' : k < l.length * 2 := by
        rcases Nat.lt_or_ge k (l.length * 2) with h | h
        · exact h
        · rw [List.getElem?_eq_none (by omega)] at hk; cases hk
      rw [← h5.2.2.2, List.getElem?_take_of_lt hk', Array.getElem?_toList] at hk
      exact hk
    exact ⟨g, e1, h3, at_ _ _ q1, at_ _ _ q2⟩
set_option maxHeartbeats 800000 in
set_option maxRecDepth 100000 in
theorem read_calls {B : Nat} {w : World} {p : Nat} {S : St} {F : Nat → Prop} (h : IsStrip B w p S F) (i : Int) :
    Calls Try.prog 45 #[.pointer (some ⟨p, 0, none⟩), .int .i64 i] w fun e w' => e = .returned (.tuple #[.string (rdS S i), .int .i64 (atE S i)]) ∧ Below w.heap.size w w' := by
  have H := Aside0.mk h
  clear h
  have HS := Aside0.mk (show rdS S i = if atE S i = 0 then look S.loose i (S.safe.getD i.toNat ⟨#[]⟩) else ⟨#[]⟩ from rfl)
  go_enter Try.func45, Try.ntmps45
  go_wp2_with fail
  refine Calls.mono (at_calls H.out i) ?_
  rintro e w' ⟨rfl, rfl⟩
  rcases atE_cases S i with h0 | h0 | h0
  · have HI := Aside0.mk (at_zero h0)
    have HS1 := Aside0.mk (HS.out.trans (if_pos h0))
    have HE1 := Aside0.mk h0
    clear HS
    rw [h0]
    clear h0
    obtain ⟨gs, vl, g1, g2, g3, g4, g5, g6, g7, g8⟩ := H.out
    obtain ⟨A, c, rfl⟩ := own_slice g3
    have hc0 : w.cell? ⟨p, 0, none⟩ = some (.slice (some ⟨gs, 0, none⟩) S.safe.length S.safe.length) := (blk_cell g1 0).trans rfl
    have hc1 : w.cell? ⟨p, 1, none⟩ = some (.slice A S.loose.length c) := (blk_cell g1 1).trans rfl
    have p1 : (0 : Int) ≤ i := HI.out.2.1
    have q1 : i < (S.safe.length : Int) := HI.out.2.2
    have hci : w.cell? ⟨gs, i.toNat, none⟩ = some (.string (S.safe.getD i.toNat ⟨#[]⟩)) := by
      rw [blk_cell g2]
      have : i.toNat < S.safe.length := by omega
      simp [List.getD_eq_getElem?_getD, List.getElem?_eq_getElem this]
    have G3 := Aside0.mk g3
    have HLE : S.loose.length ≤ 9223372036854775807 := by
      have := own_cap g3
      rcases g3.2 with h | ⟨_, cap, _, e, _, _, h, hm, _⟩
      · omega
      · simp only [maxLen] at hm; omega
    clear g1 g2 g3 g4 g5 g6 g7 g8
    generalize S.safe.getD i.toNat ⟨#[]⟩ = b0 at hci HS1
    go_wp2
    clear hc0 hc1 hci p1 q1
    go_loopw [7, 28] (fun v7 v28 w' => ∃ j : Nat, j ≤ S.loose.length ∧ v28 = .int .i64 j ∧ v7 = .string (look (S.loose.take j) i b0) ∧ Aside0 (Below w.heap.size w w')) (fun _ v28 _ => S.loose.length - (intOf v28).toNat)
    case atStart => exact ⟨0, Nat.zero_le _, rfl, rfl, ⟨Below.refl _ _⟩⟩
    case round =>
      obtain ⟨j, hj, rfl, rfl, HB⟩ := hrel
      by_cases hlt : j < S.loose.length
      · obtain ⟨g, rfl, hg, hx0, hx1⟩ := own_chg G3.out j hlt
        replace hx0 := (HB.out.cell (World.block_lt_of_cell? w _ hx0)).trans hx0
        replace hx1 := (HB.out.cell (World.block_lt_of_cell? w _ hx1)).trans hx1
        have HT := Aside0.mk (look_take S.loose i b0 j hlt)
        generalize S.loose[j] = y at hx0 hx1 HT
        obtain ⟨yn, yb⟩ := y
        dsimp only at hx0 hx1 HT
        generalize look (S.loose.take j) i b0 = bj at HT ⊢
        clear hg
        by_cases hk : (yn : Int) = i
        · have HT1 := Aside0.mk (HT.out.trans (if_pos hk))
          clear HT
          go_wp2
          go_roundw
          case measure => simp [intOf]; omega
          case rel => exact ⟨j + 1, by omega, by go_num, by rw [HT1.out], ⟨by repeat (first | exact HB.out | apply below_alloc | apply pw_below_drewN | apply below_drew1)⟩⟩
        · have HT1 := Aside0.mk (HT.out.trans (if_neg hk))
          clear HT
          go_wp2
          go_roundw
          case measure => simp [intOf]; omega
          case rel => exact ⟨j + 1, by omega, by go_num, by rw [HT1.out], ⟨by repeat (first | exact HB.out | apply below_alloc | apply pw_below_drewN | apply below_drew1)⟩⟩
      · obtain rfl : j = S.loose.length := by omega
        rw [List.take_length] at *
        have HS2 := Aside0.mk HS1.out
        go_wp2
        go_ret2
        exact ⟨by rw [HE1.out, HS2.out]; rfl, HB.out⟩
  · have HE1 := Aside0.mk h0
    have HS1 := Aside0.mk (HS.out.trans (if_neg (by rw [h0]; decide)))
    clear HS
    rw [h0]
    clear h0
    go_wp2
    go_ret2
    exact ⟨by rw [HE1.out, HS1.out]; rfl, Below.refl _ _⟩
  · have HE1 := Aside0.mk h0
    have HS1 := Aside0.mk (HS.out.trans (if_neg (by rw [h0]; decide)))
    clear HS
    rw [h0]
    clear h0
    go_wp2
    go_ret2
    exact ⟨by rw [HE1.out, HS1.out]; rfl, Below.refl _ _⟩
end Go.Proofs.Ytmgkflkpompchaa.Strip
