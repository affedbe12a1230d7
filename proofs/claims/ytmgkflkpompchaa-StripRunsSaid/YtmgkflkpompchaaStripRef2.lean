/- The reference's strip (brookref16): Tear, Read, Write. No condition but bounds on what was counted. -/
import Derived.Test.YtmgkflkpompchaaStripRef
namespace Go.Proofs.Ytmgkflkpompchaa.Strip
open Go.RowKit Go.Proofs.YtmgkflkpompchaaW.PrintWords Go.Proofs.YtmgkflkpompchaaW.PrintLast Go.Proofs.YtmgkflkpompchaaW.PrintMore
set_option linter.unusedVariables false
set_option linter.unusedSimpArgs false

set_option maxHeartbeats 400000 in
set_option maxRecDepth 100000 in
theorem rtear_calls {B : Nat} {w : World} {p : Nat} {S : St} {F : Nat → Prop} (h : IsRf B w p S F) (n : Int) :
    Calls Try.prog 53 #[.pointer (some ⟨p, 0, none⟩), .int .i64 n] w fun e w' => e = .returned (.tuple #[]) ∧ IsRf B w' p (tearS S n) F ∧ Kept (fun k => k = p) w w' := by
  have H := Aside0.mk h
  have hl : left (tearS S n) = max 0 n := by show max 0 (n - 0) = _; rw [Int.sub_zero]
  obtain ⟨vs, vl, hp, _⟩ := h
  have BK := Aside0.mk hp
  have hx2 : w.cell? ⟨p, 2, none⟩ = some (.int .i64 (left S)) := (blk_cell hp 2).trans rfl
  have hf2 : w.frozen? ⟨p, 2, none⟩ = false := blk_frozen hp 2
  clear hp
  have hk : Kept (fun k => k = p) w (w.setCell ⟨p, 2, none⟩ (.int .i64 (max 0 n))) := (Kept.refl (fun k => k = p) w).set (g := p) _ (.inl rfl)
  have HT := Aside0.mk (And.intro (H.out.turn (S' := tearS S n) rfl rfl hk (fun a b e => by rw [hl]; exact blk_set e 2 _)) hk)
  clear hk hl
  go_enter Try.func53, Try.ntmps53
  go_wp2
  go_end0
  exact ⟨rfl, HT.out⟩

theorem own_open {w : World} {B e s n : Nat} {v : Value} {xs : List Value} (h : w.ownsRow B e s v n xs) (hn : 0 < n) : ∃ g cap, v = .slice (some ⟨g, 0, none⟩) n cap ∧ n ≤ cap ∧ cap ≤ 9223372036854775807 := by
  rcases h.2 with ⟨_, h2⟩ | ⟨g, cap, cur, e, _, _, h3, h4, _⟩
  · exfalso; exact absurd h2 (by omega)
  · exact ⟨g, cap, e, h3, h4⟩
theorem own_max {w : World} {B e s n : Nat} {v : Value} {xs : List Value} (h : w.ownsRow B e s v n xs) : n ≤ 9223372036854775807 := by
  rcases h.2 with ⟨_, h2⟩ | ⟨g, cap, cur, e, _, _, h3, h4, _⟩
  · omega
  · simp only [maxLen] at h4; omega
theorem own_chgE {w : World} {B E : Nat} {A : Option Addr} {c : Nat} {l : List (Nat × ByteArray)} (h : w.ownsRow B E 2 (.slice A l.length c) l.length (chCells l)) (j : Nat) (hj : j < l.length) :
    ∃ g, A = some ⟨g, 0, none⟩ ∧ B ≤ g ∧ w.cell? ⟨g, j * 2, none⟩ = some (.int .i64 (l[j].1 : Int)) ∧ w.cell? ⟨g, j * 2 + 1, none⟩ = some (.string l[j].2) := by
  obtain ⟨h1, h2 | ⟨g, cap, cur, e, h3, h4, h5⟩⟩ := h
  · injection h2.1 with e1 e2
    omega
  · injection e with e1 e2 e3
    obtain ⟨q1, q2⟩ := chCells_at l j hj
    have at_ : ∀ k u, (chCells l)[k]? = some u → w.cell? ⟨g, k, none⟩ = some u := by
      intro k u hk
      rw [blk_cell h4 k]
      have hk' : k < l.length * 2 := by
        rcases Nat.lt_or_ge k (l.length * 2) with h | h
        · exact h
        · rw [List.getElem?_eq_none (by rw [chCells_len]; omega)] at hk; cases hk
      rw [← h5.2.2.2, List.getElem?_take_of_lt hk', Array.getElem?_toList] at hk
      exact hk
    exact ⟨g, e1, h3, at_ _ _ q1, at_ _ _ q2⟩
theorem rdOf_at (s : List ByteArray) (i : Int) : rdOf (⟨#[]⟩ : ByteArray) s i = s.getD i.toNat ⟨#[]⟩ := rfl
theorem atE_down {S : St} (i : Int) (h : S.down = true) : atE S i = 8 := if_pos h
theorem atE_up {S : St} (i : Int) (h : S.down = false) : atE S i = if i < 0 ∨ (S.safe.length : Int) ≤ i then 1 else 0 := if_neg (by rw [h]; simp)

set_option maxHeartbeats 800000 in
set_option maxRecDepth 100000 in
theorem rread_calls {B : Nat} {w : World} {p : Nat} {S : St} {F : Nat → Prop} (h : IsRf B w p S F) (i : Int) :
    Calls Try.prog 55 #[.pointer (some ⟨p, 0, none⟩), .int .i64 i] w fun e w' => e = .returned (.tuple #[.string (rdS S i), .int .i64 (atE S i)]) ∧ w = w' := by
  have H := Aside0.mk h
  have HS := Aside0.mk (show rdS S i = if atE S i = 0 then look S.loose i (S.safe.getD i.toNat ⟨#[]⟩) else ⟨#[]⟩ from rfl)
  obtain ⟨vs, vl, g1, g2, g3, g4, g5, g6, g7⟩ := h
  have hx3 : w.cell? ⟨p, 3, none⟩ = some (.bool S.down) := (blk_cell g1 3).trans rfl
  cases hd : S.down with
  | true =>
    rw [hd] at hx3
    have HE := Aside0.mk (atE_down i hd)
    clear g1 g2 g3 g4 g5 g6 g7 hd
    rw [HE.out] at HS
    have HS2 := Aside0.mk (HS.out.trans (if_neg (by decide)))
    clear HS
    go_enter Try.func55, Try.ntmps55
    go_wp2
    go_ret2
    exact ⟨by rw [HE.out, HS2.out]; rfl, rfl⟩
  | false =>
    rw [hd] at hx3
    have HE := Aside0.mk (atE_up i hd)
    obtain ⟨A1, c1, rfl⟩ := own_slice g2
    obtain ⟨A2, c2, rfl⟩ := own_slice g3
    have hx0 : w.cell? ⟨p, 0, none⟩ = some (.slice A1 S.safe.length c1) := (blk_cell g1 0).trans rfl
    have hx1 : w.cell? ⟨p, 1, none⟩ = some (.slice A2 S.loose.length c2) := (blk_cell g1 1).trans rfl
    have G2 := Aside0.mk g2
    have G3 := Aside0.mk g3
    have hm1 := own_max g2
    have hm2 := own_max g3
    clear g1 g2 g3 g4 g5 g6 g7 hd
    by_cases hi0 : i < 0
    · have HE2 := Aside0.mk (HE.out.trans (if_pos (.inl hi0)))
      rw [HE2.out] at HS
      have HS2 := Aside0.mk (HS.out.trans (if_neg (by decide)))
      clear HS HE
      go_enter Try.func55, Try.ntmps55
      go_wp2
      go_ret2
      exact ⟨by rw [HE2.out, HS2.out]; rfl, rfl⟩
    · by_cases hi1 : (S.safe.length : Int) ≤ i
      · have HE2 := Aside0.mk (HE.out.trans (if_pos (.inr hi1)))
        rw [HE2.out] at HS
        have HS2 := Aside0.mk (HS.out.trans (if_neg (by decide)))
        clear HS HE
        go_enter Try.func55, Try.ntmps55
        go_wp2
        go_ret2
        exact ⟨by rw [HE2.out, HS2.out]; rfl, rfl⟩
      · have HE2 := Aside0.mk (HE.out.trans (if_neg (by omega)))
        rw [HE2.out] at HS
        have HS2 := Aside0.mk (HS.out.trans (if_pos rfl))
        clear HS HE
        obtain ⟨g, cap, hv, hcap, hmx⟩ := own_open G2.out (by omega)
        injection hv with hv1 hv2 hv3
        subst hv1 hv3
        have hgi := (own_at_of (d := (⟨#[]⟩ : ByteArray)) G2.out i (by omega) (by omega)).1
        rw [rdOf_at] at hgi
        generalize S.safe.getD i.toNat ⟨#[]⟩ = b0 at hgi HS2
        have hi2 : 0 ≤ i := by omega
        have hi3 : i < (S.safe.length : Int) := by omega
        clear hi0 hi1 hv2
        go_enter Try.func55, Try.ntmps55
        go_upto_region 7 with fail
        clear hgi hi2 hi3 hcap hmx
        go_loop [6, 7] (fun v6 v7 => ∃ j : Nat, j ≤ S.loose.length ∧ v7 = .int .i64 j ∧ v6 = .string (look (S.loose.take j) i b0)) (fun _ v7 => S.loose.length - (intOf v7).toNat)
        case atStart => exact ⟨0, Nat.zero_le _, rfl, rfl⟩
        case round =>
          obtain ⟨j, hj, rfl, rfl⟩ := hrel
          by_cases hlt : j < S.loose.length
          · obtain ⟨g', rfl, hg, hy0, hy1⟩ := own_chgE G3.out j hlt
            have HT := Aside0.mk (look_take S.loose i b0 j hlt)
            generalize S.loose[j] = y at hy0 hy1 HT
            obtain ⟨yn, yb⟩ := y
            dsimp only at hy0 hy1 HT
            generalize look (S.loose.take j) i b0 = bj at HT ⊢
            clear hg
            by_cases hk : (yn : Int) = i
            · have HT1 := Aside0.mk (HT.out.trans (if_pos hk))
              clear HT
              go_wp2
              go_round
              case measure => simp [intOf]; omega
              case rel => exact ⟨j + 1, by omega, by go_num, by rw [HT1.out]⟩
            · have HT1 := Aside0.mk (HT.out.trans (if_neg hk))
              clear HT
              go_wp2
              go_round
              case measure => simp [intOf]; omega
              case rel => exact ⟨j + 1, by omega, by go_num, by rw [HT1.out]⟩
          · obtain rfl : j = S.loose.length := by omega
            rw [List.take_length] at *
            have HS3 := Aside0.mk HS2.out
            go_wp2
            go_ret2
            exact ⟨by rw [HE2.out, HS3.out]; rfl, rfl⟩
end Go.Proofs.Ytmgkflkpompchaa.Strip
