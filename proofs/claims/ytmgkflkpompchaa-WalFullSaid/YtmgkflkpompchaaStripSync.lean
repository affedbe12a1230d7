/- The strip's Sync. -/
import Derived.Test.YtmgkflkpompchaaStripRead
import Derived.StillTailTactics
namespace Go.Proofs.Ytmgkflkpompchaa.Strip
open Go.RowKit Go.Proofs.YtmgkflkpompchaaW.PrintWords Go.Proofs.YtmgkflkpompchaaW.PrintLast Go.Proofs.YtmgkflkpompchaaW.PrintMore
set_option linter.unusedVariables false
set_option linter.unusedSimpArgs false

/-- The changes done, in order. -/
def doAll (s : List ByteArray) (l : List (Nat × ByteArray)) : List ByteArray := l.foldl (fun s c => s.set c.1 c.2) s
theorem doAll_len : ∀ (l : List (Nat × ByteArray)) (s : List ByteArray), (doAll s l).length = s.length
  | [], _ => rfl
  | c :: r, s => by
    show (doAll (s.set c.1 c.2) r).length = s.length
    rw [doAll_len r, List.length_set]
theorem doAll_take (s : List ByteArray) (l : List (Nat × ByteArray)) (j : Nat) (h : j < l.length) : doAll s (l.take (j + 1)) = (doAll s (l.take j)).set l[j].1 l[j].2 := by
  rw [List.take_add_one, List.getElem?_eq_getElem h]
  unfold doAll
  rw [List.foldl_append]
  rfl
theorem set_map (s : List ByteArray) (n : Nat) (b : ByteArray) : ((s.map Value.string).toArray.setIfInBounds n (.string b)) = ((s.set n b).map Value.string).toArray := by
  rw [List.map_set]; simp
def syE (S : St) : Int := if askE S = 0 then askE (cntS S) else askE S
def syS (S : St) : St := if askE S = 0 then if askE (cntS S) = 0 then { cntS S with safe := doAll S.safe S.loose, loose := [] } else cntS S else S

/-- The end of Sync and of Fall: no change is loose. -/
theorem sync_end {B : Nat} {w w3 : World} {p gs : Nat} {v : Value} {c1 c2 : Int} {d : Bool} {lo : List (Nat × ByteArray)} {F : Nat → Prop} {x : List ByteArray}
    (h1 : w3.heap[p]? = some (.cells #[.slice (some ⟨gs, 0, none⟩) x.length x.length, v, .int .i64 c1, .int .i64 c2, .bool d] 101 (0, 0)))
    (h2 : w3.heap[gs]? = some (.cells ((doAll x lo).map Value.string).toArray 9 (0, 0))) (hF : F p ∧ F gs ∧ (∀ k, v.ownBlock = some k → F k) ∧ (∀ k, F k → B ≤ k) ∧ x.length ≤ 65536) (hk : Kept F w w3) :
    ∃ F', IsStrip B (w3.setCell ⟨p, 1, none⟩ (.slice none 0 0)) p { safe := doAll x lo, loose := [], crash := c1, count := c2, down := d } F' ∧ Next F F' w (w3.setCell ⟨p, 1, none⟩ (.slice none 0 0)) := by
  have hne : gs ≠ p := blk_ne h2 h1 (by decide)
  refine ⟨F, ⟨gs, .slice none 0 0, ?_, blk_far h2 hne _, own_nil _ _ _ _, hF.1, hF.2.1, fun k hk => by simp [Value.ownBlock] at hk, hF.2.2.2.1, ?_⟩, hk.set _ (.inl hF.1), fun k hk => .inl hk⟩
  · show _ = some (Obj.cells #[.slice (some ⟨gs, 0, none⟩) (doAll x lo).length (doAll x lo).length, _, _, _, _] 101 (0, 0))
    rw [doAll_len]
    exact blk_set h1 1 _
  · show (doAll x lo).length ≤ 65536
    rw [doAll_len]; exact hF.2.2.2.2
set_option maxHeartbeats 800000 in
set_option maxRecDepth 100000 in
theorem sync_calls {B : Nat} {w : World} {p : Nat} {S : St} {F : Nat → Prop} (h : IsStrip B w p S F) (hg : ∀ c ∈ S.loose, c.1 < S.safe.length) :
    Calls Try.prog 47 #[.pointer (some ⟨p, 0, none⟩)] w fun e w' => e = .returned (.int .i64 (syE S)) ∧ ∃ F', IsStrip B w' p (syS S) F' ∧ Next F F' w w' := by
  have H := Aside0.mk h
  have HG := Aside0.mk hg
  clear h hg
  have HE := Aside0.mk (show syE S = if askE S = 0 then askE (cntS S) else askE S from rfl)
  have HS := Aside0.mk (show syS S = if askE S = 0 then if askE (cntS S) = 0 then { cntS S with safe := doAll S.safe S.loose, loose := [] } else cntS S else S from rfl)
  go_enter Try.func47, Try.ntmps47
  go_wp2_with fail
  refine Calls.mono (asked_calls H.out) ?_
  rintro e w' ⟨rfl, rfl⟩
  rcases askE_cases S with h0 | h0
  · have HE1 := Aside0.mk (HE.out.trans (if_pos h0))
    have HS1 := Aside0.mk (HS.out.trans (if_pos h0))
    clear HE HS
    rw [h0]
    clear h0
    go_wp2_with fail
    refine Calls.mono (counted_calls H.out) ?_
    rintro e w2 ⟨rfl, hs2, hk2⟩
    have H2 := Aside0.mk hs2
    have K2 := Aside0.mk hk2
    clear hs2 hk2
    rcases askE_cases (cntS S) with h1 | h1
    · have HS2 := Aside0.mk (HS1.out.trans (if_pos h1))
      have HE2 := Aside0.mk (HE1.out.trans h1)
      clear HS1 HE1
      rw [h1]
      clear h1
      obtain ⟨gs, vl, g1, g2, g3, g4, g5, g6, g7, g8⟩ := H2.out
      obtain ⟨A, c, rfl⟩ := own_slice g3
      have hc1 : w2.cell? ⟨p, 1, none⟩ = some (.slice A S.loose.length c) := (blk_cell g1 1).trans rfl
      have G1 : Aside0 (w2.heap[p]? = some (.cells #[.slice (some ⟨gs, 0, none⟩) S.safe.length S.safe.length, .slice A S.loose.length c, .int .i64 (cntS S).crash, .int .i64 (cntS S).count, .bool (cntS S).down] 101 (0, 0))) := ⟨g1⟩
      have G2 : Aside0 (w2.heap[gs]? = some (.cells ((doAll S.safe (S.loose.take 0)).map Value.string).toArray 9 (0, 0))) := ⟨g2⟩
      have G3 : Aside0 (w2.ownsRow B 117 2 (.slice A S.loose.length c) S.loose.length (chCells S.loose)) := ⟨g3⟩
      have GF := Aside0.mk (And.intro g4 (And.intro g5 (And.intro g6 (And.intro g7 g8))))
      have HLE : S.loose.length ≤ 9223372036854775807 := by
        rcases G3.out.2 with h | ⟨_, cap, _, e, _, _, h, hm, _⟩
        · omega
        · simp only [maxLen] at hm; omega
      have K3 : Aside0 (Kept F w w2) := ⟨(Next.of_kept K2.out H2.out).1⟩
      clear g1 g2 g3 g4 g5 g6 g7 g8
      go_wp2
      clear hc1
      go_loopw [20] (fun v20 w' => ∃ j : Nat, j ≤ S.loose.length ∧ v20 = .int .i64 j ∧
        Aside0 (w'.heap[p]? = some (.cells #[.slice (some ⟨gs, 0, none⟩) S.safe.length S.safe.length, .slice A S.loose.length c, .int .i64 (cntS S).crash, .int .i64 (cntS S).count, .bool (cntS S).down] 101 (0, 0))) ∧
        Aside0 (w'.heap[gs]? = some (.cells ((doAll S.safe (S.loose.take j)).map Value.string).toArray 9 (0, 0))) ∧
        Aside0 (w'.ownsRow B 117 2 (.slice A S.loose.length c) S.loose.length (chCells S.loose)) ∧ Aside0 (Kept F w w')) (fun v20 _ => S.loose.length - (intOf v20).toNat)
      case atStart => exact ⟨0, Nat.zero_le _, rfl, G1, G2, G3, K3⟩
      case round =>
        clear G1 G2 G3 K3
        obtain ⟨j, hj, rfl, G1, G2, G3, K3⟩ := hrel
        by_cases hlt : j < S.loose.length
        · obtain ⟨g, rfl, hg, hx0, hx1⟩ := own_chg G3.out j hlt
          have HD := Aside0.mk (doAll_take S.safe S.loose j hlt)
          have HI := Aside0.mk (HG.out _ (List.getElem_mem hlt))
          generalize S.loose[j] = y at hx0 hx1 HD HI
          obtain ⟨yn, yb⟩ := y
          dsimp only at hx0 hx1 HD HI
          have HL := Aside0.mk (doAll_len (S.loose.take j) S.safe)
          generalize doAll S.safe (S.loose.take j) = sj at HD HL G2
          go_upto_region 9 with fail
          clear hg hx0 hx1
          have GN := Aside0.mk (show ∃ u, sj[yn]? = some u from ⟨_, List.getElem?_eq_getElem (by have := HL.out; have := HI.out; omega)⟩)
          obtain ⟨old, hold⟩ := GN.out
          generalize hW : wr.alloc (.cells #[.int .i64 (yn : Int), .string yb] 117) = w3
          have N0 := Aside0.mk (hW ▸ heap_alloc_new wr (.cells #[.int .i64 (yn : Int), .string yb] 117))
          have N1 := Aside0.mk (hW ▸ blk_alloc G1.out (.cells #[.int .i64 (yn : Int), .string yb] 117))
          have N2 := Aside0.mk (hW ▸ blk_alloc G2.out (.cells #[.int .i64 (yn : Int), .string yb] 117))
          have N3 := Aside0.mk (hW ▸ own_alloc G3.out (.cells #[.int .i64 (yn : Int), .string yb] 117))
          have N4 := Aside0.mk (show Kept F w w3 from hW ▸ K3.out.trans (Kept.of_below (F := F) (below_alloc (Below.refl _ _) _)) (fun i h => .inl h))
          generalize wr.heap.size = nb at N0 ⊢
          clear hW G1 G2 G3 K3 GN
          have hcp : w3.cell? ⟨p, 0, none⟩ = some (.slice (some ⟨gs, 0, none⟩) S.safe.length S.safe.length) := (blk_cell N1.out 0).trans rfl
          have hb0 : w3.cell? ⟨nb, 0, none⟩ = some (.int .i64 (yn : Int)) := (blk_cell N0.out 0).trans rfl
          have hb1 : w3.cell? ⟨nb, 1, none⟩ = some (.string yb) := (blk_cell N0.out 1).trans rfl
          have hgs : w3.cell? ⟨gs, yn, none⟩ = some (.string old) := (blk_cell N2.out yn).trans (by simpa using hold)
          have hfs : w3.frozen? ⟨gs, yn, none⟩ = false := blk_frozen N2.out yn
          have hy0 : (0 : Int) ≤ (yn : Int) := by omega
          have hy1 : (yn : Int) < (S.safe.length : Int) := by have := HI.out; omega
          clear hold
          go_region
          clear hcp hb0 hb1 hgs hfs hy0 hy1
          have GF' := GF
          have M1 := Aside0.mk (show ((w3.setCell ⟨gs, yn, none⟩ (.string yb)).drew).heap[p]? = _ from blk_far N1.out (show p ≠ gs from blk_ne N1.out N2.out (by decide)) _)
          have M2 := Aside0.mk (show ((w3.setCell ⟨gs, yn, none⟩ (.string yb)).drew).heap[gs]? = some (.cells ((doAll S.safe (S.loose.take (j + 1))).map Value.string).toArray 9 (0, 0)) from by rw [HD.out]; exact blk_put N2.out yn _ (set_map sj yn yb))
          have M3 := Aside0.mk (show ((w3.setCell ⟨gs, yn, none⟩ (.string yb)).drew).ownsRow B 117 2 (.slice (some ⟨g, 0, none⟩) S.loose.length c) S.loose.length (chCells S.loose) from own_setCell (p := ⟨gs, yn, none⟩) N3.out (own_ne N3.out N2.out (by decide)) _)
          have M4 := Aside0.mk (show Kept F w ((w3.setCell ⟨gs, yn, none⟩ (.string yb)).drew) from by have k := N4.out.set (g := gs) (o := yn) (.string yb) (.inl GF.out.2.1); exact ⟨k.os, k.tape, k.output, k.size, k.block⟩)
          clear N0 N1 N2 N3 N4 GF' HI HD HL
          go_wp2
          go_roundw
          case measure => simp [intOf]; omega
          case rel => exact ⟨j + 1, by omega, by go_num, M1, M2, M3, M4⟩
        · obtain rfl : j = S.loose.length := by omega
          rw [List.take_length] at G2
          have hcp : wr.cell? ⟨p, 1, none⟩ = some (.slice A S.loose.length c) := (blk_cell G1.out 1).trans rfl
          have hfp : wr.frozen? ⟨p, 1, none⟩ = false := blk_frozen G1.out 1
          have M := Aside0.mk (sync_end G1.out G2.out GF.out K3.out)
          clear G1 G2 G3 K3 GF
          go_wp2
          go_ret
          exact ⟨by rw [HE2.out]; rfl, by rw [HS2.out]; exact M.out⟩
    · have HS2 := Aside0.mk (HS1.out.trans (if_neg (by rw [h1]; decide)))
      have HE2 := Aside0.mk (HE1.out.trans h1)
      clear HS1 HE1
      rw [h1]
      clear h1
      go_wp2
      go_ret
      exact ⟨by rw [HE2.out]; rfl, by rw [HS2.out]; exact ⟨F, H2.out, Next.of_kept K2.out H2.out⟩⟩
  · have HE1 := Aside0.mk (HE.out.trans ((if_neg (by rw [h0]; decide)).trans h0))
    have HS1 := Aside0.mk (HS.out.trans (if_neg (by rw [h0]; decide)))
    clear HE HS
    rw [h0]
    clear h0
    go_wp2
    go_ret
    exact ⟨by rw [HE1.out]; rfl, by rw [HS1.out]; exact ⟨F, H.out, Next.refl _ _⟩⟩
end Go.Proofs.Ytmgkflkpompchaa.Strip
