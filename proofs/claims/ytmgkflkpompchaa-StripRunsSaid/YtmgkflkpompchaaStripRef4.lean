/- The reference's strip (brookref16): Sync. No condition but bounds on what was counted. -/
import Derived.Test.YtmgkflkpompchaaStripRef3
namespace Go.Proofs.Ytmgkflkpompchaa.Strip
open Go.RowKit Go.Proofs.YtmgkflkpompchaaW.PrintWords Go.Proofs.YtmgkflkpompchaaW.PrintLast Go.Proofs.YtmgkflkpompchaaW.PrintMore
set_option linter.unusedVariables false
set_option linter.unusedSimpArgs false

theorem own_set_str {W : World} {B g n cap : Nat} {s : List ByteArray} (h : W.ownsRow B 9 1 (.slice (some ⟨g, 0, none⟩) n cap) n (encs Value.string s)) (i : Nat) (b : ByteArray) :
    (W.setCell ⟨g, i, none⟩ (.string b)).ownsRow B 9 1 (.slice (some ⟨g, 0, none⟩) n cap) n (encs Value.string (s.set i b)) := by
  have := (own_store_of h (i : Int) b).1
  rwa [Int.toNat_natCast] at this
theorem own_get_str {W : World} {B g n cap : Nat} {s : List ByteArray} (h : W.ownsRow B 9 1 (.slice (some ⟨g, 0, none⟩) n cap) n (encs Value.string s)) (i : Nat) (hi : i < n) :
    W.cell? ⟨g, i, none⟩ = some (.string (s.getD i ⟨#[]⟩)) ∧ W.frozen? ⟨g, i, none⟩ = false := by
  have := own_at_of (d := (⟨#[]⟩ : ByteArray)) h (i : Int) (by omega) (by omega)
  rwa [rdOf_at, Int.toNat_natCast] at this
theorem own_blk {W : World} {B g n cap e : Nat} {xs : List Value} {s : Nat} (h : W.ownsRow B e s (.slice (some ⟨g, 0, none⟩) n cap) n xs) : ∃ cur, W.heap[g]? = some (.cells cur e (0, 0)) := by
  rcases h.2 with ⟨h1, _⟩ | ⟨g', cap', cur, h1, _, h2, _⟩
  · cases h1
  · injection h1 with h1; injection h1 with h1; injection h1 with h1; subst h1; exact ⟨cur, h2⟩
/-- The end of Sync: no change is loose. -/
theorem rsync_end {B : Nat} {w w3 : World} {p : Nat} {vs v : Value} {T : St} {F : Nat → Prop} {x : List ByteArray}
    (h1 : w3.heap[p]? = some (.cells #[vs, v, .int .i64 (left T), .bool T.down] 77 (0, 0))) (h2 : w3.ownsRow B 9 1 vs x.length (encs Value.string x))
    (hF : F p ∧ (∀ k, vs.ownBlock = some k → F k) ∧ (∀ k, v.ownBlock = some k → F k) ∧ (∀ k, F k → B ≤ k)) (hk : Kept F w w3) :
    ∃ F', IsRf B (w3.setCell ⟨p, 1, none⟩ (.slice none 0 0)) p { T with safe := x, loose := [] } F' ∧ Next F F' w (w3.setCell ⟨p, 1, none⟩ (.slice none 0 0)) := by
  refine ⟨F, ⟨vs, .slice none 0 0, blk_set h1 1 _, own_setCell (p := ⟨p, 1, none⟩) h2 (own_ne h2 h1 (by decide)) _, own_nil _ _ _ _, hF.1, hF.2.1, fun k hk => by simp [Value.ownBlock] at hk, hF.2.2.2⟩, hk.set _ (.inl hF.1), fun k hk => .inl hk⟩
theorem syE_down {S : St} (h : S.down = true) : syE S = 8 ∧ syS S = S := by
  have ha : askE S = 8 := if_pos h
  unfold syE syS; rw [ha, if_neg (by decide), if_neg (by decide)]; exact ⟨rfl, rfl⟩
theorem syE_last {S : St} (h : S.down = false) (h2 : (cntS S).down = true) : syE S = 8 ∧ syS S = cntS S := by
  have ha : askE S = 0 := if_neg (by rw [h]; simp)
  have hb : askE (cntS S) = 8 := if_pos h2
  unfold syE syS; rw [ha, if_pos rfl, if_pos rfl, hb, if_neg (by decide)]; exact ⟨rfl, rfl⟩
theorem syE_done {S : St} (h : S.down = false) (h2 : (cntS S).down = false) : syE S = 0 ∧ syS S = { cntS S with safe := doAll S.safe S.loose, loose := [] } := by
  have ha : askE S = 0 := if_neg (by rw [h]; simp)
  have hb : askE (cntS S) = 0 := if_neg (by rw [h2]; simp)
  unfold syE syS; rw [ha, if_pos rfl, if_pos rfl, hb, if_pos rfl]; exact ⟨rfl, rfl⟩

set_option maxHeartbeats 1600000 in
set_option maxRecDepth 100000 in
theorem rsync_calls {B : Nat} {w : World} {p : Nat} {S : St} {F : Nat → Prop} (h : IsRf B w p S F) (hb : Bnd S) (hg : ∀ c ∈ S.loose, c.1 < S.safe.length) :
    Calls Try.prog 51 #[.pointer (some ⟨p, 0, none⟩)] w fun e w' => e = .returned (.int .i64 (syE S)) ∧ ∃ F', IsRf B w' p (syS S) F' ∧ Next F F' w w' := by
  have H := Aside0.mk h
  have HB := Aside0.mk hb
  have HG := Aside0.mk hg
  clear hb hg
  obtain ⟨vs, vl, g1, g2, g3, g4, g5, g6, g7⟩ := h
  have hx3 : w.cell? ⟨p, 3, none⟩ = some (.bool S.down) := (blk_cell g1 3).trans rfl
  clear g1 g2 g3 g4 g5 g6 g7
  cases hd : S.down with
  | true =>
    rw [hd] at hx3
    have HR := Aside0.mk (syE_down hd)
    clear hd
    go_enter Try.func51, Try.ntmps51
    go_wp2
    go_ret
    exact ⟨by rw [HR.out.1]; rfl, by rw [HR.out.2]; exact ⟨F, H.out, Next.refl _ _⟩⟩
  | false =>
    rw [hd] at hx3
    have HD := Aside0.mk hd
    clear hd
    go_enter Try.func51, Try.ntmps51
    go_wp2_with fail
    refine Calls.mono (rcount_calls H.out HB.out HD.out) ?_
    rintro e w2 ⟨rfl, hs2, hk2⟩
    have H2 := Aside0.mk hs2
    have K2 := Aside0.mk hk2
    clear hs2 hk2 hx3
    cases hc : (cntS S).down with
    | true =>
      have HR := Aside0.mk (syE_last HD.out hc)
      clear hc
      go_wp2
      go_ret
      exact ⟨by rw [HR.out.1]; rfl, by rw [HR.out.2]; exact ⟨F, H2.out, Next.of_kept' K2.out H2.out⟩⟩
    | false =>
      have HR := Aside0.mk (syE_done HD.out hc)
      clear hc
      have K3 : Aside0 (Kept F w w2) := ⟨(Next.of_kept' K2.out H2.out).1⟩
      obtain ⟨us, ul, g1, g2, g3, g4, g5, g6, g7⟩ := H2.out
      obtain ⟨A, c, rfl⟩ := own_slice g3
      obtain ⟨A1, c1, rfl⟩ := own_slice g2
      have G1 : Aside0 (w2.heap[p]? = some (.cells #[.slice A1 S.safe.length c1, .slice A S.loose.length c, .int .i64 (left (cntS S)), .bool (cntS S).down] 77 (0, 0))) := ⟨g1⟩
      have G2 : Aside0 (w2.ownsRow B 9 1 (.slice A1 S.safe.length c1) S.safe.length (encs Value.string (doAll S.safe (S.loose.take 0)))) := ⟨g2⟩
      have G3 : Aside0 (w2.ownsRow B 120 2 (.slice A S.loose.length c) S.loose.length (chCells S.loose)) := ⟨g3⟩
      have GF := Aside0.mk (And.intro g4 (And.intro g5 (And.intro g6 g7)))
      have HLE := own_max G3.out
      have hcap1 := own_le G3.out
      clear g1 g2 g3 g4 g5 g6 g7 K2
      go_upto_region 4 with fail
      go_loopw [3] (fun v3 w' => ∃ j : Nat, j ≤ S.loose.length ∧ v3 = .int .i64 j ∧
        Aside0 (w'.heap[p]? = some (.cells #[.slice A1 S.safe.length c1, .slice A S.loose.length c, .int .i64 (left (cntS S)), .bool (cntS S).down] 77 (0, 0))) ∧
        Aside0 (w'.ownsRow B 9 1 (.slice A1 S.safe.length c1) S.safe.length (encs Value.string (doAll S.safe (S.loose.take j)))) ∧
        Aside0 (w'.ownsRow B 120 2 (.slice A S.loose.length c) S.loose.length (chCells S.loose)) ∧ Aside0 (Kept F w w')) (fun v3 _ => S.loose.length - (intOf v3).toNat)
      case atStart => exact ⟨0, Nat.zero_le _, rfl, G1, G2, G3, K3⟩
      case round =>
        clear G1 G2 G3 K3
        obtain ⟨j, hj, rfl, G1, G2, G3, K3⟩ := hrel
        have hx1 : wr.cell? ⟨p, 1, none⟩ = some (.slice A S.loose.length c) := (blk_cell G1.out 1).trans rfl
        by_cases hlt : j < S.loose.length
        · obtain ⟨g, rfl, hg, hy0, hy1⟩ := own_chgE G3.out j hlt
          have HD2 := Aside0.mk (doAll_take S.safe S.loose j hlt)
          have HI := Aside0.mk (HG.out _ (List.getElem_mem hlt))
          generalize S.loose[j] = y at hy0 hy1 HD2 HI
          obtain ⟨yn, yb⟩ := y
          dsimp only at hy0 hy1 HD2 HI
          have HL := Aside0.mk (doAll_len (S.loose.take j) S.safe)
          generalize doAll S.safe (S.loose.take j) = sj at HD2 HL G2
          have hin := HI.out
          obtain ⟨gs, cap, hv, hcap, hmx⟩ := own_open G2.out (by omega)
          injection hv with hv1 hv2 hv3
          subst hv1 hv3
          clear hv2 hg
          obtain ⟨hz0, hz1⟩ := own_get_str G2.out yn hin
          have hx0 : wr.cell? ⟨p, 0, none⟩ = some (.slice (some ⟨gs, 0, none⟩) S.safe.length c1) := (blk_cell G1.out 0).trans rfl
          have hj0 : (0 : Int) ≤ (j : Int) := by omega
          have hj1 : (j : Int) < (S.loose.length : Int) := by omega
          have hn0 : (0 : Int) ≤ (yn : Int) := by omega
          have hn1 : (yn : Int) < (S.safe.length : Int) := by omega
          generalize sj.getD yn ⟨#[]⟩ = old at hz0
          obtain ⟨cur, hcur⟩ := own_blk G2.out
          have HN := Aside0.mk hcur
          clear hcur hin
          go_upto_region 6 with fail
          go_region
          clear hx0 hx1 hy0 hy1 hz0 hz1 hj0 hj1 hn0 hn1
          have M1 := Aside0.mk (show ((wr.setCell ⟨gs, yn, none⟩ (.string yb)).drew).heap[p]? = _ from blk_far G1.out (show p ≠ gs from blk_ne G1.out HN.out (by decide)) _)
          have M2 := Aside0.mk (show ((wr.setCell ⟨gs, yn, none⟩ (.string yb)).drew).ownsRow B 9 1 (.slice (some ⟨gs, 0, none⟩) S.safe.length c1) S.safe.length (encs Value.string (doAll S.safe (S.loose.take (j + 1)))) from by rw [HD2.out]; exact own_set_str G2.out yn yb)
          have M3 := Aside0.mk (show ((wr.setCell ⟨gs, yn, none⟩ (.string yb)).drew).ownsRow B 120 2 (.slice (some ⟨g, 0, none⟩) S.loose.length c) S.loose.length (chCells S.loose) from own_setCell (p := ⟨gs, yn, none⟩) G3.out (own_ne G3.out HN.out (by decide)) _)
          have M4 := Aside0.mk (show Kept F w ((wr.setCell ⟨gs, yn, none⟩ (.string yb)).drew) from by have k := K3.out.set (g := gs) (o := yn) (.string yb) (.inl (GF.out.2.1 gs rfl)); exact ⟨k.os, k.tape, k.output, k.size, k.block⟩)
          clear G1 G2 G3 K3 HI HD2 HL HN
          go_wp2
          go_roundw
          case measure => simp [intOf]; omega
          case rel => exact ⟨j + 1, by omega, by go_num, M1, M2, M3, M4⟩
        · obtain rfl : j = S.loose.length := by omega
          rw [List.take_length] at G2
          have hfp : wr.frozen? ⟨p, 1, none⟩ = false := blk_frozen G1.out 1
          have G2' : Aside0 (wr.ownsRow B 9 1 (.slice A1 S.safe.length c1) (doAll S.safe S.loose).length (encs Value.string (doAll S.safe S.loose))) := ⟨by rw [doAll_len]; exact G2.out⟩
          have M := Aside0.mk (rsync_end (T := cntS S) G1.out G2'.out GF.out K3.out)
          clear G1 G2 G3 K3 GF G2'
          go_wp2
          go_ret
          exact ⟨by rw [HR.out.1]; rfl, by rw [HR.out.2]; exact M.out⟩
end Go.Proofs.Ytmgkflkpompchaa.Strip
