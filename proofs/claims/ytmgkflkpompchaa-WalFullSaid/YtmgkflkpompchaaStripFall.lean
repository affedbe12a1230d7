/- The strip's Fall. -/
import Derived.Test.YtmgkflkpompchaaStripSync
namespace Go.Proofs.Ytmgkflkpompchaa.Strip
open Go.RowKit Go.Proofs.YtmgkflkpompchaaW.PrintWords Go.Proofs.YtmgkflkpompchaaW.PrintLast Go.Proofs.YtmgkflkpompchaaW.PrintMore
set_option linter.unusedVariables false
set_option linter.unusedSimpArgs false

def kp (k : Int) (n : Nat) : Nat := (max 0 k).toNat % n
theorem kp_lt (k : Int) (n : Nat) (h : 0 < n) : kp k n < n := Nat.mod_lt _ h
theorem kp_int (k : Int) (n : Nat) : (max 0 k).tmod (n : Int) = (kp k n : Int) := by
  unfold kp
  rw [Int.tmod_eq_emod_of_nonneg (by omega), Int.natCast_emod, Int.toNat_of_nonneg (by omega)]

/-- A fall that keeps K of the changes. -/
def fallAt (S : St) (cr : Int) (K : Nat) (tn : Int) : St :=
  { safe := match S.loose[K]? with
      | none => doAll S.safe (S.loose.take K)
      | some c => (doAll S.safe (S.loose.take K)).set c.1 (c.2.extract 0 (kp tn 33) ++ ((doAll S.safe (S.loose.take K)).getD c.1 ⟨#[]⟩).extract (kp tn 33) 32)
    loose := [], crash := cr, count := 0, down := false }
def fallS (S : St) (bl cr ke tn : Int) : St := fallAt S cr (kp ke (S.loose.length + 1)) tn
theorem fallAt_some (S : St) (cr tn : Int) (K : Nat) (h : K < S.loose.length) : fallAt S cr K tn =
    { safe := (doAll S.safe (S.loose.take K)).set S.loose[K].1 (S.loose[K].2.extract 0 (kp tn 33) ++ ((doAll S.safe (S.loose.take K)).getD S.loose[K].1 ⟨#[]⟩).extract (kp tn 33) 32), loose := [], crash := cr, count := 0, down := false } := by
  unfold fallAt; rw [List.getElem?_eq_getElem h]
theorem fallAt_none (S : St) (cr tn : Int) : fallAt S cr S.loose.length tn = { safe := doAll S.safe S.loose, loose := [], crash := cr, count := 0, down := false } := by
  unfold fallAt; rw [List.getElem?_eq_none (Nat.le_refl _), List.take_length]
theorem doAll_size (n : Nat) : ∀ (l : List (Nat × ByteArray)) (s : List ByteArray), (∀ b ∈ s, b.size = n) → (∀ c ∈ l, c.2.size = n) → ∀ b ∈ doAll s l, b.size = n
  | [], s, h, _ => h
  | c :: r, s, h, k => by
    refine doAll_size n r _ ?_ (fun x hx => k x (List.mem_cons_of_mem _ hx))
    intro b hb
    rcases List.mem_or_eq_of_mem_set hb with hb | rfl
    · exact h b hb
    · exact k c List.mem_cons_self
theorem IsStrip.own {B : Nat} {w : World} {p : Nat} {S : St} {F : Nat → Prop} (h : IsStrip B w p S F) : F p := by
  obtain ⟨gs, vl, _, _, _, h4, _⟩ := h
  exact h4
theorem fall_end {B : Nat} {w w3 : World} {p gs : Nat} {v : Value} {c1 c2 : Int} {d : Bool} {L : Nat} {F : Nat → Prop} {x : List ByteArray}
    (h1 : w3.heap[p]? = some (.cells #[.slice (some ⟨gs, 0, none⟩) L L, v, .int .i64 c1, .int .i64 c2, .bool d] 101 (0, 0)))
    (h2 : w3.heap[gs]? = some (.cells (x.map Value.string).toArray 9 (0, 0))) (hL : L = x.length) (hF : F p ∧ F gs ∧ (∀ k, v.ownBlock = some k → F k) ∧ (∀ k, F k → B ≤ k) ∧ L ≤ 65536) (hk : Kept F w w3) :
    IsStrip B ((w3.setCell ⟨p, 1, none⟩ (.slice none 0 0)).setCell ⟨p, 4, none⟩ (.bool false)) p { safe := x, loose := [], crash := c1, count := c2, down := false } F ∧ Kept F w ((w3.setCell ⟨p, 1, none⟩ (.slice none 0 0)).setCell ⟨p, 4, none⟩ (.bool false)) := by
  subst hL
  have hne : gs ≠ p := blk_ne h2 h1 (by decide)
  exact ⟨⟨gs, .slice none 0 0, blk_set (blk_set h1 1 _) 4 _, blk_far (p := ⟨p, 4, none⟩) (blk_far (p := ⟨p, 1, none⟩) h2 hne _) hne _, own_nil _ _ _ _, hF.1, hF.2.1, fun k hk => by simp [Value.ownBlock] at hk, hF.2.2.2.1, hF.2.2.2.2⟩, (hk.set _ (.inl hF.1)).set _ (.inl hF.1)⟩
set_option maxHeartbeats 1600000 in
set_option maxRecDepth 100000 in
theorem fall_calls {B : Nat} {w : World} {p : Nat} {S : St} {F : Nat → Prop} (h : IsStrip B w p S F) (hg : ∀ c ∈ S.loose, c.1 < S.safe.length) (hz : ∀ c ∈ S.loose, c.2.size = 32) (hy : ∀ b ∈ S.safe, b.size = 32) (hn : S.loose.length ≤ 1099511627776) (bl cr ke tn : Int) :
    Calls Try.prog 39 #[.pointer (some ⟨p, 0, none⟩), .agg #[.int .i64 bl, .int .i64 cr, .int .i64 ke, .int .i64 tn]] w fun e w' => e = .returned (.tuple #[]) ∧ ∃ F', IsStrip B w' p (fallS S bl cr ke tn) F' ∧ Next F F' w w' := by
  have H := Aside0.mk h
  have HG := Aside0.mk hg
  have HZ := Aside0.mk hz
  have HY := Aside0.mk hy
  have HN := Aside0.mk hn
  clear h hg hz hy hn
  go_enter Try.func39, Try.ntmps39
  go_upto_region 0 with fail
  go_upto_region 1 with ((with_reducible refine gate_dst (N := 3) rfl ?_); refine box_event ?hg (N := 3) ?hd (cs := #[.int .i64 bl, .int .i64 cr, .int .i64 ke, .int .i64 tn]) (t := 42) ?hr ?_; (case hd => rfl); (case hg => rfl); (case hr => first | (go_simp; done) | (go_simp; rfl)); intro gb hg w4 hbox hb; have HB := Aside0.mk hb; have BK := Aside0.mk hbox; have GE := Aside0.mk (show w.heap.size ≤ gb by omega); clear hb hbox hg)
  have H1 := Aside0.mk (H.out.below HB.out)
  obtain ⟨gs, vl, g1, g2, g3, g4, g5, g6, g7, g8⟩ := H1.out
  obtain ⟨A, c, rfl⟩ := own_slice g3
  have hc1 : w4.cell? ⟨p, 1, none⟩ = some (.slice A S.loose.length c) := (blk_cell g1 1).trans rfl
  have hk2 : w4.cell? ⟨gb, 2, none⟩ = some (.int .i64 ke) := (blk_cell BK.out 2).trans rfl
  have G1 := Aside0.mk g1
  have G2 := Aside0.mk g2
  have G3 := Aside0.mk g3
  have GF := Aside0.mk (And.intro g4 (And.intro g5 (And.intro g6 (And.intro g7 g8))))
  clear g1 g2 g3 g4 g5 g6 g7 g8
  have hn := HN.out
  go_upto_region 2 with fail
  go_region
  have hkp : (if 0 < ke then ke else 0) % ((S.loose.length : Int) + 1) = ((kp ke (S.loose.length + 1) : Nat) : Int) := by
    rw [← kp_int, Int.tmod_eq_emod_of_nonneg (by omega)]
    congr 1
    rw [Int.max_def]; split <;> split <;> omega
  rw [hkp]
  clear hkp
  generalize (if 0 < ke then ke else 0 : Int) = k13
  have hlt := kp_lt ke (S.loose.length + 1) (by omega)
  have HKE := Aside0.mk (show fallS S bl cr ke tn = fallAt S cr (kp ke (S.loose.length + 1)) tn from rfl)
  generalize kp ke (S.loose.length + 1) = K at hlt HKE ⊢
  replace hc1 : w4.drew.cell? ⟨p, 1, none⟩ = some (.slice A S.loose.length c) := hc1
  have hcap := own_cap G3.out
  have hmx : c ≤ 9223372036854775807 := by
    rcases G3.out.2 with h | ⟨_, cap, _, e, _, _, h, hm, _⟩
    · have := h.1; injection this; omega
    · injection e; simp only [maxLen] at hm; omega
  have hK0 : (0 : Int) ≤ (K : Int) := by omega
  have hK1 : (K : Int) ≤ (c : Int) := by omega
  clear hk2
  have hcap' : K ≤ S.loose.length := by omega
  have GB := Aside0.mk (show p ≠ gb ∧ gs ≠ gb ∧ (∀ k, (Value.slice A S.loose.length c).ownBlock = some k → k ≠ gb) from ⟨blk_ne G1.out BK.out (by decide), blk_ne G2.out BK.out (by decide), fun k hk => by
    obtain ⟨cells, hc⟩ := own_typed G3.out k hk
    exact blk_ne hc BK.out (by decide)⟩)
  have K3 : Aside0 (Kept F w w4) := ⟨Kept.of_below HB.out⟩
  go_upto_region 4 with fail
  clear hc1 hK0 hK1
  go_loopw [28] (fun v28 w' => ∃ j : Nat, j ≤ K ∧ v28 = .int .i64 j ∧
        Aside0 (w'.heap[p]? = some (.cells #[.slice (some ⟨gs, 0, none⟩) S.safe.length S.safe.length, .slice A S.loose.length c, .int .i64 S.crash, .int .i64 S.count, .bool S.down] 101 (0, 0))) ∧
        Aside0 (w'.heap[gs]? = some (.cells ((doAll S.safe (S.loose.take j)).map Value.string).toArray 9 (0, 0))) ∧
        Aside0 (w'.ownsRow B 117 2 (.slice A S.loose.length c) S.loose.length (chCells S.loose)) ∧ Aside0 (Kept F w w') ∧
        Aside0 (w'.heap[gb]? = some (.cells #[.int .i64 bl, .int .i64 cr, .int .i64 ke, .int .i64 tn] 42 (0, 0)))) (fun v28 _ => K - (intOf v28).toNat)
  case atStart => exact ⟨0, Nat.zero_le _, rfl, G1, G2, G3, ⟨⟨K3.out.os, K3.out.tape, K3.out.output, K3.out.size, K3.out.block⟩⟩, BK⟩
  case round =>
    clear G1 G2 G3 K3 BK HB H1
    obtain ⟨j, hj, rfl, G1, G2, G3, K3, BK⟩ := hrel
    by_cases hjk : j < K
    · have hlt : j < S.loose.length := by omega
      obtain ⟨g, rfl, hg, hx0, hx1⟩ := own_chg G3.out j hlt
      have HD := Aside0.mk (doAll_take S.safe S.loose j hlt)
      have HI := Aside0.mk (HG.out _ (List.getElem_mem hlt))
      generalize S.loose[j] = y at hx0 hx1 HD HI
      obtain ⟨yn, yb⟩ := y
      dsimp only at hx0 hx1 HD HI
      have HL := Aside0.mk (doAll_len (S.loose.take j) S.safe)
      generalize doAll S.safe (S.loose.take j) = sj at HD HL G2
      go_upto_region 6 with fail
      clear hg hx0 hx1
      have GN := Aside0.mk (show ∃ u, sj[yn]? = some u from ⟨_, List.getElem?_eq_getElem (by have := HL.out; have := HI.out; omega)⟩)
      obtain ⟨old, hold⟩ := GN.out
      generalize hW : wr.alloc (.cells #[.int .i64 (yn : Int), .string yb] 117) = w3
      have N0 := Aside0.mk (hW ▸ heap_alloc_new wr (.cells #[.int .i64 (yn : Int), .string yb] 117))
      have N1 := Aside0.mk (hW ▸ blk_alloc G1.out (.cells #[.int .i64 (yn : Int), .string yb] 117))
      have N2 := Aside0.mk (hW ▸ blk_alloc G2.out (.cells #[.int .i64 (yn : Int), .string yb] 117))
      have N3 := Aside0.mk (hW ▸ own_alloc G3.out (.cells #[.int .i64 (yn : Int), .string yb] 117))
      have N5 := Aside0.mk (hW ▸ blk_alloc BK.out (.cells #[.int .i64 (yn : Int), .string yb] 117))
      have N4 := Aside0.mk (show Kept F w w3 from hW ▸ K3.out.trans (Kept.of_below (F := F) (below_alloc (Below.refl _ _) _)) (fun i h => .inl h))
      generalize wr.heap.size = nb at N0 ⊢
      clear hW G1 G2 G3 K3 GN BK
      have hcp : w3.cell? ⟨p, 0, none⟩ = some (.slice (some ⟨gs, 0, none⟩) S.safe.length S.safe.length) := (blk_cell N1.out 0).trans rfl
      have hb0 : w3.cell? ⟨nb, 0, none⟩ = some (.int .i64 (yn : Int)) := (blk_cell N0.out 0).trans rfl
      have hb1 : w3.cell? ⟨nb, 1, none⟩ = some (.string yb) := (blk_cell N0.out 1).trans rfl
      have hgs : w3.cell? ⟨gs, yn, none⟩ = some (.string old) := (blk_cell N2.out yn).trans (by simpa using hold)
      have hfs : w3.frozen? ⟨gs, yn, none⟩ = false := blk_frozen N2.out yn
      have hy0 : (0 : Int) ≤ (yn : Int) := by omega
      have hy1 : (yn : Int) < (S.safe.length : Int) := by have := HI.out; omega
      clear hold
      go_region
      clear hcp hb0 hb1 hgs hfs hy0 hy1
      have M1 := Aside0.mk (show ((w3.setCell ⟨gs, yn, none⟩ (.string yb)).drew).heap[p]? = _ from blk_far N1.out (show p ≠ gs from blk_ne N1.out N2.out (by decide)) _)
      have M5 := Aside0.mk (show ((w3.setCell ⟨gs, yn, none⟩ (.string yb)).drew).heap[gb]? = _ from blk_far N5.out (show gb ≠ gs from blk_ne N5.out N2.out (by decide)) _)
      have M2 := Aside0.mk (show ((w3.setCell ⟨gs, yn, none⟩ (.string yb)).drew).heap[gs]? = some (.cells ((doAll S.safe (S.loose.take (j + 1))).map Value.string).toArray 9 (0, 0)) from by rw [HD.out]; exact blk_put N2.out yn _ (set_map sj yn yb))
      have M3 := Aside0.mk (show ((w3.setCell ⟨gs, yn, none⟩ (.string yb)).drew).ownsRow B 117 2 (.slice (some ⟨g, 0, none⟩) S.loose.length c) S.loose.length (chCells S.loose) from own_setCell (p := ⟨gs, yn, none⟩) N3.out (own_ne N3.out N2.out (by decide)) _)
      have M4 := Aside0.mk (show Kept F w ((w3.setCell ⟨gs, yn, none⟩ (.string yb)).drew) from by have k := N4.out.set (g := gs) (o := yn) (.string yb) (.inl GF.out.2.1); exact ⟨k.os, k.tape, k.output, k.size, k.block⟩)
      clear N0 N1 N2 N3 N4 N5 HI HD HL
      go_wp2
      go_roundw
      case measure => simp [intOf]; omega
      case rel => exact ⟨j + 1, by omega, by go_num, M1, M2, M3, M4, M5⟩
    · obtain rfl : j = K := by omega
      clear hj hjk
      have hc1 : wr.cell? ⟨p, 1, none⟩ = some (.slice A S.loose.length c) := (blk_cell G1.out 1).trans rfl
      by_cases hkl : j < S.loose.length
      · obtain ⟨g, rfl, hg, hx0, hx1⟩ := own_chg G3.out j hkl
        have hin := List.getElem_mem hkl
        have HI := Aside0.mk (HG.out _ hin)
        have HIZ := Aside0.mk (HZ.out _ hin)
        have HC := Aside0.mk (fallAt_some S cr tn j hkl)
        generalize S.loose[j] = y at hx0 hx1 HI HIZ HC
        obtain ⟨yn, yb⟩ := y
        dsimp only at hx0 hx1 HI HIZ HC
        have HL := Aside0.mk (doAll_len (S.loose.take j) S.safe)
        have HO := Aside0.mk (doAll_size 32 (S.loose.take j) S.safe HY.out (fun c hc => HZ.out c (List.mem_of_mem_take hc)))
        generalize doAll S.safe (S.loose.take j) = sj at HC HL G2 HO
        go_upto_region 10 with fail
        clear hg hx0 hx1 hin
        have hln : yn < sj.length := by have := HL.out; have := HI.out; omega
        have hold : sj[yn]? = some sj[yn] := List.getElem?_eq_getElem hln
        have HOZ := Aside0.mk (HO.out _ (List.getElem_mem hln))
        rw [show sj.getD yn ⟨#[]⟩ = sj[yn] by simp [List.getD_eq_getElem?_getD, hold]] at HC
        generalize sj[yn] = ob at hold HOZ HC
        generalize hW : wr.alloc (.cells #[.int .i64 (yn : Int), .string yb] 117) = w3
        have N0 := Aside0.mk (hW ▸ heap_alloc_new wr (.cells #[.int .i64 (yn : Int), .string yb] 117))
        have N1 := Aside0.mk (hW ▸ blk_alloc G1.out (.cells #[.int .i64 (yn : Int), .string yb] 117))
        have N2 := Aside0.mk (hW ▸ blk_alloc G2.out (.cells #[.int .i64 (yn : Int), .string yb] 117))
        have N5 := Aside0.mk (hW ▸ blk_alloc BK.out (.cells #[.int .i64 (yn : Int), .string yb] 117))
        have N4 := Aside0.mk (show Kept F w w3 from hW ▸ K3.out.trans (Kept.of_below (F := F) (below_alloc (Below.refl _ _) _)) (fun i h => .inl h))
        generalize wr.heap.size = nb at N0 ⊢
        clear hW G1 G2 G3 K3 BK hc1
        have hk3 : w3.cell? ⟨gb, 3, none⟩ = some (.int .i64 tn) := (blk_cell N5.out 3).trans rfl
        have hcp : w3.cell? ⟨p, 0, none⟩ = some (.slice (some ⟨gs, 0, none⟩) S.safe.length S.safe.length) := (blk_cell N1.out 0).trans rfl
        have hb0 : w3.cell? ⟨nb, 0, none⟩ = some (.int .i64 (yn : Int)) := (blk_cell N0.out 0).trans rfl
        have hb1 : w3.cell? ⟨nb, 1, none⟩ = some (.string yb) := (blk_cell N0.out 1).trans rfl
        have hgs : w3.cell? ⟨gs, yn, none⟩ = some (.string ob) := (blk_cell N2.out yn).trans (by simpa using hold)
        have hfs : w3.frozen? ⟨gs, yn, none⟩ = false := blk_frozen N2.out yn
        have hy0 : (0 : Int) ≤ (yn : Int) := by omega
        have hy1 : (yn : Int) < (S.safe.length : Int) := by have := HI.out; omega
        go_upto_region 11 with fail
        have hkp : (if 0 < tn then tn else 0) % (33 : Int) = ((kp tn 33 : Nat) : Int) := by
          rw [← kp_int, Int.tmod_eq_emod_of_nonneg (by omega)]
          congr 1
          rw [Int.max_def]; split <;> split <;> omega
        rw [hkp]
        clear hkp hk3
        generalize (if 0 < tn then tn else 0 : Int) = k58
        have htl := kp_lt tn 33 (by omega)
        generalize kp tn 33 = T at htl HC ⊢
        have ht0 : (0 : Int) ≤ (T : Int) := by omega
        have ht1 : (T : Int) ≤ (yb.size : Int) := by have := HIZ.out; omega
        have ht2 : (T : Int) ≤ (ob.size : Int) := by have := HOZ.out; omega
        have hadd : ¬ (9223372036854775807 < min T yb.size + (ob.size - T)) := by have := HIZ.out; have := HOZ.out; omega
        go_region
        clear hcp hb0 hb1 hgs hfs hy0 hy1 ht0 ht1 ht2 hadd
        rw [show ob.extract T ob.size = ob.extract T 32 by rw [HOZ.out]]
        have hne : p ≠ gs := blk_ne N1.out N2.out (by decide)
        have M1 := Aside0.mk (show ((w3.setCell ⟨gs, yn, none⟩ (.string (yb.extract 0 T ++ ob.extract T 32))).drew).heap[p]? = _ from blk_far N1.out (show p ≠ gs from hne) _)
        have M5 := Aside0.mk (show ((w3.setCell ⟨gs, yn, none⟩ (.string (yb.extract 0 T ++ ob.extract T 32))).drew).heap[gb]? = _ from blk_far N5.out (show gb ≠ gs from blk_ne N5.out N2.out (by decide)) _)
        have M2 := Aside0.mk (show ((w3.setCell ⟨gs, yn, none⟩ (.string (yb.extract 0 T ++ ob.extract T 32))).drew).heap[gs]? = some (.cells ((sj.set yn (yb.extract 0 T ++ ob.extract T 32)).map Value.string).toArray 9 (0, 0)) from blk_put N2.out yn _ (set_map sj yn _))
        have M4 := Aside0.mk (show Kept F w ((w3.setCell ⟨gs, yn, none⟩ (.string (yb.extract 0 T ++ ob.extract T 32))).drew) from by have k := N4.out.set (g := gs) (o := yn) (.string (yb.extract 0 T ++ ob.extract T 32)) (.inl GF.out.2.1); exact ⟨k.os, k.tape, k.output, k.size, k.block⟩)
        generalize ((w3.setCell ⟨gs, yn, none⟩ (.string (yb.extract 0 T ++ ob.extract T 32))).drew) = w5 at M1 M2 M4 M5 ⊢
        clear N0 N1 N2 N4 N5 hold
        have FE := Aside0.mk (fall_end M1.out M2.out (by rw [List.length_set]; exact HL.out.symm) GF.out M4.out)
        have hd1 : w5.cell? ⟨p, 1, none⟩ = some (.slice (some ⟨g, 0, none⟩) S.loose.length c) := (blk_cell M1.out 1).trans rfl
        have he1 : w5.frozen? ⟨p, 1, none⟩ = false := blk_frozen M1.out 1
        have hd4 : (w5.setCell ⟨p, 1, none⟩ (.slice none 0 0)).cell? ⟨p, 4, none⟩ = some (.bool S.down) := (blk_cell (blk_set M1.out 1 _) 4).trans rfl
        have he4 : (w5.setCell ⟨p, 1, none⟩ (.slice none 0 0)).frozen? ⟨p, 4, none⟩ = false := blk_frozen (blk_set M1.out 1 _) 4
        have hg1 : ((w5.setCell ⟨p, 1, none⟩ (.slice none 0 0)).setCell ⟨p, 4, none⟩ (.bool false)).cell? ⟨gb, 1, none⟩ = some (.int .i64 cr) := (blk_cell (blk_far (p := ⟨p, 4, none⟩) (blk_far (p := ⟨p, 1, none⟩) M5.out (blk_ne M5.out M1.out (by decide)) _) (blk_ne M5.out M1.out (by decide)) _) 1).trans rfl
        clear M1 M2 M4 M5 GF
        go_upto_region 13 with fail
        clear hd1 he1 hd4 he4
        generalize (w5.setCell ⟨p, 1, none⟩ (.slice none 0 0)).setCell ⟨p, 4, none⟩ (.bool false) = w6 at FE hg1 ⊢
        go_wp2_with fail
        refine Calls.mono (tear_calls FE.out.1 cr) ?_
        rintro e w7 ⟨rfl, t1, t2⟩
        have T1 := Aside0.mk t1
        have T2 := Aside0.mk t2
        clear t1 t2 hg1
        go_wp2
        go_end0
        exact ⟨rfl, F, by rw [HKE.out, HC.out]; exact T1.out, FE.out.2.trans T2.out (fun i hi => .inl (hi ▸ FE.out.1.own)), fun k hk => .inl hk⟩
      · have hjl : j = S.loose.length := by omega
        subst hjl
        have HC := Aside0.mk (fallAt_none S cr tn)
        rw [List.take_length] at G2
        have FE := Aside0.mk (fall_end G1.out G2.out (doAll_len _ _).symm GF.out K3.out)
        have hd1 : wr.cell? ⟨p, 1, none⟩ = some (.slice A S.loose.length c) := hc1
        have he1 : wr.frozen? ⟨p, 1, none⟩ = false := blk_frozen G1.out 1
        have hd4 : (wr.setCell ⟨p, 1, none⟩ (.slice none 0 0)).cell? ⟨p, 4, none⟩ = some (.bool S.down) := (blk_cell (blk_set G1.out 1 _) 4).trans rfl
        have he4 : (wr.setCell ⟨p, 1, none⟩ (.slice none 0 0)).frozen? ⟨p, 4, none⟩ = false := blk_frozen (blk_set G1.out 1 _) 4
        have hg1 : ((wr.setCell ⟨p, 1, none⟩ (.slice none 0 0)).setCell ⟨p, 4, none⟩ (.bool false)).cell? ⟨gb, 1, none⟩ = some (.int .i64 cr) := (blk_cell (blk_far (p := ⟨p, 4, none⟩) (blk_far (p := ⟨p, 1, none⟩) BK.out (blk_ne BK.out G1.out (by decide)) _) (blk_ne BK.out G1.out (by decide)) _) 1).trans rfl
        clear G1 G2 G3 BK K3 GF
        go_upto_region 13 with fail
        clear hd1 he1 hd4 he4 hc1
        generalize (wr.setCell ⟨p, 1, none⟩ (.slice none 0 0)).setCell ⟨p, 4, none⟩ (.bool false) = w6 at FE hg1 ⊢
        go_wp2_with fail
        refine Calls.mono (tear_calls FE.out.1 cr) ?_
        rintro e w7 ⟨rfl, t1, t2⟩
        have T1 := Aside0.mk t1
        have T2 := Aside0.mk t2
        clear t1 t2 hg1
        go_wp2
        go_end0
        exact ⟨rfl, F, by rw [HKE.out, HC.out]; exact T1.out, FE.out.2.trans T2.out (fun i hi => .inl (hi ▸ FE.out.1.own)), fun k hk => .inl hk⟩
end Go.Proofs.Ytmgkflkpompchaa.Strip
