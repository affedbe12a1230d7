/- The reference's strip (brookref16): Fall. No condition but bounds on what was counted. -/
import Derived.Test.YtmgkflkpompchaaStripRef5
import Derived.Deep.QuietTactic
import Derived.BigQuiet
namespace Go.Proofs.Ytmgkflkpompchaa.Strip
open Go.RowKit Go.Proofs.YtmgkflkpompchaaW.PrintWords Go.Proofs.YtmgkflkpompchaaW.PrintLast Go.Proofs.YtmgkflkpompchaaW.PrintMore
set_option linter.unusedVariables false
set_option linter.unusedSimpArgs false

/-- The end of Fall: no change is loose; it is up again. -/
theorem rfall_end {B : Nat} {w w3 : World} {p : Nat} {vs v : Value} {l1 : Int} {d cr : _} {F : Nat → Prop} {x : List ByteArray}
    (h1 : w3.heap[p]? = some (.cells #[vs, v, .int .i64 l1, .bool d] 77 (0, 0))) (h2 : w3.ownsRow B 9 1 vs x.length (encs Value.string x))
    (hF : F p ∧ (∀ k, vs.ownBlock = some k → F k) ∧ (∀ k, v.ownBlock = some k → F k) ∧ (∀ k, F k → B ≤ k)) (hk : Kept F w w3) :
    IsRf B (((w3.setCell ⟨p, 1, none⟩ (.slice none 0 0)).setCell ⟨p, 2, none⟩ (.int .i64 (max 0 cr))).setCell ⟨p, 3, none⟩ (.bool false)) p { safe := x, loose := [], crash := cr, count := 0, down := false } F ∧
    Next F F w (((w3.setCell ⟨p, 1, none⟩ (.slice none 0 0)).setCell ⟨p, 2, none⟩ (.int .i64 (max 0 cr))).setCell ⟨p, 3, none⟩ (.bool false)) := by
  have hl : left { safe := x, loose := [], crash := cr, count := 0, down := false } = max 0 cr := by show max 0 (cr - 0) = _; rw [Int.sub_zero]
  have b1 := blk_set h1 1 (.slice none 0 0)
  have b2 := blk_set b1 2 (.int .i64 (max 0 cr))
  have b3 := blk_set b2 3 (.bool false)
  have o1 := own_setCell (p := ⟨p, 1, none⟩) h2 (own_ne h2 h1 (by decide)) (.slice none 0 0)
  have o2 := own_setCell (p := ⟨p, 2, none⟩) o1 (own_ne o1 b1 (by decide)) (.int .i64 (max 0 cr))
  have o3 := own_setCell (p := ⟨p, 3, none⟩) o2 (own_ne o2 b2 (by decide)) (.bool false)
  exact ⟨⟨vs, .slice none 0 0, by rw [hl]; exact b3, o3, own_nil _ _ _ _, hF.1, hF.2.1, fun k hk => by simp [Value.ownBlock] at hk, hF.2.2.2⟩, ((hk.set _ (.inl hF.1)).set _ (.inl hF.1)).set _ (.inl hF.1), fun k hk => .inl hk⟩

set_option maxHeartbeats 1600000 in
set_option maxRecDepth 100000 in
theorem rfall_calls {B : Nat} {w : World} {p : Nat} {S : St} {F : Nat → Prop} (h : IsRf B w p S F) (hg : ∀ c ∈ S.loose, c.1 < S.safe.length) (hz : ∀ c ∈ S.loose, c.2.size = 32) (hy : ∀ b ∈ S.safe, b.size = 32) (hn : S.loose.length ≤ 1099511627776) (bl cr ke tn : Int) :
    Calls Try.prog 54 #[.pointer (some ⟨p, 0, none⟩), .agg #[.int .i64 bl, .int .i64 cr, .int .i64 ke, .int .i64 tn]] w fun e w' => e = .returned (.tuple #[]) ∧ ∃ F', IsRf B w' p (fallS S bl cr ke tn) F' ∧ Next F F' w w' := by
  have H := Aside0.mk h
  have HG := Aside0.mk hg
  have HZ := Aside0.mk hz
  have HY := Aside0.mk hy
  have HN := Aside0.mk hn
  clear h hg hz hy hn
  go_enter Try.func54, Try.ntmps54
  go_upto_region 0 with fail
  go_upto_region 1 with ((with_reducible refine gate_dst (N := 3) rfl ?_); refine box_event ?hg (N := 3) ?hd (cs := #[.int .i64 bl, .int .i64 cr, .int .i64 ke, .int .i64 tn]) (t := 42) ?hr ?_; (case hd => rfl); (case hg => rfl); (case hr => first | (go_simp; done) | (go_simp; rfl)); intro gb hg w4 hbox hb; have HB := Aside0.mk hb; have BK := Aside0.mk hbox; have GE := Aside0.mk (show w.heap.size ≤ gb by omega); clear hb hbox hg)
  have H1 := Aside0.mk (H.out.below HB.out)
  obtain ⟨us, ul, g1, g2, g3, g4, g5, g6, g7⟩ := H1.out
  obtain ⟨A, c, rfl⟩ := own_slice g3
  obtain ⟨A1, c1, rfl⟩ := own_slice g2
  have hx1 : w4.cell? ⟨p, 1, none⟩ = some (.slice A S.loose.length c) := (blk_cell g1 1).trans rfl
  have hk2 : w4.cell? ⟨gb, 2, none⟩ = some (.int .i64 ke) := (blk_cell BK.out 2).trans rfl
  have G1 := Aside0.mk g1
  have G2 : Aside0 (w4.ownsRow B 9 1 (.slice A1 S.safe.length c1) S.safe.length (encs Value.string (doAll S.safe (S.loose.take 0)))) := ⟨g2⟩
  have G3 := Aside0.mk g3
  have GF := Aside0.mk (And.intro g4 (And.intro g5 (And.intro g6 g7)))
  have GB := Aside0.mk (show p ≠ gb from blk_ne g1 BK.out (by decide))
  have K3 : Aside0 (Kept F w w4) := ⟨Kept.of_below HB.out⟩
  clear g1 g2 g3 g4 g5 g6 g7
  have hn := HN.out
  have hcap1 := own_le G3.out
  have HKE := Aside0.mk (show fallS S bl cr ke tn = fallAt S cr (kp ke (S.loose.length + 1)) tn from rfl)
  have HKP := Aside0.mk (show (max 0 ke).tmod ((S.loose.length : Int) + 1) = ((kp ke (S.loose.length + 1) : Nat) : Int) from kp_int ke (S.loose.length + 1))
  have hw : IntKind.i64.wrap ((S.loose.length : Int) + 1) = (S.loose.length : Int) + 1 := by rw [i64_w]; unfold wrap64; omega
  have hw0 : ¬ ((S.loose.length : Int) + 1 = 0) := by omega
  go_quiet (fail)
  rw [HKP.out]
  clear hw hw0 HKP
  have hlt := kp_lt ke (S.loose.length + 1) (by omega)
  generalize kp ke (S.loose.length + 1) = K at hlt HKE ⊢
  have G1d : Aside0 ((w4.drewN nq).heap[p]? = _) := ⟨G1.out⟩
  have G2d : Aside0 ((w4.drewN nq).ownsRow B 9 1 (.slice A1 S.safe.length c1) S.safe.length (encs Value.string (doAll S.safe (S.loose.take 0)))) := ⟨G2.out⟩
  have G3d : Aside0 ((w4.drewN nq).ownsRow B 120 2 (.slice A S.loose.length c) S.loose.length (chCells S.loose)) := ⟨G3.out⟩
  have BKd : Aside0 ((w4.drewN nq).heap[gb]? = _) := ⟨BK.out⟩
  have K3d : Aside0 (Kept F w (w4.drewN nq)) := ⟨⟨K3.out.os, K3.out.tape, K3.out.output, K3.out.size, K3.out.block⟩⟩
  clear G1 G2 G3 BK K3 hx1 hk2 HB H1
  generalize w4.drewN nq = w5 at G1d G2d G3d BKd K3d ⊢
  go_upto_region 3 with fail
  go_loopw [5] (fun v5 w' => ∃ j : Nat, j ≤ K ∧ v5 = .int .i64 j ∧
        Aside0 (w'.heap[p]? = some (.cells #[.slice A1 S.safe.length c1, .slice A S.loose.length c, .int .i64 (left S), .bool S.down] 77 (0, 0))) ∧
        Aside0 (w'.ownsRow B 9 1 (.slice A1 S.safe.length c1) S.safe.length (encs Value.string (doAll S.safe (S.loose.take j)))) ∧
        Aside0 (w'.ownsRow B 120 2 (.slice A S.loose.length c) S.loose.length (chCells S.loose)) ∧ Aside0 (Kept F w w') ∧
        Aside0 (w'.heap[gb]? = some (.cells #[.int .i64 bl, .int .i64 cr, .int .i64 ke, .int .i64 tn] 42 (0, 0)))) (fun v5 _ => K - (intOf v5).toNat)
  case atStart => exact ⟨0, Nat.zero_le _, rfl, G1d, G2d, G3d, K3d, BKd⟩
  case round =>
    clear G1d G2d G3d K3d BKd
    obtain ⟨j, hj, rfl, G1, G2, G3, K3, BK⟩ := hrel
    have hx1 : wr.cell? ⟨p, 1, none⟩ = some (.slice A S.loose.length c) := (blk_cell G1.out 1).trans rfl
    by_cases hjk : j < K
    · have hlt2 : j < S.loose.length := by omega
      obtain ⟨g, rfl, hg, hy0, hy1⟩ := own_chgE G3.out j hlt2
      have HD2 := Aside0.mk (doAll_take S.safe S.loose j hlt2)
      have HI := Aside0.mk (HG.out _ (List.getElem_mem hlt2))
      generalize S.loose[j] = y at hy0 hy1 HD2 HI
      obtain ⟨yn, yb⟩ := y
      dsimp only at hy0 hy1 HD2 HI
      have HL := Aside0.mk (doAll_len (S.loose.take j) S.safe)
      generalize doAll S.safe (S.loose.take j) = sj at HD2 HL G2
      have hin := HI.out
      obtain ⟨gs, cap, hv, hcap, hmx⟩ := own_open G2.out (by omega)
      injection hv with hv1 hv2 hv3
      subst hv1 hv3
      clear hv2 hg
      obtain ⟨hz0, hz1⟩ := own_get_str G2.out yn hin
      have hx0 : wr.cell? ⟨p, 0, none⟩ = some (.slice (some ⟨gs, 0, none⟩) S.safe.length c1) := (blk_cell G1.out 0).trans rfl
      have hj0 : (0 : Int) ≤ (j : Int) := by omega
      have hj1 : (j : Int) < (S.loose.length : Int) := by omega
      have hn0 : (0 : Int) ≤ (yn : Int) := by omega
      have hn1 : (yn : Int) < (S.safe.length : Int) := by omega
      generalize sj.getD yn ⟨#[]⟩ = old at hz0
      obtain ⟨cur, hcur⟩ := own_blk G2.out
      have HNN := Aside0.mk hcur
      clear hcur hin
      go_upto_region 5 with fail
      go_region
      clear hx0 hx1 hy0 hy1 hz0 hz1 hj0 hj1 hn0 hn1
      have M1 := Aside0.mk (show ((wr.setCell ⟨gs, yn, none⟩ (.string yb)).drew).heap[p]? = _ from blk_far G1.out (show p ≠ gs from blk_ne G1.out HNN.out (by decide)) _)
      have M5 := Aside0.mk (show ((wr.setCell ⟨gs, yn, none⟩ (.string yb)).drew).heap[gb]? = _ from blk_far BK.out (show gb ≠ gs from blk_ne BK.out HNN.out (by decide)) _)
      have M2 := Aside0.mk (show ((wr.setCell ⟨gs, yn, none⟩ (.string yb)).drew).ownsRow B 9 1 (.slice (some ⟨gs, 0, none⟩) S.safe.length c1) S.safe.length (encs Value.string (doAll S.safe (S.loose.take (j + 1)))) from by rw [HD2.out]; exact own_set_str G2.out yn yb)
      have M3 := Aside0.mk (show ((wr.setCell ⟨gs, yn, none⟩ (.string yb)).drew).ownsRow B 120 2 (.slice (some ⟨g, 0, none⟩) S.loose.length c) S.loose.length (chCells S.loose) from own_setCell (p := ⟨gs, yn, none⟩) G3.out (own_ne G3.out HNN.out (by decide)) _)
      have M4 := Aside0.mk (show Kept F w ((wr.setCell ⟨gs, yn, none⟩ (.string yb)).drew) from by have k := K3.out.set (g := gs) (o := yn) (.string yb) (.inl (GF.out.2.1 gs rfl)); exact ⟨k.os, k.tape, k.output, k.size, k.block⟩)
      clear G1 G2 G3 K3 BK HI HD2 HL HNN
      go_wp2
      go_roundw
      case measure => simp [intOf]; omega
      case rel => exact ⟨j + 1, by omega, by go_num, M1, M2, M3, M4, M5⟩
    · obtain rfl : j = K := by omega
      clear hj hjk
      by_cases hkl : j < S.loose.length
      · obtain ⟨g, rfl, hg, hy0, hy1⟩ := own_chgE G3.out j hkl
        have hin := List.getElem_mem hkl
        have HI := Aside0.mk (HG.out _ hin)
        have HIZ := Aside0.mk (HZ.out _ hin)
        have HC := Aside0.mk (fallAt_some S cr tn j hkl)
        generalize S.loose[j] = y at hy0 hy1 HI HIZ HC
        obtain ⟨yn, yb⟩ := y
        dsimp only at hy0 hy1 HI HIZ HC
        have HL := Aside0.mk (doAll_len (S.loose.take j) S.safe)
        have HO := Aside0.mk (doAll_size 32 (S.loose.take j) S.safe HY.out (fun c hc => HZ.out c (List.mem_of_mem_take hc)))
        generalize doAll S.safe (S.loose.take j) = sj at HC HL G2 HO
        have hj0 : (0 : Int) ≤ (j : Int) := by omega
        have hj1 : (j : Int) < (S.loose.length : Int) := by omega
        clear hg hin
        go_upto_region 8 with fail
        have hin := HI.out
        have hln : yn < sj.length := by have := HL.out; omega
        have hold : sj.getD yn ⟨#[]⟩ = sj[yn] := by simp [List.getD_eq_getElem?_getD, List.getElem?_eq_getElem hln]
        have HOZ := Aside0.mk (HO.out _ (List.getElem_mem hln))
        rw [← hold] at HOZ
        clear hold
        obtain ⟨gs, cap, hv, hcap, hmx⟩ := own_open G2.out (by omega)
        injection hv with hv1 hv2 hv3
        subst hv1 hv3
        clear hv2
        generalize hW : wr.alloc (.cells #[.int .i64 (yn : Int), .string yb] 120) = w3
        have N0 := Aside0.mk (hW ▸ heap_alloc_new wr (.cells #[.int .i64 (yn : Int), .string yb] 120))
        have N1 := Aside0.mk (hW ▸ blk_alloc G1.out (.cells #[.int .i64 (yn : Int), .string yb] 120))
        have N2 := Aside0.mk (hW ▸ own_alloc G2.out (.cells #[.int .i64 (yn : Int), .string yb] 120))
        have N5 := Aside0.mk (hW ▸ blk_alloc BK.out (.cells #[.int .i64 (yn : Int), .string yb] 120))
        have N4 := Aside0.mk (show Kept F w w3 from hW ▸ K3.out.trans (Kept.of_below (F := F) (below_alloc (Below.refl _ _) _)) (fun i h => .inl h))
        generalize wr.heap.size = nb at N0 ⊢
        clear hW G1 G2 G3 K3 BK hx1 hy0 hy1
        obtain ⟨hz0, hz1⟩ := own_get_str N2.out yn hin
        generalize sj.getD yn ⟨#[]⟩ = ob at hz0 HOZ HC
        obtain ⟨cur, hcur⟩ := own_blk N2.out
        have HNN := Aside0.mk hcur
        clear hcur
        have hk3 : w3.cell? ⟨gb, 3, none⟩ = some (.int .i64 tn) := (blk_cell N5.out 3).trans rfl
        have hcp : w3.cell? ⟨p, 0, none⟩ = some (.slice (some ⟨gs, 0, none⟩) S.safe.length c1) := (blk_cell N1.out 0).trans rfl
        have hb0 : w3.cell? ⟨nb, 0, none⟩ = some (.int .i64 (yn : Int)) := (blk_cell N0.out 0).trans rfl
        have hb1 : w3.cell? ⟨nb, 1, none⟩ = some (.string yb) := (blk_cell N0.out 1).trans rfl
        have hn0 : (0 : Int) ≤ (yn : Int) := by omega
        have hn1 : (yn : Int) < (S.safe.length : Int) := by omega
        clear hin hln
        go_upto_region 9 with fail
        have hkp : max 0 tn % (33 : Int) = ((kp tn 33 : Nat) : Int) := by
          rw [← kp_int, Int.tmod_eq_emod_of_nonneg (by omega)]; rfl
        rw [hkp]
        clear hkp hk3
        have htl := kp_lt tn 33 (by omega)
        generalize kp tn 33 = T at htl HC ⊢
        have ht0 : (0 : Int) ≤ (T : Int) := by omega
        have ht1 : (T : Int) ≤ (yb.size : Int) := by have := HIZ.out; omega
        have ht2 : (T : Int) ≤ (ob.size : Int) := by have := HOZ.out; omega
        have hadd : ¬ (9223372036854775807 < min T yb.size + (ob.size - T)) := by have := HIZ.out; have := HOZ.out; omega
        go_region
        clear hcp hb0 hb1 hz0 hz1 hn0 hn1 ht0 ht1 ht2 hadd hj0 hj1
        rw [show ob.extract T ob.size = ob.extract T 32 by rw [HOZ.out]]
        have M1 := Aside0.mk (show ((w3.setCell ⟨gs, yn, none⟩ (.string (yb.extract 0 T ++ ob.extract T 32))).drew).heap[p]? = _ from blk_far N1.out (show p ≠ gs from blk_ne N1.out HNN.out (by decide)) _)
        have M5 := Aside0.mk (show ((w3.setCell ⟨gs, yn, none⟩ (.string (yb.extract 0 T ++ ob.extract T 32))).drew).heap[gb]? = _ from blk_far N5.out (show gb ≠ gs from blk_ne N5.out HNN.out (by decide)) _)
        have M2 : Aside0 (((w3.setCell ⟨gs, yn, none⟩ (.string (yb.extract 0 T ++ ob.extract T 32))).drew).ownsRow B 9 1 (.slice (some ⟨gs, 0, none⟩) S.safe.length c1) (sj.set yn (yb.extract 0 T ++ ob.extract T 32)).length (encs Value.string (sj.set yn (yb.extract 0 T ++ ob.extract T 32)))) := ⟨by rw [List.length_set, HL.out]; exact own_set_str N2.out yn _⟩
        have M4 := Aside0.mk (show Kept F w ((w3.setCell ⟨gs, yn, none⟩ (.string (yb.extract 0 T ++ ob.extract T 32))).drew) from by have k := N4.out.set (g := gs) (o := yn) (.string (yb.extract 0 T ++ ob.extract T 32)) (.inl (GF.out.2.1 gs rfl)); exact ⟨k.os, k.tape, k.output, k.size, k.block⟩)
        generalize ((w3.setCell ⟨gs, yn, none⟩ (.string (yb.extract 0 T ++ ob.extract T 32))).drew) = w5 at M1 M2 M4 M5 ⊢
        clear N0 N1 N2 N4 N5
        have FE := Aside0.mk (rfall_end (cr := cr) M1.out M2.out GF.out M4.out)
        have e1 := blk_set M1.out 1 (.slice none 0 0)
        have e2 := blk_set e1 2 (.int .i64 (max 0 cr))
        have hd1 : w5.cell? ⟨p, 1, none⟩ = some (.slice (some ⟨g, 0, none⟩) S.loose.length c) := (blk_cell M1.out 1).trans rfl
        have he1 : w5.frozen? ⟨p, 1, none⟩ = false := blk_frozen M1.out 1
        have hd2 : (w5.setCell ⟨p, 1, none⟩ (.slice none 0 0)).cell? ⟨p, 2, none⟩ = some (.int .i64 (left S)) := (blk_cell e1 2).trans rfl
        have he2 : (w5.setCell ⟨p, 1, none⟩ (.slice none 0 0)).frozen? ⟨p, 2, none⟩ = false := blk_frozen e1 2
        have hd3 : ((w5.setCell ⟨p, 1, none⟩ (.slice none 0 0)).setCell ⟨p, 2, none⟩ (.int .i64 (max 0 cr))).cell? ⟨p, 3, none⟩ = some (.bool S.down) := (blk_cell e2 3).trans rfl
        have he3 : ((w5.setCell ⟨p, 1, none⟩ (.slice none 0 0)).setCell ⟨p, 2, none⟩ (.int .i64 (max 0 cr))).frozen? ⟨p, 3, none⟩ = false := blk_frozen e2 3
        have hg1 : (w5.setCell ⟨p, 1, none⟩ (.slice none 0 0)).cell? ⟨gb, 1, none⟩ = some (.int .i64 cr) := (blk_cell (blk_far (p := ⟨p, 1, none⟩) M5.out (Ne.symm GB.out) _) 1).trans rfl
        clear M1 M2 M4 M5 GF e1 e2
        go_wp2
        go_end0
        exact ⟨rfl, F, by rw [HKE.out, HC.out]; exact FE.out.1, FE.out.2⟩
      · have hjl : j = S.loose.length := by omega
        subst hjl
        have HC := Aside0.mk (fallAt_none S cr tn)
        rw [List.take_length] at G2
        have G2' : Aside0 (wr.ownsRow B 9 1 (.slice A1 S.safe.length c1) (doAll S.safe S.loose).length (encs Value.string (doAll S.safe S.loose))) := ⟨by rw [doAll_len]; exact G2.out⟩
        have FE := Aside0.mk (rfall_end (cr := cr) G1.out G2'.out GF.out K3.out)
        have e1 := blk_set G1.out 1 (.slice none 0 0)
        have e2 := blk_set e1 2 (.int .i64 (max 0 cr))
        have he1 : wr.frozen? ⟨p, 1, none⟩ = false := blk_frozen G1.out 1
        have hd2 : (wr.setCell ⟨p, 1, none⟩ (.slice none 0 0)).cell? ⟨p, 2, none⟩ = some (.int .i64 (left S)) := (blk_cell e1 2).trans rfl
        have he2 : (wr.setCell ⟨p, 1, none⟩ (.slice none 0 0)).frozen? ⟨p, 2, none⟩ = false := blk_frozen e1 2
        have hd3 : ((wr.setCell ⟨p, 1, none⟩ (.slice none 0 0)).setCell ⟨p, 2, none⟩ (.int .i64 (max 0 cr))).cell? ⟨p, 3, none⟩ = some (.bool S.down) := (blk_cell e2 3).trans rfl
        have he3 : ((wr.setCell ⟨p, 1, none⟩ (.slice none 0 0)).setCell ⟨p, 2, none⟩ (.int .i64 (max 0 cr))).frozen? ⟨p, 3, none⟩ = false := blk_frozen e2 3
        have hg1 : (wr.setCell ⟨p, 1, none⟩ (.slice none 0 0)).cell? ⟨gb, 1, none⟩ = some (.int .i64 cr) := (blk_cell (blk_far (p := ⟨p, 1, none⟩) BK.out (Ne.symm GB.out) _) 1).trans rfl
        clear G1 G2 G3 BK K3 GF G2' e1 e2
        go_wp2
        go_end0
        exact ⟨rfl, F, by rw [HKE.out, HC.out]; exact FE.out.1, FE.out.2⟩
end Go.Proofs.Ytmgkflkpompchaa.Strip
