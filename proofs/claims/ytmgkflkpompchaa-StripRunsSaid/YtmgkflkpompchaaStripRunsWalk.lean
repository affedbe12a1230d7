/- brooklaw16.StripRuns, walked: at every input it answers true. No condition. -/
import Derived.Deep.DeepCutAuto
import Derived.Deep.CutBlock
import Derived.Test.YtmgkflkpompchaaStripRunsPure
import Derived.Test.YtmgkflkpompchaaArgsAct
import Derived.Test.YtmgkflkpompchaaStripAwake
import Derived.Deep.QuietTactic
import Derived.BigQuiet
namespace Go.Proofs.Ytmgkflkpompchaa.StripRuns
open Go.RowKit Go.Proofs.YtmgkflkpompchaaW.PrintWords Go.Proofs.YtmgkflkpompchaaW.PrintLast Go.Proofs.YtmgkflkpompchaaW.PrintMore Go.Proofs.Ytmgkflkpompchaa.Strip Go.Proofs.Ytmgkflkpompchaa.Args
set_option linter.unusedVariables false
set_option linter.unusedSimpArgs false

set_option maxHeartbeats 3200000 in
set_option maxRecDepth 100000 in
theorem run {A : Option Addr} {c : Nat} (l : List ActV) (hc : l.length ≤ c) (bl cr ke tn : Int) (hcr : cr ≤ 9223372036854775807) (w : World) (hr : ARow IsAct 7 w A l) : Calls Try.prog 11 #[.agg #[.int .i64 bl, .int .i64 cr, .int .i64 ke, .int .i64 tn], .slice A l.length c] w fun e w' => e = .returned (.bool true) ∧ Below w.heap.size w w' := by
  have HR := Aside0.mk hr
  have HCR := Aside0.mk hcr
  clear hr hcr
  by_cases hl : l.length ≤ 60
  · by_cases hbl : bl ≤ 40
    · have p1 : (l.length : Int) ≤ 60 := by omega
      go_enter Try.func11, Try.ntmps11
      go_upto_region 0 with fail
      go_upto_region 1 with ((with_reducible refine gate_dst (N := 2) rfl ?_); refine box_event ?hg (N := 2) ?hd (cs := #[.int .i64 bl, .int .i64 cr, .int .i64 ke, .int .i64 tn]) (t := 42) ?hr ?_; (case hd => rfl); (case hg => rfl); (case hr => first | (go_simp; done) | (go_simp; rfl)); intro gb hg w4 hbox hb; have HB := Aside0.mk hb; have BK := Aside0.mk hbox; have GE := Aside0.mk (show w.heap.size ≤ gb by omega); clear hb hbox hg)
      have hc0 : w4.cell? ⟨gb, 0, none⟩ = some (.int .i64 bl) := (blk_cell BK.out 0).trans rfl
      have hc1 : w4.cell? ⟨gb, 1, none⟩ = some (.int .i64 cr) := (blk_cell BK.out 1).trans rfl
      have hc2 : w4.cell? ⟨gb, 2, none⟩ = some (.int .i64 ke) := (blk_cell BK.out 2).trans rfl
      have hc3 : w4.cell? ⟨gb, 3, none⟩ = some (.int .i64 tn) := (blk_cell BK.out 3).trans rfl
      go_upto_region 3 with fail
      go_region_held3 (fun w' => w'.cell? ⟨gb, 0, none⟩ = some (.int .i64 bl) ∧ w'.cell? ⟨gb, 1, none⟩ = some (.int .i64 cr) ∧ w'.cell? ⟨gb, 2, none⟩ = some (.int .i64 ke) ∧ w'.cell? ⟨gb, 3, none⟩ = some (.int .i64 tn)) (first | exact ⟨hc0, hc1, hc2, hc3⟩ | exact ⟨pw_cell_below (by assumption) hc0, pw_cell_below (by assumption) hc1, pw_cell_below (by assumption) hc2, pw_cell_below (by assumption) hc3⟩) (first | (go_at_call 31; refine Calls.mono (new_calls _ _ _ _ _) ?_; rintro e w5 ⟨p, F, rfl, hs, hb⟩; have hb4 : Below w4.heap.size w4 w5 := ⟨hb.os, hb.tape, hb.output, hb.size, hb.block⟩; have HS1 := Aside0.mk hs; clear hs hb) | (go_at_call 49; refine Calls.mono (rnew_calls _ _ _ _ _) ?_; rintro e w6 ⟨q, G, rfl, hs, hb⟩; have HS2 := Aside0.mk hs; have HB2 := Aside0.mk hb; have hb6 : Below w4.heap.size w4 w6 := hb4.trans (hb.mono hb4.size); clear hs hb))
      have hb46 := hb6
      obtain ⟨F', G', hpr, hbw⟩ := pair_start HB.out (show IsStrip w4.heap.size w5 p (newS bl cr) F from HS1.out) hb4 HS2.out HB2.out
      have P := Aside0.mk hpr
      clear HB
      have HB := Aside0.mk hbw
      have RI := Aside0.mk (run_new bl cr HCR.out)
      clear hpr hbw hb4 hb6 hb46 HS1 HS2 HB2 hc0 hc1 hc2 hc3 BK GE
      generalize newS bl cr = S0 at P RI
      go_upto_region 7 with fail
      go_loopw [7] (fun v7 w' => ∃ (j : Nat) (S : St) (F G : Nat → Prop), j ≤ l.length ∧ v7 = .int .i64 j ∧ Aside0 (Pair w.heap.size w' p q S S F G) ∧ Aside0 (RunInv S j) ∧ Aside0 (Below w.heap.size w w')) (fun v7 _ => l.length - (intOf v7).toNat)
      case atStart => exact ⟨0, S0, _, _, Nat.zero_le _, rfl, P, RI, HB⟩
      case round =>
        clear P RI HB
        obtain ⟨j, S, F, G, hj, rfl, P, RI, HB⟩ := hrel
        by_cases hlt : j < l.length
        · obtain ⟨a, rfl, hx0, hx1, hx2, hx3, hx4, hx5, hx6, xi, xc⟩ := HR.out.act_at j hlt
          have HX := Aside0.mk (And.intro hx0 (And.intro hx1 (And.intro hx2 (And.intro hx3 (And.intro hx4 (And.intro hx5 hx6))))))
          replace hx0 := pw_cell_below HB.out hx0
          replace hx1 := pw_cell_below HB.out hx1
          replace hx2 := pw_cell_below HB.out hx2
          replace hx3 := pw_cell_below HB.out hx3
          replace hx4 := pw_cell_below HB.out hx4
          replace hx5 := pw_cell_below HB.out hx5
          replace hx6 := pw_cell_below HB.out hx6
          have y0 : (0 : Int) ≤ (j : Int) := by omega
          have y1 : (j : Int) < (l.length : Int) := by omega
          generalize l[j] = x at HX hx0 hx1 hx2 hx3 hx4 hx5 hx6 xi xc
          obtain ⟨xd, xn, xb, xbl, xcr, xke, xtn⟩ := x
          dsimp only at HX hx0 hx1 hx2 hx3 hx4 hx5 hx6 xi xc
          by_cases hb60 : xb.size ≤ 60
          · have hb6i : (xb.size : Int) ≤ 60 := by omega
            go_upto_block 2 with fail
            clear hx0 hx1 hx2 hx3 hx4 hx5 hx6
            go_cut [] from 47 to 116 (fun wx => ∃ (S' : St) (F' G' : Nat → Prop), Aside0 (Pair w.heap.size wx p q S' S' F' G') ∧ Aside0 (RunInv S' (j + 1)) ∧ Aside0 (Below w.heap.size w wx))
            case first =>
              have PD := Aside0.mk (P.out.below (below_drew (Below.refl _ _)))
              have HBD := Aside0.mk (below_drew HB.out)
              by_cases d0 : xd = 0
              · subst d0
                go_upto_region 15 with fail
                go_region_held3 (fun w' => w'.cell? ⟨(a.add (j * 7)).block, (a.add (j * 7)).off + 1, none⟩ = some (.int .i64 xn) ∧ w'.cell? ⟨(a.add (j * 7)).block, (a.add (j * 7)).off + 2, none⟩ = some (.string xb)) (first | exact ⟨pw_cell_below HBD.out HX.out.2.1, pw_cell_below HBD.out HX.out.2.2.1⟩ | exact ⟨pw_cell_below HB1.out HX.out.2.1, pw_cell_below HB1.out HX.out.2.2.1⟩ | exact ⟨pw_cell_below HB3.out HX.out.2.1, pw_cell_below HB3.out HX.out.2.2.1⟩) (first | (go_at_call 33; refine Calls.mono (num_calls _ _) ?_; rintro e w9 ⟨rfl, rfl⟩) | (go_at_call 43; refine Calls.mono (write_calls PD.out.a _ _ (RI.out.lng (by omega))) ?_; rintro e w8 ⟨rfl, F1, hs, hn⟩; have P1 := Aside0.mk (PD.out.nextA hs hn); have HB1 := Aside0.mk (PD.out.thruA HBD.out hn); clear hs hn) | (go_at_call 50; obtain ⟨F2, P2⟩ := P1.out; refine Calls.mono (rwrite_calls P2.b (RI.out.bnd (by omega)) (RI.out.lng (by omega)) _ _) ?_; rintro e w7 ⟨rfl, G1, hs, hn⟩; have P3 := Aside0.mk (P2.nextB hs hn); have HB3 := Aside0.mk (P2.thruB HB1.out hn); clear hs hn))
                obtain ⟨G2, P4⟩ := P3.out
                go_wp2_with fail
                go_meet
                exact ⟨_, _, _, ⟨P4⟩, ⟨run_write RI.out (by omega) _ _⟩, HB3⟩
              by_cases d1 : xd = 1
              · subst d1
                clear d0
                go_upto_region 15 with fail
                go_region_held3 (fun w' => w'.cell? ⟨(a.add (j * 7)).block, (a.add (j * 7)).off + 1, none⟩ = some (.int .i64 xn) ∧ w'.cell? ⟨(a.add (j * 7)).block, (a.add (j * 7)).off + 2, none⟩ = some (.string xb)) (first | exact ⟨pw_cell_below HBD.out HX.out.2.1, pw_cell_below HBD.out HX.out.2.2.1⟩ | exact ⟨pw_cell_below HB1.out HX.out.2.1, pw_cell_below HB1.out HX.out.2.2.1⟩ | exact ⟨pw_cell_below HB3.out HX.out.2.1, pw_cell_below HB3.out HX.out.2.2.1⟩) (first | (go_at_call 33; refine Calls.mono (num_calls _ _) ?_; rintro e w9 ⟨rfl, rfl⟩) | (go_at_call 43; refine Calls.mono (write_calls PD.out.a _ _ (RI.out.lng (by omega))) ?_; rintro e w8 ⟨rfl, F1, hs, hn⟩; have P1 := Aside0.mk (PD.out.nextA hs hn); have HB1 := Aside0.mk (PD.out.thruA HBD.out hn); clear hs hn) | (go_at_call 50; obtain ⟨F2, P2⟩ := P1.out; refine Calls.mono (rwrite_calls P2.b (RI.out.bnd (by omega)) (RI.out.lng (by omega)) _ _) ?_; rintro e w7 ⟨rfl, G1, hs, hn⟩; have P3 := Aside0.mk (P2.nextB hs hn); have HB3 := Aside0.mk (P2.thruB HB1.out hn); clear hs hn))
                obtain ⟨G2, P4⟩ := P3.out
                go_wp2_with fail
                go_meet
                exact ⟨_, _, _, ⟨P4⟩, ⟨run_write RI.out (by omega) _ _⟩, HB3⟩
              by_cases d2 : xd = 2
              · subst d2
                clear d0
                clear d1
                go_upto_region 15 with fail
                go_region_held3 (fun w' => w'.cell? ⟨(a.add (j * 7)).block, (a.add (j * 7)).off + 1, none⟩ = some (.int .i64 xn) ∧ w'.cell? ⟨(a.add (j * 7)).block, (a.add (j * 7)).off + 2, none⟩ = some (.string xb)) (first | exact ⟨pw_cell_below HBD.out HX.out.2.1, pw_cell_below HBD.out HX.out.2.2.1⟩ | exact ⟨pw_cell_below HB1.out HX.out.2.1, pw_cell_below HB1.out HX.out.2.2.1⟩ | exact ⟨pw_cell_below HB3.out HX.out.2.1, pw_cell_below HB3.out HX.out.2.2.1⟩) (first | (go_at_call 33; refine Calls.mono (num_calls _ _) ?_; rintro e w9 ⟨rfl, rfl⟩) | (go_at_call 43; refine Calls.mono (write_calls PD.out.a _ _ (RI.out.lng (by omega))) ?_; rintro e w8 ⟨rfl, F1, hs, hn⟩; have P1 := Aside0.mk (PD.out.nextA hs hn); have HB1 := Aside0.mk (PD.out.thruA HBD.out hn); clear hs hn) | (go_at_call 50; obtain ⟨F2, P2⟩ := P1.out; refine Calls.mono (rwrite_calls P2.b (RI.out.bnd (by omega)) (RI.out.lng (by omega)) _ _) ?_; rintro e w7 ⟨rfl, G1, hs, hn⟩; have P3 := Aside0.mk (P2.nextB hs hn); have HB3 := Aside0.mk (P2.thruB HB1.out hn); clear hs hn))
                obtain ⟨G2, P4⟩ := P3.out
                go_wp2_with fail
                go_meet
                exact ⟨_, _, _, ⟨P4⟩, ⟨run_write RI.out (by omega) _ _⟩, HB3⟩
              by_cases d3 : xd = 3
              · subst d3
                clear d0
                clear d1
                clear d2
                have HG := RI.out.idx
                go_wp2_with (first | (go_at_call 33; refine Calls.mono (num_calls _ _) ?_; rintro e w9 ⟨rfl, rfl⟩) | (go_at_call 47; refine Calls.mono (sync_calls P.out.a HG) ?_; clear HG; rintro e w8 ⟨rfl, F1, hs, hn⟩; have P1 := Aside0.mk (P.out.nextA hs hn); have HB1 := Aside0.mk (P.out.thruA HB.out hn); clear hs hn) | (go_at_call 51; obtain ⟨F2, P2⟩ := P1.out; refine Calls.mono (rsync_calls P2.b (RI.out.bnd (by omega)) RI.out.idx) ?_; rintro e w7 ⟨rfl, G1, hs, hn⟩; have P3 := Aside0.mk (P2.nextB hs hn); have HB3 := Aside0.mk (P2.thruB HB1.out hn); clear hs hn P2) | fail)
                obtain ⟨G2, P4⟩ := P3.out
                go_meet
                exact ⟨_, _, _, ⟨P4⟩, ⟨run_sync RI.out (by omega)⟩, HB3⟩
              by_cases d4 : xd = 4
              · subst d4
                clear d0
                clear d1
                clear d2
                clear d3
                have hz1 := pw_cell_below HB.out HX.out.2.1
                have hz3 := pw_cell_below HB.out HX.out.2.2.2.1
                have hz4 := pw_cell_below HB.out HX.out.2.2.2.2.1
                have hz5 := pw_cell_below HB.out HX.out.2.2.2.2.2.1
                have hz6 := pw_cell_below HB.out HX.out.2.2.2.2.2.2
                go_wp2_with (first | (go_at_call 52; refine Calls.mono (tear_calls P.out.a _) ?_; rintro e w8 ⟨rfl, hs, hk⟩; have P1 := Aside0.mk (P.out.nextA hs (Strip.Next.of_kept hk hs)); have HB1 := Aside0.mk (P.out.thruA HB.out (Strip.Next.of_kept hk hs)); clear hs hk hz1 hz3 hz4 hz5 hz6; have hz1 := pw_cell_below HB1.out HX.out.2.1; have hz3 := pw_cell_below HB1.out HX.out.2.2.2.1; have hz4 := pw_cell_below HB1.out HX.out.2.2.2.2.1; have hz5 := pw_cell_below HB1.out HX.out.2.2.2.2.2.1; have hz6 := pw_cell_below HB1.out HX.out.2.2.2.2.2.2) | (go_at_call 53; obtain ⟨F2, P2⟩ := P1.out; refine Calls.mono (rtear_calls P2.b _) ?_; rintro e w7 ⟨rfl, hs, hk⟩; have P3 := Aside0.mk (P2.nextB hs (Strip.Next.of_kept' hk hs)); have HB3 := Aside0.mk (P2.thruB HB1.out (Strip.Next.of_kept' hk hs)); clear hs hk P2) | fail)
                obtain ⟨G2, P4⟩ := P3.out
                go_meet
                exact ⟨_, _, _, ⟨P4⟩, ⟨run_tear RI.out _ xi⟩, HB3⟩
              by_cases d5 : xd = 5
              · subst d5
                clear d0
                clear d1
                clear d2
                clear d3
                clear d4
                have hz1 := pw_cell_below HB.out HX.out.2.1
                have hz3 := pw_cell_below HB.out HX.out.2.2.2.1
                have hz4 := pw_cell_below HB.out HX.out.2.2.2.2.1
                have hz5 := pw_cell_below HB.out HX.out.2.2.2.2.2.1
                have hz6 := pw_cell_below HB.out HX.out.2.2.2.2.2.2
                go_wp2_with (first | (go_at_call 39; refine Calls.mono (fall_calls P.out.a RI.out.idx RI.out.siz RI.out.ssz (RI.out.lng (by omega)) _ _ _ _) ?_; rintro e w8 ⟨rfl, F1, hs, hn⟩; have P1 := Aside0.mk (P.out.nextA hs hn); have HB1 := Aside0.mk (P.out.thruA HB.out hn); clear hs hn hz1 hz3 hz4 hz5 hz6; have hz1 := pw_cell_below HB1.out HX.out.2.1; have hz3 := pw_cell_below HB1.out HX.out.2.2.2.1; have hz4 := pw_cell_below HB1.out HX.out.2.2.2.2.1; have hz5 := pw_cell_below HB1.out HX.out.2.2.2.2.2.1; have hz6 := pw_cell_below HB1.out HX.out.2.2.2.2.2.2) | (go_at_call 54; obtain ⟨F2, P2⟩ := P1.out; refine Calls.mono (rfall_calls P2.b RI.out.idx RI.out.siz RI.out.ssz (RI.out.lng (by omega)) _ _ _ _) ?_; rintro e w7 ⟨rfl, G1, hs, hn⟩; have P3 := Aside0.mk (P2.nextB hs hn); have HB3 := Aside0.mk (P2.thruB HB1.out hn); clear hs hn P2) | fail)
                obtain ⟨G2, P4⟩ := P3.out
                go_meet
                exact ⟨_, _, _, ⟨P4⟩, ⟨run_fall RI.out _ _ _ _ xc⟩, HB3⟩
              have e0 : (xd == 0) = false := by rw [beq_eq_false_iff_ne]; exact d0
              have e1 : (xd == 1) = false := by rw [beq_eq_false_iff_ne]; exact d1
              have e2 : (xd == 2) = false := by rw [beq_eq_false_iff_ne]; exact d2
              have e3 : (xd == 3) = false := by rw [beq_eq_false_iff_ne]; exact d3
              have e4 : (xd == 4) = false := by rw [beq_eq_false_iff_ne]; exact d4
              have e5 : (xd == 5) = false := by rw [beq_eq_false_iff_ne]; exact d5
              go_wp2
              go_meet
              exact ⟨_, _, _, P, ⟨RI.out.more⟩, HB⟩
            case rest =>
              clear P RI HB HX HR
              obtain ⟨S', F', G', P, RI, HB⟩ := hcut
              have PD := Aside0.mk (P.out.below (below_drew (Below.refl _ _)))
              obtain ⟨us, ul, g1, g2, g3, g4⟩ := P.out.b
              obtain ⟨A1, c1, rfl⟩ := own_slice g2
              obtain ⟨A2, c2, rfl⟩ := own_slice g3
              have hq0 : wc.cell? ⟨q, 0, none⟩ = some (.slice A1 S'.safe.length c1) := (blk_cell g1 0).trans rfl
              have hq1 : wc.cell? ⟨q, 1, none⟩ = some (.slice A2 S'.loose.length c2) := (blk_cell g1 1).trans rfl
              have hq3 : wc.cell? ⟨q, 3, none⟩ = some (.bool S'.down) := (blk_cell g1 3).trans rfl
              clear g1 g2 g3 g4
              go_upto_region 26 with fail
              go_region_held3 (fun w' => w'.cell? ⟨q, 0, none⟩ = some (.slice A1 S'.safe.length c1) ∧ w'.cell? ⟨q, 1, none⟩ = some (.slice A2 S'.loose.length c2) ∧ w'.cell? ⟨q, 3, none⟩ = some (.bool S'.down)) (exact ⟨hq0, hq1, hq3⟩) (first | (go_at_call 41; refine Calls.mono (down_calls PD.out.a) ?_; rintro e w9 ⟨rfl, rfl⟩) | (go_at_call 48; refine Calls.mono (loose_calls PD.out.a) ?_; rintro e w9 ⟨rfl, rfl⟩) | (go_at_call 42; refine Calls.mono (size_calls PD.out.a) ?_; rintro e w9 ⟨rfl, rfl⟩))
              clear hq0 hq1 hq3
              have P2 := PD
              have HB2 := Aside0.mk (below_drew HB.out)
              clear P HB PD
              have hL : S'.safe.length ≤ 65536 := RI.out.len
              generalize wc.drew = wd at P2 HB2 ⊢
              go_upto_region 29 with fail
              go_loopw [8] (fun v8 w' => ∃ k : Int, -1 ≤ k ∧ k ≤ (S'.safe.length : Int) + 1 ∧ v8 = .int .i64 k ∧ Aside0 (Pair w.heap.size w' p q S' S' F' G') ∧ Aside0 (Below w.heap.size w w')) (fun v8 _ => ((S'.safe.length : Int) + 1 - intOf v8).toNat)
              case atStart => exact ⟨-1, Int.le_refl _, by omega, rfl, P2, HB2⟩
              case round =>
                clear P2 HB2
                obtain ⟨k, hk0, hk1, rfl, P, HB⟩ := hrel
                obtain ⟨us, ul, g1, g2, g3, g4⟩ := P.out.b
                obtain ⟨A1, c1, rfl⟩ := own_slice g2
                have hq0 : wr.cell? ⟨q, 0, none⟩ = some (.slice A1 S'.safe.length c1) := (blk_cell g1 0).trans rfl
                clear g1 g2 g3 g4
                by_cases hkl : k ≤ (S'.safe.length : Int)
                · go_wp2_with (first | (go_at_call 33; refine Calls.mono (num_calls _ _) ?_; rintro e w9 ⟨rfl, rfl⟩) | (go_at_call 45; refine Calls.mono (read_calls P.out.a _) ?_; rintro e w8 ⟨rfl, hb⟩; have n1 := Aside0.mk (P.out.below hb); have n2 := Aside0.mk (below_step HB.out hb); clear P HB hb hq0; have P := n1; have HB := n2; clear n1 n2) | (go_at_call 55; refine Calls.mono (rread_calls P.out.b _) ?_; rintro e w9 ⟨rfl, rfl⟩) | fail)
                  go_roundw
                  case measure => simp [intOf]; omega
                  case rel => exact ⟨k + 1, by omega, by omega, by go_num, P, HB⟩
                · go_wp2
                  go_roundw
                  case measure => simp [intOf]; omega
                  case rel => exact ⟨j + 1, _, _, _, by omega, by go_num, P, RI, HB⟩
          · have hb6i : 60 < (xb.size : Int) := by omega
            go_wp2_with (first | (go_at_call 44; refine Calls.mono (awake_calls _) ?_; rintro e w9 ⟨rfl, hb⟩; have HB2 := Aside0.mk (below_step HB.out hb); clear hb) | fail)
            go_ret
            exact ⟨rfl, HB2.out⟩
        · obtain rfl : j = l.length := by omega
          go_wp2_with (first | (go_at_call 44; refine Calls.mono (awake_calls _) ?_; rintro e w9 ⟨rfl, hb⟩; have HB2 := Aside0.mk (below_step HB.out hb); clear hb) | fail)
          go_ret
          exact ⟨rfl, HB2.out⟩
    · have p1 : (l.length : Int) ≤ 60 := by omega
      have p2 : 40 < bl := by omega
      go_enter Try.func11, Try.ntmps11
      go_upto_region 0 with fail
      go_upto_region 1 with ((with_reducible refine gate_dst (N := 2) rfl ?_); refine box_event ?hg (N := 2) ?hd (cs := #[.int .i64 bl, .int .i64 cr, .int .i64 ke, .int .i64 tn]) (t := 42) ?hr ?_; (case hd => rfl); (case hg => rfl); (case hr => first | (go_simp; done) | (go_simp; rfl)); intro gb hg w4 hbox hb; have HB := Aside0.mk hb; have BK := Aside0.mk hbox; have GE := Aside0.mk (show w.heap.size ≤ gb by omega); clear hb hbox hg)
      have hc0 : w4.cell? ⟨gb, 0, none⟩ = some (.int .i64 bl) := (blk_cell BK.out 0).trans rfl
      go_wp2_with (first | (go_at_call 44; refine Calls.mono (awake_calls _) ?_; rintro e w9 ⟨rfl, hb⟩; have HB2 := Aside0.mk (below_step HB.out hb); clear hb) | fail)
      go_ret
      exact ⟨rfl, HB2.out⟩
  · have p1 : 60 < (l.length : Int) := by omega
    go_enter Try.func11, Try.ntmps11
    go_upto_region 0 with fail
    go_upto_region 1 with ((with_reducible refine gate_dst (N := 2) rfl ?_); refine box_event ?hg (N := 2) ?hd (cs := #[.int .i64 bl, .int .i64 cr, .int .i64 ke, .int .i64 tn]) (t := 42) ?hr ?_; (case hd => rfl); (case hg => rfl); (case hr => first | (go_simp; done) | (go_simp; rfl)); intro gb hg w4 hbox hb; have HB := Aside0.mk hb; have BK := Aside0.mk hbox; have GE := Aside0.mk (show w.heap.size ≤ gb by omega); clear hb hbox hg)
    go_wp2_with (first | (go_at_call 44; refine Calls.mono (awake_calls _) ?_; rintro e w9 ⟨rfl, hb⟩; have HB2 := Aside0.mk (below_step HB.out hb); clear hb) | fail)
    go_ret
    exact ⟨rfl, HB2.out⟩
set_option maxRecDepth 100000 in
theorem walk {H : Type} {enc : TypeId × Value → H} {W : World} {r : Reach} {b0 : Nat} {base : Nat} {spare : Nat → Bool} {held : Bool} {d0 d1 : DataW H} {p0 p1 : List MemPlace} (v0 : Value) (o0 : Value.okWide Try.prog W r b0 42 v0) (h0 : DataW.Trod enc Try.prog W base spare held 42 v0 d0 p0) (v1 : Value) (o1 : Value.okWide Try.prog W r b0 68 v1) (h1 : DataW.Trod enc Try.prog W base spare held 68 v1 d1 p1) (_w : World) :
    Calls Try.prog 11 #[v0, v1] W fun e w' => e = .returned (.bool true) ∧ Below W.heap.size W w' := by
  obtain ⟨bl, cr, ke, tn, rfl, hcr⟩ := plan_arg o0 h0
  obtain ⟨l, A, c, rfl, hc, _, hr⟩ := act_arg o1 h1
  exact run l hc bl cr ke tn hcr W hr
end Go.Proofs.Ytmgkflkpompchaa.StripRuns
