/- brooklaw16.StripReads, walked: at every input it answers true. No condition. -/
import Derived.Test.YtmgkflkpompchaaStripReadsPure
import Derived.Test.YtmgkflkpompchaaArgs
namespace Go.Proofs.Ytmgkflkpompchaa.StripReads
open Go.RowKit Go.Proofs.YtmgkflkpompchaaW.PrintWords Go.Proofs.YtmgkflkpompchaaW.PrintLast Go.Proofs.YtmgkflkpompchaaW.PrintMore Go.Proofs.Ytmgkflkpompchaa.Strip Go.Proofs.Ytmgkflkpompchaa.Args
set_option linter.unusedVariables false
set_option linter.unusedSimpArgs false

theorem made8 (w : World) : (Instr.makeSlice 48 (.int .i64 8) (.int .i64 8)).run Try.prog w = .ok (.slice (some ⟨w.heap.size, 0, none⟩) 8 8) (w.alloc (.cells (madeCells #[.string ⟨#[]⟩] 8) 9)) :=
  run_make_row' 48 9 (.string ⟨#[]⟩) 16 Try.underlying48 infoS rfl .i64 .i64 8 (by omega) (by omega) w
set_option maxHeartbeats 1600000 in
set_option maxRecDepth 100000 in
theorem run {A A2 : Option Addr} {c c2 : Nat} (l : List Int) (hc : l.length ≤ c) (y : List Bool) (hc2 : y.length ≤ c2) (w : World) (hr : ARow U8 1 w A l) (hr2 : ARow B1 1 w A2 y) : Calls Try.prog 10 #[.slice A l.length c, .slice A2 y.length c2] w fun e w' => e = .returned (.bool true) ∧ Below w.heap.size w w' := by
  have HR := Aside0.mk hr
  have HR2 := Aside0.mk hr2
  clear hr hr2
  by_cases hl : l.length ≤ 40
  · by_cases hl2 : y.length ≤ 40
    · have p1 : (l.length : Int) ≤ 40 := by omega
      have p2 : (y.length : Int) ≤ 40 := by omega
      go_enter Try.func10, Try.ntmps10
      go_wp2_with fail
      refine Calls.mono (new_calls 8 0 0 0 w) ?_
      rintro e w1 ⟨p, F, rfl, hs, hb⟩
      have H := Aside0.mk hs
      have HB := Aside0.mk hb
      clear hs hb
      go_wp2_with fail
      refine Calls.mono (new_calls 8 0 0 0 w1) ?_
      rintro e w2 ⟨q, G, rfl, hs, hb⟩
      have TS := Aside0.mk (two_start H.out HB.out hs hb)
      clear hs hb H HB
      obtain ⟨F', G', hs, hb⟩ := TS.out
      have T := Aside0.mk hs
      have HB := Aside0.mk hb
      clear hs hb TS
      have hm8 := made8 w2
      go_upto_region 7 with fail
      clear hm8
      generalize w2.heap.size = gw at T ⊢
      generalize w2.alloc (.cells (madeCells #[.string ⟨#[]⟩] 8) 9) = w3 at T HB ⊢
      have hmk := made32 w3
      have hcv := conv32 w3
      have n1 := Aside0.mk (T.out.below (below_alloc (Below.refl _ _) (.cells (madeCells #[.int .u8 0] 32) 5)))
      have n2 := Aside0.mk (below_alloc HB.out (.cells (madeCells #[.int .u8 0] 32) 5))
      go_upto_region 9 with fail
      clear hmk hcv T HB
      have T := n1
      have HB := n2
      clear n1 n2
      generalize w3.alloc (.cells (madeCells #[.int .u8 0] 32) 5) = w4 at T HB ⊢
      have RI := Aside0.mk r_new
      go_loopw [9] (fun v9 w' => ∃ (j : Nat) (S : St) (W : List ByteArray) (F : Nat → Prop), j ≤ l.length ∧ v9 = .int .i64 j ∧ Aside0 (Two w.heap.size w' p q gw S W F G') ∧ Aside0 (RInv S W j) ∧ Aside0 (Below w.heap.size w w')) (fun v9 _ => l.length - (intOf v9).toNat)
      case atStart => exact ⟨0, _, _, _, Nat.zero_le _, rfl, T, RI, HB⟩
      case round =>
        clear T RI HB
        obtain ⟨j, S, W, F, hj, rfl, T, RI, HB⟩ := hrel
        by_cases hlt : j < l.length
        · obtain ⟨a, rfl, hx, x0, x1⟩ := HR.out.u8_at j hlt
          replace hx := pw_cell_below HB.out hx
          have y0 : (0 : Int) ≤ (j : Int) := by omega
          have y1 : (j : Int) < (l.length : Int) := by omega
          generalize l[j] = x at hx x0 x1
          obtain ⟨k, hk, hk8⟩ : ∃ k : Nat, x % 8 = (k : Int) ∧ k < 8 := ⟨(x % 8).toNat, by omega, by omega⟩
          have k0 : (0 : Int) ≤ (k : Int) := by omega
          have k1 : (k : Int) < 8 := by omega
          have HW := Aside0.mk (r_write RI.out (by omega) k hk8 (blk x) (blk_size x))
          have HL := Aside0.mk (show S.loose.length ≤ 1099511627776 from Nat.le_trans RI.out.num (by omega))
          have HWL := Aside0.mk (show k < W.length by rw [RI.out.wln]; exact hk8)
          go_upto_region 13 with (first | (go_at_call 46; refine Calls.mono (block_calls _ _) ?_; rintro e w9 ⟨rfl, hb⟩; have n1 := Aside0.mk (T.out.below hb); have n2 := Aside0.mk (below_step HB.out hb); clear T HB hb; have T := n1; have HB := n2; clear n1 n2; have hgc := T.out.cell k HWL.out; have hgf := T.out.free k; have m1 := Aside0.mk (T.out.store k (blk x)); have m2 := Aside0.mk (T.out.thru_store HB.out k (.string (blk x)))) | fail)
          clear hgc hgf T HB
          have T := m1
          have HB := m2
          clear m1 m2
          generalize w9.setCell ⟨gw, k, none⟩ (.string (blk x)) = w5 at T HB ⊢
          have hgc : w5.cell? ⟨gw, k, none⟩ = some (.string (blk x)) := (T.out.cell k (by rw [List.length_set]; exact HWL.out)).trans (by rw [getD_set _ _ _ _ _ HWL.out, if_pos rfl])
          go_upto_region 15 with (first | (go_at_call 33; refine Calls.mono (num_calls _ _) ?_; rintro e w9 ⟨rfl, rfl⟩) | (go_at_call 43; refine Calls.mono (write_calls T.out.a _ _ HL.out) ?_; rw [HW.out.1]; rintro e w8 ⟨rfl, F1, hs, hn⟩; have n1 := Aside0.mk (T.out.next hs hn); have n2 := Aside0.mk (T.out.thru HB.out hn.1); clear T HB hs hn; have T := n1; have HB := n2; clear n1 n2) | fail)
          clear hgc hx
          generalize wrS S (k : Int) (blk x) = S1 at T HW
          generalize hW1 : W.set k (blk x) = W1 at T HW
          clear hW1
          have RI1 := Aside0.mk HW.out.2.1
          have HSY := Aside0.mk (r_sync HW.out.2.1 (by omega) HW.out.2.2)
          clear RI HW HL HWL
          by_cases hy : j < y.length
          · have z1 : (j : Int) < (y.length : Int) := by omega
            obtain ⟨a2, rfl, hxb⟩ := HR2.out.b1_at j hy
            replace hxb := pw_cell_below HB.out hxb
            generalize y[j] = yb at hxb
            cases yb
            · have RI2 := RI1
              generalize S1 = S2 at T RI2 HSY RI1
              generalize F1 = F2 at T
              clear HSY RI1
              go_upto_region 18 with fail
              clear hxb
              go_loopw [11] (fun v11 w' => ∃ i : Nat, i ≤ 8 ∧ v11 = .int .i64 i ∧ Aside0 (Two w.heap.size w' p q gw S2 W1 F2 G') ∧ Aside0 (Below w.heap.size w w')) (fun v11 _ => 8 - (intOf v11).toNat)
              case atStart => exact ⟨0, Nat.zero_le _, rfl, T, HB⟩
              case round =>
                clear T HB
                obtain ⟨i, hi, rfl, T, HB⟩ := hrel
                by_cases hi8 : i < 8
                · have i0 : (0 : Int) ≤ (i : Int) := by omega
                  have i1 : (i : Int) < 8 := by omega
                  have HAJ := Aside0.mk (at_ok RI2.out.dn RI2.out.len i hi8)
                  have HBJ := Aside0.mk (at_ok r_new.dn r_new.len i hi8)
                  have HTB := Aside0.mk (show rdS (newS 8 0) (i : Int) = zero32 from (r_new.tell i hi8).elim (fun h => h.2) (fun h => absurd h.1 (by rw [List.getD_eq_getElem?_getD, List.getElem?_replicate, if_pos hi8]; decide)))
                  have HTJ := Aside0.mk (RI2.out.tell i hi8)
                  have HWI := Aside0.mk (show i < W1.length by rw [RI2.out.wln]; exact hi8)
                  go_upto_region 21 with (first | (go_at_call 45; refine Calls.mono (read_calls T.out.a _) ?_; rw [HAJ.out]; rintro e w8 ⟨rfl, hb⟩; have n1 := Aside0.mk (T.out.below hb); have n2 := Aside0.mk (below_step HB.out hb); clear T HB hb; have T := n1; have HB := n2; clear n1 n2) | fail)
                  go_upto_region 22 with (first | (go_at_call 45; refine Calls.mono (read_calls T.out.b _) ?_; rw [HBJ.out, HTB.out]; rintro e w7 ⟨rfl, hb⟩; have n1 := Aside0.mk (T.out.below hb); have n2 := Aside0.mk (below_step HB.out hb); clear T HB hb; have T := n1; have HB := n2; clear n1 n2) | fail)
                  have hwc := T.out.cell i HWI.out
                  generalize W1.getD i ⟨#[]⟩ = wi at hwc HTJ
                  generalize rdS S2 (i : Int) = ri at HTJ ⊢
                  rcases HTJ.out with ⟨rfl, rfl⟩ | ⟨hz, rfl⟩
                  · clear HTJ HTB
                    go_wp2_with (first | (go_at_call 33; refine Calls.mono (num_calls _ _) ?_; rintro e w9 ⟨rfl, rfl⟩) | fail)
                    go_roundw
                    case measure => simp [intOf]; omega
                    case rel => exact ⟨i + 1, by omega, by go_num, T, HB⟩
                  · clear HTJ HTB
                    obtain ⟨hne, hne2⟩ := toList_some ri hz
                    clear hz
                    go_wp2_with (first | (go_at_call 33; refine Calls.mono (num_calls _ _) ?_; rintro e w9 ⟨rfl, rfl⟩) | fail)
                    go_roundw
                    case measure => simp [intOf]; omega
                    case rel => exact ⟨i + 1, by omega, by go_num, T, HB⟩
                · obtain rfl : i = 8 := by omega
                  go_wp2
                  go_roundw
                  case measure => simp [intOf]; omega
                  case rel => exact ⟨j + 1, _, _, _, by omega, by go_num, T, RI2, HB⟩
            · have HG := Aside0.mk (show ∀ c ∈ S1.loose, c.1 < S1.safe.length from fun c hc => by rw [RI1.out.len]; exact RI1.out.idx c hc)
              have HSL := Aside0.mk (show ((syS S1).loose.length : Int) = 0 by rw [HSY.out.2.1]; rfl)
              go_upto_region 18 with (first | (go_at_call 47; refine Calls.mono (sync_calls T.out.a HG.out) ?_; rw [HSY.out.1]; rintro e w8 ⟨rfl, F2, hs, hn⟩; have n1 := Aside0.mk (T.out.next hs hn); have n2 := Aside0.mk (T.out.thru HB.out hn.1); clear T HB hs hn; have T := n1; have HB := n2; clear n1 n2) | (go_at_call 33; refine Calls.mono (num_calls _ _) ?_; rintro e w9 ⟨rfl, rfl⟩) | (go_at_call 48; refine Calls.mono (loose_calls T.out.a) ?_; rw [HSL.out]; rintro e w7 ⟨rfl, rfl⟩) | fail)
              clear hxb
              have RI2 := Aside0.mk HSY.out.2.2
              clear HG HSL HSY RI1
              generalize syS S1 = S2 at T RI2
              go_loopw [11] (fun v11 w' => ∃ i : Nat, i ≤ 8 ∧ v11 = .int .i64 i ∧ Aside0 (Two w.heap.size w' p q gw S2 W1 F2 G') ∧ Aside0 (Below w.heap.size w w')) (fun v11 _ => 8 - (intOf v11).toNat)
              case atStart => exact ⟨0, Nat.zero_le _, rfl, T, HB⟩
              case round =>
                clear T HB
                obtain ⟨i, hi, rfl, T, HB⟩ := hrel
                by_cases hi8 : i < 8
                · have i0 : (0 : Int) ≤ (i : Int) := by omega
                  have i1 : (i : Int) < 8 := by omega
                  have HAJ := Aside0.mk (at_ok RI2.out.dn RI2.out.len i hi8)
                  have HBJ := Aside0.mk (at_ok r_new.dn r_new.len i hi8)
                  have HTB := Aside0.mk (show rdS (newS 8 0) (i : Int) = zero32 from (r_new.tell i hi8).elim (fun h => h.2) (fun h => absurd h.1 (by rw [List.getD_eq_getElem?_getD, List.getElem?_replicate, if_pos hi8]; decide)))
                  have HTJ := Aside0.mk (RI2.out.tell i hi8)
                  have HWI := Aside0.mk (show i < W1.length by rw [RI2.out.wln]; exact hi8)
                  go_upto_region 21 with (first | (go_at_call 45; refine Calls.mono (read_calls T.out.a _) ?_; rw [HAJ.out]; rintro e w8 ⟨rfl, hb⟩; have n1 := Aside0.mk (T.out.below hb); have n2 := Aside0.mk (below_step HB.out hb); clear T HB hb; have T := n1; have HB := n2; clear n1 n2) | fail)
                  go_upto_region 22 with (first | (go_at_call 45; refine Calls.mono (read_calls T.out.b _) ?_; rw [HBJ.out, HTB.out]; rintro e w7 ⟨rfl, hb⟩; have n1 := Aside0.mk (T.out.below hb); have n2 := Aside0.mk (below_step HB.out hb); clear T HB hb; have T := n1; have HB := n2; clear n1 n2) | fail)
                  have hwc := T.out.cell i HWI.out
                  generalize W1.getD i ⟨#[]⟩ = wi at hwc HTJ
                  generalize rdS S2 (i : Int) = ri at HTJ ⊢
                  rcases HTJ.out with ⟨rfl, rfl⟩ | ⟨hz, rfl⟩
                  · clear HTJ HTB
                    go_wp2_with (first | (go_at_call 33; refine Calls.mono (num_calls _ _) ?_; rintro e w9 ⟨rfl, rfl⟩) | fail)
                    go_roundw
                    case measure => simp [intOf]; omega
                    case rel => exact ⟨i + 1, by omega, by go_num, T, HB⟩
                  · clear HTJ HTB
                    obtain ⟨hne, hne2⟩ := toList_some ri hz
                    clear hz
                    go_wp2_with (first | (go_at_call 33; refine Calls.mono (num_calls _ _) ?_; rintro e w9 ⟨rfl, rfl⟩) | fail)
                    go_roundw
                    case measure => simp [intOf]; omega
                    case rel => exact ⟨i + 1, by omega, by go_num, T, HB⟩
                · obtain rfl : i = 8 := by omega
                  go_wp2
                  go_roundw
                  case measure => simp [intOf]; omega
                  case rel => exact ⟨j + 1, _, _, _, by omega, by go_num, T, RI2, HB⟩
          · have z1 : ¬ (j : Int) < (y.length : Int) := by omega
            have RI2 := RI1
            generalize S1 = S2 at T RI2 HSY RI1
            generalize F1 = F2 at T
            clear HSY RI1
            go_upto_region 18 with fail
            go_loopw [11] (fun v11 w' => ∃ i : Nat, i ≤ 8 ∧ v11 = .int .i64 i ∧ Aside0 (Two w.heap.size w' p q gw S2 W1 F2 G') ∧ Aside0 (Below w.heap.size w w')) (fun v11 _ => 8 - (intOf v11).toNat)
            case atStart => exact ⟨0, Nat.zero_le _, rfl, T, HB⟩
            case round =>
              clear T HB
              obtain ⟨i, hi, rfl, T, HB⟩ := hrel
              by_cases hi8 : i < 8
              · have i0 : (0 : Int) ≤ (i : Int) := by omega
                have i1 : (i : Int) < 8 := by omega
                have HAJ := Aside0.mk (at_ok RI2.out.dn RI2.out.len i hi8)
                have HBJ := Aside0.mk (at_ok r_new.dn r_new.len i hi8)
                have HTB := Aside0.mk (show rdS (newS 8 0) (i : Int) = zero32 from (r_new.tell i hi8).elim (fun h => h.2) (fun h => absurd h.1 (by rw [List.getD_eq_getElem?_getD, List.getElem?_replicate, if_pos hi8]; decide)))
                have HTJ := Aside0.mk (RI2.out.tell i hi8)
                have HWI := Aside0.mk (show i < W1.length by rw [RI2.out.wln]; exact hi8)
                go_upto_region 21 with (first | (go_at_call 45; refine Calls.mono (read_calls T.out.a _) ?_; rw [HAJ.out]; rintro e w8 ⟨rfl, hb⟩; have n1 := Aside0.mk (T.out.below hb); have n2 := Aside0.mk (below_step HB.out hb); clear T HB hb; have T := n1; have HB := n2; clear n1 n2) | fail)
                go_upto_region 22 with (first | (go_at_call 45; refine Calls.mono (read_calls T.out.b _) ?_; rw [HBJ.out, HTB.out]; rintro e w7 ⟨rfl, hb⟩; have n1 := Aside0.mk (T.out.below hb); have n2 := Aside0.mk (below_step HB.out hb); clear T HB hb; have T := n1; have HB := n2; clear n1 n2) | fail)
                have hwc := T.out.cell i HWI.out
                generalize W1.getD i ⟨#[]⟩ = wi at hwc HTJ
                generalize rdS S2 (i : Int) = ri at HTJ ⊢
                rcases HTJ.out with ⟨rfl, rfl⟩ | ⟨hz, rfl⟩
                · clear HTJ HTB
                  go_wp2_with (first | (go_at_call 33; refine Calls.mono (num_calls _ _) ?_; rintro e w9 ⟨rfl, rfl⟩) | fail)
                  go_roundw
                  case measure => simp [intOf]; omega
                  case rel => exact ⟨i + 1, by omega, by go_num, T, HB⟩
                · clear HTJ HTB
                  obtain ⟨hne, hne2⟩ := toList_some ri hz
                  clear hz
                  go_wp2_with (first | (go_at_call 33; refine Calls.mono (num_calls _ _) ?_; rintro e w9 ⟨rfl, rfl⟩) | fail)
                  go_roundw
                  case measure => simp [intOf]; omega
                  case rel => exact ⟨i + 1, by omega, by go_num, T, HB⟩
              · obtain rfl : i = 8 := by omega
                go_wp2
                go_roundw
                case measure => simp [intOf]; omega
                case rel => exact ⟨j + 1, _, _, _, by omega, by go_num, T, RI2, HB⟩
        · obtain rfl : j = l.length := by omega
          go_wp2_with (first | (go_at_call 44; refine Calls.mono (awake_calls _) ?_; rintro e w9 ⟨rfl, hb⟩; have HB2 := Aside0.mk (below_step HB.out hb); clear hb) | fail)
          go_ret
          exact ⟨rfl, HB2.out⟩
    · have p1 : (l.length : Int) ≤ 40 := by omega
      have p2 : 40 < (y.length : Int) := by omega
      go_enter Try.func10, Try.ntmps10
      go_wp2_with (first | (go_at_call 44; refine Calls.mono (awake_calls _) ?_; rintro e w9 ⟨rfl, hb⟩; have HB2 := Aside0.mk hb; clear hb) | fail)
      go_ret
      exact ⟨rfl, HB2.out⟩
  · have p1 : 40 < (l.length : Int) := by omega
    go_enter Try.func10, Try.ntmps10
    go_wp2_with (first | (go_at_call 44; refine Calls.mono (awake_calls _) ?_; rintro e w9 ⟨rfl, hb⟩; have HB2 := Aside0.mk hb; clear hb) | fail)
    go_ret
    exact ⟨rfl, HB2.out⟩
set_option maxRecDepth 100000 in
theorem walk {H : Type} {enc : TypeId × Value → H} {W : World} {r : Reach} {b0 : Nat} {base : Nat} {spare : Nat → Bool} {held : Bool} {d0 d1 : DataW H} {p0 p1 : List MemPlace} (v0 : Value) (o0 : Value.okWide Try.prog W r b0 50 v0) (h0 : DataW.Trod enc Try.prog W base spare held 50 v0 d0 p0) (v1 : Value) (o1 : Value.okWide Try.prog W r b0 66 v1) (h1 : DataW.Trod enc Try.prog W base spare held 66 v1 d1 p1) (_w : World) :
    Calls Try.prog 10 #[v0, v1] W fun e w' => e = .returned (.bool true) ∧ Below W.heap.size W w' := by
  obtain ⟨l, A, c, rfl, hc, _, hr⟩ := u8_arg o0 h0
  obtain ⟨y, A2, c2, rfl, hc2, _, hr2⟩ := bool_arg o1 h1
  exact run l hc y hc2 W hr hr2
end Go.Proofs.Ytmgkflkpompchaa.StripReads
