/- brooklaw17.WalFull, walked: at every input it answers true. No condition. -/
import Derived.Test.YtmgkflkpompchaaWalFullPure
namespace Go.Proofs.Ytmgkflkpompchaa.WalFull
open Go.RowKit Go.Proofs.YtmgkflkpompchaaW.PrintWords Go.Proofs.YtmgkflkpompchaaW.PrintLast Go.Proofs.YtmgkflkpompchaaW.PrintMore Go.Proofs.Ytmgkflkpompchaa.Strip Go.Proofs.Ytmgkflkpompchaa.Wal Go.Proofs.Ytmgkflkpompchaa.Args
set_option linter.unusedVariables false
set_option linter.unusedSimpArgs false

set_option maxHeartbeats 25600000 in
set_option maxRecDepth 100000 in
theorem run (sz : Nat) (hsz : sz ≤ 65535) (ls : List (List Int)) {A0 : Option Addr} {c0 : Nat} (hc0 : ls.length ≤ c0) (w : World) (h0 : ARow U8s 1 w A0 ls) :
    Calls Try.prog 6 #[.int .u16 (sz : Int), .slice A0 ls.length c0] w fun e w' => e = .returned (.bool true) ∧ Below w.heap.size w w' := by
  have H0 := Aside0.mk h0
  clear h0
  by_cases hgo : ls.length ≤ 40
  · have hg1 : ¬ (40 : Int) < (ls.length : Int) := by omega
    have hm : Int.tmod (sz : Int) 600 = ((sz % 600 : Nat) : Int) := by rw [Int.tmod_eq_emod_of_nonneg (by omega)]; omega
    have hZ1 : (sz : Int) ≤ 65535 := by omega
    go_enter Try.func6, Try.ntmps6
    go_upto_region 4 with fail
    obtain ⟨N, hNN, hN6⟩ : ∃ N : Nat, (sz : Int) % 600 = (N : Int) ∧ N ≤ 599 := ⟨sz % 600, by omega, by omega⟩
    rw [hNN]
    clear hNN hm
    go_upto_region 8 with (first | (go_at_call 31; refine Calls.mono (new_full _ (by omega) _) ?_; rintro e w2 ⟨p, X2, S2, rfl, hs, hd, hl, hN, hD, hQ, hb⟩; have HS2 := Aside0.mk hs; have HD2 := Aside0.mk (And.intro hd (And.intro hl (And.intro hN (And.intro hD hQ)))); have HB2 := Aside0.mk hb; clear hb hs hd hl hN hD hQ) | (go_at_call 32; refine Calls.mono (open_log HS2.out HD2.out.1 HD2.out.2.1 HD2.out.2.2.2.1 (by omega)) ?_; rintro e w3 ⟨q, rfl, hq, ⟨X3, hl, hx3⟩, hw, hb⟩; have HL3 := Aside0.mk hl; have HW3 := Aside0.mk hw; have HB3 := Aside0.mk (below_step HB2.out hb); clear hb hl hq hw hx3) | (go_at_call 33; refine Calls.mono (num_calls _ _) ?_; rintro e wn ⟨rfl, rfl⟩) | fail)
    have HF3 := Aside0.mk (FU.mk (b0 := w.heap.size) (v := .slice none 0 0) (i := 0) HL3.out HW3.out HD2.out.2.2.1 (HD2.out.2.2.2.2.mono (by omega)) (Nat.le_refl _) ⟨Nat.zero_le _, fun b hb => by cases hb⟩ (Row.nil _ _ _))
    clear HL3 HW3 HS2
    go_upto_region 13 with fail
    go_loopw [9, 10, 11] (fun v9 v10 v11 w' => ∃ (i hd : Nat) (S : St) (W : Wl) (X : Nat → Prop), v11 = .int .i64 i ∧ v10 = .int .i64 hd ∧ Aside0 (i ≤ ls.length) ∧ Aside0 (hd = 512 + sumL W.l) ∧ Aside0 (FU w.heap.size w.heap.size w' p q S W X v9 N i) ∧ Aside0 (Below w.heap.size w w')) (fun _ _ v11 _ => ls.length - (intOf v11).toNat)
    case atStart => exact ⟨0, 512, _, _, _, rfl, rfl, ⟨Nat.zero_le _⟩, ⟨rfl⟩, HF3, HB3⟩
    case round =>
      clear HF3 HB3
      obtain ⟨i, hd, S, W, X, rfl, rfl, HN, HHD, HF, HB⟩ := hrel
      have hN := HN.out
      by_cases hlt : i < ls.length
      · have hlti : (i : Int) < (ls.length : Int) := by omega
        have HI40 := Aside0.mk (show i < 40 by omega)
        have hhd : hd ≤ 40000 := by have := few_sumL HF.out.few; have := HHD.out; have := HI40.out; omega
        obtain ⟨ad, Bg, cg, e0, hx0, hcg, hcgm, hrg⟩ := H0.out.u8s_at i hlt
        cases e0
        have HRG := Aside0.mk hrg
        have HCG := Aside0.mk (And.intro hcg hcgm)
        have HX0 := Aside0.mk hx0
        clear hrg hcg hcgm hx0
        generalize ls[i] = ns at HX0 HRG HCG
        have hx2 := pw_cell_below HB.out HX0.out
        go_upto_region 18 with (first | (go_at_call 34; refine Calls.mono (group_calls (HRG.out.u8 HB.out) HCG.out.1 HCG.out.2) ?_; rintro e w5 ⟨gv, rfl, ho, hb⟩; have HG5 := Aside0.mk (Rd.fresh (StrS.of_own ho) HF.out.log.lt); have HF5 := Aside0.mk (HF.out.below hb); have HB5 := Aside0.mk (below_step HB.out hb); clear ho hb) | fail)
        clear hx2 HF HB
        have HFG := Aside0.mk (Few.group ns)
        generalize groupL ns = g at HG5 HFG ⊢
        obtain ⟨Ag, cg2, rfl⟩ := HG5.out.slice
        have hg6 : g.length ≤ 6 := HFG.out.1
        go_loop [13, 14] (fun v13 v14 => ∃ (k cs : Nat), v14 = .int .i64 k ∧ v13 = .int .i64 cs ∧ Aside0 (k ≤ g.length) ∧ Aside0 (cs = sumL (g.take k))) (fun _ v14 => g.length - (intOf v14).toNat)
        case atStart => exact ⟨0, 0, rfl, rfl, ⟨Nat.zero_le _⟩, ⟨by simp [sumL]⟩⟩
        case round =>
          obtain ⟨k, cs, rfl, rfl, HK, HC⟩ := hrel
          have hk := HK.out
          have hcs : cs ≤ 1000 := by have := few_sumL (HFG.out.take k); have := HC.out; omega
          by_cases hlk : k < g.length
          · have hlki : (k : Int) < (g.length : Int) := by omega
            obtain ⟨bb, oo, e1, _, hxk⟩ := StrS.at_ HG5.out k hlk
            cases e1
            have HSM := Aside0.mk (sumL_take g k hlk)
            have hsz1 : g[k].size ≤ 49 := HFG.out.2 _ (List.getElem_mem hlk)
            generalize g[k] = gk at hxk HSM hsz1
            go_wp2
            go_round
            case rel => exact ⟨k + 1, cs + gk.size + 64, by go_num, by go_num, ⟨by omega⟩, ⟨by have := HC.out; have := HSM.out; omega⟩⟩
            case measure => simp [intOf]; omega
          · have hgek : ¬ (k : Int) < (g.length : Int) := by omega
            have HCS := Aside0.mk (show cs = sumL g by have := HC.out; rw [List.take_of_length_le (by omega)] at this; exact this)
            clear HC HK hk
            go_upto_region 21 with fail
            have HAF := Aside0.mk (full_append HF5.out (by have := HI40.out; omega) HFG.out)
            have HAP := Aside0.mk (append_whole HF5.out.log HF5.out.whole HG5.out (by have := HFG.out.sum; omega))
            generalize chgR S W g (W.l ++ g) W.side W.size = R at HAF HAP
            rcases HAF.out with ⟨hr, hle⟩ | ⟨he, hw, hlz, htz, hNz, hqz⟩
            · have HLE := Aside0.mk (show ¬ 4 * ((hd : Int) + (cs : Int)) ≤ 32 * (N : Int) by have := HHD.out; have := HCS.out; omega)
              clear hle HAF HCS
              subst hr
              go_upto_region 22 with (first | (go_at_call 35; refine Calls.mono HAP.out ?_; rintro e w6 ⟨rfl, hx⟩; obtain ⟨X6, h6, n6⟩ := hx HF5.out.whole.inv; have HF7 := Aside0.mk (FU.mk (i := i + 1) h6 HF5.out.whole HF5.out.room (HF5.out.quiet.mono (by omega)) (by have := HF5.out.turn; omega) (HF5.out.few.mono (by omega)) (HF5.out.row.next n6)); have HB7 := Aside0.mk (LogM.thru HF5.out.log HB5.out (Nat.le_refl _) n6); clear h6 n6 hx) | fail)
              clear HAP HF5 HG5 HB5
              have hle := HLE.out
              have hle2 : 32 * (N : Int) < 4 * ((hd : Int) + (cs : Int)) := by omega
              go_wp2_with (first | (go_at_call 33; refine Calls.mono (num_calls _ _) ?_; rintro e wn ⟨rfl, rfl⟩) | (go_at_call 37; refine Calls.mono (recs_whole HF7.out.log HF7.out.whole) ?_; rintro e w8 ⟨vr, rfl, ho, hb⟩; have HO8 := Aside0.mk (StrS.of_own ho); have HF8 := Aside0.mk (HF7.out.below hb); have HB8 := Aside0.mk (below_step HB7.out hb); clear ho hb) | (go_at_call 36; refine Calls.mono (texts_yes HO8.out HF8.out.row.strS HF8.out.len rfl) ?_; rintro e w9 ⟨rfl, hb⟩; have HF9 := Aside0.mk (HF8.out.below hb); have HB9 := Aside0.mk (below_step HB8.out hb); clear hb) | fail)
              go_roundw
              case rel => exact ⟨i + 1, hd, _, _, _, by go_num, rfl, ⟨by omega⟩, HHD, HF9, HB9⟩
              case measure => simp [intOf]; omega
            · have HAZ := Aside0.mk (And.intro he (And.intro hw (And.intro hlz (And.intro htz (And.intro hNz hqz)))))
              clear he hw hlz htz hNz hqz HAF
              skip
              go_upto_region 22 with (first | (go_at_call 35; refine Calls.mono HAP.out ?_; rintro e w6 ⟨rfl, hx⟩; rw [HAZ.out.1]; obtain ⟨X6, h6, n6⟩ := hx HAZ.out.2.1.inv; have HL6 := Aside0.mk h6; have HR6 := Aside0.mk (HF5.out.row.next n6); have HG6 := Aside0.mk (HG5.out.next n6); have HB6 := Aside0.mk (LogM.thru HF5.out.log HB5.out (Nat.le_refl _) n6); clear h6 n6 hx) | fail)
              clear HAP
              go_upto_region 27 with (first | (go_at_call 33; refine Calls.mono (num_calls _ _) ?_; rintro e wn ⟨rfl, rfl⟩) | ((with_reducible refine gate_builtin (b := .append) (xs := #[.tmp 101, .tmp 102]) rfl ?_); at_builtin; refine row_append (w0 := w) rfl (.tmp 101) (.tmp 102) rfl rfl rfl HR6.out HG6.out HL6.out.lt HB6.out (by have := HF5.out.few.1; have := HI40.out; omega) ?_; intro v7 w7 hr hb hg ha; have HR7 := Aside0.mk hr; have HB7 := Aside0.mk hb; have HL7 := Aside0.mk (HL6.out.grown HR6.out hg); clear hr hb hg ha) | fail)
              have HF7 := Aside0.mk (FU.mk (i := i + 1) HL7.out HAZ.out.2.1 HAZ.out.2.2.2.2.1 (HAZ.out.2.2.2.2.2.mono (by omega)) (by have := HAZ.out.2.2.2.1; have := HF5.out.turn; omega) (by rw [HAZ.out.2.2.1]; exact (HF5.out.few.append HFG.out).mono (by omega)) (by rw [HAZ.out.2.2.1]; exact HR7.out))
              have HHN := Aside0.mk (show hd + cs = 512 + sumL R.W.l by rw [HAZ.out.2.2.1, sumL_append]; have := HHD.out; have := HCS.out; omega)
              clear HL6 HR6 HG6 HB6 HL7 HR7 HAZ HF5 HG5 HB5 HHD HCS
              generalize R.S = S7 at HF7
              generalize R.W = W7 at HF7 HHN
              go_wp2_with (first | (go_at_call 33; refine Calls.mono (num_calls _ _) ?_; rintro e wn ⟨rfl, rfl⟩) | (go_at_call 37; refine Calls.mono (recs_whole HF7.out.log HF7.out.whole) ?_; rintro e w8 ⟨vr, rfl, ho, hb⟩; have HO8 := Aside0.mk (StrS.of_own ho); have HF8 := Aside0.mk (HF7.out.below hb); have HB8 := Aside0.mk (below_step HB7.out hb); clear ho hb) | (go_at_call 36; refine Calls.mono (texts_yes HO8.out HF8.out.row.strS HF8.out.len rfl) ?_; rintro e w9 ⟨rfl, hb⟩; have HF9 := Aside0.mk (HF8.out.below hb); have HB9 := Aside0.mk (below_step HB8.out hb); clear hb) | fail)
              go_roundw
              case rel => exact ⟨i + 1, hd + cs, _, _, _, by go_num, by go_num, ⟨by omega⟩, HHN, HF9, HB9⟩
              case measure => simp [intOf]; omega
      · have hge : ¬ (i : Int) < (ls.length : Int) := by omega
        have HI40 := Aside0.mk (show i ≤ 40 by omega)
        have hhd : hd ≤ 40000 := by have := few_sumL HF.out.few; have := HHD.out; have := HI40.out; omega
        have hhd2 : 512 ≤ hd := by have := HHD.out; omega
        clear hN
        go_upto_region 29 with fail
        have HAF := Aside0.mk (full_check HF.out HI40.out)
        have HAP := Aside0.mk (fun (w5 : World) (v : Value) (G : Nat → Prop) (hb : Below wr.heap.size wr w5) (hl : StrS w5 v [littleB] G) => check_whole (HF.out.log.below hb) HF.out.whole hl (by decide))
        generalize chgR S W [littleB] [littleB] ((W.side + 1) % 2) 0 = R at HAF HAP
        rcases HAF.out with ⟨hr, hle⟩ | ⟨he, hw, hlz, htz, hNz⟩
        · have hgt : 32 * (N : Int) < 4 * ((hd : Int) + 70) := by omega
          clear hle HAF
          subst hr
          go_upto_region 30 with (first | (go_at_call 38; refine Calls.mono (HAP.out _ _ _ (alloc_below _ _) (one_str _ littleB)) ?_; rintro e w6 ⟨rfl, hx⟩; obtain ⟨X6, h6, n6⟩ := hx HF.out.whole.inv; have HL7 := Aside0.mk h6; have HN7 := Aside0.mk ((HF.out.row.rd.same (alloc_below _ _)).next n6); have HB7 := Aside0.mk (LogM.thru (HF.out.log.below (alloc_below _ _)) (below_alloc HB.out _) (Nat.le_refl _) n6); clear h6 n6 hx) | fail)
          have HW7 := Aside0.mk HF.out.whole
          have HM7 := Aside0.mk HF.out.room
          have HT7 := Aside0.mk (show W.turn ≤ 1001 by have := HF.out.turn; have := HI40.out; omega)
          clear HAP HF HB
          obtain ⟨S7, hS7⟩ : ∃ S7, S7 = S := ⟨_, rfl⟩
          subst hS7
          have HLO := Aside0.mk (show S7.loose.length ≤ 1099511627776 by rw [HW7.out.lo]; simp)
          go_upto_region 34 with (first | (go_at_call 33; refine Calls.mono (num_calls _ _) ?_; rintro e wn ⟨rfl, rfl⟩) | (go_at_call 39; refine Calls.mono (fall_log HL7.out HLO.out HM7.out (falls_full HW7.out HT7.out) _ _ _ _) ?_; rintro e w50 ⟨rfl, S50, X50, h50, n50, g1, g2, g3, g4, C5, cs5, cz5, l5, g5, g6⟩; have HS50 := Aside0.mk h50; have HD50 := Aside0.mk (And.intro g1 (And.intro g2 (And.intro g5 g6))); have HB50 := Aside0.mk (LogM.thru HL7.out HB7.out (Nat.le_refl _) n50); have HN50 := Aside0.mk (HN7.out.next n50); clear h50 n50 g1 g2 g3 g4 g5 g6) | (go_at_call 32; refine Calls.mono (open_log HS50.out HD50.out.1 HD50.out.2.1 HD50.out.2.2.2 (by have := HD50.out.2.2.1.1; omega)) ?_; rintro e w52 ⟨q5, rfl, hq, ⟨X52, hl, hx⟩, hw, hb⟩; have HL52 := Aside0.mk hl; have HW52 := Aside0.mk hw; have HN52 := Aside0.mk (HN50.out.below hb hx); have HB52 := Aside0.mk (below_step HB50.out hb); clear hq hl hx hw hb) | fail)
          have HE5 := Aside0.mk HD50.out.2.2.1.2
          have HL5 := Aside0.mk (show l5.length ≤ 1099511627776 from Nat.le_trans (len_le l5) (Nat.le_trans HW52.out.len (by omega)))
          go_wp2_with (first | (go_at_call 33; refine Calls.mono (num_calls _ _) ?_; rintro e wn ⟨rfl, rfl⟩) | (go_at_call 37; refine Calls.mono (recs_whole HL52.out HW52.out) ?_; rintro e w53 ⟨vr, rfl, ho, hb⟩; have HO53 := Aside0.mk (StrS.of_own ho); have HN53 := Aside0.mk (HN52.out.same hb); have HB53 := Aside0.mk (below_step HB52.out hb); clear ho hb) | (go_at_call 36; refine Calls.mono (texts_yes HO53.out HN53.out HL5.out HE5.out) ?_; rintro e w54 ⟨rfl, hb⟩; have HB54 := Aside0.mk (below_step HB53.out hb); clear hb) | (go_at_call 30; refine Calls.mono (awake_calls _) ?_; rintro e wz ⟨rfl, hb⟩; have HBz := Aside0.mk (below_step HB54.out hb); clear hb) | fail)
          go_ret
          exact ⟨rfl, HBz.out⟩
        · have HAZ := Aside0.mk (And.intro he (And.intro hw (And.intro hlz (And.intro htz hNz))))
          clear he hw hlz htz hNz HAF
          go_upto_region 30 with (first | (go_at_call 38; refine Calls.mono (HAP.out _ _ _ (alloc_below _ _) (one_str _ littleB)) ?_; rintro e w6 ⟨rfl, hx⟩; rw [HAZ.out.1]; obtain ⟨X6, h6, n6⟩ := hx HAZ.out.2.1.inv; have HL6 := Aside0.mk h6; have HB6 := Aside0.mk (LogM.thru (HF.out.log.below (alloc_below _ _)) (below_alloc HB.out _) (Nat.le_refl _) n6); clear h6 n6 hx) | fail)
          clear HAP
          go_upto_region 32 with (first | (go_at_call 33; refine Calls.mono (num_calls _ _) ?_; rintro e wn ⟨rfl, rfl⟩) | fail)
          have HL7 := Aside0.mk (HL6.out.below (alloc_below w6 (.cells #[.string littleB] 9)))
          have HB7 := Aside0.mk (below_alloc HB6.out (.cells #[.string littleB] 9))
          have HN7 := Aside0.mk (show Rd (w6.alloc (.cells #[.string littleB] 9)) X6 (.slice (some ⟨w6.heap.size, 0, none⟩) 1 1) R.W.l by rw [HAZ.out.2.2.1]; exact Rd.fresh (n := w6.heap.size) (StrS.mono (one_str w6 littleB) (fun k _ e => Nat.le_of_eq e.symm)) HL6.out.lt)
          have HW7 := Aside0.mk HAZ.out.2.1
          have HM7 := Aside0.mk HAZ.out.2.2.2.2
          have HT7 := Aside0.mk (show R.W.turn ≤ 1001 by have := HAZ.out.2.2.2.1; have := HF.out.turn; have := HI40.out; omega)
          clear HAZ HF HB HL6 HB6
          generalize R.S = S7 at HL7 HW7 HM7
          generalize R.W = W7 at HL7 HW7 HN7 HT7
          have HLO := Aside0.mk (show S7.loose.length ≤ 1099511627776 by rw [HW7.out.lo]; simp)
          go_upto_region 34 with (first | (go_at_call 33; refine Calls.mono (num_calls _ _) ?_; rintro e wn ⟨rfl, rfl⟩) | (go_at_call 39; refine Calls.mono (fall_log HL7.out HLO.out HM7.out (falls_full HW7.out HT7.out) _ _ _ _) ?_; rintro e w50 ⟨rfl, S50, X50, h50, n50, g1, g2, g3, g4, C5, cs5, cz5, l5, g5, g6⟩; have HS50 := Aside0.mk h50; have HD50 := Aside0.mk (And.intro g1 (And.intro g2 (And.intro g5 g6))); have HB50 := Aside0.mk (LogM.thru HL7.out HB7.out (Nat.le_refl _) n50); have HN50 := Aside0.mk (HN7.out.next n50); clear h50 n50 g1 g2 g3 g4 g5 g6) | (go_at_call 32; refine Calls.mono (open_log HS50.out HD50.out.1 HD50.out.2.1 HD50.out.2.2.2 (by have := HD50.out.2.2.1.1; omega)) ?_; rintro e w52 ⟨q5, rfl, hq, ⟨X52, hl, hx⟩, hw, hb⟩; have HL52 := Aside0.mk hl; have HW52 := Aside0.mk hw; have HN52 := Aside0.mk (HN50.out.below hb hx); have HB52 := Aside0.mk (below_step HB50.out hb); clear hq hl hx hw hb) | fail)
          have HE5 := Aside0.mk HD50.out.2.2.1.2
          have HL5 := Aside0.mk (show l5.length ≤ 1099511627776 from Nat.le_trans (len_le l5) (Nat.le_trans HW52.out.len (by omega)))
          go_wp2_with (first | (go_at_call 33; refine Calls.mono (num_calls _ _) ?_; rintro e wn ⟨rfl, rfl⟩) | (go_at_call 37; refine Calls.mono (recs_whole HL52.out HW52.out) ?_; rintro e w53 ⟨vr, rfl, ho, hb⟩; have HO53 := Aside0.mk (StrS.of_own ho); have HN53 := Aside0.mk (HN52.out.same hb); have HB53 := Aside0.mk (below_step HB52.out hb); clear ho hb) | (go_at_call 36; refine Calls.mono (texts_yes HO53.out HN53.out HL5.out HE5.out) ?_; rintro e w54 ⟨rfl, hb⟩; have HB54 := Aside0.mk (below_step HB53.out hb); clear hb) | (go_at_call 30; refine Calls.mono (awake_calls _) ?_; rintro e wz ⟨rfl, hb⟩; have HBz := Aside0.mk (below_step HB54.out hb); clear hb) | fail)
          go_ret
          exact ⟨rfl, HBz.out⟩
  · have hg1 : (40 : Int) < (ls.length : Int) := by omega
    go_enter Try.func6, Try.ntmps6
    go_wp2_with (first | (go_at_call 30; refine Calls.mono (awake_calls _) ?_; rintro e wz ⟨rfl, hb⟩; have HBz := Aside0.mk (hb); clear hb) | fail)
    go_ret
    exact ⟨rfl, HBz.out⟩
set_option maxRecDepth 100000 in
theorem walk {H : Type} {enc : TypeId × Value → H} {W : World} {r : Reach} {b0 : Nat} {base : Nat} {spare : Nat → Bool} {held : Bool} {d1 : DataW H} {p1 : List MemPlace} (n : Int) (hn : (Lit.int .u16 n).wf = true) (v1 : Value) (o1 : Value.okWide Try.prog W r b0 38 v1) (h1 : DataW.Trod enc Try.prog W base spare held 38 v1 d1 p1) (_w : World) :
    Calls Try.prog 6 #[.int .u16 n, v1] W fun e w' => e = .returned (.bool true) ∧ Below W.heap.size W w' := by
  obtain ⟨l, A, c, rfl, hc, hcm, hr⟩ := u8s_arg o1 h1
  have hb : IntKind.u16.min ≤ n ∧ n ≤ IntKind.u16.max := by simpa [Lit.wf] using hn
  have h0 : 0 ≤ n := hb.1
  have h255 : n ≤ 65535 := hb.2
  obtain ⟨m, rfl⟩ : ∃ m : Nat, n = (m : Int) := ⟨n.toNat, by omega⟩
  exact run m (by omega) l hc W hr
end Go.Proofs.Ytmgkflkpompchaa.WalFull
