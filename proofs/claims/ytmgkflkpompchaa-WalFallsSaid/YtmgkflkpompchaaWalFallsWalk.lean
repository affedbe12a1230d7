/- brooklaw17.WalFalls, walked: at every input it answers true. No condition. -/
import Derived.Test.YtmgkflkpompchaaWalFallsPure
import Derived.Test.YtmgkflkpompchaaArgsAct
namespace Go.Proofs.Ytmgkflkpompchaa.WalFalls
open Go.RowKit Go.Proofs.YtmgkflkpompchaaW.PrintWords Go.Proofs.YtmgkflkpompchaaW.PrintLast Go.Proofs.YtmgkflkpompchaaW.PrintMore Go.Proofs.Ytmgkflkpompchaa.Strip Go.Proofs.Ytmgkflkpompchaa.Wal Go.Proofs.Ytmgkflkpompchaa.Args
set_option linter.unusedVariables false
set_option linter.unusedSimpArgs false

set_option maxHeartbeats 25600000 in
set_option maxRecDepth 100000 in
theorem run (ls : List (List Int)) (an : List Int) (cm : Nat) (hcm : cm ≤ 255) (bl cr ke tn : Int) (fs : List Int) {A0 A1 A2 : Option Addr} {c0 c1 c2 : Nat} (hc0 : ls.length ≤ c0) (hc1 : an.length ≤ c1) (hc2 : fs.length ≤ c2) (w : World) (h0 : ARow U8s 1 w A0 ls) (h1 : ARow U8 1 w A1 an) (h2 : ARow U8 1 w A2 fs) :
    Calls Try.prog 7 #[.slice A0 ls.length c0, .slice A1 an.length c1, .int .u8 (cm : Int), .agg #[.int .i64 bl, .int .i64 cr, .int .i64 ke, .int .i64 tn], .slice A2 fs.length c2] w fun e w' => e = .returned (.bool true) ∧ Below w.heap.size w w' := by
  have H0 := Aside0.mk h0
  have H1 := Aside0.mk h1
  have H2 := Aside0.mk h2
  clear h0 h1 h2
  by_cases hgo : ls.length ≤ 15 ∧ ls.length ≤ an.length ∧ fs.length ≤ 5
  · have hg1 : ¬ (15 : Int) < (ls.length : Int) := by omega
    have hg2 : ¬ (an.length : Int) < (ls.length : Int) := by omega
    have hg3 : ¬ (5 : Int) < (fs.length : Int) := by omega
    have hm60 : Int.tmod (cm : Int) 60 = ((cm % 60 : Nat) : Int) := by rw [Int.tmod_eq_emod_of_nonneg (by omega)]; omega
    have hm61 : 0 ≤ (cm : Int) % 60 := by omega
    have hm62 : (cm : Int) % 60 ≤ 59 := by omega
    go_enter Try.func7, Try.ntmps7
    go_upto_region 3 with (first | ((with_reducible refine gate_dst (N := 8) rfl ?_); refine box_event ?hg (N := 8) ?hd (cs := #[.int .i64 bl, .int .i64 cr, .int .i64 ke, .int .i64 tn]) (t := 42) ?hr ?_; (case hd => rfl); (case hg => rfl); (case hr => first | (go_simp; done) | (go_simp; rfl)); intro gb hg w0 hbox hb; have HB0 := Aside0.mk hb; have BK := Aside0.mk hbox; clear hb hbox hg) | fail)
    have HK2 := Aside0.mk (show w0.cell? ⟨gb, 2, none⟩ = some (.int .i64 ke) from (blk_cell BK.out 2).trans rfl)
    have HK3 := Aside0.mk (show w0.cell? ⟨gb, 3, none⟩ = some (.int .i64 tn) from (blk_cell BK.out 3).trans rfl)
    go_upto_region 8 with (first | (go_at_call 40; refine Calls.mono (room_plan_calls _) ?_; rintro e w1 ⟨rfl, hb⟩; have HB1 := Aside0.mk hb; clear hb) | (go_at_call 31; refine Calls.mono (new_any _ _ _ _) ?_; rintro e w2 ⟨p, X2, S2, rfl, hs, hd, hl, hN, hD, hb⟩; obtain ⟨BB, hBB, hs⟩ : ∃ BB, w0.heap.size ≤ BB ∧ StripM BB w2 p S2 X2 := ⟨_, (below_alloc HB1.out _).size, hs⟩; have HBB := Aside0.mk hBB; clear hBB; have HS2 := Aside0.mk hs; have HD2 := Aside0.mk (And.intro hd (And.intro hl (And.intro hN hD))); have HB2 := Aside0.mk (below_step (below_alloc HB1.out _) hb); clear hb hs hd hl hN hD) | fail)
    clear hm60 hm61 hm62
    go_upto_region 11 with (first | (go_at_call 32; refine Calls.mono (open_log HS2.out HD2.out.1 HD2.out.2.1 HD2.out.2.2.2 (by omega)) ?_; rintro e w3 ⟨q, rfl, hq, ⟨X3, hl, hx3⟩, hw, hb⟩; have HL3 := Aside0.mk hl; have HW3 := Aside0.mk hw; have HB3 := Aside0.mk (below_step HB2.out hb); clear hb hl hq hw hx3) | (go_at_call 33; refine Calls.mono (num_calls _ _) ?_; rintro e wn ⟨rfl, rfl⟩) | fail)
    have HF3 := Aside0.mk (FA.mk (w := w3) (i := 0) HL3.out HD2.out.2.2.1 (by rw [HD2.out.2.1]; simp) (Rd.nil _ _) (Rd.nil _ _) ⟨Nat.zero_le _, fun b hb => by cases hb⟩ ⟨Nat.zero_le _, fun b hb => by cases hb⟩ (FallsTo.of_whole HW3.out (by show 0 ≤ _; omega) []) (fun _ => ⟨HW3.out, rfl, Nat.le_refl _⟩))
    clear HL3 HW3 HS2
    go_upto_region 13 with fail
    go_loopw [15, 16, 17] (fun v15 v16 v17 w' => ∃ (i : Nat) (S : St) (W : Wl) (X : Nat → Prop) (xs ys : List ByteArray), v17 = .int .i64 i ∧ Aside0 (i ≤ ls.length) ∧ Aside0 (FA BB w' p q S W X v15 v16 xs ys i) ∧ Aside0 (Below w0.heap.size w0 w')) (fun _ _ v17 _ => ls.length - (intOf v17).toNat)
    case atStart => exact ⟨0, _, _, _, _, _, rfl, ⟨Nat.zero_le _⟩, HF3, HB3⟩
    case round =>
      clear HF3 HB3
      obtain ⟨i, S, W, X, xs, ys, rfl, HN, HF, HB⟩ := hrel
      have hN := HN.out
      by_cases hlt : i < ls.length
      · cases hd : S.down with
        | false =>
          have hlti : (i : Int) < (ls.length : Int) := by omega
          have hlta : (i : Int) < (an.length : Int) := by omega
          have HI15 := Aside0.mk (show i < 15 by omega)
          have HUP := Aside0.mk hd
          obtain ⟨hw, hxs, ht⟩ := HF.out.live hd
          clear hd
          have HW := Aside0.mk hw
          have HT := Aside0.mk ht
          clear hw ht
          subst hxs
          obtain ⟨ad, Bg, cg, e0, hx0, hcg, hcgm, hrg⟩ := H0.out.u8s_at i hlt
          cases e0
          have HRG := Aside0.mk hrg
          have HCG := Aside0.mk (And.intro hcg hcgm)
          have HX0 := Aside0.mk hx0
          clear hrg hcg hcgm hx0
          generalize ls[i] = ns at HX0 HRG HCG
          obtain ⟨ad1, e1, hx1, hy0, hy1⟩ := H1.out.u8_at i (by omega)
          cases e1
          generalize an[i] = y at hx1 hy0 hy1
          obtain ⟨m, rfl⟩ : ∃ m : Nat, y = (m : Int) := ⟨y.toNat, by omega⟩
          have HX := Aside0.mk hx1
          clear hx1
          have hx2 := pw_cell_below (below_step HB0.out HB.out) HX0.out
          go_upto_region 16 with (first | (go_at_call 41; refine Calls.mono (down_log (b := false) HF.out.log HUP.out) ?_; rintro e wn ⟨rfl, rfl⟩) | (go_at_call 34; refine Calls.mono (group_calls (HRG.out.u8 (below_step HB0.out HB.out)) HCG.out.1 HCG.out.2) ?_; rintro e w5 ⟨gv, rfl, ho, hb⟩; have HG5 := Aside0.mk (Rd.fresh (StrS.of_own ho) HF.out.log.lt); have HF5 := Aside0.mk (HF.out.below hb); have HB5 := Aside0.mk (below_step HB.out hb); clear ho hb) | fail)
          clear hx2 HF HB
          have hx3 := pw_cell_below (below_step HB0.out HB5.out) HX.out
          have ht5 : Int.tmod (m : Int) 5 = ((m % 5 : Nat) : Int) := by rw [Int.tmod_eq_emod_of_nonneg (by omega)]; omega
          obtain ⟨A15, c15, rfl⟩ := HF5.out.held.slice
          obtain ⟨Ag, cg2, rfl⟩ := HG5.out.slice
          have HGL := Aside0.mk (groupL_len ns)
          by_cases h5 : m % 5 = 0
          · have h5i : ((m % 5 : Nat) : Int) = 0 := by omega
            go_upto_region 17 with fail
            have hcap : W.l.length ≤ c15 := by obtain ⟨A, c, e, h1, _⟩ := HF5.out.held; injection e with _ _ e; subst e; exact h1
            have hlen : W.l.length ≤ 1099511627776 := Nat.le_trans (len_le W.l) (Nat.le_trans HW.out.len (by omega))
            have hd1 : (W.l.length : Int) / 2 ≤ (c15 : Int) := by omega
            have hd0 : (0 : Int) ≤ (W.l.length : Int) / 2 := by omega
            have hdv : Int.tdiv (W.l.length : Int) 2 = ((W.l.length / 2 : Nat) : Int) := by rw [Int.tdiv_eq_ediv_of_nonneg (by omega)]; omega
            have HLH := Aside0.mk (show (W.l.take (W.l.length / 2)).length = W.l.length / 2 by rw [List.length_take]; omega)
            have HH := Aside0.mk (show Rd w5 X (.slice A15 (W.l.take (W.l.length / 2)).length c15) (W.l.take (W.l.length / 2)) by rw [HLH.out]; exact StrS.take HF5.out.held (W.l.length / 2) (by omega))
            clear hcap
            go_upto_region 18 with (first | ((with_reducible refine gate_builtin (b := .append) (xs := #[.tmp 97, .tmp 102]) rfl ?_); at_builtin; refine row_append (w0 := w5) rfl (.tmp 97) (.tmp 102) rfl rfl (by rw [HLH.out]; rfl) (Row.lit w5 X HF5.out.log.lt) (HH.out.same (alloc_below _ _)) (HF5.out.log.lt' (alloc_below _ _)) (alloc_below _ _) (by have := HF5.out.fewx.1; have := HI15.out; have := HLH.out; simp only [List.length_nil]; omega) ?_; intro v8 w8 hr hb hg ha; have HRa := Aside0.mk hr; have HBa := Aside0.mk hb; clear hr hb hg ha) | ((with_reducible refine gate_builtin (b := .append) (xs := #[.tmp 103, .tmp 104]) rfl ?_); at_builtin; refine row_append (w0 := w5) rfl (.tmp 103) (.tmp 104) rfl rfl rfl HRa.out (HG5.out.same HBa.out) (HF5.out.log.lt' HBa.out) HBa.out (by have := HF5.out.fewx.1; have := HI15.out; have := HLH.out; have := HGL.out; simp only [List.length_append, List.length_nil]; omega) ?_; intro v9 w9 hr hb hg ha; have HR9 := Aside0.mk hr; have HBb := Aside0.mk hb; clear hr hb hg ha) | fail)
            clear hd0 hd1 hdv hx3 HLH HH hlen
            have HF9 := Aside0.mk (HF5.out.below HBb.out)
            have HG9 := Aside0.mk (HG5.out.same HBb.out)
            have HB9 := Aside0.mk (below_step HB5.out HBb.out)
            have HN9 := Aside0.mk (show Rd w9 X v9 (W.l.take (W.l.length / 2) ++ groupL ns) from HR9.out.rd)
            clear HRa HBa HR9 HBb HF5 HG5 HB5
            have HFW := Aside0.mk (show Few (6 * (i + 1)) (W.l.take (W.l.length / 2) ++ groupL ns) from ((HF9.out.fewx.take (W.l.length / 2)).append (Few.group ns)).mono (by omega))
            have HLS := Aside0.mk (chg_loose HW.out (l := W.l.take (W.l.length / 2) ++ groupL ns) (all := W.l.take (W.l.length / 2) ++ groupL ns) (side := ((W.side + 1) % 2)) (at_ := 0) (by omega))
            have HAF := Aside0.mk (check_few HW.out (by have := HT.out; have := HI15.out; omega) HF9.out.room (l := W.l.take (W.l.length / 2) ++ groupL ns) (HFW.out.mono (by have := HI15.out; omega)))
            have HAP := Aside0.mk (check_whole HF9.out.log HW.out HN9.out (by have := HFW.out.sum; have := HI15.out; omega))
            generalize chgR S W (W.l.take (W.l.length / 2) ++ groupL ns) (W.l.take (W.l.length / 2) ++ groupL ns) ((W.side + 1) % 2) 0 = R at HAF HAP HLS
            go_upto_region 21 with (first | (go_at_call 38; refine Calls.mono HAP.out ?_; rintro e w10 ⟨rfl, hx⟩; obtain ⟨X10, h10, n10⟩ := hx HAF.out.2.1; have HL10 := Aside0.mk h10; have HB10 := Aside0.mk (LogM.thru HF9.out.log HB9.out HBB.out n10); have HN10 := Aside0.mk (HN9.out.next n10); have HH10 := Aside0.mk (HF9.out.held.next n10); clear h10 n10 hx) | fail)
            clear HAP HN9 HG9
            have HFX := Aside0.mk HF9.out.fewx
            clear HF9 HB9
            rcases res_two HAF.out with ⟨he, hw⟩ | ⟨he, hw, hz⟩
            · rw [he]
              have HFN := Aside0.mk (fa_done HAF.out (by have := HI15.out; omega) HT.out he HL10.out HN10.out HFW.out)
              clear he hw HAF HL10 HN10 HH10 HFW HLS HFX
              go_wp2_with (first | (go_at_call 33; refine Calls.mono (num_calls _ _) ?_; rintro e wn ⟨rfl, rfl⟩) | fail)
              go_roundw
              case rel => exact ⟨i + 1, _, _, _, _, _, by go_num, ⟨by omega⟩, HFN, HB10⟩
              case measure => simp [intOf]; omega
            · rw [he]
              have HDN := Aside0.mk hw
              rw [hz] at HL10
              have HHE := Aside0.mk he
              clear he hw hz
              go_wp2_with (first | (go_at_call 33; refine Calls.mono (num_calls _ _) ?_; rintro e wn ⟨rfl, rfl⟩) | (go_at_call 41; refine Calls.mono (down_log (b := true) HL10.out HDN.out) ?_; rintro e wn ⟨rfl, rfl⟩) | (go_at_call 35; refine Calls.mono (append_dead (HL10.out.below (alloc_below _ _)) HW.out (one_str _ _) (by decide)) ?_; rintro e w11 ⟨rfl, X11, h11, n11⟩; have HFN := Aside0.mk (fa_fell HAF.out (by have := HI15.out; omega) HT.out HHE.out HLS.out h11 ((HH10.out.same (alloc_below _ _)).next n11) ((HN10.out.same (alloc_below _ _)).next n11) HFX.out HFW.out); have HB11 := Aside0.mk (LogM.thru (HL10.out.below (alloc_below _ _)) (below_alloc HB10.out _) HBB.out n11); clear h11 n11) | fail)
              clear HL10 HN10 HH10 HAF HLS HFX HFW
              go_roundw
              case rel => exact ⟨i + 1, _, _, _, _, _, by go_num, ⟨by omega⟩, HFN, HB11⟩
              case measure => simp [intOf]; omega
          · have h5i : ¬ ((m % 5 : Nat) : Int) = 0 := by omega
            go_upto_region 19 with fail
            have HLH := HGL
            have HH := Aside0.mk HF5.out.held
            go_upto_region 20 with (first | ((with_reducible refine gate_builtin (b := .append) (xs := #[.tmp 109, .tmp 110]) rfl ?_); at_builtin; refine row_append (w0 := w5) rfl (.tmp 109) (.tmp 110) rfl rfl rfl (Row.lit w5 X HF5.out.log.lt) (HH.out.same (alloc_below _ _)) (HF5.out.log.lt' (alloc_below _ _)) (alloc_below _ _) (by have := HF5.out.fewx.1; have := HI15.out; have := HLH.out; simp only [List.length_nil]; omega) ?_; intro v8 w8 hr hb hg ha; have HRa := Aside0.mk hr; have HBa := Aside0.mk hb; clear hr hb hg ha) | ((with_reducible refine gate_builtin (b := .append) (xs := #[.tmp 111, .tmp 112]) rfl ?_); at_builtin; refine row_append (w0 := w5) rfl (.tmp 111) (.tmp 112) rfl rfl rfl HRa.out (HG5.out.same HBa.out) (HF5.out.log.lt' HBa.out) HBa.out (by have := HF5.out.fewx.1; have := HI15.out; have := HLH.out; have := HGL.out; simp only [List.length_append, List.length_nil]; omega) ?_; intro v9 w9 hr hb hg ha; have HR9 := Aside0.mk hr; have HBb := Aside0.mk hb; clear hr hb hg ha) | fail)
            clear hx3 HLH HH
            have HF9 := Aside0.mk (HF5.out.below HBb.out)
            have HG9 := Aside0.mk (HG5.out.same HBb.out)
            have HB9 := Aside0.mk (below_step HB5.out HBb.out)
            have HN9 := Aside0.mk (show Rd w9 X v9 (W.l ++ groupL ns) from HR9.out.rd)
            clear HRa HBa HR9 HBb HF5 HG5 HB5
            have HFW := Aside0.mk (show Few (6 * (i + 1)) (W.l ++ groupL ns) from (HF9.out.fewx.append (Few.group ns)).mono (by omega))
            have HLS := Aside0.mk (chg_loose HW.out (l := groupL ns) (all := W.l ++ groupL ns) (side := W.side) (at_ := W.size) HW.out.disk.hside)
            have HAF := Aside0.mk (append_few HW.out (by have := HT.out; have := HI15.out; omega) HF9.out.room (l := groupL ns) (HFW.out.mono (by have := HI15.out; omega)))
            have HAP := Aside0.mk (append_whole HF9.out.log HW.out HG9.out (by have := (Few.group ns).sum; have := HI15.out; omega))
            generalize chgR S W (groupL ns) (W.l ++ groupL ns) W.side W.size = R at HAF HAP HLS
            go_upto_region 21 with (first | (go_at_call 35; refine Calls.mono HAP.out ?_; rintro e w10 ⟨rfl, hx⟩; obtain ⟨X10, h10, n10⟩ := hx HAF.out.2.1; have HL10 := Aside0.mk h10; have HB10 := Aside0.mk (LogM.thru HF9.out.log HB9.out HBB.out n10); have HN10 := Aside0.mk (HN9.out.next n10); have HH10 := Aside0.mk (HF9.out.held.next n10); clear h10 n10 hx) | fail)
            clear HAP HN9 HG9
            have HFX := Aside0.mk HF9.out.fewx
            clear HF9 HB9
            rcases res_two HAF.out with ⟨he, hw⟩ | ⟨he, hw, hz⟩
            · rw [he]
              have HFN := Aside0.mk (fa_done HAF.out (by have := HI15.out; omega) HT.out he HL10.out HN10.out HFW.out)
              clear he hw HAF HL10 HN10 HH10 HFW HLS HFX
              go_wp2_with (first | (go_at_call 33; refine Calls.mono (num_calls _ _) ?_; rintro e wn ⟨rfl, rfl⟩) | fail)
              go_roundw
              case rel => exact ⟨i + 1, _, _, _, _, _, by go_num, ⟨by omega⟩, HFN, HB10⟩
              case measure => simp [intOf]; omega
            · rw [he]
              have HDN := Aside0.mk hw
              rw [hz] at HL10
              have HHE := Aside0.mk he
              clear he hw hz
              go_wp2_with (first | (go_at_call 33; refine Calls.mono (num_calls _ _) ?_; rintro e wn ⟨rfl, rfl⟩) | (go_at_call 41; refine Calls.mono (down_log (b := true) HL10.out HDN.out) ?_; rintro e wn ⟨rfl, rfl⟩) | (go_at_call 35; refine Calls.mono (append_dead (HL10.out.below (alloc_below _ _)) HW.out (one_str _ _) (by decide)) ?_; rintro e w11 ⟨rfl, X11, h11, n11⟩; have HFN := Aside0.mk (fa_fell HAF.out (by have := HI15.out; omega) HT.out HHE.out HLS.out h11 ((HH10.out.same (alloc_below _ _)).next n11) ((HN10.out.same (alloc_below _ _)).next n11) HFX.out HFW.out); have HB11 := Aside0.mk (LogM.thru (HL10.out.below (alloc_below _ _)) (below_alloc HB10.out _) HBB.out n11); clear h11 n11) | fail)
              clear HL10 HN10 HH10 HAF HLS HFX HFW
              go_roundw
              case rel => exact ⟨i + 1, _, _, _, _, _, by go_num, ⟨by omega⟩, HFN, HB11⟩
              case measure => simp [intOf]; omega
        | true =>
          have hlti : (i : Int) < (ls.length : Int) := by omega
          have HUP := Aside0.mk hd
          clear hd
          go_upto_region 26 with (first | (go_at_call 41; refine Calls.mono (down_log (b := true) HF.out.log HUP.out) ?_; rintro e wn ⟨rfl, rfl⟩) | fail)
          obtain ⟨wo, rfl⟩ : ∃ wo : World, wo = wr := ⟨_, rfl⟩
          have HI15 := Aside0.mk (show i ≤ 15 by omega)
          obtain ⟨F, hfb⟩ := HF.out.fb HI15.out
          have HG0 := Aside0.mk hfb
          clear hfb HF hN
          go_loopw [19] (fun v19 w' => ∃ (j : Nat) (S : St) (X : Nat → Prop), v19 = .int .i64 j ∧ Aside0 (j ≤ fs.length) ∧ Aside0 (FB BB w' p S X u15 u16 xs ys) ∧ Aside0 (Below w0.heap.size w0 w')) (fun v19 _ => fs.length - (intOf v19).toNat)
          case atStart => exact ⟨0, _, _, rfl, ⟨Nat.zero_le _⟩, HG0, HB⟩
          case round =>
            clear HG0 HB
            obtain ⟨j, S, X, rfl, HN2, HG, HB⟩ := hrel
            have hN2 := HN2.out
            by_cases hlt2 : j < fs.length
            · have hlt2i : (j : Int) < (fs.length : Int) := by omega
              obtain ⟨ad2, e2, hx1, hy0, hy1⟩ := H2.out.u8_at j hlt2
              cases e2
              generalize fs[j] = y at hx1 hy0 hy1
              obtain ⟨n, rfl⟩ : ∃ n : Nat, y = (n : Int) := ⟨y.toNat, by omega⟩
              have HXF := Aside0.mk hx1
              clear hx1
              have ht4 : Int.tmod (n : Int) 4 = ((n % 4 : Nat) : Int) := by rw [Int.tmod_eq_emod_of_nonneg (by omega)]; omega
              have ht41 : 0 ≤ (n : Int) % 4 := by omega
              have ht42 : (n : Int) % 4 ≤ 3 := by omega
              have HGD := Aside0.mk (HG.out.below (below_drew (Below.refl _ _)))
              have HBD := Aside0.mk (below_drew HB.out)
              go_upto_region 28 with fail
              go_region_held3 (fun w' => w'.cell? (ad2.add j) = some (.int .u8 (n : Int)) ∧ w'.cell? ⟨gb, 2, none⟩ = some (.int .i64 ke) ∧ w'.cell? ⟨gb, 3, none⟩ = some (.int .i64 tn)) (first | exact ⟨pw_cell_below (below_step HB0.out HBD.out) HXF.out, pw_cell_below HBD.out HK2.out, pw_cell_below HBD.out HK3.out⟩ | exact ⟨pw_cell_below (below_step HB0.out HB11.out) HXF.out, pw_cell_below HB11.out HK2.out, pw_cell_below HB11.out HK3.out⟩) ((go_at_call 39; refine Calls.mono (fb_fall HGD.out _ _ _ _) ?_; rintro e w11 ⟨rfl, S11, X11, h11, n11, g1, g2, g4, C, cs, cz, l, g5, g6⟩; have HG11 := Aside0.mk h11; have HD11 := Aside0.mk (And.intro g1 (And.intro g2 (And.intro g1 (And.intro g5 g6)))); have HB11 := Aside0.mk (StripM.thru HGD.out.strip HBD.out HBB.out n11); clear h11 n11 g1 g2 g4 g5 g6))
              clear HG HGD HB HBD ht4 ht41 ht42
              go_upto_region 30 with (first | (go_at_call 32; refine Calls.mono (open_log HG11.out.strip HD11.out.1 HD11.out.2.1 HD11.out.2.2.2.2 (by have := HD11.out.2.2.2.1.1; omega)) ?_; rintro e w12 ⟨q2, rfl, hq, ⟨X12, hl, hx⟩, hw, hb⟩; have HL12 := Aside0.mk hl; have HW12 := Aside0.mk hw; have HG12 := Aside0.mk (HG11.out.below hb); have HB12 := Aside0.mk (below_step HB11.out hb); clear hq hl hx hw hb) | fail)
              have HLN := Aside0.mk (show l.length ≤ 1099511627776 from Nat.le_trans (len_le l) (Nat.le_trans HW12.out.len (by omega)))
              have HTW := Aside0.mk HD11.out.2.2.2.1.2
              by_cases hq : l = xs
              · have HEQheld := Aside0.mk hq
                clear hq
                go_wp2_with (first | (go_at_call 33; refine Calls.mono (num_calls _ _) ?_; rintro e wn ⟨rfl, rfl⟩) | (go_at_call 37; refine Calls.mono (recs_whole HL12.out HW12.out) ?_; rintro e w20 ⟨vr, rfl, ho, hb⟩; have HO20 := Aside0.mk (StrS.of_own ho); have HL20 := Aside0.mk (HL12.out.below hb); have HG20 := Aside0.mk (HG12.out.below hb); have HB20 := Aside0.mk (below_step HB12.out hb); clear ho hb) | (go_at_call 36; refine Calls.mono (texts_yes HO20.out HG20.out.held HLN.out HEQheld.out) ?_; rintro e w21 ⟨rfl, hb⟩; have HL21 := Aside0.mk (HL20.out.below hb); have HG21 := Aside0.mk (HG20.out.below hb); have HB21 := Aside0.mk (below_step HB20.out hb); clear hb) | fail)
                go_roundw
                case rel => exact ⟨j + 1, S11, X11, by go_num, ⟨by omega⟩, HG21, HB21⟩
                case measure => simp [intOf]; omega
              · have HEQheld := Aside0.mk hq
                have HEQnext := Aside0.mk (HTW.out.resolve_left hq)
                clear hq
                go_wp2_with (first | (go_at_call 33; refine Calls.mono (num_calls _ _) ?_; rintro e wn ⟨rfl, rfl⟩) | (go_at_call 37; refine Calls.mono (recs_whole HL12.out HW12.out) ?_; rintro e w20 ⟨vr, rfl, ho, hb⟩; have HO20 := Aside0.mk (StrS.of_own ho); have HL20 := Aside0.mk (HL12.out.below hb); have HG20 := Aside0.mk (HG12.out.below hb); have HB20 := Aside0.mk (below_step HB12.out hb); clear ho hb) | (go_at_call 36; refine Calls.mono (texts_no HO20.out HG20.out.held HLN.out HEQheld.out) ?_; rintro e w21 ⟨rfl, hb⟩; have HL21 := Aside0.mk (HL20.out.below hb); have HG21 := Aside0.mk (HG20.out.below hb); have HB21 := Aside0.mk (below_step HB20.out hb); clear hb) | (go_at_call 37; refine Calls.mono (recs_whole HL21.out HW12.out) ?_; rintro e w22 ⟨vr, rfl, ho, hb⟩; have HO22 := Aside0.mk (StrS.of_own ho); have HL22 := Aside0.mk (HL21.out.below hb); have HG22 := Aside0.mk (HG21.out.below hb); have HB22 := Aside0.mk (below_step HB21.out hb); clear ho hb) | (go_at_call 36; refine Calls.mono (texts_yes HO22.out HG22.out.next HLN.out HEQnext.out) ?_; rintro e w23 ⟨rfl, hb⟩; have HL23 := Aside0.mk (HL22.out.below hb); have HG23 := Aside0.mk (HG22.out.below hb); have HB23 := Aside0.mk (below_step HB22.out hb); clear hb) | fail)
                go_roundw
                case rel => exact ⟨j + 1, S11, X11, by go_num, ⟨by omega⟩, HG23, HB23⟩
                case measure => simp [intOf]; omega
            · have hge2 : ¬ (j : Int) < (fs.length : Int) := by omega
              have hk2 := pw_cell_below HB.out HK2.out
              have hk3 := pw_cell_below HB.out HK3.out
              go_upto_region 34 with (first | (go_at_call 39; refine Calls.mono (fb_fall HG.out _ _ _ _) ?_; rintro e w11 ⟨rfl, S11, X11, h11, n11, g1, g2, g4, C, cs, cz, l, g5, g6⟩; have HG11 := Aside0.mk h11; have HD11 := Aside0.mk (And.intro g1 (And.intro g2 (And.intro (g4 (by omega)) (And.intro g5 g6)))); have HB11 := Aside0.mk (StripM.thru HG.out.strip HB.out HBB.out n11); clear h11 n11 g1 g2 g4 g5 g6) | (go_at_call 32; refine Calls.mono (open_log HG11.out.strip HD11.out.1 HD11.out.2.1 HD11.out.2.2.2.2 (by have := HD11.out.2.2.2.1.1; omega)) ?_; rintro e w12 ⟨q2, rfl, hq, ⟨X12, hl, hx⟩, hw, hb⟩; have HL12 := Aside0.mk hl; have HW12 := Aside0.mk hw; have HG12 := Aside0.mk (HG11.out.below hb); have HB12 := Aside0.mk (below_step HB11.out hb); clear hq hl hx hw hb) | fail)
              clear hk2 hk3
              have HLN := Aside0.mk (show l.length ≤ 1099511627776 from Nat.le_trans (len_le l) (Nat.le_trans HW12.out.len (by omega)))
              have HTW := Aside0.mk HD11.out.2.2.2.1.2
              by_cases hq : l = xs
              · have HEQheld := Aside0.mk hq
                clear hq
                go_upto_region 36 with (first | (go_at_call 33; refine Calls.mono (num_calls _ _) ?_; rintro e wn ⟨rfl, rfl⟩) | (go_at_call 37; refine Calls.mono (recs_whole HL12.out HW12.out) ?_; rintro e w20 ⟨vr, rfl, ho, hb⟩; have HO20 := Aside0.mk (StrS.of_own ho); have HL20 := Aside0.mk (HL12.out.below hb); have HG20 := Aside0.mk (HG12.out.below hb); have HB20 := Aside0.mk (below_step HB12.out hb); clear ho hb) | (go_at_call 36; refine Calls.mono (texts_yes HO20.out HG20.out.held HLN.out HEQheld.out) ?_; rintro e w21 ⟨rfl, hb⟩; have HL21 := Aside0.mk (HL20.out.below hb); have HG21 := Aside0.mk (HG20.out.below hb); have HB21 := Aside0.mk (below_step HB20.out hb); clear hb) | fail)
                clear HEQheld
                have HLF := Aside0.mk (show Few 90 l by rcases HTW.out with rfl | rfl; exact HG21.out.fewx; exact HG21.out.fewy)
                have HAR := Aside0.mk (more_is HW12.out HD11.out.2.2.2.1.1 HG11.out.room HD11.out.2.2.1 HLF.out)
                have HAP2 := Aside0.mk (fun (w5 : World) (v : Value) (G : Nat → Prop) (hb : Below w21.heap.size w21 w5) (hl : StrS w5 v [moreB] G) => append_whole (HL21.out.below hb) HW12.out hl (by decide))
                rw [show chgR S11 ⟨C, cs, cz, l, false⟩ [moreB] ((⟨C, cs, cz, l, false⟩ : Wl).l ++ [moreB]) (⟨C, cs, cz, l, false⟩ : Wl).side (⟨C, cs, cz, l, false⟩ : Wl).size = chgR S11 ⟨C, cs, cz, l, false⟩ [moreB] (l ++ [moreB]) cs cz from rfl] at HAP2
                generalize chgR S11 ⟨C, cs, cz, l, false⟩ [moreB] (l ++ [moreB]) cs cz = R2 at HAR HAP2
                clear HG11 HB11
                go_upto_region 37 with (first | (go_at_call 37; refine Calls.mono (recs_whole (HL21.out.below (alloc_below _ _)) HW12.out) ?_; rintro e w30 ⟨vr, rfl, ho, hb⟩; obtain ⟨Ar, cr2, rfl⟩ := own_slice ho; have HO30 := Aside0.mk (StrS.of_own ho); have HB30 := Aside0.mk (below_step (alloc_below w21 _) hb); have HR30 := Aside0.mk ((Row.lit w21 X12 HL21.out.lt).same hb); clear ho hb) | ((with_reducible refine gate_builtin (b := .append) (xs := #[.tmp 229, .tmp 231]) rfl ?_); at_builtin; refine row_append (w0 := w21) rfl (.tmp 229) (.tmp 231) rfl rfl rfl HR30.out HO30.out (HL21.out.lt' HB30.out) HB30.out (by have := HLF.out.1; simp only [List.length_nil]; omega) ?_; intro v31 w31 hr hb hg ha; have HR31 := Aside0.mk hr; have HB31 := Aside0.mk hb; clear hr hb hg ha) | ((with_reducible refine gate_builtin (b := .append) (xs := #[.tmp 232, .tmp 233]) rfl ?_); at_builtin; refine row_append (w0 := w21) (ys := [moreB]) rfl (.tmp 232) (.tmp 233) rfl rfl rfl (HR31.out.same (alloc_below _ _)) (one_str _ moreB) (HL21.out.lt' (below_alloc HB31.out _)) (below_alloc HB31.out _) (by have := HLF.out.1; simp only [List.length_append, List.length_cons, List.length_nil]; omega) ?_; intro v33 w33 hr hb hg ha; have HR33 := Aside0.mk hr; have HB33 := Aside0.mk hb; clear hr hb hg ha) | fail)
                have HN33 := Aside0.mk (show Rd w33 X12 v33 (l ++ [moreB]) from HR33.out.rd)
                clear HR30 HR31 HR33 HO30 HB30 HB31
                go_upto_region 38 with (first | (go_at_call 35; refine Calls.mono (HAP2.out _ _ _ (below_alloc HB33.out _) (one_str _ moreB)) ?_; rintro e w40 ⟨rfl, hx⟩; rw [HAR.out.1]; obtain ⟨X40, h40, n40⟩ := hx HAR.out.2.1.inv; have HL40 := Aside0.mk h40; have HN40 := Aside0.mk ((HN33.out.same (alloc_below _ _)).next n40); have HB40 := Aside0.mk (LogM.thru (HL21.out.below (below_alloc HB33.out _)) (below_step HB21.out (below_alloc HB33.out _)) HBB.out n40); clear h40 n40 hx) | fail)
                clear HAP2
                have HLO := Aside0.mk (show R2.S.loose.length ≤ 1099511627776 by rw [HAR.out.2.1.lo]; simp)
                go_upto_region 40 with (first | (go_at_call 39; refine Calls.mono (fall_log HL40.out HLO.out HAR.out.2.2.2.1 (falls_same HAR.out.2.1 HAR.out.2.2.2.2) _ _ _ _) ?_; rintro e w50 ⟨rfl, S50, X50, h50, n50, g1, g2, g3, g4, C5, cs5, cz5, l5, g5, g6⟩; have HS50 := Aside0.mk h50; have HD50 := Aside0.mk (And.intro g1 (And.intro g2 (And.intro g5 g6))); have HB50 := Aside0.mk (LogM.thru HL40.out HB40.out HBB.out n50); have HN50 := Aside0.mk (HN40.out.next n50); clear h50 n50 g1 g2 g3 g4 g5 g6) | (go_at_call 32; refine Calls.mono (open_log HS50.out HD50.out.1 HD50.out.2.1 HD50.out.2.2.2 (by have := HD50.out.2.2.1.1; omega)) ?_; rintro e w52 ⟨q5, rfl, hq, ⟨X52, hl, hx⟩, hw, hb⟩; have HL52 := Aside0.mk hl; have HW52 := Aside0.mk hw; have HN52 := Aside0.mk (HN50.out.below hb hx); have HB52 := Aside0.mk (below_step HB50.out hb); clear hq hl hx hw hb) | fail)
                have HE5 := Aside0.mk (show l5 = l ++ [moreB] from HD50.out.2.2.1.2.trans HAR.out.2.2.1)
                have HL5 := Aside0.mk (show l5.length ≤ 1099511627776 from Nat.le_trans (len_le l5) (Nat.le_trans HW52.out.len (by omega)))
                go_wp2_with (first | (go_at_call 33; refine Calls.mono (num_calls _ _) ?_; rintro e wn ⟨rfl, rfl⟩) | (go_at_call 37; refine Calls.mono (recs_whole HL52.out HW52.out) ?_; rintro e w53 ⟨vr, rfl, ho, hb⟩; have HO53 := Aside0.mk (StrS.of_own ho); have HN53 := Aside0.mk (HN52.out.same hb); have HB53 := Aside0.mk (below_step HB52.out hb); clear ho hb) | (go_at_call 36; refine Calls.mono (texts_yes HO53.out HN53.out HL5.out HE5.out) ?_; rintro e w54 ⟨rfl, hb⟩; have HB54 := Aside0.mk (below_step HB53.out hb); clear hb) | (go_at_call 30; refine Calls.mono (awake_calls _) ?_; rintro e wz ⟨rfl, hb⟩; have HBz := Aside0.mk (below_step HB54.out hb); clear hb) | fail)
                go_ret
                exact ⟨rfl, below_step HB0.out HBz.out⟩
              · have HEQheld := Aside0.mk hq
                have HEQnext := Aside0.mk (HTW.out.resolve_left hq)
                clear hq
                go_upto_region 36 with (first | (go_at_call 33; refine Calls.mono (num_calls _ _) ?_; rintro e wn ⟨rfl, rfl⟩) | (go_at_call 37; refine Calls.mono (recs_whole HL12.out HW12.out) ?_; rintro e w20 ⟨vr, rfl, ho, hb⟩; have HO20 := Aside0.mk (StrS.of_own ho); have HL20 := Aside0.mk (HL12.out.below hb); have HG20 := Aside0.mk (HG12.out.below hb); have HB20 := Aside0.mk (below_step HB12.out hb); clear ho hb) | (go_at_call 36; refine Calls.mono (texts_no HO20.out HG20.out.held HLN.out HEQheld.out) ?_; rintro e w21 ⟨rfl, hb⟩; have HL21 := Aside0.mk (HL20.out.below hb); have HG21 := Aside0.mk (HG20.out.below hb); have HB21 := Aside0.mk (below_step HB20.out hb); clear hb) | (go_at_call 37; refine Calls.mono (recs_whole HL21.out HW12.out) ?_; rintro e w22 ⟨vr, rfl, ho, hb⟩; have HO22 := Aside0.mk (StrS.of_own ho); have HL22 := Aside0.mk (HL21.out.below hb); have HG22 := Aside0.mk (HG21.out.below hb); have HB22 := Aside0.mk (below_step HB21.out hb); clear ho hb) | (go_at_call 36; refine Calls.mono (texts_yes HO22.out HG22.out.next HLN.out HEQnext.out) ?_; rintro e w23 ⟨rfl, hb⟩; have HL23 := Aside0.mk (HL22.out.below hb); have HG23 := Aside0.mk (HG22.out.below hb); have HB23 := Aside0.mk (below_step HB22.out hb); clear hb) | fail)
                clear HEQheld HEQnext
                have HLF := Aside0.mk (show Few 90 l by rcases HTW.out with rfl | rfl; exact HG23.out.fewx; exact HG23.out.fewy)
                have HAR := Aside0.mk (more_is HW12.out HD11.out.2.2.2.1.1 HG11.out.room HD11.out.2.2.1 HLF.out)
                have HAP2 := Aside0.mk (fun (w5 : World) (v : Value) (G : Nat → Prop) (hb : Below w23.heap.size w23 w5) (hl : StrS w5 v [moreB] G) => append_whole (HL23.out.below hb) HW12.out hl (by decide))
                rw [show chgR S11 ⟨C, cs, cz, l, false⟩ [moreB] ((⟨C, cs, cz, l, false⟩ : Wl).l ++ [moreB]) (⟨C, cs, cz, l, false⟩ : Wl).side (⟨C, cs, cz, l, false⟩ : Wl).size = chgR S11 ⟨C, cs, cz, l, false⟩ [moreB] (l ++ [moreB]) cs cz from rfl] at HAP2
                generalize chgR S11 ⟨C, cs, cz, l, false⟩ [moreB] (l ++ [moreB]) cs cz = R2 at HAR HAP2
                clear HG11 HB11
                go_upto_region 37 with (first | (go_at_call 37; refine Calls.mono (recs_whole (HL23.out.below (alloc_below _ _)) HW12.out) ?_; rintro e w30 ⟨vr, rfl, ho, hb⟩; obtain ⟨Ar, cr2, rfl⟩ := own_slice ho; have HO30 := Aside0.mk (StrS.of_own ho); have HB30 := Aside0.mk (below_step (alloc_below w23 _) hb); have HR30 := Aside0.mk ((Row.lit w23 X12 HL23.out.lt).same hb); clear ho hb) | ((with_reducible refine gate_builtin (b := .append) (xs := #[.tmp 229, .tmp 231]) rfl ?_); at_builtin; refine row_append (w0 := w23) rfl (.tmp 229) (.tmp 231) rfl rfl rfl HR30.out HO30.out (HL23.out.lt' HB30.out) HB30.out (by have := HLF.out.1; simp only [List.length_nil]; omega) ?_; intro v31 w31 hr hb hg ha; have HR31 := Aside0.mk hr; have HB31 := Aside0.mk hb; clear hr hb hg ha) | ((with_reducible refine gate_builtin (b := .append) (xs := #[.tmp 232, .tmp 233]) rfl ?_); at_builtin; refine row_append (w0 := w23) (ys := [moreB]) rfl (.tmp 232) (.tmp 233) rfl rfl rfl (HR31.out.same (alloc_below _ _)) (one_str _ moreB) (HL23.out.lt' (below_alloc HB31.out _)) (below_alloc HB31.out _) (by have := HLF.out.1; simp only [List.length_append, List.length_cons, List.length_nil]; omega) ?_; intro v33 w33 hr hb hg ha; have HR33 := Aside0.mk hr; have HB33 := Aside0.mk hb; clear hr hb hg ha) | fail)
                have HN33 := Aside0.mk (show Rd w33 X12 v33 (l ++ [moreB]) from HR33.out.rd)
                clear HR30 HR31 HR33 HO30 HB30 HB31
                go_upto_region 38 with (first | (go_at_call 35; refine Calls.mono (HAP2.out _ _ _ (below_alloc HB33.out _) (one_str _ moreB)) ?_; rintro e w40 ⟨rfl, hx⟩; rw [HAR.out.1]; obtain ⟨X40, h40, n40⟩ := hx HAR.out.2.1.inv; have HL40 := Aside0.mk h40; have HN40 := Aside0.mk ((HN33.out.same (alloc_below _ _)).next n40); have HB40 := Aside0.mk (LogM.thru (HL23.out.below (below_alloc HB33.out _)) (below_step HB23.out (below_alloc HB33.out _)) HBB.out n40); clear h40 n40 hx) | fail)
                clear HAP2
                have HLO := Aside0.mk (show R2.S.loose.length ≤ 1099511627776 by rw [HAR.out.2.1.lo]; simp)
                go_upto_region 40 with (first | (go_at_call 39; refine Calls.mono (fall_log HL40.out HLO.out HAR.out.2.2.2.1 (falls_same HAR.out.2.1 HAR.out.2.2.2.2) _ _ _ _) ?_; rintro e w50 ⟨rfl, S50, X50, h50, n50, g1, g2, g3, g4, C5, cs5, cz5, l5, g5, g6⟩; have HS50 := Aside0.mk h50; have HD50 := Aside0.mk (And.intro g1 (And.intro g2 (And.intro g5 g6))); have HB50 := Aside0.mk (LogM.thru HL40.out HB40.out HBB.out n50); have HN50 := Aside0.mk (HN40.out.next n50); clear h50 n50 g1 g2 g3 g4 g5 g6) | (go_at_call 32; refine Calls.mono (open_log HS50.out HD50.out.1 HD50.out.2.1 HD50.out.2.2.2 (by have := HD50.out.2.2.1.1; omega)) ?_; rintro e w52 ⟨q5, rfl, hq, ⟨X52, hl, hx⟩, hw, hb⟩; have HL52 := Aside0.mk hl; have HW52 := Aside0.mk hw; have HN52 := Aside0.mk (HN50.out.below hb hx); have HB52 := Aside0.mk (below_step HB50.out hb); clear hq hl hx hw hb) | fail)
                have HE5 := Aside0.mk (show l5 = l ++ [moreB] from HD50.out.2.2.1.2.trans HAR.out.2.2.1)
                have HL5 := Aside0.mk (show l5.length ≤ 1099511627776 from Nat.le_trans (len_le l5) (Nat.le_trans HW52.out.len (by omega)))
                go_wp2_with (first | (go_at_call 33; refine Calls.mono (num_calls _ _) ?_; rintro e wn ⟨rfl, rfl⟩) | (go_at_call 37; refine Calls.mono (recs_whole HL52.out HW52.out) ?_; rintro e w53 ⟨vr, rfl, ho, hb⟩; have HO53 := Aside0.mk (StrS.of_own ho); have HN53 := Aside0.mk (HN52.out.same hb); have HB53 := Aside0.mk (below_step HB52.out hb); clear ho hb) | (go_at_call 36; refine Calls.mono (texts_yes HO53.out HN53.out HL5.out HE5.out) ?_; rintro e w54 ⟨rfl, hb⟩; have HB54 := Aside0.mk (below_step HB53.out hb); clear hb) | (go_at_call 30; refine Calls.mono (awake_calls _) ?_; rintro e wz ⟨rfl, hb⟩; have HBz := Aside0.mk (below_step HB54.out hb); clear hb) | fail)
                go_ret
                exact ⟨rfl, below_step HB0.out HBz.out⟩
      · have hge : ¬ (i : Int) < (ls.length : Int) := by omega
        go_upto_region 26 with fail
        obtain ⟨wo, rfl⟩ : ∃ wo : World, wo = wr := ⟨_, rfl⟩
        have HI15 := Aside0.mk (show i ≤ 15 by omega)
        obtain ⟨F, hfb⟩ := HF.out.fb HI15.out
        have HG0 := Aside0.mk hfb
        clear hfb HF hN
        go_loopw [19] (fun v19 w' => ∃ (j : Nat) (S : St) (X : Nat → Prop), v19 = .int .i64 j ∧ Aside0 (j ≤ fs.length) ∧ Aside0 (FB BB w' p S X u15 u16 xs ys) ∧ Aside0 (Below w0.heap.size w0 w')) (fun v19 _ => fs.length - (intOf v19).toNat)
        case atStart => exact ⟨0, _, _, rfl, ⟨Nat.zero_le _⟩, HG0, HB⟩
        case round =>
          clear HG0 HB
          obtain ⟨j, S, X, rfl, HN2, HG, HB⟩ := hrel
          have hN2 := HN2.out
          by_cases hlt2 : j < fs.length
          · have hlt2i : (j : Int) < (fs.length : Int) := by omega
            obtain ⟨ad2, e2, hx1, hy0, hy1⟩ := H2.out.u8_at j hlt2
            cases e2
            generalize fs[j] = y at hx1 hy0 hy1
            obtain ⟨n, rfl⟩ : ∃ n : Nat, y = (n : Int) := ⟨y.toNat, by omega⟩
            have HXF := Aside0.mk hx1
            clear hx1
            have ht4 : Int.tmod (n : Int) 4 = ((n % 4 : Nat) : Int) := by rw [Int.tmod_eq_emod_of_nonneg (by omega)]; omega
            have ht41 : 0 ≤ (n : Int) % 4 := by omega
            have ht42 : (n : Int) % 4 ≤ 3 := by omega
            have HGD := Aside0.mk (HG.out.below (below_drew (Below.refl _ _)))
            have HBD := Aside0.mk (below_drew HB.out)
            go_upto_region 28 with fail
            go_region_held3 (fun w' => w'.cell? (ad2.add j) = some (.int .u8 (n : Int)) ∧ w'.cell? ⟨gb, 2, none⟩ = some (.int .i64 ke) ∧ w'.cell? ⟨gb, 3, none⟩ = some (.int .i64 tn)) (first | exact ⟨pw_cell_below (below_step HB0.out HBD.out) HXF.out, pw_cell_below HBD.out HK2.out, pw_cell_below HBD.out HK3.out⟩ | exact ⟨pw_cell_below (below_step HB0.out HB11.out) HXF.out, pw_cell_below HB11.out HK2.out, pw_cell_below HB11.out HK3.out⟩) ((go_at_call 39; refine Calls.mono (fb_fall HGD.out _ _ _ _) ?_; rintro e w11 ⟨rfl, S11, X11, h11, n11, g1, g2, g4, C, cs, cz, l, g5, g6⟩; have HG11 := Aside0.mk h11; have HD11 := Aside0.mk (And.intro g1 (And.intro g2 (And.intro g1 (And.intro g5 g6)))); have HB11 := Aside0.mk (StripM.thru HGD.out.strip HBD.out HBB.out n11); clear h11 n11 g1 g2 g4 g5 g6))
            clear HG HGD HB HBD ht4 ht41 ht42
            go_upto_region 30 with (first | (go_at_call 32; refine Calls.mono (open_log HG11.out.strip HD11.out.1 HD11.out.2.1 HD11.out.2.2.2.2 (by have := HD11.out.2.2.2.1.1; omega)) ?_; rintro e w12 ⟨q2, rfl, hq, ⟨X12, hl, hx⟩, hw, hb⟩; have HL12 := Aside0.mk hl; have HW12 := Aside0.mk hw; have HG12 := Aside0.mk (HG11.out.below hb); have HB12 := Aside0.mk (below_step HB11.out hb); clear hq hl hx hw hb) | fail)
            have HLN := Aside0.mk (show l.length ≤ 1099511627776 from Nat.le_trans (len_le l) (Nat.le_trans HW12.out.len (by omega)))
            have HTW := Aside0.mk HD11.out.2.2.2.1.2
            by_cases hq : l = xs
            · have HEQheld := Aside0.mk hq
              clear hq
              go_wp2_with (first | (go_at_call 33; refine Calls.mono (num_calls _ _) ?_; rintro e wn ⟨rfl, rfl⟩) | (go_at_call 37; refine Calls.mono (recs_whole HL12.out HW12.out) ?_; rintro e w20 ⟨vr, rfl, ho, hb⟩; have HO20 := Aside0.mk (StrS.of_own ho); have HL20 := Aside0.mk (HL12.out.below hb); have HG20 := Aside0.mk (HG12.out.below hb); have HB20 := Aside0.mk (below_step HB12.out hb); clear ho hb) | (go_at_call 36; refine Calls.mono (texts_yes HO20.out HG20.out.held HLN.out HEQheld.out) ?_; rintro e w21 ⟨rfl, hb⟩; have HL21 := Aside0.mk (HL20.out.below hb); have HG21 := Aside0.mk (HG20.out.below hb); have HB21 := Aside0.mk (below_step HB20.out hb); clear hb) | fail)
              go_roundw
              case rel => exact ⟨j + 1, S11, X11, by go_num, ⟨by omega⟩, HG21, HB21⟩
              case measure => simp [intOf]; omega
            · have HEQheld := Aside0.mk hq
              have HEQnext := Aside0.mk (HTW.out.resolve_left hq)
              clear hq
              go_wp2_with (first | (go_at_call 33; refine Calls.mono (num_calls _ _) ?_; rintro e wn ⟨rfl, rfl⟩) | (go_at_call 37; refine Calls.mono (recs_whole HL12.out HW12.out) ?_; rintro e w20 ⟨vr, rfl, ho, hb⟩; have HO20 := Aside0.mk (StrS.of_own ho); have HL20 := Aside0.mk (HL12.out.below hb); have HG20 := Aside0.mk (HG12.out.below hb); have HB20 := Aside0.mk (below_step HB12.out hb); clear ho hb) | (go_at_call 36; refine Calls.mono (texts_no HO20.out HG20.out.held HLN.out HEQheld.out) ?_; rintro e w21 ⟨rfl, hb⟩; have HL21 := Aside0.mk (HL20.out.below hb); have HG21 := Aside0.mk (HG20.out.below hb); have HB21 := Aside0.mk (below_step HB20.out hb); clear hb) | (go_at_call 37; refine Calls.mono (recs_whole HL21.out HW12.out) ?_; rintro e w22 ⟨vr, rfl, ho, hb⟩; have HO22 := Aside0.mk (StrS.of_own ho); have HL22 := Aside0.mk (HL21.out.below hb); have HG22 := Aside0.mk (HG21.out.below hb); have HB22 := Aside0.mk (below_step HB21.out hb); clear ho hb) | (go_at_call 36; refine Calls.mono (texts_yes HO22.out HG22.out.next HLN.out HEQnext.out) ?_; rintro e w23 ⟨rfl, hb⟩; have HL23 := Aside0.mk (HL22.out.below hb); have HG23 := Aside0.mk (HG22.out.below hb); have HB23 := Aside0.mk (below_step HB22.out hb); clear hb) | fail)
              go_roundw
              case rel => exact ⟨j + 1, S11, X11, by go_num, ⟨by omega⟩, HG23, HB23⟩
              case measure => simp [intOf]; omega
          · have hge2 : ¬ (j : Int) < (fs.length : Int) := by omega
            have hk2 := pw_cell_below HB.out HK2.out
            have hk3 := pw_cell_below HB.out HK3.out
            go_upto_region 34 with (first | (go_at_call 39; refine Calls.mono (fb_fall HG.out _ _ _ _) ?_; rintro e w11 ⟨rfl, S11, X11, h11, n11, g1, g2, g4, C, cs, cz, l, g5, g6⟩; have HG11 := Aside0.mk h11; have HD11 := Aside0.mk (And.intro g1 (And.intro g2 (And.intro (g4 (by omega)) (And.intro g5 g6)))); have HB11 := Aside0.mk (StripM.thru HG.out.strip HB.out HBB.out n11); clear h11 n11 g1 g2 g4 g5 g6) | (go_at_call 32; refine Calls.mono (open_log HG11.out.strip HD11.out.1 HD11.out.2.1 HD11.out.2.2.2.2 (by have := HD11.out.2.2.2.1.1; omega)) ?_; rintro e w12 ⟨q2, rfl, hq, ⟨X12, hl, hx⟩, hw, hb⟩; have HL12 := Aside0.mk hl; have HW12 := Aside0.mk hw; have HG12 := Aside0.mk (HG11.out.below hb); have HB12 := Aside0.mk (below_step HB11.out hb); clear hq hl hx hw hb) | fail)
            clear hk2 hk3
            have HLN := Aside0.mk (show l.length ≤ 1099511627776 from Nat.le_trans (len_le l) (Nat.le_trans HW12.out.len (by omega)))
            have HTW := Aside0.mk HD11.out.2.2.2.1.2
            by_cases hq : l = xs
            · have HEQheld := Aside0.mk hq
              clear hq
              go_upto_region 36 with (first | (go_at_call 33; refine Calls.mono (num_calls _ _) ?_; rintro e wn ⟨rfl, rfl⟩) | (go_at_call 37; refine Calls.mono (recs_whole HL12.out HW12.out) ?_; rintro e w20 ⟨vr, rfl, ho, hb⟩; have HO20 := Aside0.mk (StrS.of_own ho); have HL20 := Aside0.mk (HL12.out.below hb); have HG20 := Aside0.mk (HG12.out.below hb); have HB20 := Aside0.mk (below_step HB12.out hb); clear ho hb) | (go_at_call 36; refine Calls.mono (texts_yes HO20.out HG20.out.held HLN.out HEQheld.out) ?_; rintro e w21 ⟨rfl, hb⟩; have HL21 := Aside0.mk (HL20.out.below hb); have HG21 := Aside0.mk (HG20.out.below hb); have HB21 := Aside0.mk (below_step HB20.out hb); clear hb) | fail)
              clear HEQheld
              have HLF := Aside0.mk (show Few 90 l by rcases HTW.out with rfl | rfl; exact HG21.out.fewx; exact HG21.out.fewy)
              have HAR := Aside0.mk (more_is HW12.out HD11.out.2.2.2.1.1 HG11.out.room HD11.out.2.2.1 HLF.out)
              have HAP2 := Aside0.mk (fun (w5 : World) (v : Value) (G : Nat → Prop) (hb : Below w21.heap.size w21 w5) (hl : StrS w5 v [moreB] G) => append_whole (HL21.out.below hb) HW12.out hl (by decide))
              rw [show chgR S11 ⟨C, cs, cz, l, false⟩ [moreB] ((⟨C, cs, cz, l, false⟩ : Wl).l ++ [moreB]) (⟨C, cs, cz, l, false⟩ : Wl).side (⟨C, cs, cz, l, false⟩ : Wl).size = chgR S11 ⟨C, cs, cz, l, false⟩ [moreB] (l ++ [moreB]) cs cz from rfl] at HAP2
              generalize chgR S11 ⟨C, cs, cz, l, false⟩ [moreB] (l ++ [moreB]) cs cz = R2 at HAR HAP2
              clear HG11 HB11
              go_upto_region 37 with (first | (go_at_call 37; refine Calls.mono (recs_whole (HL21.out.below (alloc_below _ _)) HW12.out) ?_; rintro e w30 ⟨vr, rfl, ho, hb⟩; obtain ⟨Ar, cr2, rfl⟩ := own_slice ho; have HO30 := Aside0.mk (StrS.of_own ho); have HB30 := Aside0.mk (below_step (alloc_below w21 _) hb); have HR30 := Aside0.mk ((Row.lit w21 X12 HL21.out.lt).same hb); clear ho hb) | ((with_reducible refine gate_builtin (b := .append) (xs := #[.tmp 229, .tmp 231]) rfl ?_); at_builtin; refine row_append (w0 := w21) rfl (.tmp 229) (.tmp 231) rfl rfl rfl HR30.out HO30.out (HL21.out.lt' HB30.out) HB30.out (by have := HLF.out.1; simp only [List.length_nil]; omega) ?_; intro v31 w31 hr hb hg ha; have HR31 := Aside0.mk hr; have HB31 := Aside0.mk hb; clear hr hb hg ha) | ((with_reducible refine gate_builtin (b := .append) (xs := #[.tmp 232, .tmp 233]) rfl ?_); at_builtin; refine row_append (w0 := w21) (ys := [moreB]) rfl (.tmp 232) (.tmp 233) rfl rfl rfl (HR31.out.same (alloc_below _ _)) (one_str _ moreB) (HL21.out.lt' (below_alloc HB31.out _)) (below_alloc HB31.out _) (by have := HLF.out.1; simp only [List.length_append, List.length_cons, List.length_nil]; omega) ?_; intro v33 w33 hr hb hg ha; have HR33 := Aside0.mk hr; have HB33 := Aside0.mk hb; clear hr hb hg ha) | fail)
              have HN33 := Aside0.mk (show Rd w33 X12 v33 (l ++ [moreB]) from HR33.out.rd)
              clear HR30 HR31 HR33 HO30 HB30 HB31
              go_upto_region 38 with (first | (go_at_call 35; refine Calls.mono (HAP2.out _ _ _ (below_alloc HB33.out _) (one_str _ moreB)) ?_; rintro e w40 ⟨rfl, hx⟩; rw [HAR.out.1]; obtain ⟨X40, h40, n40⟩ := hx HAR.out.2.1.inv; have HL40 := Aside0.mk h40; have HN40 := Aside0.mk ((HN33.out.same (alloc_below _ _)).next n40); have HB40 := Aside0.mk (LogM.thru (HL21.out.below (below_alloc HB33.out _)) (below_step HB21.out (below_alloc HB33.out _)) HBB.out n40); clear h40 n40 hx) | fail)
              clear HAP2
              have HLO := Aside0.mk (show R2.S.loose.length ≤ 1099511627776 by rw [HAR.out.2.1.lo]; simp)
              go_upto_region 40 with (first | (go_at_call 39; refine Calls.mono (fall_log HL40.out HLO.out HAR.out.2.2.2.1 (falls_same HAR.out.2.1 HAR.out.2.2.2.2) _ _ _ _) ?_; rintro e w50 ⟨rfl, S50, X50, h50, n50, g1, g2, g3, g4, C5, cs5, cz5, l5, g5, g6⟩; have HS50 := Aside0.mk h50; have HD50 := Aside0.mk (And.intro g1 (And.intro g2 (And.intro g5 g6))); have HB50 := Aside0.mk (LogM.thru HL40.out HB40.out HBB.out n50); have HN50 := Aside0.mk (HN40.out.next n50); clear h50 n50 g1 g2 g3 g4 g5 g6) | (go_at_call 32; refine Calls.mono (open_log HS50.out HD50.out.1 HD50.out.2.1 HD50.out.2.2.2 (by have := HD50.out.2.2.1.1; omega)) ?_; rintro e w52 ⟨q5, rfl, hq, ⟨X52, hl, hx⟩, hw, hb⟩; have HL52 := Aside0.mk hl; have HW52 := Aside0.mk hw; have HN52 := Aside0.mk (HN50.out.below hb hx); have HB52 := Aside0.mk (below_step HB50.out hb); clear hq hl hx hw hb) | fail)
              have HE5 := Aside0.mk (show l5 = l ++ [moreB] from HD50.out.2.2.1.2.trans HAR.out.2.2.1)
              have HL5 := Aside0.mk (show l5.length ≤ 1099511627776 from Nat.le_trans (len_le l5) (Nat.le_trans HW52.out.len (by omega)))
              go_wp2_with (first | (go_at_call 33; refine Calls.mono (num_calls _ _) ?_; rintro e wn ⟨rfl, rfl⟩) | (go_at_call 37; refine Calls.mono (recs_whole HL52.out HW52.out) ?_; rintro e w53 ⟨vr, rfl, ho, hb⟩; have HO53 := Aside0.mk (StrS.of_own ho); have HN53 := Aside0.mk (HN52.out.same hb); have HB53 := Aside0.mk (below_step HB52.out hb); clear ho hb) | (go_at_call 36; refine Calls.mono (texts_yes HO53.out HN53.out HL5.out HE5.out) ?_; rintro e w54 ⟨rfl, hb⟩; have HB54 := Aside0.mk (below_step HB53.out hb); clear hb) | (go_at_call 30; refine Calls.mono (awake_calls _) ?_; rintro e wz ⟨rfl, hb⟩; have HBz := Aside0.mk (below_step HB54.out hb); clear hb) | fail)
              go_ret
              exact ⟨rfl, below_step HB0.out HBz.out⟩
            · have HEQheld := Aside0.mk hq
              have HEQnext := Aside0.mk (HTW.out.resolve_left hq)
              clear hq
              go_upto_region 36 with (first | (go_at_call 33; refine Calls.mono (num_calls _ _) ?_; rintro e wn ⟨rfl, rfl⟩) | (go_at_call 37; refine Calls.mono (recs_whole HL12.out HW12.out) ?_; rintro e w20 ⟨vr, rfl, ho, hb⟩; have HO20 := Aside0.mk (StrS.of_own ho); have HL20 := Aside0.mk (HL12.out.below hb); have HG20 := Aside0.mk (HG12.out.below hb); have HB20 := Aside0.mk (below_step HB12.out hb); clear ho hb) | (go_at_call 36; refine Calls.mono (texts_no HO20.out HG20.out.held HLN.out HEQheld.out) ?_; rintro e w21 ⟨rfl, hb⟩; have HL21 := Aside0.mk (HL20.out.below hb); have HG21 := Aside0.mk (HG20.out.below hb); have HB21 := Aside0.mk (below_step HB20.out hb); clear hb) | (go_at_call 37; refine Calls.mono (recs_whole HL21.out HW12.out) ?_; rintro e w22 ⟨vr, rfl, ho, hb⟩; have HO22 := Aside0.mk (StrS.of_own ho); have HL22 := Aside0.mk (HL21.out.below hb); have HG22 := Aside0.mk (HG21.out.below hb); have HB22 := Aside0.mk (below_step HB21.out hb); clear ho hb) | (go_at_call 36; refine Calls.mono (texts_yes HO22.out HG22.out.next HLN.out HEQnext.out) ?_; rintro e w23 ⟨rfl, hb⟩; have HL23 := Aside0.mk (HL22.out.below hb); have HG23 := Aside0.mk (HG22.out.below hb); have HB23 := Aside0.mk (below_step HB22.out hb); clear hb) | fail)
              clear HEQheld HEQnext
              have HLF := Aside0.mk (show Few 90 l by rcases HTW.out with rfl | rfl; exact HG23.out.fewx; exact HG23.out.fewy)
              have HAR := Aside0.mk (more_is HW12.out HD11.out.2.2.2.1.1 HG11.out.room HD11.out.2.2.1 HLF.out)
              have HAP2 := Aside0.mk (fun (w5 : World) (v : Value) (G : Nat → Prop) (hb : Below w23.heap.size w23 w5) (hl : StrS w5 v [moreB] G) => append_whole (HL23.out.below hb) HW12.out hl (by decide))
              rw [show chgR S11 ⟨C, cs, cz, l, false⟩ [moreB] ((⟨C, cs, cz, l, false⟩ : Wl).l ++ [moreB]) (⟨C, cs, cz, l, false⟩ : Wl).side (⟨C, cs, cz, l, false⟩ : Wl).size = chgR S11 ⟨C, cs, cz, l, false⟩ [moreB] (l ++ [moreB]) cs cz from rfl] at HAP2
              generalize chgR S11 ⟨C, cs, cz, l, false⟩ [moreB] (l ++ [moreB]) cs cz = R2 at HAR HAP2
              clear HG11 HB11
              go_upto_region 37 with (first | (go_at_call 37; refine Calls.mono (recs_whole (HL23.out.below (alloc_below _ _)) HW12.out) ?_; rintro e w30 ⟨vr, rfl, ho, hb⟩; obtain ⟨Ar, cr2, rfl⟩ := own_slice ho; have HO30 := Aside0.mk (StrS.of_own ho); have HB30 := Aside0.mk (below_step (alloc_below w23 _) hb); have HR30 := Aside0.mk ((Row.lit w23 X12 HL23.out.lt).same hb); clear ho hb) | ((with_reducible refine gate_builtin (b := .append) (xs := #[.tmp 229, .tmp 231]) rfl ?_); at_builtin; refine row_append (w0 := w23) rfl (.tmp 229) (.tmp 231) rfl rfl rfl HR30.out HO30.out (HL23.out.lt' HB30.out) HB30.out (by have := HLF.out.1; simp only [List.length_nil]; omega) ?_; intro v31 w31 hr hb hg ha; have HR31 := Aside0.mk hr; have HB31 := Aside0.mk hb; clear hr hb hg ha) | ((with_reducible refine gate_builtin (b := .append) (xs := #[.tmp 232, .tmp 233]) rfl ?_); at_builtin; refine row_append (w0 := w23) (ys := [moreB]) rfl (.tmp 232) (.tmp 233) rfl rfl rfl (HR31.out.same (alloc_below _ _)) (one_str _ moreB) (HL23.out.lt' (below_alloc HB31.out _)) (below_alloc HB31.out _) (by have := HLF.out.1; simp only [List.length_append, List.length_cons, List.length_nil]; omega) ?_; intro v33 w33 hr hb hg ha; have HR33 := Aside0.mk hr; have HB33 := Aside0.mk hb; clear hr hb hg ha) | fail)
              have HN33 := Aside0.mk (show Rd w33 X12 v33 (l ++ [moreB]) from HR33.out.rd)
              clear HR30 HR31 HR33 HO30 HB30 HB31
              go_upto_region 38 with (first | (go_at_call 35; refine Calls.mono (HAP2.out _ _ _ (below_alloc HB33.out _) (one_str _ moreB)) ?_; rintro e w40 ⟨rfl, hx⟩; rw [HAR.out.1]; obtain ⟨X40, h40, n40⟩ := hx HAR.out.2.1.inv; have HL40 := Aside0.mk h40; have HN40 := Aside0.mk ((HN33.out.same (alloc_below _ _)).next n40); have HB40 := Aside0.mk (LogM.thru (HL23.out.below (below_alloc HB33.out _)) (below_step HB23.out (below_alloc HB33.out _)) HBB.out n40); clear h40 n40 hx) | fail)
              clear HAP2
              have HLO := Aside0.mk (show R2.S.loose.length ≤ 1099511627776 by rw [HAR.out.2.1.lo]; simp)
              go_upto_region 40 with (first | (go_at_call 39; refine Calls.mono (fall_log HL40.out HLO.out HAR.out.2.2.2.1 (falls_same HAR.out.2.1 HAR.out.2.2.2.2) _ _ _ _) ?_; rintro e w50 ⟨rfl, S50, X50, h50, n50, g1, g2, g3, g4, C5, cs5, cz5, l5, g5, g6⟩; have HS50 := Aside0.mk h50; have HD50 := Aside0.mk (And.intro g1 (And.intro g2 (And.intro g5 g6))); have HB50 := Aside0.mk (LogM.thru HL40.out HB40.out HBB.out n50); have HN50 := Aside0.mk (HN40.out.next n50); clear h50 n50 g1 g2 g3 g4 g5 g6) | (go_at_call 32; refine Calls.mono (open_log HS50.out HD50.out.1 HD50.out.2.1 HD50.out.2.2.2 (by have := HD50.out.2.2.1.1; omega)) ?_; rintro e w52 ⟨q5, rfl, hq, ⟨X52, hl, hx⟩, hw, hb⟩; have HL52 := Aside0.mk hl; have HW52 := Aside0.mk hw; have HN52 := Aside0.mk (HN50.out.below hb hx); have HB52 := Aside0.mk (below_step HB50.out hb); clear hq hl hx hw hb) | fail)
              have HE5 := Aside0.mk (show l5 = l ++ [moreB] from HD50.out.2.2.1.2.trans HAR.out.2.2.1)
              have HL5 := Aside0.mk (show l5.length ≤ 1099511627776 from Nat.le_trans (len_le l5) (Nat.le_trans HW52.out.len (by omega)))
              go_wp2_with (first | (go_at_call 33; refine Calls.mono (num_calls _ _) ?_; rintro e wn ⟨rfl, rfl⟩) | (go_at_call 37; refine Calls.mono (recs_whole HL52.out HW52.out) ?_; rintro e w53 ⟨vr, rfl, ho, hb⟩; have HO53 := Aside0.mk (StrS.of_own ho); have HN53 := Aside0.mk (HN52.out.same hb); have HB53 := Aside0.mk (below_step HB52.out hb); clear ho hb) | (go_at_call 36; refine Calls.mono (texts_yes HO53.out HN53.out HL5.out HE5.out) ?_; rintro e w54 ⟨rfl, hb⟩; have HB54 := Aside0.mk (below_step HB53.out hb); clear hb) | (go_at_call 30; refine Calls.mono (awake_calls _) ?_; rintro e wz ⟨rfl, hb⟩; have HBz := Aside0.mk (below_step HB54.out hb); clear hb) | fail)
              go_ret
              exact ⟨rfl, below_step HB0.out HBz.out⟩
  · by_cases hg : 15 < ls.length
    · have hg1 : (15 : Int) < (ls.length : Int) := by omega
      go_enter Try.func7, Try.ntmps7
      go_upto_region 1 with (first | ((with_reducible refine gate_dst (N := 8) rfl ?_); refine box_event ?hg (N := 8) ?hd (cs := #[.int .i64 bl, .int .i64 cr, .int .i64 ke, .int .i64 tn]) (t := 42) ?hr ?_; (case hd => rfl); (case hg => rfl); (case hr => first | (go_simp; done) | (go_simp; rfl)); intro gb hg w0 hbox hb; have HB0 := Aside0.mk hb; have BK := Aside0.mk hbox; clear hb hbox hg) | fail)
      go_wp2_with (first | (go_at_call 30; refine Calls.mono (awake_calls _) ?_; rintro e wz ⟨rfl, hb⟩; have HBz := Aside0.mk (hb); clear hb) | fail)
      go_ret
      exact ⟨rfl, below_step HB0.out HBz.out⟩
    · by_cases hh : an.length < ls.length
      · have hg1 : ¬ (15 : Int) < (ls.length : Int) := by omega
        have hg2 : (an.length : Int) < (ls.length : Int) := by omega
        go_enter Try.func7, Try.ntmps7
        go_upto_region 1 with (first | ((with_reducible refine gate_dst (N := 8) rfl ?_); refine box_event ?hg (N := 8) ?hd (cs := #[.int .i64 bl, .int .i64 cr, .int .i64 ke, .int .i64 tn]) (t := 42) ?hr ?_; (case hd => rfl); (case hg => rfl); (case hr => first | (go_simp; done) | (go_simp; rfl)); intro gb hg w0 hbox hb; have HB0 := Aside0.mk hb; have BK := Aside0.mk hbox; clear hb hbox hg) | fail)
        go_wp2_with (first | (go_at_call 30; refine Calls.mono (awake_calls _) ?_; rintro e wz ⟨rfl, hb⟩; have HBz := Aside0.mk (hb); clear hb) | fail)
        go_ret
        exact ⟨rfl, below_step HB0.out HBz.out⟩
      · have hg1 : ¬ (15 : Int) < (ls.length : Int) := by omega
        have hg2 : ¬ (an.length : Int) < (ls.length : Int) := by omega
        have hg3 : (5 : Int) < (fs.length : Int) := by omega
        go_enter Try.func7, Try.ntmps7
        go_upto_region 1 with (first | ((with_reducible refine gate_dst (N := 8) rfl ?_); refine box_event ?hg (N := 8) ?hd (cs := #[.int .i64 bl, .int .i64 cr, .int .i64 ke, .int .i64 tn]) (t := 42) ?hr ?_; (case hd => rfl); (case hg => rfl); (case hr => first | (go_simp; done) | (go_simp; rfl)); intro gb hg w0 hbox hb; have HB0 := Aside0.mk hb; have BK := Aside0.mk hbox; clear hb hbox hg) | fail)
        go_wp2_with (first | (go_at_call 30; refine Calls.mono (awake_calls _) ?_; rintro e wz ⟨rfl, hb⟩; have HBz := Aside0.mk (hb); clear hb) | fail)
        go_ret
        exact ⟨rfl, below_step HB0.out HBz.out⟩
set_option maxRecDepth 100000 in
theorem walk {H : Type} {enc : TypeId × Value → H} {W : World} {r : Reach} {b0 : Nat} {base : Nat} {spare : Nat → Bool} {held : Bool} {d0 d1 d3 d4 : DataW H} {p0 p1 p3 p4 : List MemPlace} (v0 : Value) (o0 : Value.okWide Try.prog W r b0 38 v0) (h0 : DataW.Trod enc Try.prog W base spare held 38 v0 d0 p0) (v1 : Value) (o1 : Value.okWide Try.prog W r b0 50 v1) (h1 : DataW.Trod enc Try.prog W base spare held 50 v1 d1 p1)
    (cm : Int) (hc : (Lit.int .u8 cm).wf = true) (v3 : Value) (o3 : Value.okWide Try.prog W r b0 42 v3) (h3 : DataW.Trod enc Try.prog W base spare held 42 v3 d3 p3) (v4 : Value) (o4 : Value.okWide Try.prog W r b0 50 v4) (h4 : DataW.Trod enc Try.prog W base spare held 50 v4 d4 p4) (_w : World) :
    Calls Try.prog 7 #[v0, v1, .int .u8 cm, v3, v4] W fun e w' => e = .returned (.bool true) ∧ Below W.heap.size W w' := by
  obtain ⟨l, A, c, rfl, hc0, hcm, hr⟩ := u8s_arg o0 h0
  obtain ⟨l1, A1, c1, rfl, hc1, hcm1, hr1⟩ := u8_arg o1 h1
  obtain ⟨bl, cr, ke, tn, rfl, _⟩ := plan_arg o3 h3
  obtain ⟨l4, A4, c4, rfl, hc4, hcm4, hr4⟩ := u8_arg o4 h4
  have hb : IntKind.u8.min ≤ cm ∧ cm ≤ IntKind.u8.max := by simpa [Lit.wf] using hc
  have g0 : 0 ≤ cm := hb.1
  have g1 : cm ≤ 255 := hb.2
  obtain ⟨m, rfl⟩ : ∃ m : Nat, cm = (m : Int) := ⟨cm.toNat, by omega⟩
  exact run l l1 m (by omega) bl cr ke tn l4 hc0 hc1 hc4 W hr hr1 hr4
end Go.Proofs.Ytmgkflkpompchaa.WalFalls
