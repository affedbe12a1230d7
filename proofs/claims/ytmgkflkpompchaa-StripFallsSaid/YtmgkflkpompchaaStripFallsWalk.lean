/- brooklaw16.StripFalls, walked: at every input it answers true. No condition. -/
import Derived.Test.YtmgkflkpompchaaStripFallsPure
import Derived.Test.YtmgkflkpompchaaArgs
namespace Go.Proofs.Ytmgkflkpompchaa.StripFalls
open Go.RowKit Go.Proofs.YtmgkflkpompchaaW.PrintWords Go.Proofs.YtmgkflkpompchaaW.PrintLast Go.Proofs.YtmgkflkpompchaaW.PrintMore Go.Proofs.Ytmgkflkpompchaa.Strip Go.Proofs.Ytmgkflkpompchaa.Args
set_option linter.unusedVariables false
set_option linter.unusedSimpArgs false

theorem max_kp (k : Int) (n : Nat) (hn : 0 < n) : max 0 k % (n : Int) = ((kp k n : Nat) : Int) := by
  rw [← kp_int, Int.tmod_eq_emod_of_nonneg (by omega)]
set_option maxHeartbeats 1600000 in
set_option maxRecDepth 100000 in
theorem run {A : Option Addr} {c : Nat} (l : List Int) (hc : l.length ≤ c) (ke tn : Int) (w : World) (hr : ARow U8 1 w A l) : Calls Try.prog 9 #[.slice A l.length c, .int .i64 ke, .int .i64 tn] w fun e w' => e = .returned (.bool true) ∧ Below w.heap.size w w' := by
  have HR := Aside0.mk hr
  clear hr
  by_cases hl : l.length ≤ 30
  · have p1 : (l.length : Int) ≤ 30 := by omega
    go_enter Try.func9, Try.ntmps9
    go_wp2_with fail
    refine Calls.mono (new_calls 40 0 0 0 w) ?_
    rintro e w1 ⟨p, F, rfl, hs, hb⟩
    have H := Aside0.mk hs
    have HB := Aside0.mk hb
    clear hs hb
    go_wp2_with fail
    refine Calls.mono (block_calls 9 _) ?_
    rintro e w9 ⟨rfl, hb⟩
    have n1 := Aside0.mk (H.out.below hb)
    have n2 := Aside0.mk (below_step HB.out hb)
    clear H HB hb
    have H := n1
    have HB := n2
    clear n1 n2
    go_wp2_with fail
    refine Calls.mono (write_calls H.out 39 (blk 9) (by decide)) ?_
    rw [first_write.1, first_write.2]
    rintro e w9 ⟨rfl, F', hs, hn⟩
    have n1 := Aside0.mk hs
    have n2 := Aside0.mk (below_thru HB.out H.out.ge hn.1)
    clear H HB hs hn
    have H := n1
    have HB := n2
    clear n1 n2
    have HG := Aside0.mk (show ∀ c ∈ (⟨List.replicate 40 zero32, [(39, blk 9)], 0, 1, false⟩ : St).loose, c.1 < (⟨List.replicate 40 zero32, [(39, blk 9)], 0, 1, false⟩ : St).safe.length from fun c hc => by simp at hc; subst hc; simp)
    go_wp2_with fail
    refine Calls.mono (sync_calls H.out HG.out) ?_
    rw [first_sync.1, first_sync.2]
    rintro e w9 ⟨rfl, F', hs, hn⟩
    have n1 := Aside0.mk hs
    have n2 := Aside0.mk (below_thru HB.out H.out.ge hn.1)
    clear H HB hs hn
    have H := n1
    have HB := n2
    clear n1 n2
    clear HG
    go_upto_region 9 with fail
    go_loopw [10] (fun v10 w' => ∃ (j : Nat) (F : Nat → Prop), j ≤ l.length ∧ v10 = .int .i64 j ∧ Aside0 (IsStrip w.heap.size w' p ⟨base, numbered (l.take j), 0, ((2 + j : Nat) : Int), false⟩ F) ∧ Aside0 (Below w.heap.size w w')) (fun v10 _ => l.length - (intOf v10).toNat)
    case atStart => exact ⟨0, _, Nat.zero_le _, rfl, H, HB⟩
    case round =>
      clear H HB
      obtain ⟨j, F, hj, rfl, H, HB⟩ := hrel
      by_cases hlt : j < l.length
      · obtain ⟨a, rfl, hx, x0, x1⟩ := HR.out.u8_at j hlt
        replace hx := pw_cell_below HB.out hx
        have y0 : (0 : Int) ≤ (j : Int) := by omega
        have y1 : (j : Int) < (l.length : Int) := by omega
        have HT := Aside0.mk (show l.take (j + 1) = l.take j ++ [l[j]] by rw [List.take_add_one, List.getElem?_eq_getElem hlt]; rfl)
        generalize l[j] = x at hx HT x0 x1
        have HW := Aside0.mk (falls_write (l.take j) (2 + j) (by omega) j (by omega) (by rw [List.length_take]; omega) x)
        rw [← HT.out] at HW
        have HL := Aside0.mk (show (numbered (l.take j)).length ≤ 1099511627776 by rw [numbered_len, List.length_take]; omega)
        go_wp2_with (first | (go_at_call 33; refine Calls.mono (num_calls _ _) ?_; rintro e w9 ⟨rfl, rfl⟩) | (go_at_call 46; refine Calls.mono (block_calls _ _) ?_; rintro e w9 ⟨rfl, hb⟩; have n1 := Aside0.mk (H.out.below hb); have n2 := Aside0.mk (below_step HB.out hb); clear H HB hb; have H := n1; have HB := n2; clear n1 n2) | (go_at_call 43; refine Calls.mono (write_calls H.out (j : Int) (blk x) HL.out) ?_; rw [HW.out.1, HW.out.2]; rintro e w9 ⟨rfl, F', hs, hn⟩; have n1 := Aside0.mk hs; have n2 := Aside0.mk (below_thru HB.out H.out.ge hn.1); clear H HB hs hn; have H := n1; have HB := n2; clear n1 n2) | fail)
        go_roundw
        case measure => simp [intOf]; omega
        case rel => exact ⟨j + 1, _, by omega, by go_num, H, HB⟩
      · obtain rfl : j = l.length := by omega
        rw [List.take_length] at H
        clear hlt hj
        have HG := Aside0.mk (show ∀ c ∈ numbered l, c.1 < base.length from fun c hc => by rw [base_len]; obtain ⟨i, hi, rfl⟩ := List.getElem_of_mem hc; rw [numbered_at]; rw [numbered_len] at hi; simp only; omega)
        have HZ := Aside0.mk (show ∀ c ∈ numbered l, c.2.size = 32 from fun c hc => by obtain ⟨i, hi, rfl⟩ := List.getElem_of_mem hc; rw [numbered_at]; exact blk_size _)
        have HL := Aside0.mk (show (numbered l).length ≤ 1099511627776 by rw [numbered_len]; omega)
        go_wp2_with fail
        refine Calls.mono (fall_calls H.out HG.out HZ.out base_size HL.out 0 0 ke tn) ?_
        rintro e w9 ⟨rfl, F', hs, hn⟩
        have n1 := Aside0.mk hs
        have n2 := Aside0.mk (below_thru HB.out H.out.ge hn.1)
        clear H HB hs hn
        have H := n1
        have HB := n2
        clear n1 n2
        clear HG HZ HL
        have HS := Aside0.mk (fall_safe l (((2 + l.length : Nat) : Int)) hl ke tn)
        have HA := Aside0.mk (fall_at l (((2 + l.length : Nat) : Int)) hl ke tn)
        have HD := Aside0.mk (fall_read l (((2 + l.length : Nat) : Int)) hl ke tn)
        have HE := Aside0.mk (fall_rest ⟨base, numbered l, 0, (((2 + l.length : Nat) : Int)), false⟩ ke tn)
        generalize fallS ⟨base, numbered l, 0, (((2 + l.length : Nat) : Int)), false⟩ 0 0 ke tn = S at H HS HA HD HE
        have HA39 := Aside0.mk (HA.out 39 (by omega))
        go_upto_region 15 with fail
        rw [show max 0 ke % ((l.length : Int) + 1) = ((kp ke (l.length + 1) : Nat) : Int) from max_kp ke (l.length + 1) (by omega), show max 0 tn % 33 = ((kp tn 33 : Nat) : Int) from max_kp tn 33 (by omega)]
        have hK := kp_lt ke (l.length + 1) (by omega)
        have hT := kp_lt tn 33 (by omega)
        generalize kp ke (l.length + 1) = K at hK HD ⊢
        generalize kp tn 33 = T at hT HD ⊢
        have hmk := made32 w9
        have hcv := conv32 w9
        have n1 := Aside0.mk (H.out.below (below_alloc (Below.refl _ _) (.cells (madeCells #[.int .u8 0] 32) 5)))
        have n2 := Aside0.mk (below_alloc HB.out (.cells (madeCells #[.int .u8 0] 32) 5))
        go_upto_region 17 with fail
        clear hmk hcv H HB
        have H := n1
        have HB := n2
        clear n1 n2
        generalize w9.alloc (.cells (madeCells #[.int .u8 0] 32) 5) = w10 at H HB ⊢
        go_loopw [14] (fun v14 w' => ∃ j : Nat, j ≤ l.length ∧ v14 = .int .i64 j ∧ Aside0 (IsStrip w.heap.size w' p S F') ∧ Aside0 (Below w.heap.size w w')) (fun v14 _ => l.length - (intOf v14).toNat)
        case atStart => exact ⟨0, Nat.zero_le _, rfl, H, HB⟩
        case round =>
          clear H HB
          obtain ⟨j, hj, rfl, H, HB⟩ := hrel
          by_cases hlt : j < l.length
          · obtain ⟨a, rfl, hx, x0, x1⟩ := HR.out.u8_at j hlt
            replace hx := pw_cell_below HB.out hx
            have y0 : (0 : Int) ≤ (j : Int) := by omega
            have y1 : (j : Int) < (l.length : Int) := by omega
            have HAJ := Aside0.mk (HA.out j (by omega))
            have HRJ := Aside0.mk (HD.out.1 j hlt)
            have HW := Aside0.mk (show wantB l K T j hlt = if j < K then blk l[j] else if j = K then (blk l[j]).extract 0 T ++ zero32.extract T 32 else zero32 from rfl)
            generalize wantB l K T j hlt = rb at HRJ HW
            generalize l[j] = x at hx x0 x1 HW
            by_cases hjk : j < K
            · obtain rfl := HW.out.trans (if_pos hjk)
              have z1 : ¬ (j : Int) = (K : Int) := by omega
              have z2 : ¬ (K : Int) < (j : Int) := by omega
              clear HW
              go_wp2_with (first | (go_at_call 33; refine Calls.mono (num_calls _ _) ?_; rintro e w9 ⟨rfl, rfl⟩) | (go_at_call 46; refine Calls.mono (block_calls _ _) ?_; rintro e w9 ⟨rfl, hb⟩; have n1 := Aside0.mk (H.out.below hb); have n2 := Aside0.mk (below_step HB.out hb); clear H HB hb; have H := n1; have HB := n2; clear n1 n2) | (go_at_call 45; refine Calls.mono (read_calls H.out _) ?_; rw [HAJ.out, HRJ.out]; rintro e w9 ⟨rfl, hb⟩; have n1 := Aside0.mk (H.out.below hb); have n2 := Aside0.mk (below_step HB.out hb); clear H HB hb; have H := n1; have HB := n2; clear n1 n2) | fail)
              go_roundw
              case measure => simp [intOf]; omega
              case rel => exact ⟨j + 1, by omega, by go_num, H, HB⟩
            · by_cases hke : j = K
              · obtain rfl := (HW.out.trans (if_neg hjk)).trans (if_pos hke)
                subst hke
                have z2 : ¬ (j : Int) < (j : Int) := by omega
                clear HW hjk
                go_upto_region 21 with (first | (go_at_call 46; refine Calls.mono (block_calls _ _) ?_; rintro e w9 ⟨rfl, hb⟩; have n1 := Aside0.mk (H.out.below hb); have n2 := Aside0.mk (below_step HB.out hb); clear H HB hb; have H := n1; have HB := n2; clear n1 n2) | fail)
                have hbs := blk_size x
                have q0 : (0 : Int) ≤ (T : Int) := by omega
                have q1 : (T : Int) ≤ ((blk x).size : Int) := by omega
                have q2 : (T : Int) ≤ (zero32.size : Int) := by rw [zero_size]; omega
                have hadd : ¬ (9223372036854775807 < min T (blk x).size + (zero32.size - T)) := by rw [zero_size]; omega
                have HZE := Aside0.mk (show zero32.extract T zero32.size = zero32.extract T 32 by rw [zero_size])
                clear hbs
                go_region
                clear q0 q1 q2 hadd
                rw [HZE.out]
                have n1 := Aside0.mk (H.out.below (below_drew (Below.refl _ _)))
                have n2 := Aside0.mk (below_drew HB.out)
                clear H HB
                have H := n1
                have HB := n2
                clear n1 n2
                go_wp2_with (first | (go_at_call 33; refine Calls.mono (num_calls _ _) ?_; rintro e w9 ⟨rfl, rfl⟩) | (go_at_call 46; refine Calls.mono (block_calls _ _) ?_; rintro e w9 ⟨rfl, hb⟩; have n1 := Aside0.mk (H.out.below hb); have n2 := Aside0.mk (below_step HB.out hb); clear H HB hb; have H := n1; have HB := n2; clear n1 n2) | (go_at_call 45; refine Calls.mono (read_calls H.out _) ?_; rw [HAJ.out, HRJ.out]; rintro e w9 ⟨rfl, hb⟩; have n1 := Aside0.mk (H.out.below hb); have n2 := Aside0.mk (below_step HB.out hb); clear H HB hb; have H := n1; have HB := n2; clear n1 n2) | fail)
                go_roundw
                case measure => simp [intOf]; omega
                case rel => exact ⟨j + 1, by omega, by go_num, H, HB⟩
              · obtain rfl := (HW.out.trans (if_neg hjk)).trans (if_neg hke)
                have z1 : ¬ (j : Int) = (K : Int) := by omega
                have z2 : (K : Int) < (j : Int) := by omega
                clear HW
                go_wp2_with (first | (go_at_call 33; refine Calls.mono (num_calls _ _) ?_; rintro e w9 ⟨rfl, rfl⟩) | (go_at_call 46; refine Calls.mono (block_calls _ _) ?_; rintro e w9 ⟨rfl, hb⟩; have n1 := Aside0.mk (H.out.below hb); have n2 := Aside0.mk (below_step HB.out hb); clear H HB hb; have H := n1; have HB := n2; clear n1 n2) | (go_at_call 45; refine Calls.mono (read_calls H.out _) ?_; rw [HAJ.out, HRJ.out]; rintro e w9 ⟨rfl, hb⟩; have n1 := Aside0.mk (H.out.below hb); have n2 := Aside0.mk (below_step HB.out hb); clear H HB hb; have H := n1; have HB := n2; clear n1 n2) | fail)
                go_roundw
                case measure => simp [intOf]; omega
                case rel => exact ⟨j + 1, by omega, by go_num, H, HB⟩
          · obtain rfl : j = l.length := by omega
            have HE1 := Aside0.mk (show (S.loose.length : Int) = 0 by rw [HE.out.1]; rfl)
            have HE2 := Aside0.mk (show (S.safe.length : Int) = 40 by rw [HS.out.1]; rfl)
            go_wp2_with (first | (go_at_call 33; refine Calls.mono (num_calls _ _) ?_; rintro e w9 ⟨rfl, rfl⟩) | (go_at_call 46; refine Calls.mono (block_calls _ _) ?_; rintro e w9 ⟨rfl, hb⟩; have n1 := Aside0.mk (H.out.below hb); have n2 := Aside0.mk (below_step HB.out hb); clear H HB hb; have H := n1; have HB := n2; clear n1 n2) | (go_at_call 44; refine Calls.mono (awake_calls _) ?_; rintro e w9 ⟨rfl, hb⟩; have HB2 := Aside0.mk (below_step HB.out hb); clear hb) | (go_at_call 45; refine Calls.mono (read_calls H.out 39) ?_; rw [show atE S 39 = 0 from HA39.out, HD.out.2]; rintro e w9 ⟨rfl, hb⟩; have n1 := Aside0.mk (H.out.below hb); have n2 := Aside0.mk (below_step HB.out hb); clear H HB hb; have H := n1; have HB := n2; clear n1 n2) | (go_at_call 48; refine Calls.mono (loose_calls H.out) ?_; rw [HE1.out]; rintro e w9 ⟨rfl, rfl⟩) | (go_at_call 42; refine Calls.mono (size_calls H.out) ?_; rw [HE2.out]; rintro e w9 ⟨rfl, rfl⟩) | fail)
            go_ret
            exact ⟨rfl, HB2.out⟩
  · have p1 : 30 < (l.length : Int) := by omega
    go_enter Try.func9, Try.ntmps9
    go_wp2_with (first | (go_at_call 44; refine Calls.mono (awake_calls _) ?_; rintro e w9 ⟨rfl, hb⟩; have HB2 := Aside0.mk hb; clear hb) | fail)
    go_ret
    exact ⟨rfl, HB2.out⟩
set_option maxRecDepth 100000 in
theorem walk {H : Type} {enc : TypeId × Value → H} {W : World} {r : Reach} {b0 : Nat} {base : Nat} {spare : Nat → Bool} {held : Bool} {d0 : DataW H} {p0 : List MemPlace} (v0 : Value) (o0 : Value.okWide Try.prog W r b0 50 v0) (h0 : DataW.Trod enc Try.prog W base spare held 50 v0 d0 p0) (ke : Int) (_hk : (Lit.int .i64 ke).wf = true) (tn : Int) (_ht : (Lit.int .i64 tn).wf = true) (_w : World) :
    Calls Try.prog 9 #[v0, .int .i64 ke, .int .i64 tn] W fun e w' => e = .returned (.bool true) ∧ Below W.heap.size W w' := by
  obtain ⟨l, A, c, rfl, hc, _, hr⟩ := u8_arg o0 h0
  exact run l hc ke tn W hr
end Go.Proofs.Ytmgkflkpompchaa.StripFalls
