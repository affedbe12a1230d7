/- brooklaw16.StripTear, walked: at every input it answers true. No condition. -/
import Derived.Test.YtmgkflkpompchaaStripTearPure
namespace Go.Proofs.Ytmgkflkpompchaa.StripTear
open Go.RowKit Go.Proofs.YtmgkflkpompchaaW.PrintWords Go.Proofs.YtmgkflkpompchaaW.PrintLast Go.Proofs.YtmgkflkpompchaaW.PrintMore Go.Proofs.Ytmgkflkpompchaa.Strip
set_option linter.unusedVariables false
set_option linter.unusedSimpArgs false

theorem tear_sync' {S : St} {k j : Nat} (h : TInv S k (j - 1)) (hj : 1 ≤ j) (hc : j ≤ 100) : syE S = ansE k (j - 1) ∧ TInv (syS S) k (j + 1 - 1) := by
  have := tear_sync h (by omega)
  rwa [show j - 1 + 1 = j + 1 - 1 by omega] at this
theorem tear_write' {S : St} {k j : Nat} (h : TInv S k (j - 1)) (hj : 1 ≤ j) (hc : j ≤ 100) : ∀ b : ByteArray, b.size = 32 → wrE S ((j : Int) % 2) b = ansE k (j - 1) ∧ TInv (wrS S ((j : Int) % 2) b) k (j + 1 - 1) := fun b hb => by
  have := tear_write h (by omega) (j % 2) (by omega) b hb
  rwa [show j - 1 + 1 = j + 1 - 1 by omega, show ((j % 2 : Nat) : Int) = (j : Int) % 2 by omega] at this
theorem fall_two {S : St} {k c : Nat} (h : TInv S k c) : atE (fallS S 0 0 0 0) 0 = 0 ∧ (fallS S 0 0 0 0).down = false := by
  have hl : (fallS S 0 0 0 0).safe.length = 2 := by
    show (fallAt S 0 _ 0).safe.length = 2
    unfold fallAt
    dsimp only
    split
    · rw [doAll_len]; exact h.len
    · rw [List.length_set, doAll_len]; exact h.len
  refine ⟨?_, rfl⟩
  unfold atE
  rw [if_neg (show ¬ (fallS S 0 0 0 0).down = true by show ¬ false = true; simp), if_neg (by rw [hl]; omega)]

set_option maxHeartbeats 1600000 in
set_option maxRecDepth 100000 in
theorem walk (a : Int) (ha : (Lit.int .u8 a).wf = true) (t : Int) (ht : (Lit.int .u8 t).wf = true) (s : Int) (hs : (Lit.int .u8 s).wf = true) (w : World) : Calls Try.prog 12 #[.int .u8 a, .int .u8 t, .int .u8 s] w fun e w' => e = .returned (.bool true) ∧ Below w.heap.size w w' := by
  have ha0 : 0 ≤ a ∧ a ≤ 255 := (show IntKind.u8.min ≤ a ∧ a ≤ IntKind.u8.max by simpa [Lit.wf] using ha)
  have ht0 : 0 ≤ t ∧ t ≤ 255 := (show IntKind.u8.min ≤ t ∧ t ≤ IntKind.u8.max by simpa [Lit.wf] using ht)
  have hs0 : 0 ≤ s ∧ s ≤ 255 := (show IntKind.u8.min ≤ s ∧ s ≤ IntKind.u8.max by simpa [Lit.wf] using hs)
  clear ha ht hs
  obtain ⟨K0, hK0, hK1⟩ : ∃ K0 : Nat, 1 + a % 10 = (K0 : Int) ∧ 1 ≤ K0 ∧ K0 ≤ 10 := ⟨(1 + a % 10).toNat, by omega, by omega, by omega⟩
  obtain ⟨T0, hT0, hT1⟩ : ∃ T0 : Nat, 1 + t % 10 = (T0 : Int) ∧ 1 ≤ T0 ∧ T0 ≤ 10 := ⟨(1 + t % 10).toNat, by omega, by omega, by omega⟩
  obtain ⟨a0, a1⟩ := ha0
  obtain ⟨t0, t1⟩ := ht0
  obtain ⟨s0, s1⟩ := hs0
  go_enter Try.func12, Try.ntmps12
  go_upto_region 2 with fail
  go_wp2_with fail
  refine Calls.mono (new_calls 2 (K0 : Int) 0 0 w) ?_
  rintro e w1 ⟨p, F, rfl, hs, hb⟩
  have H := Aside0.mk hs
  have HB := Aside0.mk hb
  have HT := Aside0.mk (tear_new K0 hK1.1)
  clear hs hb
  generalize newS 2 (K0 : Int) = S0 at H HT
  by_cases p5 : 127 < t
  · go_upto_region 7 with fail
    go_wp2_with fail
    refine Calls.mono (tear_calls H.out (T0 : Int)) ?_
    rintro e w2 ⟨rfl, hs, hk⟩
    have n1 := Aside0.mk hs
    have n2 := Aside0.mk (below_thru (F := fun k => k = p) HB.out (fun k e => by subst e; exact H.out.ge _ H.out.own) hk)
    have n3 := Aside0.mk (tear_again HT.out hK1.1 T0 hT1.1)
    clear H HB HT hs hk
    have H := n1
    have HB := n2
    have HT := n3
    clear n1 n2 n3 hK0 hT0
    generalize tearS S0 (T0 : Int) = S1 at H HT
    obtain ⟨R0, hR0, hR1⟩ : ∃ R0 : Nat, 1 + s % 10 = (R0 : Int) ∧ R0 ≤ 10 := ⟨(1 + s % 10).toNat, by omega, by omega⟩
    go_upto_region 9 with fail
    go_loopw [9, 10] (fun v9 v10 w' => ∃ (j : Nat) (S : St) (F : Nat → Prop), 1 ≤ j ∧ j ≤ 11 ∧ v9 = .int .i64 j ∧ Aside0 (IsStrip w.heap.size w' p S F) ∧ Aside0 (TInv S T0 (j - 1)) ∧ Aside0 (Below w.heap.size w w')) (fun v9 _ _ => 11 - (intOf v9).toNat)
    case atStart => exact ⟨1, _, _, Nat.le_refl _, by omega, rfl, H, HT, HB⟩
    case round =>
      clear H HT HB
      obtain ⟨j, S, F, hj1, hj2, rfl, H, HT, HB⟩ := hrel
      by_cases p9 : j ≤ 10
      · have p0 : (j : Int) ≤ 10 := by omega
        have HG := Aside0.mk (show ∀ c ∈ S.loose, c.1 < S.safe.length from fun c hc => by rw [HT.out.len]; exact HT.out.idx c hc)
        have HL := Aside0.mk (show S.loose.length ≤ 1099511627776 from Nat.le_trans HT.out.num (by omega))
        have HY := Aside0.mk (tear_sync' HT.out hj1 (by omega))
        have HW := Aside0.mk (tear_write' HT.out hj1 (by omega))
        by_cases pk : j < T0
        · rw [show ansE T0 (j - 1) = 0 from if_pos (by omega)] at HY HW
          have pki : ¬ ((T0 : Int) ≤ (j : Int)) := by omega
          by_cases ps : (j : Int) = (R0 : Int)
          · go_wp2_with (first | (go_at_call 33; refine Calls.mono (num_calls _ _) ?_; rintro e w9 ⟨rfl, rfl⟩) | (go_at_call 47; refine Calls.mono (sync_calls H.out HG.out) ?_; rw [HY.out.1]; rintro e w9 ⟨rfl, F', hs, hn⟩; have n1 := Aside0.mk hs; have n2 := Aside0.mk (below_thru HB.out H.out.ge hn.1); clear H HB hs hn; have H := n1; have HB := n2; clear n1 n2) | fail)
            go_roundw
            case measure => simp [intOf]; omega
            case rel => exact ⟨j + 1, _, _, by omega, by omega, by go_num, H, ⟨HY.out.2⟩, HB⟩
          · go_wp2_with (first | (go_at_call 33; refine Calls.mono (num_calls _ _) ?_; rintro e w9 ⟨rfl, rfl⟩) | (go_at_call 46; refine Calls.mono (block_calls _ _) ?_; rintro e w9 ⟨rfl, hb⟩; have n1 := Aside0.mk (H.out.below hb); have n2 := Aside0.mk (below_step HB.out hb); clear H HB hb; have H := n1; have HB := n2; clear n1 n2) | (go_at_call 43; refine Calls.mono (write_calls H.out _ _ HL.out) ?_; rw [(HW.out _ (blk_size _)).1]; rintro e w9 ⟨rfl, F', hs, hn⟩; have n1 := Aside0.mk hs; have n2 := Aside0.mk (below_thru HB.out H.out.ge hn.1); clear H HB hs hn; have H := n1; have HB := n2; clear n1 n2) | fail)
            go_roundw
            case measure => simp [intOf]; omega
            case rel => exact ⟨j + 1, _, _, by omega, by omega, by go_num, H, ⟨(HW.out _ (blk_size _)).2⟩, HB⟩
        · rw [show ansE T0 (j - 1) = 8 from if_neg (by omega)] at HY HW
          have pki : ((T0 : Int) ≤ (j : Int)) := by omega
          by_cases ps : (j : Int) = (R0 : Int)
          · go_wp2_with (first | (go_at_call 33; refine Calls.mono (num_calls _ _) ?_; rintro e w9 ⟨rfl, rfl⟩) | (go_at_call 47; refine Calls.mono (sync_calls H.out HG.out) ?_; rw [HY.out.1]; rintro e w9 ⟨rfl, F', hs, hn⟩; have n1 := Aside0.mk hs; have n2 := Aside0.mk (below_thru HB.out H.out.ge hn.1); clear H HB hs hn; have H := n1; have HB := n2; clear n1 n2) | fail)
            go_roundw
            case measure => simp [intOf]; omega
            case rel => exact ⟨j + 1, _, _, by omega, by omega, by go_num, H, ⟨HY.out.2⟩, HB⟩
          · go_wp2_with (first | (go_at_call 33; refine Calls.mono (num_calls _ _) ?_; rintro e w9 ⟨rfl, rfl⟩) | (go_at_call 46; refine Calls.mono (block_calls _ _) ?_; rintro e w9 ⟨rfl, hb⟩; have n1 := Aside0.mk (H.out.below hb); have n2 := Aside0.mk (below_step HB.out hb); clear H HB hb; have H := n1; have HB := n2; clear n1 n2) | (go_at_call 43; refine Calls.mono (write_calls H.out _ _ HL.out) ?_; rw [(HW.out _ (blk_size _)).1]; rintro e w9 ⟨rfl, F', hs, hn⟩; have n1 := Aside0.mk hs; have n2 := Aside0.mk (below_thru HB.out H.out.ge hn.1); clear H HB hs hn; have H := n1; have HB := n2; clear n1 n2) | fail)
            go_roundw
            case measure => simp [intOf]; omega
            case rel => exact ⟨j + 1, _, _, by omega, by omega, by go_num, H, ⟨(HW.out _ (blk_size _)).2⟩, HB⟩
      · obtain rfl : j = 11 := by omega
        have HD := Aside0.mk (HT.out.dn (by omega))
        have HFA := Aside0.mk (fall_two HT.out)
        have HRA := Aside0.mk (show atE S 0 = 8 from if_pos HD.out)
        have HG := Aside0.mk (show ∀ c ∈ S.loose, c.1 < S.safe.length from fun c hc => by rw [HT.out.len]; exact HT.out.idx c hc)
        have HL := Aside0.mk (show S.loose.length ≤ 1099511627776 from Nat.le_trans HT.out.num (by omega))
        go_wp2_with fail
        refine Calls.mono (read_calls H.out 0) ?_
        rw [HRA.out]
        rintro e w9 ⟨rfl, hb⟩
        have n1 := Aside0.mk (H.out.below hb)
        have n2 := Aside0.mk (below_step HB.out hb)
        clear H HB hb
        have H := n1
        have HB := n2
        clear n1 n2
        go_wp2_with fail
        refine Calls.mono (fall_calls H.out HG.out HT.out.siz HT.out.ssz HL.out 0 0 0 0) ?_
        rintro e w9 ⟨rfl, F', hs, hn⟩
        have n1 := Aside0.mk hs
        have n2 := Aside0.mk (below_thru HB.out H.out.ge hn.1)
        clear H HB hs hn
        have H := n1
        have HB := n2
        clear n1 n2
        go_wp2_with fail
        refine Calls.mono (read_calls H.out 0) ?_
        rw [HFA.out.1]
        rintro e w9 ⟨rfl, hb⟩
        have n1 := Aside0.mk (H.out.below hb)
        have n2 := Aside0.mk (below_step HB.out hb)
        clear H HB hb
        have H := n1
        have HB := n2
        clear n1 n2
        go_wp2_with (first | (go_at_call 33; refine Calls.mono (num_calls _ _) ?_; rintro e w9 ⟨rfl, rfl⟩) | (go_at_call 41; refine Calls.mono (down_calls H.out) ?_; rw [HFA.out.2]; rintro e w9 ⟨rfl, rfl⟩) | (go_at_call 44; refine Calls.mono (awake_calls _) ?_; rintro e w9 ⟨rfl, hb⟩; have HB2 := Aside0.mk (below_step HB.out hb); clear hb) | fail)
        go_ret
        exact ⟨rfl, HB2.out⟩
  · clear hT0 hK0
    obtain ⟨R0, hR0, hR1⟩ : ∃ R0 : Nat, 1 + s % 10 = (R0 : Int) ∧ R0 ≤ 10 := ⟨(1 + s % 10).toNat, by omega, by omega⟩
    go_upto_region 9 with fail
    go_loopw [9, 10] (fun v9 v10 w' => ∃ (j : Nat) (S : St) (F : Nat → Prop), 1 ≤ j ∧ j ≤ 11 ∧ v9 = .int .i64 j ∧ Aside0 (IsStrip w.heap.size w' p S F) ∧ Aside0 (TInv S K0 (j - 1)) ∧ Aside0 (Below w.heap.size w w')) (fun v9 _ _ => 11 - (intOf v9).toNat)
    case atStart => exact ⟨1, _, _, Nat.le_refl _, by omega, rfl, H, HT, HB⟩
    case round =>
      clear H HT HB
      obtain ⟨j, S, F, hj1, hj2, rfl, H, HT, HB⟩ := hrel
      by_cases p9 : j ≤ 10
      · have p0 : (j : Int) ≤ 10 := by omega
        have HG := Aside0.mk (show ∀ c ∈ S.loose, c.1 < S.safe.length from fun c hc => by rw [HT.out.len]; exact HT.out.idx c hc)
        have HL := Aside0.mk (show S.loose.length ≤ 1099511627776 from Nat.le_trans HT.out.num (by omega))
        have HY := Aside0.mk (tear_sync' HT.out hj1 (by omega))
        have HW := Aside0.mk (tear_write' HT.out hj1 (by omega))
        by_cases pk : j < K0
        · rw [show ansE K0 (j - 1) = 0 from if_pos (by omega)] at HY HW
          have pki : ¬ ((K0 : Int) ≤ (j : Int)) := by omega
          by_cases ps : (j : Int) = (R0 : Int)
          · go_wp2_with (first | (go_at_call 33; refine Calls.mono (num_calls _ _) ?_; rintro e w9 ⟨rfl, rfl⟩) | (go_at_call 47; refine Calls.mono (sync_calls H.out HG.out) ?_; rw [HY.out.1]; rintro e w9 ⟨rfl, F', hs, hn⟩; have n1 := Aside0.mk hs; have n2 := Aside0.mk (below_thru HB.out H.out.ge hn.1); clear H HB hs hn; have H := n1; have HB := n2; clear n1 n2) | fail)
            go_roundw
            case measure => simp [intOf]; omega
            case rel => exact ⟨j + 1, _, _, by omega, by omega, by go_num, H, ⟨HY.out.2⟩, HB⟩
          · go_wp2_with (first | (go_at_call 33; refine Calls.mono (num_calls _ _) ?_; rintro e w9 ⟨rfl, rfl⟩) | (go_at_call 46; refine Calls.mono (block_calls _ _) ?_; rintro e w9 ⟨rfl, hb⟩; have n1 := Aside0.mk (H.out.below hb); have n2 := Aside0.mk (below_step HB.out hb); clear H HB hb; have H := n1; have HB := n2; clear n1 n2) | (go_at_call 43; refine Calls.mono (write_calls H.out _ _ HL.out) ?_; rw [(HW.out _ (blk_size _)).1]; rintro e w9 ⟨rfl, F', hs, hn⟩; have n1 := Aside0.mk hs; have n2 := Aside0.mk (below_thru HB.out H.out.ge hn.1); clear H HB hs hn; have H := n1; have HB := n2; clear n1 n2) | fail)
            go_roundw
            case measure => simp [intOf]; omega
            case rel => exact ⟨j + 1, _, _, by omega, by omega, by go_num, H, ⟨(HW.out _ (blk_size _)).2⟩, HB⟩
        · rw [show ansE K0 (j - 1) = 8 from if_neg (by omega)] at HY HW
          have pki : ((K0 : Int) ≤ (j : Int)) := by omega
          by_cases ps : (j : Int) = (R0 : Int)
          · go_wp2_with (first | (go_at_call 33; refine Calls.mono (num_calls _ _) ?_; rintro e w9 ⟨rfl, rfl⟩) | (go_at_call 47; refine Calls.mono (sync_calls H.out HG.out) ?_; rw [HY.out.1]; rintro e w9 ⟨rfl, F', hs, hn⟩; have n1 := Aside0.mk hs; have n2 := Aside0.mk (below_thru HB.out H.out.ge hn.1); clear H HB hs hn; have H := n1; have HB := n2; clear n1 n2) | fail)
            go_roundw
            case measure => simp [intOf]; omega
            case rel => exact ⟨j + 1, _, _, by omega, by omega, by go_num, H, ⟨HY.out.2⟩, HB⟩
          · go_wp2_with (first | (go_at_call 33; refine Calls.mono (num_calls _ _) ?_; rintro e w9 ⟨rfl, rfl⟩) | (go_at_call 46; refine Calls.mono (block_calls _ _) ?_; rintro e w9 ⟨rfl, hb⟩; have n1 := Aside0.mk (H.out.below hb); have n2 := Aside0.mk (below_step HB.out hb); clear H HB hb; have H := n1; have HB := n2; clear n1 n2) | (go_at_call 43; refine Calls.mono (write_calls H.out _ _ HL.out) ?_; rw [(HW.out _ (blk_size _)).1]; rintro e w9 ⟨rfl, F', hs, hn⟩; have n1 := Aside0.mk hs; have n2 := Aside0.mk (below_thru HB.out H.out.ge hn.1); clear H HB hs hn; have H := n1; have HB := n2; clear n1 n2) | fail)
            go_roundw
            case measure => simp [intOf]; omega
            case rel => exact ⟨j + 1, _, _, by omega, by omega, by go_num, H, ⟨(HW.out _ (blk_size _)).2⟩, HB⟩
      · obtain rfl : j = 11 := by omega
        have HD := Aside0.mk (HT.out.dn (by omega))
        have HFA := Aside0.mk (fall_two HT.out)
        have HRA := Aside0.mk (show atE S 0 = 8 from if_pos HD.out)
        have HG := Aside0.mk (show ∀ c ∈ S.loose, c.1 < S.safe.length from fun c hc => by rw [HT.out.len]; exact HT.out.idx c hc)
        have HL := Aside0.mk (show S.loose.length ≤ 1099511627776 from Nat.le_trans HT.out.num (by omega))
        go_wp2_with fail
        refine Calls.mono (read_calls H.out 0) ?_
        rw [HRA.out]
        rintro e w9 ⟨rfl, hb⟩
        have n1 := Aside0.mk (H.out.below hb)
        have n2 := Aside0.mk (below_step HB.out hb)
        clear H HB hb
        have H := n1
        have HB := n2
        clear n1 n2
        go_wp2_with fail
        refine Calls.mono (fall_calls H.out HG.out HT.out.siz HT.out.ssz HL.out 0 0 0 0) ?_
        rintro e w9 ⟨rfl, F', hs, hn⟩
        have n1 := Aside0.mk hs
        have n2 := Aside0.mk (below_thru HB.out H.out.ge hn.1)
        clear H HB hs hn
        have H := n1
        have HB := n2
        clear n1 n2
        go_wp2_with fail
        refine Calls.mono (read_calls H.out 0) ?_
        rw [HFA.out.1]
        rintro e w9 ⟨rfl, hb⟩
        have n1 := Aside0.mk (H.out.below hb)
        have n2 := Aside0.mk (below_step HB.out hb)
        clear H HB hb
        have H := n1
        have HB := n2
        clear n1 n2
        go_wp2_with (first | (go_at_call 33; refine Calls.mono (num_calls _ _) ?_; rintro e w9 ⟨rfl, rfl⟩) | (go_at_call 41; refine Calls.mono (down_calls H.out) ?_; rw [HFA.out.2]; rintro e w9 ⟨rfl, rfl⟩) | (go_at_call 44; refine Calls.mono (awake_calls _) ?_; rintro e w9 ⟨rfl, hb⟩; have HB2 := Aside0.mk (below_step HB.out hb); clear hb) | fail)
        go_ret
        exact ⟨rfl, HB2.out⟩
end Go.Proofs.Ytmgkflkpompchaa.StripTear
