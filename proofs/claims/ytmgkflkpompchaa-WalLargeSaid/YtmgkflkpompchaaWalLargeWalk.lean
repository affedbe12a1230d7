/- brooklaw17.WalLarge, walked: at every input it answers true. No condition. -/
import Derived.Test.YtmgkflkpompchaaWalLoops
namespace Go.Proofs.Ytmgkflkpompchaa.WalLarge
open Go.RowKit Go.Proofs.YtmgkflkpompchaaW.PrintWords Go.Proofs.YtmgkflkpompchaaW.PrintLast Go.Proofs.YtmgkflkpompchaaW.PrintMore Go.Proofs.Ytmgkflkpompchaa.Strip Go.Proofs.Ytmgkflkpompchaa.Wal Go.Proofs.Ytmgkflkpompchaa.Args
set_option linter.unusedVariables false
set_option linter.unusedSimpArgs false

theorem made (n : Nat) (h : n ≤ 255) (w : World) : (Instr.makeSlice 50 (.int .i64 (1048577 + (n : Int))) (.int .i64 (1048577 + (n : Int)))).run Try.prog w = .ok (.slice (some ⟨w.heap.size, 0, none⟩) (1048577 + n) (1048577 + n)) (w.alloc (.cells (madeCells #[.int .u8 0] (1048577 + n)) 5)) := by
  have := run_make_row' 50 5 (.int .u8 0) 1 Try.underlying50 infoB rfl .i64 .i64 (1048577 + n) (by omega) (by omega) w
  rw [show ((1048577 + n : Nat) : Int) = 1048577 + (n : Int) by omega] at this
  exact this
theorem conv (n : Nat) (h : n ≤ 255) (w : World) : (convert 50 9 (.slice (some ⟨w.heap.size, 0, none⟩) (1048577 + n) (1048577 + n))).run Try.prog (w.alloc (.cells (madeCells #[.int .u8 0] (1048577 + n)) 5)) = .ok (.string (strOfNums (List.replicate (1048577 + n) 0))) (w.alloc (.cells (madeCells #[.int .u8 0] (1048577 + n)) 5)) :=
  own_string Try.underlying50 Try.underlying5 Try.underlying9 (own_made w 0 5 .u8 (1048577 + n) (Nat.zero_le _) (by omega))
theorem StrS.next {w w' : World} {v : Value} {xs : List ByteArray} {G X X' : Nat → Prop} (h : StrS w v xs G) (hd : ∀ k, G k → ¬ X k) (hn : Strip.Next X X' w w') : ∃ G', StrS w' v xs G' ∧ (∀ k, G' k → ¬ X' k) := by
  refine ⟨fun k => G k ∧ k < w.heap.size, (h.mono (G' := fun k => G k ∧ k < w.heap.size) (fun k h1 h2 => ⟨h2, h1⟩)).keep hn.1 (fun k hg => hd k hg.1), fun k hg hx => ?_⟩
  rcases hn.2 k hx with h1 | h1
  · exact hd k hg.1 h1
  · have := hg.2; omega
def grR (g : List ByteArray) : Res := chgR (newS 4096 0) wl0 g ([] ++ g) 0 0
theorem grR_is (g : List ByteArray) (hl : g.length ≤ 6) (hs : ∀ b ∈ g, b.size ≤ 49) : (grR g).e = 0 ∧ Whole (grR g).S (grR g).W ∧ (grR g).W.l = g ∧ (grR g).W.turn = 1 := by
  have h := whole0 0
  have hc := chg_is h (by show 0 + 1 ≤ 1000000; omega) (l := g) (all := [] ++ g) (side := 0) (at_ := 0) (apart_append wl0) (by omega) (framed_append h g)
  rcases hc with ⟨h1, _⟩ | ⟨_, _, _, h2, h3⟩
  · exfalso
    refine h1 (may_ok (fun b hb => by have := hs b hb; omega) ?_ (by rw [new_room]; omega))
    have h4 := sum_bound 6 49 g hl hs
    rw [new_room, framedB_size]
    unfold roomN; omega
  · rcases h2 with ⟨a1, a2, a3, a4⟩ | ⟨a1, _⟩
    · exact ⟨a1, a2, a3, a4⟩
    · have := (h3 0 (new_quiet 4096 0 (by omega)) (by omega)).1
      rw [a1] at this; cases this
theorem large_chg (S : St) (W : Wl) (h : W.dead = false) (l all : List ByteArray) (s n : Nat) (hl : ∃ b ∈ l, 1048576 < b.size) : chgR S W l all s n = ⟨4, S, W⟩ := by
  have hm : mayE S l (n + (framedB l).size) = 4 := by
    unfold mayE
    rw [if_pos]
    obtain ⟨b, hb, hz⟩ := hl
    rw [List.any_eq_true]
    exact ⟨b, hb, by unfold large; simp; omega⟩
  unfold chgR
  rw [if_neg (by rw [h]; simp), if_pos (by rw [hm]; decide), hm]
section
variable {B : Nat} {w : World} {p q : Nat} {S : St} {W : Wl} {X : Nat → Prop} {v : Value} {l : List ByteArray} {G : Nat → Prop}
theorem append_large (h : LogM B w p q S W X) (hw : Whole S W) (hl : StrS w v l G) (hsum : (framedL l).length ≤ 1099511627) (hb : ∃ b ∈ l, 1048576 < b.size) :
    Calls Try.prog 35 #[.pointer (some ⟨q, 0, none⟩), v] w fun e w' => e = .returned (.int .i64 4) ∧ ∃ X', LogM B w' p q S W X' ∧ Strip.Next X X' w w' := by
  have := append_whole h hw hl hsum
  rw [large_chg S W hw.live l _ _ _ hb] at this
  exact Calls.mono this (fun e w' hx => ⟨hx.1, hx.2 hw.inv⟩)
theorem check_large (h : LogM B w p q S W X) (hw : Whole S W) (hl : StrS w v l G) (hsum : (framedL l).length ≤ 1099511627) (hb : ∃ b ∈ l, 1048576 < b.size) :
    Calls Try.prog 38 #[.pointer (some ⟨q, 0, none⟩), v] w fun e w' => e = .returned (.int .i64 4) ∧ ∃ X', LogM B w' p q S W X' ∧ Strip.Next X X' w w' := by
  have := check_whole h hw hl hsum
  rw [large_chg S W hw.live l _ _ _ hb] at this
  exact Calls.mono this (fun e w' hx => ⟨hx.1, hx.2 hw.inv⟩)
theorem sum2 (x b : ByteArray) : (framedL [x, b]).length = x.size + 4 + (b.size + 4) := by
  show (frameL x ++ (frameL b ++ [])).length = _
  rw [List.length_append, List.length_append, frameL_len, frameL_len]; rfl
theorem sum1 (b : ByteArray) : (framedL [b]).length = b.size + 4 := by
  show (frameL b ++ []).length = _
  rw [List.length_append, frameL_len]; rfl
end
set_option maxHeartbeats 3200000 in
set_option maxRecDepth 100000 in
theorem run (n : Nat) (hn : n ≤ 255) (ns : List Int) {A : Option Addr} {c : Nat} (hc : ns.length ≤ c) (hcm : c ≤ maxLen) (w : World) (hr : ARow U8 1 w A ns) : Calls Try.prog 15 #[.int .u8 (n : Int), .slice A ns.length c] w fun e w' => e = .returned (.bool true) ∧ Below w.heap.size w w' := by
  have HR := Aside0.mk hr
  have HC := Aside0.mk (And.intro hc hcm)
  clear hr hc hcm
  have ht : Int.tmod (n : Int) 16 = ((n % 16 : Nat) : Int) := by rw [Int.tmod_eq_emod_of_nonneg (by omega)]; omega
  by_cases h16 : n % 16 = 0
  · have hgt : ¬ (0 : Int) < ((n % 16 : Nat) : Int) := by omega
    go_enter Try.func15, Try.ntmps15
    go_upto_region 7 with (first | (go_at_call 40; refine Calls.mono (room_plan_calls _) ?_; rintro e w1 ⟨rfl, hb⟩; have HB1 := Aside0.mk hb; clear hb) | (go_at_call 31; refine Calls.mono (new_strip 4096 0 0 0 _) ?_; rintro e w2 ⟨p, X, rfl, hs, hb⟩; have HS2 := Aside0.mk hs; have HB2 := Aside0.mk (below_step HB1.out hb); clear hb hs) | (go_at_call 32; refine Calls.mono (open_log HS2.out rfl rfl (Disk.fresh 4096 0) (by omega)) ?_; rintro e w3 ⟨q, rfl, hq, ⟨X3, hl, hx3⟩, hw, hb⟩; have HL3 := Aside0.mk hl; have HB3 := Aside0.mk (below_step HB2.out hb); clear hb hl hq hw hx3) | (go_at_call 33; refine Calls.mono (num_calls _ _) ?_; rintro e w9 ⟨rfl, rfl⟩) | fail)
    have hm := made n hn w3
    have hv := conv n hn w3
    have hbig : 1048576 < (strOfNums (List.replicate (1048577 + n) 0)).size := by rw [strOfNums_size, List.length_replicate]; omega
    have hbig2 : (strOfNums (List.replicate (1048577 + n) 0)).size ≤ 2000000 := by rw [strOfNums_size, List.length_replicate]; omega
    have HA4 := Aside0.mk (below_alloc (Below.refl _ _) (.cells (madeCells #[.int .u8 0] (1048577 + n)) 5) : Below w3.heap.size w3 _)
    generalize strOfNums (List.replicate (1048577 + n) 0) = big at hv hbig hbig2
    generalize w3.alloc (.cells (madeCells #[.int .u8 0] (1048577 + n)) 5) = w4 at hm hv HA4
    have HBG := Aside0.mk (And.intro hbig hbig2)
    clear hbig hbig2
    go_upto_region 8 with fail
    clear hm hv HS2
    have HL4 := Aside0.mk (HL3.out.below HA4.out)
    have HB4 := Aside0.mk (below_step HB3.out HA4.out)
    go_upto_region 9 with (first | (go_at_call 34; refine Calls.mono (group_calls (HR.out.u8 HB4.out) HC.out.1 HC.out.2) ?_; rintro e w5 ⟨gv, rfl, ho, hb⟩; have HG5 := Aside0.mk (Row.fresh (b0 := w.heap.size) (X := X3) ho HB4.out.size HL4.out.lt); have HL5 := Aside0.mk (HL4.out.below hb); have HB5 := Aside0.mk (below_step HB4.out hb); clear ho hb) | fail)
    have HFG := Aside0.mk (Few.group ns)
    generalize groupL ns = g at HG5 HFG
    have HGR := Aside0.mk (grR_is g HFG.out.1 HFG.out.2)
    have HAP := Aside0.mk (append_whole HL5.out (whole0 0) HG5.out.strS (by have := HFG.out.sum; omega))
    rw [show chgR (newS 4096 0) ⟨0, 0, 0, [], false⟩ g ((⟨0, 0, 0, [], false⟩ : Wl).l ++ g) (⟨0, 0, 0, [], false⟩ : Wl).side (⟨0, 0, 0, [], false⟩ : Wl).size = grR g from rfl] at HAP
    generalize grR g = R at HGR HAP
    go_upto_region 10 with (first | (go_at_call 35; refine Calls.mono HAP.out ?_; rintro e w6 ⟨rfl, hx⟩; obtain ⟨X6, h6, n6⟩ := hx HGR.out.2.1.inv; have HL6 := Aside0.mk h6; have HG6 := Aside0.mk (HG5.out.next n6); have HB6 := Aside0.mk (LogM.thru HL5.out HB5.out HB1.out.size n6); clear h6 n6 hx) | fail)
    rw [HGR.out.1]
    clear HAP
    have HA2 := Aside0.mk (fun (w5 : World) (v : Value) (G : Nat → Prop) (hb : Below w6.heap.size w6 w5) (hl : StrS w5 v [⟨#[120]⟩, big] G) => append_large (HL6.out.below hb) HGR.out.2.1 hl (by rw [sum2]; have := HBG.out.2; show 1 + 4 + _ ≤ _; omega) ⟨big, by simp, HBG.out.1⟩)
    go_upto_region 11 with (first | (go_at_call 35; refine Calls.mono (HA2.out _ _ _ (below_alloc (Below.refl _ _) _) (two_strs _ _ _)) ?_; rintro e w7 ⟨rfl, X7, h7, n7⟩; have HL7 := Aside0.mk h7; have HG7 := Aside0.mk ((HG6.out.same (below_alloc (Below.refl _ _) _)).next n7); have HB7 := Aside0.mk (LogM.thru (HL6.out.below (below_alloc (Below.refl _ _) _)) (below_alloc HB6.out _) HB1.out.size n7); clear h7 n7) | fail)
    clear HA2
    have HA3 := Aside0.mk (fun (w5 : World) (v : Value) (G : Nat → Prop) (hb : Below w7.heap.size w7 w5) (hl : StrS w5 v [big] G) => check_large (HL7.out.below hb) HGR.out.2.1 hl (by rw [sum1]; have := HBG.out.2; omega) ⟨big, by simp, HBG.out.1⟩)
    go_upto_region 12 with (first | (go_at_call 38; refine Calls.mono (HA3.out _ _ _ (below_alloc (Below.refl _ _) _) (one_str _ _)) ?_; rintro e w8 ⟨rfl, X8, h8, n8⟩; have HL8 := Aside0.mk h8; have HG8 := Aside0.mk ((HG7.out.same (below_alloc (Below.refl _ _) _)).next n8); have HB8 := Aside0.mk (LogM.thru (HL7.out.below (below_alloc (Below.refl _ _) _)) (below_alloc HB7.out _) HB1.out.size n8); clear h8 n8) | fail)
    clear HA3
    have HLN := Aside0.mk (show g.length ≤ 1099511627776 by have := HFG.out.1; omega)
    go_wp2_with (first | (go_at_call 33; refine Calls.mono (num_calls _ _) ?_; rintro e w9 ⟨rfl, rfl⟩) | (go_at_call 37; refine Calls.mono (recs_whole (HL8.out.below ?bl) HGR.out.2.1) ?_; (case bl => repeat (first | exact Below.refl _ _ | apply pw_below_drewN | apply below_drew | apply below_alloc)); rintro e w9 ⟨v, rfl, ho, hb⟩; rw [HGR.out.2.2.1] at ho; have HO9 := Aside0.mk (StrS.of_own ho); have HG9 := Aside0.mk (HG8.out.same hb); have HB9 := Aside0.mk (below_step HB8.out hb); clear ho hb) | (go_at_call 36; refine Calls.mono (texts_calls HO9.out HG9.out.strS HLN.out) ?_; rintro e w10 ⟨rfl, hb⟩; have HB10 := Aside0.mk (below_step HB9.out hb); clear hb) | (go_at_call 30; refine Calls.mono (awake_calls _) ?_; rintro e w11 ⟨rfl, hb⟩; have HB11 := Aside0.mk (below_step HB10.out hb); clear hb) | fail)
    go_ret
    exact ⟨rfl, HB11.out⟩
  · have hgt : (0 : Int) < ((n % 16 : Nat) : Int) := by omega
    go_enter Try.func15, Try.ntmps15
    go_wp2_with (first | (go_at_call 30; refine Calls.mono (awake_calls _) ?_; rintro e w11 ⟨rfl, hb⟩; have HB11 := Aside0.mk hb; clear hb) | fail)
    go_ret
    exact ⟨rfl, HB11.out⟩
set_option maxRecDepth 100000 in
theorem walk {H : Type} {enc : TypeId × Value → H} {W : World} {r : Reach} {b0 : Nat} {base : Nat} {spare : Nat → Bool} {held : Bool} {d1 : DataW H} {p1 : List MemPlace} (n : Int) (hn : (Lit.int .u8 n).wf = true) (v1 : Value) (o1 : Value.okWide Try.prog W r b0 50 v1) (h1 : DataW.Trod enc Try.prog W base spare held 50 v1 d1 p1) (_w : World) :
    Calls Try.prog 15 #[.int .u8 n, v1] W fun e w' => e = .returned (.bool true) ∧ Below W.heap.size W w' := by
  obtain ⟨l, A, c, rfl, hc, hcm, hr⟩ := u8_arg o1 h1
  have hb : IntKind.u8.min ≤ n ∧ n ≤ IntKind.u8.max := by simpa [Lit.wf] using hn
  have h0 : 0 ≤ n := hb.1
  have h255 : n ≤ 255 := hb.2
  obtain ⟨m, rfl⟩ : ∃ m : Nat, n = (m : Int) := ⟨n.toNat, by omega⟩
  exact run m (by omega) l hc hcm W hr
end Go.Proofs.Ytmgkflkpompchaa.WalLarge
