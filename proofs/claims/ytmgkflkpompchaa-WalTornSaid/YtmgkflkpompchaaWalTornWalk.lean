/- brooklaw17.WalTorn, walked: at every input it answers true. No condition. -/
import Derived.Test.YtmgkflkpompchaaWalDigits
namespace Go.Proofs.Ytmgkflkpompchaa.WalTorn
open Go.RowKit Go.Proofs.YtmgkflkpompchaaW.PrintWords Go.Proofs.YtmgkflkpompchaaW.PrintLast Go.Proofs.YtmgkflkpompchaaW.PrintMore Go.Proofs.Ytmgkflkpompchaa.Strip Go.Proofs.Ytmgkflkpompchaa.Wal Go.Proofs.Ytmgkflkpompchaa.Args
set_option linter.unusedVariables false
set_option linter.unusedSimpArgs false

structure Torn (B : Nat) (w : World) (p q : Nat) (S : St) (W : Wl) (X : Nat → Prop) (v : Value) (i : Nat) : Prop where
  log : LogM B w p q S W X
  whole : Whole S W
  room : S.safe.length = 4096
  turn : W.turn ≤ 2 * i + 1
  few : Few (1 + 7 * i) W.l
  rd : Rd w X v W.l
variable {B : Nat} {w w' : World} {p q i : Nat} {S : St} {W : Wl} {X X' : Nat → Prop} {v : Value}
theorem Torn.below (h : Torn B w p q S W X v i) (hb : Below w.heap.size w w') : Torn B w' p q S W X v i := ⟨h.log.below hb, h.whole, h.room, h.turn, h.few, h.rd.same hb⟩
theorem Torn.tear (h : Torn B w p q S W X v i) (n : Int) (hl : LogM B w' p q (tearS S n) W X) (hk : Strip.Kept X w w') : Torn B w' p q (tearS S n) W X v i :=
  ⟨hl, tear_whole h.whole n, h.room, h.turn, h.few, h.rd.next ⟨hk, fun k hk => .inl hk⟩⟩
theorem Torn.len (h : Torn B w p q S W X v i) : W.l.length ≤ 1099511627776 := Nat.le_trans (len_le W.l) (Nat.le_trans h.whole.len (by omega))
def firstB : ByteArray := ⟨#[102, 105, 114, 115, 116]⟩
def firstR : Res := chgR (newS 4096 0) wl0 [firstB] ([] ++ [firstB]) 0 0
theorem first_few : Few 1 [firstB] := ⟨Nat.le_refl _, fun b hb => by rw [List.mem_singleton] at hb; subst hb; decide⟩
set_option maxRecDepth 100000 in
theorem firstR_is : firstR.e = 0 ∧ Whole firstR.S firstR.W ∧ firstR.W.l = [firstB] ∧ firstR.W.turn = 1 ∧ firstR.S.safe.length = 4096 := by
  have h := append_few (l := [firstB]) (whole0 0) (by show 0 + 1 ≤ 1000000; omega) new_room (first_few.mono (by omega))
  obtain ⟨h1, h2, h3, h4⟩ := h
  obtain ⟨q1, q2⟩ := h4 0 (new_quiet 4096 0 (by omega)) (by omega)
  rcases h3 with ⟨a1, a2, a3, a4⟩ | ⟨a1, _⟩
  · exact ⟨q1, a2, a3, a4, h1⟩
  · have e0 : (chgR (newS 4096 0) wl0 [firstB] (wl0.l ++ [firstB]) wl0.side wl0.size).e = 0 := q1
    rw [e0] at a1; cases a1
/-- What an Append that may fall leaves. -/
structure TornRes (W : Wl) (g : List ByteArray) (R : Res) : Prop where
  len : R.S.safe.length = 4096
  inv : SInv R.S
  loose : R.S.loose.length ≤ 1099511627776
  fall : ∀ bl cr ke tn, ∃ C cs cz l, (C ≤ W.turn + 1 ∧ (l = W.l ++ g ∨ l = W.l ∧ R.e = 8)) ∧ Disk (fallS R.S bl cr ke tn).safe C cs cz l
theorem torn_res (h : Torn B w p q S W X v i) (hi : i < 12) (ns : List Int) : ((chgR S W (groupL ns) (W.l ++ groupL ns) W.side W.size).e = 0 ∨ (chgR S W (groupL ns) (W.l ++ groupL ns) W.side W.size).e = 8) ∧ TornRes W (groupL ns) (chgR S W (groupL ns) (W.l ++ groupL ns) W.side W.size) := by
  have hl := chg_loose h.whole (l := groupL ns) (all := W.l ++ groupL ns) (at_ := W.size) h.whole.disk.hside
  have ht := h.turn
  obtain ⟨h1, h2, h3, h4⟩ := append_few h.whole (by omega) h.room (l := groupL ns) ((h.few.append (Few.group ns)).mono (by omega))
  generalize chgR S W (groupL ns) (W.l ++ groupL ns) W.side W.size = R at hl h1 h2 h3 h4 ⊢
  rcases h3 with ⟨a1, a2, a3, a4⟩ | ⟨a1, a2, a3, cs, cz, a4⟩
  · refine ⟨.inl a1, h1, h2, hl, fun bl cr ke tn => ⟨R.W.turn, R.W.side, R.W.size, R.W.l, ⟨by omega, .inl a3⟩, ?_⟩⟩
    rw [fall_none R.S a2.lo]; exact a2.disk
  · refine ⟨.inr a1, h1, h2, hl, fun bl cr ke tn => ?_⟩
    rcases a4 bl cr ke tn with g | g
    · exact ⟨_, _, _, _, ⟨by omega, .inr ⟨rfl, a1⟩⟩, g⟩
    · exact ⟨_, _, _, _, ⟨by omega, .inl rfl⟩, g⟩
/-- What the next Append leaves. -/
theorem torn_next {l : List ByteArray} {g : List ByteArray} {C cs cz : Nat} {S' : St} {d : ByteArray} (h : Torn B w p q S W X v i) (hi : i < 12) (ns : List Int) (hg : g = groupL ns) (hl : l = W.l ++ g ∨ l = W.l) (hw : Whole S' ⟨C, cs, cz, l, false⟩) (hC : C ≤ W.turn + 1) (hN : S'.safe.length = 4096) (hq : Quiet S' 0) (hd : d.size ≤ 2) :
    (chgR S' ⟨C, cs, cz, l, false⟩ [d] (l ++ [d]) cs cz).e = 0 ∧ Whole (chgR S' ⟨C, cs, cz, l, false⟩ [d] (l ++ [d]) cs cz).S (chgR S' ⟨C, cs, cz, l, false⟩ [d] (l ++ [d]) cs cz).W ∧
      (chgR S' ⟨C, cs, cz, l, false⟩ [d] (l ++ [d]) cs cz).W.l = l ++ [d] ∧ (chgR S' ⟨C, cs, cz, l, false⟩ [d] (l ++ [d]) cs cz).S.safe.length = 4096 ∧ (chgR S' ⟨C, cs, cz, l, false⟩ [d] (l ++ [d]) cs cz).W.turn ≤ 2 * (i + 1) + 1 ∧ Few (1 + 7 * (i + 1)) (l ++ [d]) := by
  have ht := h.turn
  have hd1 : Few 1 [d] := ⟨Nat.le_refl _, fun b hb => by rw [List.mem_singleton] at hb; subst hb; omega⟩
  have hfl : Few (1 + 7 * i + 6) l := by
    rcases hl with rfl | rfl
    · rw [hg]; exact h.few.append (Few.group ns)
    · exact h.few.mono (by omega)
  have hf2 : Few (1 + 7 * (i + 1)) (l ++ [d]) := (hfl.append hd1).mono (by omega)
  obtain ⟨h1, h2, h3, h4⟩ := append_few hw (by show C + 1 ≤ _; omega) hN (l := [d]) (hf2.mono (by omega))
  obtain ⟨q1, q2⟩ := h4 0 hq (by omega)
  have e0 : (chgR S' ⟨C, cs, cz, l, false⟩ [d] (l ++ [d]) cs cz).e = 0 := q1
  rcases h3 with ⟨a1, a2, a3, a4⟩ | ⟨a1, _⟩
  · refine ⟨e0, a2, a3, h1, ?_, hf2⟩
    have a5 : (chgR S' ⟨C, cs, cz, l, false⟩ [d] (l ++ [d]) cs cz).W.turn = C + 1 := a4
    omega
  · have e8 : (chgR S' ⟨C, cs, cz, l, false⟩ [d] (l ++ [d]) cs cz).e = 8 := a1
    rw [e0] at e8; cases e8
set_option maxHeartbeats 12800000 in
set_option maxRecDepth 100000 in
theorem run (ls : List (List Int)) (an : List Int) (kp tn : Int) {A0 A1 : Option Addr} {c0 c1 : Nat} (hc0 : ls.length ≤ c0) (hc1 : an.length ≤ c1) (w : World) (h0 : ARow U8s 1 w A0 ls) (h1 : ARow U8 1 w A1 an) :
    Calls Try.prog 17 #[.slice A0 ls.length c0, .slice A1 an.length c1, .int .i64 kp, .int .i64 tn] w fun e w' => e = .returned (.bool true) ∧ Below w.heap.size w w' := by
  have H0 := Aside0.mk h0
  have H1 := Aside0.mk h1
  clear h0 h1
  by_cases hgo : ls.length ≤ 12 ∧ ls.length ≤ an.length
  · have hg1 : ¬ (12 : Int) < (ls.length : Int) := by omega
    have hg2 : ¬ (an.length : Int) < (ls.length : Int) := by omega
    go_enter Try.func17, Try.ntmps17
    go_upto_region 5 with (first | (go_at_call 40; refine Calls.mono (room_plan_calls _) ?_; rintro e w1 ⟨rfl, hb⟩; have HB1 := Aside0.mk hb; clear hb) | (go_at_call 31; refine Calls.mono (new_strip 4096 0 0 0 _) ?_; rintro e w2 ⟨p, X, rfl, hs, hb⟩; have HS2 := Aside0.mk hs; have HB2 := Aside0.mk (below_step HB1.out hb); clear hb hs) | (go_at_call 32; refine Calls.mono (open_log HS2.out rfl rfl (Disk.fresh 4096 0) (by omega)) ?_; rintro e w3 ⟨q, rfl, hq, ⟨X3, hl, hx3⟩, hw, hb⟩; have HL3 := Aside0.mk hl; have HB3 := Aside0.mk (below_step HB2.out hb); clear hb hl hq hw hx3) | (go_at_call 33; refine Calls.mono (num_calls _ _) ?_; rintro e wn ⟨rfl, rfl⟩) | fail)
    have HFA := Aside0.mk (fun (w5 : World) (v : Value) (G : Nat → Prop) (hb : Below w3.heap.size w3 w5) (hl : StrS w5 v [firstB] G) => append_whole (HL3.out.below hb) (whole0 0) hl (by decide))
    have HFR := Aside0.mk (firstR_is)
    rw [show chgR (newS 4096 0) ⟨0, 0, 0, [], false⟩ [firstB] ((⟨0, 0, 0, [], false⟩ : Wl).l ++ [firstB]) (⟨0, 0, 0, [], false⟩ : Wl).side (⟨0, 0, 0, [], false⟩ : Wl).size = firstR from rfl] at HFA
    generalize firstR = R at HFA HFR
    go_upto_region 7 with (first | (go_at_call 33; refine Calls.mono (num_calls _ _) ?_; rintro e wn ⟨rfl, rfl⟩) | (go_at_call 35; refine Calls.mono (HFA.out _ _ _ (alloc_below _ _) (one_str _ _)) ?_; rintro e w4 ⟨rfl, hx⟩; rw [HFR.out.1]; obtain ⟨X4, h4, n4⟩ := hx HFR.out.2.1.inv; have HL4 := Aside0.mk h4; have HB4 := Aside0.mk (LogM.thru (HL3.out.below (alloc_below _ _)) (below_alloc HB3.out _) HB1.out.size n4); clear h4 n4 hx) | fail)
    clear HFA
    go_upto_region 9 with fail
    have HT4 := Aside0.mk (Torn.mk (i := 0) (v := .slice (some ⟨w4.heap.size, 0, none⟩) 1 1) (w := w4.alloc (.cells #[.string firstB] 9)) (HL4.out.below (alloc_below _ _)) HFR.out.2.1 HFR.out.2.2.2.2 (by rw [HFR.out.2.2.2.1]; omega) (by rw [HFR.out.2.2.1]; exact first_few) (by rw [HFR.out.2.2.1]; exact Rd.fresh (n := w4.heap.size) (StrS.mono (one_str w4 firstB) (fun k _ e => Nat.le_of_eq e.symm)) HL4.out.lt))
    have HB5 := Aside0.mk (below_alloc HB4.out (.cells #[.string firstB] 9))
    clear HL3 HL4 HS2 HFR
    generalize R.S = S4 at HT4
    generalize R.W = W4 at HT4
    go_loopw [10, 12, 13] (fun v10 v12 v13 w' => ∃ (i q : Nat) (S : St) (W : Wl) (X : Nat → Prop), v10 = .pointer (some ⟨q, 0, none⟩) ∧ v13 = .int .i64 i ∧ Aside0 (i ≤ ls.length) ∧ Aside0 (Torn w1.heap.size w' p q S W X v12 i) ∧ Aside0 (Below w.heap.size w w')) (fun _ _ v13 _ => ls.length - (intOf v13).toNat)
    case atStart => exact ⟨0, q, _, _, _, rfl, rfl, ⟨Nat.zero_le _⟩, HT4, HB5⟩
    case round =>
      clear HT4 HB5
      obtain ⟨i, q, S, W, X, rfl, rfl, HN, HT, HB⟩ := hrel
      have hN := HN.out
      by_cases hlt : i < ls.length
      · have hlti : (i : Int) < (ls.length : Int) := by omega
        have hlta : (i : Int) < (an.length : Int) := by omega
        have HI12 := Aside0.mk (show i < 12 by omega)
        obtain ⟨ad, Bg, cg, e0, hx0, hcg, hcgm, hrg⟩ := H0.out.u8s_at i hlt
        cases e0
        have HRG := Aside0.mk hrg
        have HCG := Aside0.mk (And.intro hcg hcgm)
        have HX0 := Aside0.mk hx0
        clear hrg hcg hcgm hx0
        generalize ls[i] = ns at HX0 HRG HCG
        obtain ⟨ad1, e1, hx1, hy0, hy1⟩ := H1.out.u8_at i (by omega)
        cases e1
        generalize an[i] = y at hx1 hy0 hy1
        obtain ⟨m, rfl⟩ : ∃ m : Nat, y = (m : Int) := ⟨y.toNat, by omega⟩
        have HX := Aside0.mk hx1
        clear hx1
        have hx2 := pw_cell_below HB.out HX.out
        have ht6 : Int.tmod (m : Int) 6 = ((m % 6 : Nat) : Int) := by rw [Int.tmod_eq_emod_of_nonneg (by omega)]; omega
        go_upto_region 12 with (first | (go_at_call 52; refine Calls.mono (tear_log HT.out.log _) ?_; rintro e w6 ⟨rfl, hl, hk⟩; have HT6 := Aside0.mk (HT.out.tear _ hl hk); have HB6 := Aside0.mk (LogM.thru HT.out.log HB.out HB1.out.size ⟨hk, fun k hk => .inl hk⟩); clear hl hk) | fail)
        clear hx2 ht6
        clear HT HB
        have hx3 := pw_cell_below HB6.out HX0.out
        go_upto_region 13 with (first | (go_at_call 34; refine Calls.mono (group_calls (HRG.out.u8 HB6.out) HCG.out.1 HCG.out.2) ?_; rintro e w7 ⟨gv, rfl, ho, hb⟩; have HG7 := Aside0.mk (Rd.fresh (StrS.of_own ho) HT6.out.log.lt); have HT7 := Aside0.mk (HT6.out.below hb); have HB7 := Aside0.mk (below_step HB6.out hb); clear ho hb) | fail)
        clear hx3
        obtain ⟨A12, c12, rfl⟩ := HT7.out.rd.slice
        obtain ⟨Ag, cg2, rfl⟩ := HG7.out.slice
        go_upto_region 14 with (first | ((with_reducible refine gate_builtin (b := .append) (xs := #[.tmp 74, .tmp 75]) rfl ?_); at_builtin; refine row_append (w0 := w7) rfl (.tmp 74) (.tmp 75) rfl rfl rfl (Row.lit w7 X HT7.out.log.lt) (HT7.out.rd.same (alloc_below _ _)) (HT7.out.log.lt' (alloc_below _ _)) (alloc_below _ _) (by have := HT7.out.few.1; have := HI12.out; simp only [List.length_nil]; omega) ?_; intro v8 w8 hr hb hg ha; have HRa := Aside0.mk hr; have HBa := Aside0.mk hb; clear hr hb hg ha) | ((with_reducible refine gate_builtin (b := .append) (xs := #[.tmp 76, .tmp 77]) rfl ?_); at_builtin; refine row_append (w0 := w7) rfl (.tmp 76) (.tmp 77) rfl rfl rfl HRa.out (HG7.out.same HBa.out) (HT7.out.log.lt' HBa.out) HBa.out (by have := HT7.out.few.1; have := HI12.out; have := groupL_len ns; simp only [List.length_append, List.length_nil]; omega) ?_; intro v9 w9 hr hb hg ha; have HR9 := Aside0.mk hr; have HBb := Aside0.mk hb; clear hr hb hg ha) | fail)
        have HT9 := Aside0.mk (HT7.out.below HBb.out)
        have HG9 := Aside0.mk (HG7.out.same HBb.out)
        have HB9 := Aside0.mk (below_step HB7.out HBb.out)
        have HN9 := Aside0.mk (show Rd w9 X v9 (W.l ++ groupL ns) from HR9.out.rd)
        clear HRa HBa HR9 HBb HT7 HG7 HT6 HB6 HB7
        generalize tearS S _ = St at HT9
        have HAF := Aside0.mk (torn_res HT9.out HI12.out ns)
        have HAP := Aside0.mk (append_whole HT9.out.log HT9.out.whole HG9.out (by have := (Few.group ns).sum; omega))
        generalize chgR St W (groupL ns) (W.l ++ groupL ns) W.side W.size = R at HAF HAP
        go_upto_region 15 with (first | (go_at_call 35; refine Calls.mono HAP.out ?_; rintro e w10 ⟨rfl, hx⟩; obtain ⟨X10, h10, n10⟩ := hx HAF.out.2.inv; have HL10 := Aside0.mk h10; have HB10 := Aside0.mk (LogM.thru HT9.out.log HB9.out HB1.out.size n10); have HN10 := Aside0.mk (HN9.out.next n10); have HH10 := Aside0.mk (HT9.out.rd.next n10); clear h10 n10 hx) | fail)
        clear HAP HN9 HG9
        have hx4 := pw_cell_below HB10.out HX.out
        go_upto_region 17 with (first | (go_at_call 39; refine Calls.mono (fall_log HL10.out HAF.out.2.loose HAF.out.2.len HAF.out.2.fall _ _ _ _) ?_; rintro e w11 ⟨rfl, S11, X11, h11, n11, g1, g2, g3, g4, C, cs, cz, l, g5, g6⟩; have HS11 := Aside0.mk h11; have HD11 := Aside0.mk (And.intro g1 (And.intro g2 (And.intro g3 (And.intro (g4 (by omega)) (And.intro g5 g6))))); have HB11 := Aside0.mk (LogM.thru HL10.out HB10.out HB1.out.size n11); have HN11 := Aside0.mk (HN10.out.next n11); have HH11 := Aside0.mk (HH10.out.next n11); clear h11 n11 g1 g2 g3 g4 g5 g6) | (go_at_call 32; refine Calls.mono (open_log HS11.out HD11.out.1 HD11.out.2.1 HD11.out.2.2.2.2.2 (by have := HD11.out.2.2.2.2.1.1; have := HT9.out.turn; have := HI12.out; omega)) ?_; rintro e w12 ⟨q2, rfl, hq, ⟨X12, hl, hx⟩, hw, hb⟩; have HL12 := Aside0.mk hl; have HW12 := Aside0.mk hw; have HN12 := Aside0.mk (HN11.out.below hb hx); have HH12 := Aside0.mk (HH11.out.below hb hx); have HB12 := Aside0.mk (below_step HB11.out hb); clear hq hl hx hw hb) | fail)
        clear hx4
        have HLN := Aside0.mk (show l.length ≤ 1099511627776 from Nat.le_trans (len_le l) (Nat.le_trans HW12.out.len (by omega)))
        have HD0 := Aside0.mk (show R.e = 0 → l = W.l ++ groupL ns from fun he => by rcases HD11.out.2.2.2.2.1.2 with g | ⟨_, g⟩; exact g; rw [he] at g; cases g)
        have HD1 := Aside0.mk (show ¬ l = W.l → l = W.l ++ groupL ns from fun he => by rcases HD11.out.2.2.2.2.1.2 with g | ⟨g, _⟩; exact g; exact absurd g he)
        rcases HAF.out.1 with he | he
        · rw [he]
          have HEQN := Aside0.mk (HD0.out he)
          clear he HAF HD0 HD1
          by_cases hq : l = W.l
          · have HEQH := Aside0.mk (hq)
            clear hq
            have HEQHx := HEQH
            have HEQNx := HEQN
            go_upto_region 19 with (first | (go_at_call 33; refine Calls.mono (num_calls _ _) ?_; rintro e wn ⟨rfl, rfl⟩) | (go_at_call 37; refine Calls.mono (recs_whole HL12.out HW12.out) ?_; rintro e w20 ⟨vr, rfl, ho, hb⟩; have HO20 := Aside0.mk (StrS.of_own ho); have HL20 := Aside0.mk (HL12.out.below hb); have HN20 := Aside0.mk (HN12.out.same hb); have HH20 := Aside0.mk (HH12.out.same hb); have HB20 := Aside0.mk (below_step HB12.out hb); clear ho hb) | (go_at_call 36; refine Calls.mono (texts_yes HO20.out HN20.out HLN.out HEQN.out) ?_; rintro e w21 ⟨rfl, hb⟩; have HL21 := Aside0.mk (HL20.out.below hb); have HN21 := Aside0.mk (HN20.out.same hb); have HH21 := Aside0.mk (HH20.out.same hb); have HB21 := Aside0.mk (below_step HB20.out hb); clear hb) | (go_at_call 37; refine Calls.mono (recs_whole HL21.out HW12.out) ?_; rintro e w22 ⟨vr, rfl, ho, hb⟩; have HO22 := Aside0.mk (StrS.of_own ho); have HL22 := Aside0.mk (HL21.out.below hb); have HN22 := Aside0.mk (HN21.out.same hb); have HH22 := Aside0.mk (HH21.out.same hb); have HB22 := Aside0.mk (below_step HB21.out hb); clear ho hb) | (go_at_call 36; refine Calls.mono (texts_yes HO22.out HH22.out HLN.out HEQH.out) ?_; rintro e w23 ⟨rfl, hb⟩; have HL23 := Aside0.mk (HL22.out.below hb); have HN23 := Aside0.mk (HN22.out.same hb); have HH23 := Aside0.mk (HH22.out.same hb); have HB23 := Aside0.mk (below_step HB22.out hb); clear hb) | fail)
            clear HN12 HH12 HEQH HEQN
            have HLOR := Aside0.mk (show l = W.l ++ groupL ns ∨ l = W.l from .inl HEQNx.out)
            clear HEQHx HEQNx
            have HAR := Aside0.mk (torn_next (d := dgs i) HT9.out HI12.out ns rfl HLOR.out HW12.out HD11.out.2.2.2.2.1.1 HD11.out.2.2.1 HD11.out.2.2.2.1 (dgs_size i))
            have HAP2 := Aside0.mk (fun (w5 : World) (v : Value) (G : Nat → Prop) (hb : Below w23.heap.size w23 w5) (hl : StrS w5 v [dgs i] G) => append_whole (HL23.out.below hb) HW12.out hl (Nat.le_trans (sum_bound 1 2 [dgs i] (Nat.le_refl _) (fun b hb => by rw [List.mem_singleton] at hb; subst hb; exact dgs_size i)) (by omega)))
            rw [show chgR S11 ⟨C, cs, cz, l, false⟩ [dgs i] ((⟨C, cs, cz, l, false⟩ : Wl).l ++ [dgs i]) (⟨C, cs, cz, l, false⟩ : Wl).side (⟨C, cs, cz, l, false⟩ : Wl).size = chgR S11 ⟨C, cs, cz, l, false⟩ [dgs i] (l ++ [dgs i]) cs cz from rfl] at HAP2
            generalize chgR S11 ⟨C, cs, cz, l, false⟩ [dgs i] (l ++ [dgs i]) cs cz = R2 at HAR HAP2
            have HDS := Aside0.mk (dgs_size i)
            have HLL := Aside0.mk (show l.length ≤ 999000 by have := HAR.out.2.2.2.2.2.1; have := HI12.out; simp only [List.length_append, List.length_cons, List.length_nil] at *; omega)
            go_upto_region 20 with (first | (go_at_call 37; refine Calls.mono (recs_whole (HL23.out.below (alloc_below _ _)) HW12.out) ?_; rintro e w30 ⟨vr, rfl, ho, hb⟩; obtain ⟨Ar, cr, rfl⟩ := own_slice ho; have HO30 := Aside0.mk (StrS.of_own ho); have HB30 := Aside0.mk (below_step (alloc_below w23 _) hb); have HR30 := Aside0.mk ((Row.lit w23 X12 HL23.out.lt).same hb); clear ho hb) | ((with_reducible refine gate_builtin (b := .append) (xs := #[.tmp 141, .tmp 143]) rfl ?_); at_builtin; refine row_append (w0 := w23) rfl (.tmp 141) (.tmp 143) rfl rfl rfl HR30.out HO30.out (HL23.out.lt' HB30.out) HB30.out (by have := HLL.out; simp only [List.length_nil]; omega) ?_; intro v31 w31 hr hb hg ha; have HR31 := Aside0.mk hr; have HB31 := Aside0.mk hb; clear hr hb hg ha) | (go_at_call 56; refine Calls.mono (digits_calls i (by have := HI12.out; omega) _) ?_; rintro e w32 ⟨rfl, hb⟩; have HR32 := Aside0.mk (HR31.out.same (below_alloc hb (.cells #[.string (dgs i)] 9))); have HB32 := Aside0.mk (below_alloc (below_step HB31.out hb) (.cells #[.string (dgs i)] 9)); clear hb) | ((with_reducible refine gate_builtin (b := .append) (xs := #[.tmp 144, .tmp 147]) rfl ?_); at_builtin; refine row_append (w0 := w23) (ys := [dgs i]) rfl (.tmp 144) (.tmp 147) rfl rfl rfl HR32.out (one_str w32 (dgs i)) (HL23.out.lt' HB32.out) HB32.out (by have := HLL.out; simp only [List.length_append, List.length_cons, List.length_nil]; omega) ?_; intro v33 w33 hr hb hg ha; have HR33 := Aside0.mk hr; have HB33 := Aside0.mk hb; clear hr hb hg ha) | fail)
            have HN33 := Aside0.mk (show Rd w33 X12 v33 (l ++ [dgs i]) from HR33.out.rd)
            clear HR30 HR31 HR32 HR33 HO30 HB30 HB31 HB32
            go_upto_region 22 with (first | (go_at_call 56; refine Calls.mono (digits_calls i (by have := HI12.out; omega) _) ?_; rintro e w34 ⟨rfl, hb⟩; have HB34 := Aside0.mk (below_alloc (below_step HB33.out hb) (.cells #[.string (dgs i)] 9)); have HN34 := Aside0.mk (HN33.out.same (below_alloc hb (.cells #[.string (dgs i)] 9))); clear hb) | (go_at_call 35; refine Calls.mono (HAP2.out _ _ _ HB34.out (one_str w34 (dgs i))) ?_; rintro e w40 ⟨rfl, hx⟩; rw [HAR.out.1]; obtain ⟨X40, h40, n40⟩ := hx HAR.out.2.1.inv; have HT40 := Aside0.mk (Torn.mk (i := i + 1) h40 HAR.out.2.1 HAR.out.2.2.2.1 HAR.out.2.2.2.2.1 (by rw [HAR.out.2.2.1]; exact HAR.out.2.2.2.2.2) (by rw [HAR.out.2.2.1]; exact HN34.out.next n40)); have HB40 := Aside0.mk (LogM.thru (HL23.out.below HB34.out) (below_step HB23.out HB34.out) HB1.out.size n40); clear h40 n40 hx) | (go_at_call 33; refine Calls.mono (num_calls _ _) ?_; rintro e wn ⟨rfl, rfl⟩) | fail)
            go_wp2
            go_roundw
            case rel => exact ⟨i + 1, q2, _, _, _, rfl, by go_num, ⟨by omega⟩, HT40, HB40⟩
            case measure => simp [intOf]; omega
          · have HEQH := Aside0.mk (hq)
            clear hq
            have HEQHx := HEQH
            have HEQNx := HEQN
            go_upto_region 19 with (first | (go_at_call 33; refine Calls.mono (num_calls _ _) ?_; rintro e wn ⟨rfl, rfl⟩) | (go_at_call 37; refine Calls.mono (recs_whole HL12.out HW12.out) ?_; rintro e w20 ⟨vr, rfl, ho, hb⟩; have HO20 := Aside0.mk (StrS.of_own ho); have HL20 := Aside0.mk (HL12.out.below hb); have HN20 := Aside0.mk (HN12.out.same hb); have HH20 := Aside0.mk (HH12.out.same hb); have HB20 := Aside0.mk (below_step HB12.out hb); clear ho hb) | (go_at_call 36; refine Calls.mono (texts_yes HO20.out HN20.out HLN.out HEQN.out) ?_; rintro e w21 ⟨rfl, hb⟩; have HL21 := Aside0.mk (HL20.out.below hb); have HN21 := Aside0.mk (HN20.out.same hb); have HH21 := Aside0.mk (HH20.out.same hb); have HB21 := Aside0.mk (below_step HB20.out hb); clear hb) | (go_at_call 37; refine Calls.mono (recs_whole HL21.out HW12.out) ?_; rintro e w22 ⟨vr, rfl, ho, hb⟩; have HO22 := Aside0.mk (StrS.of_own ho); have HL22 := Aside0.mk (HL21.out.below hb); have HN22 := Aside0.mk (HN21.out.same hb); have HH22 := Aside0.mk (HH21.out.same hb); have HB22 := Aside0.mk (below_step HB21.out hb); clear ho hb) | (go_at_call 36; refine Calls.mono (texts_no HO22.out HH22.out HLN.out HEQH.out) ?_; rintro e w23 ⟨rfl, hb⟩; have HL23 := Aside0.mk (HL22.out.below hb); have HN23 := Aside0.mk (HN22.out.same hb); have HH23 := Aside0.mk (HH22.out.same hb); have HB23 := Aside0.mk (below_step HB22.out hb); clear hb) | (go_at_call 37; refine Calls.mono (recs_whole HL23.out HW12.out) ?_; rintro e w24 ⟨vr, rfl, ho, hb⟩; have HO24 := Aside0.mk (StrS.of_own ho); have HL24 := Aside0.mk (HL23.out.below hb); have HN24 := Aside0.mk (HN23.out.same hb); have HH24 := Aside0.mk (HH23.out.same hb); have HB24 := Aside0.mk (below_step HB23.out hb); clear ho hb) | (go_at_call 36; refine Calls.mono (texts_yes HO24.out HN24.out HLN.out HEQN.out) ?_; rintro e w25 ⟨rfl, hb⟩; have HL25 := Aside0.mk (HL24.out.below hb); have HN25 := Aside0.mk (HN24.out.same hb); have HH25 := Aside0.mk (HH24.out.same hb); have HB25 := Aside0.mk (below_step HB24.out hb); clear hb) | fail)
            clear HN12 HH12 HEQH HEQN
            have HLOR := Aside0.mk (show l = W.l ++ groupL ns ∨ l = W.l from .inl HEQNx.out)
            clear HEQHx HEQNx
            have HAR := Aside0.mk (torn_next (d := dgs i) HT9.out HI12.out ns rfl HLOR.out HW12.out HD11.out.2.2.2.2.1.1 HD11.out.2.2.1 HD11.out.2.2.2.1 (dgs_size i))
            have HAP2 := Aside0.mk (fun (w5 : World) (v : Value) (G : Nat → Prop) (hb : Below w25.heap.size w25 w5) (hl : StrS w5 v [dgs i] G) => append_whole (HL25.out.below hb) HW12.out hl (Nat.le_trans (sum_bound 1 2 [dgs i] (Nat.le_refl _) (fun b hb => by rw [List.mem_singleton] at hb; subst hb; exact dgs_size i)) (by omega)))
            rw [show chgR S11 ⟨C, cs, cz, l, false⟩ [dgs i] ((⟨C, cs, cz, l, false⟩ : Wl).l ++ [dgs i]) (⟨C, cs, cz, l, false⟩ : Wl).side (⟨C, cs, cz, l, false⟩ : Wl).size = chgR S11 ⟨C, cs, cz, l, false⟩ [dgs i] (l ++ [dgs i]) cs cz from rfl] at HAP2
            generalize chgR S11 ⟨C, cs, cz, l, false⟩ [dgs i] (l ++ [dgs i]) cs cz = R2 at HAR HAP2
            have HDS := Aside0.mk (dgs_size i)
            have HLL := Aside0.mk (show l.length ≤ 999000 by have := HAR.out.2.2.2.2.2.1; have := HI12.out; simp only [List.length_append, List.length_cons, List.length_nil] at *; omega)
            go_upto_region 20 with (first | (go_at_call 37; refine Calls.mono (recs_whole (HL25.out.below (alloc_below _ _)) HW12.out) ?_; rintro e w30 ⟨vr, rfl, ho, hb⟩; obtain ⟨Ar, cr, rfl⟩ := own_slice ho; have HO30 := Aside0.mk (StrS.of_own ho); have HB30 := Aside0.mk (below_step (alloc_below w25 _) hb); have HR30 := Aside0.mk ((Row.lit w25 X12 HL25.out.lt).same hb); clear ho hb) | ((with_reducible refine gate_builtin (b := .append) (xs := #[.tmp 141, .tmp 143]) rfl ?_); at_builtin; refine row_append (w0 := w25) rfl (.tmp 141) (.tmp 143) rfl rfl rfl HR30.out HO30.out (HL25.out.lt' HB30.out) HB30.out (by have := HLL.out; simp only [List.length_nil]; omega) ?_; intro v31 w31 hr hb hg ha; have HR31 := Aside0.mk hr; have HB31 := Aside0.mk hb; clear hr hb hg ha) | (go_at_call 56; refine Calls.mono (digits_calls i (by have := HI12.out; omega) _) ?_; rintro e w32 ⟨rfl, hb⟩; have HR32 := Aside0.mk (HR31.out.same (below_alloc hb (.cells #[.string (dgs i)] 9))); have HB32 := Aside0.mk (below_alloc (below_step HB31.out hb) (.cells #[.string (dgs i)] 9)); clear hb) | ((with_reducible refine gate_builtin (b := .append) (xs := #[.tmp 144, .tmp 147]) rfl ?_); at_builtin; refine row_append (w0 := w25) (ys := [dgs i]) rfl (.tmp 144) (.tmp 147) rfl rfl rfl HR32.out (one_str w32 (dgs i)) (HL25.out.lt' HB32.out) HB32.out (by have := HLL.out; simp only [List.length_append, List.length_cons, List.length_nil]; omega) ?_; intro v33 w33 hr hb hg ha; have HR33 := Aside0.mk hr; have HB33 := Aside0.mk hb; clear hr hb hg ha) | fail)
            have HN33 := Aside0.mk (show Rd w33 X12 v33 (l ++ [dgs i]) from HR33.out.rd)
            clear HR30 HR31 HR32 HR33 HO30 HB30 HB31 HB32
            go_upto_region 22 with (first | (go_at_call 56; refine Calls.mono (digits_calls i (by have := HI12.out; omega) _) ?_; rintro e w34 ⟨rfl, hb⟩; have HB34 := Aside0.mk (below_alloc (below_step HB33.out hb) (.cells #[.string (dgs i)] 9)); have HN34 := Aside0.mk (HN33.out.same (below_alloc hb (.cells #[.string (dgs i)] 9))); clear hb) | (go_at_call 35; refine Calls.mono (HAP2.out _ _ _ HB34.out (one_str w34 (dgs i))) ?_; rintro e w40 ⟨rfl, hx⟩; rw [HAR.out.1]; obtain ⟨X40, h40, n40⟩ := hx HAR.out.2.1.inv; have HT40 := Aside0.mk (Torn.mk (i := i + 1) h40 HAR.out.2.1 HAR.out.2.2.2.1 HAR.out.2.2.2.2.1 (by rw [HAR.out.2.2.1]; exact HAR.out.2.2.2.2.2) (by rw [HAR.out.2.2.1]; exact HN34.out.next n40)); have HB40 := Aside0.mk (LogM.thru (HL25.out.below HB34.out) (below_step HB25.out HB34.out) HB1.out.size n40); clear h40 n40 hx) | (go_at_call 33; refine Calls.mono (num_calls _ _) ?_; rintro e wn ⟨rfl, rfl⟩) | fail)
            go_wp2
            go_roundw
            case rel => exact ⟨i + 1, q2, _, _, _, rfl, by go_num, ⟨by omega⟩, HT40, HB40⟩
            case measure => simp [intOf]; omega
        · rw [he]
          clear he HAF HD0
          by_cases hq : l = W.l
          · have HEQH := Aside0.mk (hq)
            have HEQN := Aside0.mk (True.intro)
            clear hq HD1
            have HEQHx := HEQH
            have HEQNx := HEQN
            go_upto_region 19 with (first | (go_at_call 33; refine Calls.mono (num_calls _ _) ?_; rintro e wn ⟨rfl, rfl⟩) | (go_at_call 37; refine Calls.mono (recs_whole HL12.out HW12.out) ?_; rintro e w20 ⟨vr, rfl, ho, hb⟩; have HO20 := Aside0.mk (StrS.of_own ho); have HL20 := Aside0.mk (HL12.out.below hb); have HN20 := Aside0.mk (HN12.out.same hb); have HH20 := Aside0.mk (HH12.out.same hb); have HB20 := Aside0.mk (below_step HB12.out hb); clear ho hb) | (go_at_call 36; refine Calls.mono (texts_yes HO20.out HH20.out HLN.out HEQH.out) ?_; rintro e w21 ⟨rfl, hb⟩; have HL21 := Aside0.mk (HL20.out.below hb); have HN21 := Aside0.mk (HN20.out.same hb); have HH21 := Aside0.mk (HH20.out.same hb); have HB21 := Aside0.mk (below_step HB20.out hb); clear hb) | fail)
            clear HN12 HH12 HEQH HEQN
            have HLOR := Aside0.mk (show l = W.l ++ groupL ns ∨ l = W.l from .inr HEQHx.out)
            clear HEQHx HEQNx
            have HAR := Aside0.mk (torn_next (d := dgs i) HT9.out HI12.out ns rfl HLOR.out HW12.out HD11.out.2.2.2.2.1.1 HD11.out.2.2.1 HD11.out.2.2.2.1 (dgs_size i))
            have HAP2 := Aside0.mk (fun (w5 : World) (v : Value) (G : Nat → Prop) (hb : Below w21.heap.size w21 w5) (hl : StrS w5 v [dgs i] G) => append_whole (HL21.out.below hb) HW12.out hl (Nat.le_trans (sum_bound 1 2 [dgs i] (Nat.le_refl _) (fun b hb => by rw [List.mem_singleton] at hb; subst hb; exact dgs_size i)) (by omega)))
            rw [show chgR S11 ⟨C, cs, cz, l, false⟩ [dgs i] ((⟨C, cs, cz, l, false⟩ : Wl).l ++ [dgs i]) (⟨C, cs, cz, l, false⟩ : Wl).side (⟨C, cs, cz, l, false⟩ : Wl).size = chgR S11 ⟨C, cs, cz, l, false⟩ [dgs i] (l ++ [dgs i]) cs cz from rfl] at HAP2
            generalize chgR S11 ⟨C, cs, cz, l, false⟩ [dgs i] (l ++ [dgs i]) cs cz = R2 at HAR HAP2
            have HDS := Aside0.mk (dgs_size i)
            have HLL := Aside0.mk (show l.length ≤ 999000 by have := HAR.out.2.2.2.2.2.1; have := HI12.out; simp only [List.length_append, List.length_cons, List.length_nil] at *; omega)
            go_upto_region 20 with (first | (go_at_call 37; refine Calls.mono (recs_whole (HL21.out.below (alloc_below _ _)) HW12.out) ?_; rintro e w30 ⟨vr, rfl, ho, hb⟩; obtain ⟨Ar, cr, rfl⟩ := own_slice ho; have HO30 := Aside0.mk (StrS.of_own ho); have HB30 := Aside0.mk (below_step (alloc_below w21 _) hb); have HR30 := Aside0.mk ((Row.lit w21 X12 HL21.out.lt).same hb); clear ho hb) | ((with_reducible refine gate_builtin (b := .append) (xs := #[.tmp 141, .tmp 143]) rfl ?_); at_builtin; refine row_append (w0 := w21) rfl (.tmp 141) (.tmp 143) rfl rfl rfl HR30.out HO30.out (HL21.out.lt' HB30.out) HB30.out (by have := HLL.out; simp only [List.length_nil]; omega) ?_; intro v31 w31 hr hb hg ha; have HR31 := Aside0.mk hr; have HB31 := Aside0.mk hb; clear hr hb hg ha) | (go_at_call 56; refine Calls.mono (digits_calls i (by have := HI12.out; omega) _) ?_; rintro e w32 ⟨rfl, hb⟩; have HR32 := Aside0.mk (HR31.out.same (below_alloc hb (.cells #[.string (dgs i)] 9))); have HB32 := Aside0.mk (below_alloc (below_step HB31.out hb) (.cells #[.string (dgs i)] 9)); clear hb) | ((with_reducible refine gate_builtin (b := .append) (xs := #[.tmp 144, .tmp 147]) rfl ?_); at_builtin; refine row_append (w0 := w21) (ys := [dgs i]) rfl (.tmp 144) (.tmp 147) rfl rfl rfl HR32.out (one_str w32 (dgs i)) (HL21.out.lt' HB32.out) HB32.out (by have := HLL.out; simp only [List.length_append, List.length_cons, List.length_nil]; omega) ?_; intro v33 w33 hr hb hg ha; have HR33 := Aside0.mk hr; have HB33 := Aside0.mk hb; clear hr hb hg ha) | fail)
            have HN33 := Aside0.mk (show Rd w33 X12 v33 (l ++ [dgs i]) from HR33.out.rd)
            clear HR30 HR31 HR32 HR33 HO30 HB30 HB31 HB32
            go_upto_region 22 with (first | (go_at_call 56; refine Calls.mono (digits_calls i (by have := HI12.out; omega) _) ?_; rintro e w34 ⟨rfl, hb⟩; have HB34 := Aside0.mk (below_alloc (below_step HB33.out hb) (.cells #[.string (dgs i)] 9)); have HN34 := Aside0.mk (HN33.out.same (below_alloc hb (.cells #[.string (dgs i)] 9))); clear hb) | (go_at_call 35; refine Calls.mono (HAP2.out _ _ _ HB34.out (one_str w34 (dgs i))) ?_; rintro e w40 ⟨rfl, hx⟩; rw [HAR.out.1]; obtain ⟨X40, h40, n40⟩ := hx HAR.out.2.1.inv; have HT40 := Aside0.mk (Torn.mk (i := i + 1) h40 HAR.out.2.1 HAR.out.2.2.2.1 HAR.out.2.2.2.2.1 (by rw [HAR.out.2.2.1]; exact HAR.out.2.2.2.2.2) (by rw [HAR.out.2.2.1]; exact HN34.out.next n40)); have HB40 := Aside0.mk (LogM.thru (HL21.out.below HB34.out) (below_step HB21.out HB34.out) HB1.out.size n40); clear h40 n40 hx) | (go_at_call 33; refine Calls.mono (num_calls _ _) ?_; rintro e wn ⟨rfl, rfl⟩) | fail)
            go_wp2
            go_roundw
            case rel => exact ⟨i + 1, q2, _, _, _, rfl, by go_num, ⟨by omega⟩, HT40, HB40⟩
            case measure => simp [intOf]; omega
          · have HEQH := Aside0.mk (hq)
            have HEQN := Aside0.mk (HD1.out hq)
            clear hq HD1
            have HEQHx := HEQH
            have HEQNx := HEQN
            go_upto_region 19 with (first | (go_at_call 33; refine Calls.mono (num_calls _ _) ?_; rintro e wn ⟨rfl, rfl⟩) | (go_at_call 37; refine Calls.mono (recs_whole HL12.out HW12.out) ?_; rintro e w20 ⟨vr, rfl, ho, hb⟩; have HO20 := Aside0.mk (StrS.of_own ho); have HL20 := Aside0.mk (HL12.out.below hb); have HN20 := Aside0.mk (HN12.out.same hb); have HH20 := Aside0.mk (HH12.out.same hb); have HB20 := Aside0.mk (below_step HB12.out hb); clear ho hb) | (go_at_call 36; refine Calls.mono (texts_no HO20.out HH20.out HLN.out HEQH.out) ?_; rintro e w21 ⟨rfl, hb⟩; have HL21 := Aside0.mk (HL20.out.below hb); have HN21 := Aside0.mk (HN20.out.same hb); have HH21 := Aside0.mk (HH20.out.same hb); have HB21 := Aside0.mk (below_step HB20.out hb); clear hb) | (go_at_call 37; refine Calls.mono (recs_whole HL21.out HW12.out) ?_; rintro e w22 ⟨vr, rfl, ho, hb⟩; have HO22 := Aside0.mk (StrS.of_own ho); have HL22 := Aside0.mk (HL21.out.below hb); have HN22 := Aside0.mk (HN21.out.same hb); have HH22 := Aside0.mk (HH21.out.same hb); have HB22 := Aside0.mk (below_step HB21.out hb); clear ho hb) | (go_at_call 36; refine Calls.mono (texts_yes HO22.out HN22.out HLN.out HEQN.out) ?_; rintro e w23 ⟨rfl, hb⟩; have HL23 := Aside0.mk (HL22.out.below hb); have HN23 := Aside0.mk (HN22.out.same hb); have HH23 := Aside0.mk (HH22.out.same hb); have HB23 := Aside0.mk (below_step HB22.out hb); clear hb) | fail)
            clear HN12 HH12 HEQH HEQN
            have HLOR := Aside0.mk (show l = W.l ++ groupL ns ∨ l = W.l from .inl HEQNx.out)
            clear HEQHx HEQNx
            have HAR := Aside0.mk (torn_next (d := dgs i) HT9.out HI12.out ns rfl HLOR.out HW12.out HD11.out.2.2.2.2.1.1 HD11.out.2.2.1 HD11.out.2.2.2.1 (dgs_size i))
            have HAP2 := Aside0.mk (fun (w5 : World) (v : Value) (G : Nat → Prop) (hb : Below w23.heap.size w23 w5) (hl : StrS w5 v [dgs i] G) => append_whole (HL23.out.below hb) HW12.out hl (Nat.le_trans (sum_bound 1 2 [dgs i] (Nat.le_refl _) (fun b hb => by rw [List.mem_singleton] at hb; subst hb; exact dgs_size i)) (by omega)))
            rw [show chgR S11 ⟨C, cs, cz, l, false⟩ [dgs i] ((⟨C, cs, cz, l, false⟩ : Wl).l ++ [dgs i]) (⟨C, cs, cz, l, false⟩ : Wl).side (⟨C, cs, cz, l, false⟩ : Wl).size = chgR S11 ⟨C, cs, cz, l, false⟩ [dgs i] (l ++ [dgs i]) cs cz from rfl] at HAP2
            generalize chgR S11 ⟨C, cs, cz, l, false⟩ [dgs i] (l ++ [dgs i]) cs cz = R2 at HAR HAP2
            have HDS := Aside0.mk (dgs_size i)
            have HLL := Aside0.mk (show l.length ≤ 999000 by have := HAR.out.2.2.2.2.2.1; have := HI12.out; simp only [List.length_append, List.length_cons, List.length_nil] at *; omega)
            go_upto_region 20 with (first | (go_at_call 37; refine Calls.mono (recs_whole (HL23.out.below (alloc_below _ _)) HW12.out) ?_; rintro e w30 ⟨vr, rfl, ho, hb⟩; obtain ⟨Ar, cr, rfl⟩ := own_slice ho; have HO30 := Aside0.mk (StrS.of_own ho); have HB30 := Aside0.mk (below_step (alloc_below w23 _) hb); have HR30 := Aside0.mk ((Row.lit w23 X12 HL23.out.lt).same hb); clear ho hb) | ((with_reducible refine gate_builtin (b := .append) (xs := #[.tmp 141, .tmp 143]) rfl ?_); at_builtin; refine row_append (w0 := w23) rfl (.tmp 141) (.tmp 143) rfl rfl rfl HR30.out HO30.out (HL23.out.lt' HB30.out) HB30.out (by have := HLL.out; simp only [List.length_nil]; omega) ?_; intro v31 w31 hr hb hg ha; have HR31 := Aside0.mk hr; have HB31 := Aside0.mk hb; clear hr hb hg ha) | (go_at_call 56; refine Calls.mono (digits_calls i (by have := HI12.out; omega) _) ?_; rintro e w32 ⟨rfl, hb⟩; have HR32 := Aside0.mk (HR31.out.same (below_alloc hb (.cells #[.string (dgs i)] 9))); have HB32 := Aside0.mk (below_alloc (below_step HB31.out hb) (.cells #[.string (dgs i)] 9)); clear hb) | ((with_reducible refine gate_builtin (b := .append) (xs := #[.tmp 144, .tmp 147]) rfl ?_); at_builtin; refine row_append (w0 := w23) (ys := [dgs i]) rfl (.tmp 144) (.tmp 147) rfl rfl rfl HR32.out (one_str w32 (dgs i)) (HL23.out.lt' HB32.out) HB32.out (by have := HLL.out; simp only [List.length_append, List.length_cons, List.length_nil]; omega) ?_; intro v33 w33 hr hb hg ha; have HR33 := Aside0.mk hr; have HB33 := Aside0.mk hb; clear hr hb hg ha) | fail)
            have HN33 := Aside0.mk (show Rd w33 X12 v33 (l ++ [dgs i]) from HR33.out.rd)
            clear HR30 HR31 HR32 HR33 HO30 HB30 HB31 HB32
            go_upto_region 22 with (first | (go_at_call 56; refine Calls.mono (digits_calls i (by have := HI12.out; omega) _) ?_; rintro e w34 ⟨rfl, hb⟩; have HB34 := Aside0.mk (below_alloc (below_step HB33.out hb) (.cells #[.string (dgs i)] 9)); have HN34 := Aside0.mk (HN33.out.same (below_alloc hb (.cells #[.string (dgs i)] 9))); clear hb) | (go_at_call 35; refine Calls.mono (HAP2.out _ _ _ HB34.out (one_str w34 (dgs i))) ?_; rintro e w40 ⟨rfl, hx⟩; rw [HAR.out.1]; obtain ⟨X40, h40, n40⟩ := hx HAR.out.2.1.inv; have HT40 := Aside0.mk (Torn.mk (i := i + 1) h40 HAR.out.2.1 HAR.out.2.2.2.1 HAR.out.2.2.2.2.1 (by rw [HAR.out.2.2.1]; exact HAR.out.2.2.2.2.2) (by rw [HAR.out.2.2.1]; exact HN34.out.next n40)); have HB40 := Aside0.mk (LogM.thru (HL23.out.below HB34.out) (below_step HB23.out HB34.out) HB1.out.size n40); clear h40 n40 hx) | (go_at_call 33; refine Calls.mono (num_calls _ _) ?_; rintro e wn ⟨rfl, rfl⟩) | fail)
            go_wp2
            go_roundw
            case rel => exact ⟨i + 1, q2, _, _, _, rfl, by go_num, ⟨by omega⟩, HT40, HB40⟩
            case measure => simp [intOf]; omega
      · have hge : ¬ (i : Int) < (ls.length : Int) := by omega
        have HI12 := Aside0.mk (show i ≤ 12 by omega)
        clear hN
        have HLO := Aside0.mk (show S.loose.length ≤ 1099511627776 by rw [HT.out.whole.lo]; simp)
        have HFL := Aside0.mk (show ∀ bl cr ke tn, ∃ C cs cz l, (C ≤ 1000 ∧ l = W.l) ∧ Disk (fallS S bl cr ke tn).safe C cs cz l from fun bl cr ke tn => ⟨W.turn, W.side, W.size, W.l, ⟨by have := HT.out.turn; have := HI12.out; omega, rfl⟩, by rw [fall_none _ HT.out.whole.lo]; exact HT.out.whole.disk⟩)
        have HLW := Aside0.mk HT.out.len
        go_wp2_with (first | (go_at_call 39; refine Calls.mono (fall_log HT.out.log HLO.out HT.out.room HFL.out _ _ _ _) ?_; rintro e w11 ⟨rfl, S11, X11, h11, n11, g1, g2, g3, g4, C, cs, cz, l, g5, g6⟩; have HS11 := Aside0.mk h11; have HD11 := Aside0.mk (And.intro g1 (And.intro g2 (And.intro g3 (And.intro g5 g6)))); have HB11 := Aside0.mk (LogM.thru HT.out.log HB.out HB1.out.size n11); have HN11 := Aside0.mk (HT.out.rd.next n11); clear h11 n11 g1 g2 g3 g4 g5 g6) | (go_at_call 32; refine Calls.mono (open_log HS11.out HD11.out.1 HD11.out.2.1 HD11.out.2.2.2.2 (by have := HD11.out.2.2.2.1.1; omega)) ?_; rintro e w12 ⟨q2, rfl, hq, ⟨X12, hl, hx⟩, hw, hb⟩; have HL12 := Aside0.mk hl; have HW12 := Aside0.mk hw; have HN12 := Aside0.mk (HN11.out.below hb hx); have HB12 := Aside0.mk (below_step HB11.out hb); clear hq hl hx hw hb) | (go_at_call 33; refine Calls.mono (num_calls _ _) ?_; rintro e wn ⟨rfl, rfl⟩) | (go_at_call 37; refine Calls.mono (recs_whole HL12.out HW12.out) ?_; rintro e w13 ⟨vr, rfl, ho, hb⟩; have HO13 := Aside0.mk (StrS.of_own ho); have HN13 := Aside0.mk (HN12.out.same hb); have HB13 := Aside0.mk (below_step HB12.out hb); clear ho hb) | (go_at_call 36; refine Calls.mono (texts_yes HO13.out HN13.out (by rw [HD11.out.2.2.2.1.2]; exact HLW.out) HD11.out.2.2.2.1.2) ?_; rintro e w14 ⟨rfl, hb⟩; have HB14 := Aside0.mk (below_step HB13.out hb); clear hb) | (go_at_call 30; refine Calls.mono (awake_calls _) ?_; rintro e wz ⟨rfl, hb⟩; have HBz := Aside0.mk (below_step HB14.out hb); clear hb) | fail)
        go_ret
        exact ⟨rfl, HBz.out⟩
  · by_cases hg : 12 < ls.length
    · have hg1 : (12 : Int) < (ls.length : Int) := by omega
      go_enter Try.func17, Try.ntmps17
      go_wp2_with (first | (go_at_call 30; refine Calls.mono (awake_calls _) ?_; rintro e wz ⟨rfl, hb⟩; have HBz := Aside0.mk (hb); clear hb) | fail)
      go_ret
      exact ⟨rfl, HBz.out⟩
    · have hg1 : ¬ (12 : Int) < (ls.length : Int) := by omega
      have hg2 : (an.length : Int) < (ls.length : Int) := by omega
      go_enter Try.func17, Try.ntmps17
      go_wp2_with (first | (go_at_call 30; refine Calls.mono (awake_calls _) ?_; rintro e wz ⟨rfl, hb⟩; have HBz := Aside0.mk (hb); clear hb) | fail)
      go_ret
      exact ⟨rfl, HBz.out⟩
set_option maxRecDepth 100000 in
theorem walk {H : Type} {enc : TypeId × Value → H} {W : World} {r : Reach} {b0 : Nat} {base : Nat} {spare : Nat → Bool} {held : Bool} {d0 d1 : DataW H} {p0 p1 : List MemPlace} (v0 : Value) (o0 : Value.okWide Try.prog W r b0 38 v0) (h0 : DataW.Trod enc Try.prog W base spare held 38 v0 d0 p0) (v1 : Value) (o1 : Value.okWide Try.prog W r b0 50 v1) (h1 : DataW.Trod enc Try.prog W base spare held 50 v1 d1 p1)
    (kp : Int) (hk : (Lit.int .i64 kp).wf = true) (tn : Int) (ht : (Lit.int .i64 tn).wf = true) (_w : World) :
    Calls Try.prog 17 #[v0, v1, .int .i64 kp, .int .i64 tn] W fun e w' => e = .returned (.bool true) ∧ Below W.heap.size W w' := by
  obtain ⟨l, A, c, rfl, hc, hcm, hr⟩ := u8s_arg o0 h0
  obtain ⟨l1, A1, c1, rfl, hc1, hcm1, hr1⟩ := u8_arg o1 h1
  exact run l l1 kp tn hc hc1 W hr hr1
end Go.Proofs.Ytmgkflkpompchaa.WalTorn
