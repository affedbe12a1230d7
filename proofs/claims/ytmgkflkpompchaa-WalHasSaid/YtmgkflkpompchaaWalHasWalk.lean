/- brooklaw17.WalHas, walked: at every input it answers true. No condition. -/
import Derived.Test.YtmgkflkpompchaaWalMore
namespace Go.Proofs.Ytmgkflkpompchaa.WalHas
open Go.RowKit Go.Proofs.YtmgkflkpompchaaW.PrintWords Go.Proofs.YtmgkflkpompchaaW.PrintLast Go.Proofs.YtmgkflkpompchaaW.PrintMore Go.Proofs.Ytmgkflkpompchaa.Strip Go.Proofs.Ytmgkflkpompchaa.Wal Go.Proofs.Ytmgkflkpompchaa.Args
set_option linter.unusedVariables false
set_option linter.unusedSimpArgs false

structure Held (b0 B : Nat) (w : World) (p q : Nat) (S : St) (W : Wl) (X : Nat → Prop) (v8 : Value) (i : Nat) : Prop where
  log : LogM B w p q S W X
  whole : Whole S W
  room : S.safe.length = 4096
  quiet : Quiet S (40000 * i)
  turn : W.turn = i
  few : Few (6 * i) W.l
  row : Row b0 w X v8 W.l
theorem own_base {w : World} {base : Nat} {v : Value} {xs : List ByteArray} (h : w.ownsRow base 9 1 v xs.length (encs Value.string xs)) : ∀ k, v.ownBlock = some k → base ≤ k := by
  intro k hk
  rcases h.2 with ⟨rfl, _⟩ | ⟨g, cap, cur, rfl, h3, h4⟩
  · simp [Value.ownBlock] at hk
  · have : g = k := by simpa [Value.ownBlock] using hk
    subst this; exact h3
theorem few_done {S : St} {W : Wl} {all : List ByteArray} {R : Res} {M : Int} (h : FewRes S W all R) (hq : Quiet S M) (hM : M ≤ 1000000000) : R.e = 0 ∧ Whole R.S R.W ∧ R.W.l = all ∧ R.W.turn = W.turn + 1 ∧ R.S.safe.length = 4096 ∧ Quiet R.S (M + 40000) := by
  obtain ⟨h1, h2, h3, h4⟩ := h
  obtain ⟨q1, q2⟩ := h4 M hq hM
  rcases h3 with ⟨a1, a2, a3, a4⟩ | ⟨a1, _⟩
  · exact ⟨a1, a2, a3, a4, h1, q2⟩
  · rw [q1] at a1; cases a1
theorem held_next {b0 B : Nat} {w w' : World} {p q i : Nat} {S : St} {W : Wl} {X X' : Nat → Prop} {v8 v : Value} {R : Res} {all : List ByteArray} (h : Held b0 B w p q S W X v8 i)
    (hf : R.e = 0 ∧ Whole R.S R.W ∧ R.W.l = all ∧ R.W.turn = W.turn + 1 ∧ R.S.safe.length = 4096 ∧ Quiet R.S (40000 * i + 40000)) (hl : LogM B w' p q R.S R.W X') (hr : Row b0 w' X' v all) (hw : Few (6 * (i + 1)) all) : Held b0 B w' p q R.S R.W X' v (i + 1) := by
  obtain ⟨f1, f2, f3, f4, f5, f6⟩ := hf
  exact ⟨hl, f2, f5, f6.mono (by omega), by rw [f4, h.turn], by rw [f3]; exact hw, by rw [f3]; exact hr⟩
theorem held_open {b0 B : Nat} {w w' : World} {p q q' i : Nat} {S : St} {W W' : Wl} {X X' : Nat → Prop} {v8 : Value} (h : Held b0 B w p q S W X v8 i) (hl : LogM B w' p q' S W' X') (hw : Whole S W') (e1 : W'.turn = W.turn) (e2 : W'.l = W.l) (hb : Below w.heap.size w w') (hX : ∀ k, X' k → X k ∨ w.heap.size ≤ k) : Held b0 B w' p q' S W' X' v8 i :=
  ⟨hl, hw, h.room, h.quiet, e1.trans h.turn, by rw [e2]; exact h.few, by rw [e2]; exact h.row.below hb hX⟩
theorem Held.below {b0 B : Nat} {w w' : World} {p q i : Nat} {S : St} {W : Wl} {X : Nat → Prop} {v8 : Value} (h : Held b0 B w p q S W X v8 i) (hb : Below w.heap.size w w') : Held b0 B w' p q S W X v8 i :=
  ⟨h.log.below hb, h.whole, h.room, h.quiet, h.turn, h.few, h.row.same hb⟩
theorem Held.len {b0 B : Nat} {w : World} {p q i : Nat} {S : St} {W : Wl} {X : Nat → Prop} {v8 : Value} (h : Held b0 B w p q S W X v8 i) : W.l.length ≤ 1099511627776 := Nat.le_trans (len_le W.l) (Nat.le_trans h.whole.len (by omega))
set_option maxHeartbeats 6400000 in
set_option maxRecDepth 100000 in
theorem run (ls : List (List Int)) (an : List Int) {A0 A1 : Option Addr} {c0 c1 : Nat} (hc0 : ls.length ≤ c0) (hc1 : an.length ≤ c1) (w : World) (h0 : ARow U8s 1 w A0 ls) (h1 : ARow U8 1 w A1 an) :
    Calls Try.prog 14 #[.slice A0 ls.length c0, .slice A1 an.length c1] w fun e w' => e = .returned (.bool true) ∧ Below w.heap.size w w' := by
  have H0 := Aside0.mk h0
  have H1 := Aside0.mk h1
  clear h0 h1
  by_cases hgo : ls.length ≤ 20 ∧ ls.length ≤ an.length
  · have hg1 : ¬ (20 : Int) < (ls.length : Int) := by omega
    have hg2 : ¬ (an.length : Int) < (ls.length : Int) := by omega
    go_enter Try.func14, Try.ntmps14
    go_upto_region 9 with (first | (go_at_call 40; refine Calls.mono (room_plan_calls _) ?_; rintro e w1 ⟨rfl, hb⟩; have HB1 := Aside0.mk hb; clear hb) | (go_at_call 31; refine Calls.mono (new_strip 4096 0 0 0 _) ?_; rintro e w2 ⟨p, X, rfl, hs, hb⟩; have HS2 := Aside0.mk hs; have HB2 := Aside0.mk (below_step HB1.out hb); clear hb hs) | (go_at_call 32; refine Calls.mono (open_log HS2.out rfl rfl (Disk.fresh 4096 0) (by omega)) ?_; rintro e w3 ⟨q, rfl, hq, ⟨X3, hl, hx3⟩, hw, hb⟩; have HL3 := Aside0.mk hl; have HB3 := Aside0.mk (below_step HB2.out hb); clear hb hl hq hw hx3) | (go_at_call 33; refine Calls.mono (num_calls _ _) ?_; rintro e w9 ⟨rfl, rfl⟩) | fail)
    have HI3 := Aside0.mk (Held.mk (b0 := w.heap.size) HL3.out (whole0 0) new_room (by have := new_quiet 4096 0 (by omega); exact this.mono (by omega)) rfl ⟨Nat.zero_le _, fun b hb => by cases hb⟩ (Row.nil _ _ _) : Held w.heap.size w1.heap.size w3 p q (newS 4096 0) wl0 X3 (.slice none 0 0) 0)
    clear HL3 HS2 HB2
    go_loopw [6, 8, 9] (fun v6 v8 v9 w' => ∃ (i q : Nat) (S : St) (W : Wl) (X : Nat → Prop), v6 = .pointer (some ⟨q, 0, none⟩) ∧ v9 = .int .i64 i ∧ Aside0 (i ≤ ls.length) ∧ Aside0 (Held w.heap.size w1.heap.size w' p q S W X v8 i) ∧ Aside0 (Below w.heap.size w w')) (fun _ _ v9 _ => ls.length - (intOf v9).toNat)
    case atStart => exact ⟨0, q, _, _, _, rfl, rfl, ⟨Nat.zero_le _⟩, HI3, HB3⟩
    case round =>
      clear HI3 HB3
      obtain ⟨i, q, S, W, X, rfl, rfl, HN, HI, HB⟩ := hrel
      have hN := HN.out
      by_cases hlt : i < ls.length
      · have hlti : (i : Int) < (ls.length : Int) := by omega
        obtain ⟨ad, Bg, cg, e0, hx0, hcg, hcgm, hrg⟩ := (H0.out.u8s HB.out).u8s_at i hlt
        cases e0
        have HRG := Aside0.mk hrg
        have HCG := Aside0.mk (And.intro hcg hcgm)
        have hlta : (i : Int) < (an.length : Int) := by omega
        clear hrg hcg hcgm
        generalize ls[i] = ns at hx0 HRG HCG
        go_upto_region 12 with (first | (go_at_call 34; refine Calls.mono (group_calls (HRG.out) HCG.out.1 HCG.out.2) ?_; rintro e w5 ⟨gv, rfl, ho, hb⟩; have HG5 := Aside0.mk (Row.fresh (b0 := w.heap.size) (X := fun k => X k ∨ u8.ownBlock = some k) ho HB.out.size (fun k hk => hk.elim (HI.out.log.lt k) (HI.out.row.lt k))); have HGL := Aside0.mk (show ∀ k, gv.ownBlock = some k → wr.heap.size ≤ k from fun k hk => own_base ho k hk); have HL5 := Aside0.mk (HI.out.log.below hb); have HR5 := Aside0.mk (HI.out.row.same hb); have HB5 := Aside0.mk (below_step HB.out hb); clear ho hb) | fail)
        obtain ⟨ad1, e1, hx0, hy0, hy1⟩ := H1.out.u8_at i (by omega)
        cases e1
        generalize an[i] = y at hx0 hy0 hy1
        obtain ⟨m, rfl⟩ : ∃ m : Nat, y = (m : Int) := ⟨y.toNat, by omega⟩
        have HX := Aside0.mk hx0
        clear hx0
        have hx1 := pw_cell_below HB5.out HX.out
        have ht5 : Int.tmod (m : Int) 5 = ((m % 5 : Nat) : Int) := by rw [Int.tmod_eq_emod_of_nonneg (by omega)]; omega
        by_cases h5 : m % 5 = 0
        · have h5i : ((m % 5 : Nat) : Int) = 0 := by omega
          go_upto_region 13 with fail
          obtain ⟨A8, c8, rfl⟩ := own_slice HR5.out.own
          have hcap : W.l.length ≤ c8 := by obtain ⟨A, c, e, h1, _⟩ := HR5.out.strS; injection e with _ _ e; subst e; exact h1
          obtain ⟨Ag, cg2, rfl⟩ := own_slice HG5.out.own
          have hlen := HI.out.len
          have hd1 : (W.l.length : Int) / 2 ≤ (c8 : Int) := by omega
          have hd0 : (0 : Int) ≤ (W.l.length : Int) / 2 := by omega
          have hdv : Int.tdiv (W.l.length : Int) 2 = ((W.l.length / 2 : Nat) : Int) := by rw [Int.tdiv_eq_ediv_of_nonneg (by omega)]; omega
          have HLH := Aside0.mk (show (W.l.take (W.l.length / 2)).length = W.l.length / 2 by rw [List.length_take]; omega)
          have HH := Aside0.mk (show Rd w5 X (.slice A8 (W.l.take (W.l.length / 2)).length c8) (W.l.take (W.l.length / 2)) by rw [HLH.out]; exact StrS.take HR5.out.rd (W.l.length / 2) (by omega))
          clear hcap
          go_upto_region 14 with (first | ((with_reducible refine gate_builtin (b := .append) (xs := #[.tmp 55, .tmp 60]) rfl ?_); at_builtin; refine row_append (w0 := w5) rfl (.tmp 55) (.tmp 60) rfl rfl (by rw [HLH.out]; rfl) (Row.lit w5 X HL5.out.lt) (HH.out.same (alloc_below _ _)) (HL5.out.lt' (alloc_below _ _)) (alloc_below _ _) (by have := HI.out.few.1; have := HLH.out; simp only [List.length_nil]; omega) ?_; intro v6 w6 hr6 hb6 hg6 hat6; have HRa := Aside0.mk hr6; have HBa := Aside0.mk hb6; clear hr6 hb6 hg6 hat6) | ((with_reducible refine gate_builtin (b := .append) (xs := #[.tmp 61, .tmp 62]) rfl ?_); at_builtin; refine row_append (w0 := w5) rfl (.tmp 61) (.tmp 62) rfl rfl rfl HRa.out (HG5.out.strS.below HBa.out) (HL5.out.lt' HBa.out) HBa.out (by have := HI.out.few.1; have := groupL_len ns; have := HLH.out; simp only [List.length_append, List.length_nil]; omega) ?_; intro v7 w7 hr6 hb6 hg6 hat6; have HR6 := Aside0.mk hr6; have HB6 := Aside0.mk hb6; clear hr6 hb6 hg6 hat6) | fail)
          clear hd0 hd1 hdv hx1
          have HR7 := Aside0.mk (show Row w.heap.size w7 X v7 (W.l.take (W.l.length / 2) ++ groupL ns) from HR6.out.base HB5.out.size)
          have HL7 := Aside0.mk (HL5.out.below HB6.out)
          have HB7 := Aside0.mk (below_step HB5.out HB6.out)
          clear HRa HBa HR6 HB6
          have HAF := Aside0.mk (few_done (check_few HI.out.whole (by have := HI.out.turn; omega) HI.out.room (l := W.l.take (W.l.length / 2) ++ groupL ns) ((((HI.out.few.take (W.l.length / 2)).append (Few.group ns))).mono (by omega))) HI.out.quiet (by omega))
          have HAP := Aside0.mk (check_whole HL7.out HI.out.whole HR7.out.strS (by have := ((HI.out.few.take (W.l.length / 2)).append (Few.group ns)).sum; omega))
          generalize chgR S W (W.l.take (W.l.length / 2) ++ groupL ns) (W.l.take (W.l.length / 2) ++ groupL ns) ((W.side + 1) % 2) 0 = R at HAF HAP
          go_upto_region 17 with (first | (go_at_call 38; refine Calls.mono HAP.out ?_; rintro e w9 ⟨rfl, hx⟩; obtain ⟨X7, h7, n7⟩ := hx HAF.out.2.1.inv; have HD7 := Aside0.mk (held_next HI.out HAF.out h7 (HR7.out.next n7) ((((HI.out.few.take (W.l.length / 2)).append (Few.group ns))).mono (by omega))); have HBx := Aside0.mk (LogM.thru HL7.out HB7.out HB1.out.size n7); clear h7 n7 hx) | fail)
          rw [HAF.out.1]
          clear HAF HAP HL7 HR7 HB7 HI HB HG5 HL5 HR5 HB5 HGL HLH HH hlen
          have HB7 := HBx
          clear HBx
          generalize R.S = S7 at HD7
          generalize R.W = W7 at HD7
          go_upto_region 19 with (first | (go_at_call 33; refine Calls.mono (num_calls _ _) ?_; rintro e wn ⟨rfl, rfl⟩) | (go_at_call 37; refine Calls.mono (recs_whole HD7.out.log HD7.out.whole) ?_; rintro e w8 ⟨v, rfl, ho, hb⟩; have HO8 := Aside0.mk (StrS.of_own ho); have HD8 := Aside0.mk (HD7.out.below hb); have HB8 := Aside0.mk (below_step HB7.out hb); clear ho hb) | (go_at_call 36; refine Calls.mono (texts_yes HO8.out HD8.out.row.strS HD8.out.len rfl) ?_; rintro e w9 ⟨rfl, hb⟩; have HD9 := Aside0.mk (HD8.out.below hb); have HB9 := Aside0.mk (below_step HB8.out hb); clear hb) | fail)
          clear HD7 HB7 HO8 HD8 HB8
          have hx2 := pw_cell_below HB9.out HX.out
          have ht3 : Int.tmod (m : Int) 3 = ((m % 3 : Nat) : Int) := by rw [Int.tmod_eq_emod_of_nonneg (by omega)]; omega
          by_cases h3 : m % 3 = 0
          · have h3i : ((m % 3 : Nat) : Int) = 0 := by omega
            go_upto_region 20 with fail
            obtain ⟨F9, hs9, hF9⟩ := HD9.out.log.strip (by rw [HD9.out.whole.lo]; exact Nat.zero_le _)
            have HS9 := Aside0.mk hs9
            have HF9 := Aside0.mk hF9
            clear hs9 hF9 hx2
            go_upto_region 23 with (first | (go_at_call 32; refine Calls.mono (open_log HS9.out HD9.out.whole.up HD9.out.whole.lo HD9.out.whole.disk HD9.out.whole.turn) ?_; rintro e w10 ⟨q2, rfl, hq, ⟨X10, hl, hx⟩, hw, hb⟩; have HD10 := Aside0.mk (held_open HD9.out hl hw rfl rfl hb (fun k hk => (hx k hk).imp (HF9.out k) id)); have HB10 := Aside0.mk (below_step HB9.out hb); clear hq hl hx hw hb) | (go_at_call 33; refine Calls.mono (num_calls _ _) ?_; rintro e wn ⟨rfl, rfl⟩) | (go_at_call 37; refine Calls.mono (recs_whole HD10.out.log HD10.out.whole) ?_; rintro e w8 ⟨v, rfl, ho, hb⟩; have HO8 := Aside0.mk (StrS.of_own ho); have HD8 := Aside0.mk (HD10.out.below hb); have HB8 := Aside0.mk (below_step HB10.out hb); clear ho hb) | (go_at_call 36; refine Calls.mono (texts_yes HO8.out HD8.out.row.strS HD8.out.len rfl) ?_; rintro e w12 ⟨rfl, hb⟩; have HD12 := Aside0.mk (HD8.out.below hb); have HB12 := Aside0.mk (below_step HB8.out hb); clear hb) | fail)
            go_wp2
            go_roundw
            case rel => exact ⟨i + 1, q2, _, _, _, rfl, by go_num, ⟨by omega⟩, HD12, HB12⟩
            case measure => simp [intOf]; omega
          · have h3i : ¬ ((m % 3 : Nat) : Int) = 0 := by omega
            go_wp2
            go_roundw
            case rel => exact ⟨i + 1, q, _, _, _, rfl, by go_num, ⟨by omega⟩, HD9, HB9⟩
            case measure => simp [intOf]; omega
        · have h5i : ¬ ((m % 5 : Nat) : Int) = 0 := by omega
          go_upto_region 15 with fail
          have hsl := own_slice HR5.out.own
          obtain ⟨Ag, cg2, rfl⟩ := own_slice HG5.out.own
          go_upto_region 16 with (first | ((with_reducible refine gate_builtin (b := .append) (xs := #[.tmp 67, .tmp 68]) rfl ?_); at_builtin; refine row_append rfl (.tmp 67) (.tmp 68) rfl rfl rfl HR5.out HG5.out.strS HL5.out.lt HB5.out (by have := HI.out.few.1; have := groupL_len ns; omega) ?_; intro v6 w6 hr6 hb6 hg6 hat6; have HR6 := Aside0.mk hr6; have HB6 := Aside0.mk hb6; have HL6 := Aside0.mk (HL5.out.grown HR5.out hg6); have HG6 := Aside0.mk (HG5.out.strS.grown hg6 (fun k hk hx => hx (.inr hk))); clear hr6 hb6 hg6 hat6) | fail)
          have HAF := Aside0.mk (few_done (append_few HI.out.whole (by have := HI.out.turn; omega) HI.out.room (l := groupL ns) ((HI.out.few.append (Few.group ns)).mono (by omega))) HI.out.quiet (by omega))
          have HAP := Aside0.mk (append_whole HL6.out HI.out.whole HG6.out (by have := (Few.group ns).sum; omega))
          generalize chgR S W (groupL ns) (W.l ++ groupL ns) W.side W.size = R at HAF HAP
          go_upto_region 17 with (first | (go_at_call 35; refine Calls.mono HAP.out ?_; rintro e w7 ⟨rfl, hx⟩; obtain ⟨X7, h7, n7⟩ := hx HAF.out.2.1.inv; have HD7 := Aside0.mk (held_next HI.out HAF.out h7 (HR6.out.next n7) ((HI.out.few.append (Few.group ns)).mono (by omega))); have HB7 := Aside0.mk (LogM.thru HL6.out HB6.out HB1.out.size n7); clear h7 n7 hx) | fail)
          rw [HAF.out.1]
          clear HAF HAP HL6 HG6 HR6 HB6 HI HB HG5 HL5 HR5 HB5 HGL hx1
          generalize R.S = S7 at HD7
          generalize R.W = W7 at HD7
          go_upto_region 19 with (first | (go_at_call 33; refine Calls.mono (num_calls _ _) ?_; rintro e wn ⟨rfl, rfl⟩) | (go_at_call 37; refine Calls.mono (recs_whole HD7.out.log HD7.out.whole) ?_; rintro e w8 ⟨v, rfl, ho, hb⟩; have HO8 := Aside0.mk (StrS.of_own ho); have HD8 := Aside0.mk (HD7.out.below hb); have HB8 := Aside0.mk (below_step HB7.out hb); clear ho hb) | (go_at_call 36; refine Calls.mono (texts_yes HO8.out HD8.out.row.strS HD8.out.len rfl) ?_; rintro e w9 ⟨rfl, hb⟩; have HD9 := Aside0.mk (HD8.out.below hb); have HB9 := Aside0.mk (below_step HB8.out hb); clear hb) | fail)
          clear HD7 HB7 HO8 HD8 HB8
          have hx2 := pw_cell_below HB9.out HX.out
          have ht3 : Int.tmod (m : Int) 3 = ((m % 3 : Nat) : Int) := by rw [Int.tmod_eq_emod_of_nonneg (by omega)]; omega
          by_cases h3 : m % 3 = 0
          · have h3i : ((m % 3 : Nat) : Int) = 0 := by omega
            go_upto_region 20 with fail
            obtain ⟨F9, hs9, hF9⟩ := HD9.out.log.strip (by rw [HD9.out.whole.lo]; exact Nat.zero_le _)
            have HS9 := Aside0.mk hs9
            have HF9 := Aside0.mk hF9
            clear hs9 hF9 hx2
            go_upto_region 23 with (first | (go_at_call 32; refine Calls.mono (open_log HS9.out HD9.out.whole.up HD9.out.whole.lo HD9.out.whole.disk HD9.out.whole.turn) ?_; rintro e w10 ⟨q2, rfl, hq, ⟨X10, hl, hx⟩, hw, hb⟩; have HD10 := Aside0.mk (held_open HD9.out hl hw rfl rfl hb (fun k hk => (hx k hk).imp (HF9.out k) id)); have HB10 := Aside0.mk (below_step HB9.out hb); clear hq hl hx hw hb) | (go_at_call 33; refine Calls.mono (num_calls _ _) ?_; rintro e wn ⟨rfl, rfl⟩) | (go_at_call 37; refine Calls.mono (recs_whole HD10.out.log HD10.out.whole) ?_; rintro e w8 ⟨v, rfl, ho, hb⟩; have HO8 := Aside0.mk (StrS.of_own ho); have HD8 := Aside0.mk (HD10.out.below hb); have HB8 := Aside0.mk (below_step HB10.out hb); clear ho hb) | (go_at_call 36; refine Calls.mono (texts_yes HO8.out HD8.out.row.strS HD8.out.len rfl) ?_; rintro e w12 ⟨rfl, hb⟩; have HD12 := Aside0.mk (HD8.out.below hb); have HB12 := Aside0.mk (below_step HB8.out hb); clear hb) | fail)
            go_wp2
            go_roundw
            case rel => exact ⟨i + 1, q2, _, _, _, rfl, by go_num, ⟨by omega⟩, HD12, HB12⟩
            case measure => simp [intOf]; omega
          · have h3i : ¬ ((m % 3 : Nat) : Int) = 0 := by omega
            go_wp2
            go_roundw
            case rel => exact ⟨i + 1, q, _, _, _, rfl, by go_num, ⟨by omega⟩, HD9, HB9⟩
            case measure => simp [intOf]; omega
      · have hge : ¬ (i : Int) < (ls.length : Int) := by omega
        clear hN HI
        go_wp2_with (first | (go_at_call 30; refine Calls.mono (awake_calls _) ?_; rintro e w11 ⟨rfl, hb⟩; have HB11 := Aside0.mk (below_step HB.out hb); clear hb) | fail)
        go_ret
        exact ⟨rfl, HB11.out⟩
  · by_cases hg : 20 < ls.length
    · have hg1 : (20 : Int) < (ls.length : Int) := by omega
      go_enter Try.func14, Try.ntmps14
      go_wp2_with (first | (go_at_call 30; refine Calls.mono (awake_calls _) ?_; rintro e w11 ⟨rfl, hb⟩; have HB11 := Aside0.mk (hb); clear hb) | fail)
      go_ret
      exact ⟨rfl, HB11.out⟩
    · have hg1 : ¬ (20 : Int) < (ls.length : Int) := by omega
      have hg2 : (an.length : Int) < (ls.length : Int) := by omega
      go_enter Try.func14, Try.ntmps14
      go_wp2_with (first | (go_at_call 30; refine Calls.mono (awake_calls _) ?_; rintro e w11 ⟨rfl, hb⟩; have HB11 := Aside0.mk (hb); clear hb) | fail)
      go_ret
      exact ⟨rfl, HB11.out⟩
set_option maxRecDepth 100000 in
theorem walk {H : Type} {enc : TypeId × Value → H} {W : World} {r : Reach} {b0 : Nat} {base : Nat} {spare : Nat → Bool} {held : Bool} {d0 d1 : DataW H} {p0 p1 : List MemPlace} (v0 : Value) (o0 : Value.okWide Try.prog W r b0 38 v0) (h0 : DataW.Trod enc Try.prog W base spare held 38 v0 d0 p0) (v1 : Value) (o1 : Value.okWide Try.prog W r b0 50 v1) (h1 : DataW.Trod enc Try.prog W base spare held 50 v1 d1 p1) (_w : World) :
    Calls Try.prog 14 #[v0, v1] W fun e w' => e = .returned (.bool true) ∧ Below W.heap.size W w' := by
  obtain ⟨l, A, c, rfl, hc, hcm, hr⟩ := u8s_arg o0 h0
  obtain ⟨l1, A1, c1, rfl, hc1, hcm1, hr1⟩ := u8_arg o1 h1
  exact run l l1 hc hc1 W hr hr1
end Go.Proofs.Ytmgkflkpompchaa.WalHas
