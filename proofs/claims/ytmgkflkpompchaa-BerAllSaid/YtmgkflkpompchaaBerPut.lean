/- ber.put: called with any tlv that the memory holds, whose bytes are at most 2^40, it puts that tlv's bytes behind the row that it is handed; ber.Put gives them as a text. No condition but that bound. -/
import Derived.Test.YtmgkflkpompchaaMem
import Derived.Test.YtmgkflkpompchaaEnc
namespace Go.Proofs.Ytmgkflkpompchaa.BerPut
open Go.RowKit Go.Proofs.YtmgkflkpompchaaW.PrintWords Go.Proofs.YtmgkflkpompchaaW.PrintLast Go.Proofs.YtmgkflkpompchaaW.PrintMore
open Go.Proofs.Ytmgkflkpompchaa.PBerAll Go.Proofs.Ytmgkflkpompchaa.Mem Go.Proofs.Ytmgkflkpompchaa.Enc
set_option linter.unusedVariables false
set_option linter.unusedSimpArgs false

/-- What put asks of a tlv, and leaves. -/
def PutSaid (x : S32) : Prop := ∀ (A : Option Addr) (c : Nat) (b : Value) (xs : List Int) (w0 w : World), Below w0.heap.size w0 w → x.f2.length ≤ c → Kd.C k32 w0 A x.f2.length x.f2 → BRow w w0.heap.size b xs →
    xs.length + (encT x).length ≤ 1099511627776 →
    Calls Try.prog 61 #[b, .agg #[.int .i64 x.f0, .string x.f1, .slice A x.f2.length c]] w fun e w' =>
      ∃ v', e = .returned v' ∧ BRow w' w0.heap.size v' (xs ++ encT x) ∧ w.grownBy w' b.ownBlock ∧ (v'.ownBlock = b.ownBlock ∨ ∃ k, v'.ownBlock = some k ∧ w.heap.size ≤ k)

set_option maxHeartbeats 4000000 in
set_option maxRecDepth 100000 in
theorem put_walk (t : Int) (s : ByteArray) (l : List S32) (hs : (encT ⟨t, s, l⟩).length ≤ 1099511627776) (hsub : ∀ y, y ∈ l → PutSaid y) : PutSaid ⟨t, s, l⟩ := by
  intro A c b xs w0 w hB hc hr hb hlen
  dsimp only at hc hr ⊢
  have hu32 := Try.underlying32
  have hlm : l.length ≤ 9223372036854775807 := Kd.C_max hr
  have HB0 := Aside0.mk hB
  have HBR := Aside0.mk hb
  have HR := Aside0.mk hr
  have HC := Aside0.mk hc
  have HL := Aside0.mk hlen
  have HSUB := Aside0.mk hsub
  have HS := Aside0.mk hs
  clear hB hb hr hc hlen hsub hs
  go_enter Try.func61, Try.ntmps61
  go_upto_region 1 with ((with_reducible refine gate_dst (N := 3) rfl ?_); refine box_event ?hg (N := 3) ?hd (cs := #[.int .i64 t, .string s, .slice A l.length c]) (t := 32) ?hr ?_; (case hd => rfl); (case hg => rfl); (case hr => first | (go_simp; done) | (go_simp; rfl)); intro gb hg w4 hbox hb; have HB := Aside0.mk hb; have BK := Aside0.mk hbox; have GE := Aside0.mk (show w.heap.size ≤ gb by omega); clear hb hbox hg)
  have hcz1 : w4.cell? ⟨gb, 1, none⟩ = some (.string s) := (blk_cell BK.out 1).trans rfl
  go_upto_region 2 with ((with_reducible refine gate_dst (N := 13) rfl ?_); refine conv_event ?hg (N := 13) ?hd 9 50 (.tmp 12) ?ho s ?hx Try.underlying9 Try.underlying50 Try.underlying5 ?hm ?_; (case hd => rfl); (case hg => rfl); (case ho => rfl); (case hx => rfl); (case hm => have := encT_len t s l; have := HS.out; omega); intro v5 w5 hv hb hn; have n1 := Aside0.mk (hv.lower (base' := w0.heap.size) (by have := HB.out.size; have := HB0.out.size; omega)); have n2 := Aside0.mk (below_step HB.out hb); have n3 := Aside0.mk (blk_below BK.out hb); have HN := Aside0.mk (show ∀ k, v5.ownBlock = some k → w.heap.size ≤ k by obtain ⟨k, h1, h2⟩ := hn; intro k' h3; rw [h1] at h3; injection h3 with h3; have := HB.out.size; omega); clear HB BK; have HV := n1; have HB := n2; have BK := n3; clear n1 n2 n3; clear hv hb hn hcz1)
  have hcz2 : w5.cell? ⟨gb, 2, none⟩ = some (.slice A l.length c) := (blk_cell BK.out 2).trans rfl
  go_wp2
  clear hcz2
  go_loopw [5, 17] (fun v5' v17 w' => ∃ j : Nat, j ≤ l.length ∧ v17 = .int .i64 j ∧ Aside0 (BRow w' w0.heap.size v5' (bytesOf s ++ encL (l.take j))) ∧ Aside0 (∀ k, v5'.ownBlock = some k → w.heap.size ≤ k) ∧ Aside0 (w'.heap[gb]? = some (.cells #[.int .i64 t, .string s, (.slice A l.length c)] 32 (0, 0))) ∧ Aside0 (Below w.heap.size w w')) (fun _ v17 _ => l.length - (intOf v17).toNat)
  case atStart => exact ⟨0, Nat.zero_le _, rfl, ⟨by simpa [encL] using HV.out⟩, ⟨HN.out⟩, BK, HB⟩
  case round =>
    obtain ⟨j, hj, rfl, HV, HN, BK, HB⟩ := hrel
    by_cases hlt : j < l.length
    · have p1 : (0 : Int) ≤ (j : Int) := by omega
      have q1 : (j : Int) < (l.length : Int) := by omega
      obtain ⟨ad, A2, c2, e2, hx0, hx1, hx2, hl2, hi2⟩ := at_T32 HR.out (j : Int) p1 q1
      cases e2
      rw [show rd_T32 l (j : Int) = l[j] from by simp [rd_T32, List.getD_eq_getElem?_getD, List.getElem?_eq_getElem hlt]] at hx0 hx1 hx2 hl2 hi2
      have HY := Aside0.mk (List.getElem_mem hlt)
      have HT := Aside0.mk (encL_take_len l j hlt)
      have HLE := Aside0.mk (encL_at l j hlt)
      generalize l[j] = y at hx0 hx1 hx2 hl2 hi2 HY HT HLE
      simp only [Int.toNat_natCast] at hx0 hx1 hx2
      have HBB : Below w0.heap.size w0 wr := below_then HB0.out HB0.out.size HB.out
      replace hx0 := (HBB.cell (World.block_lt_of_cell? w0 _ hx0)).trans hx0
      replace hx1 := (HBB.cell (World.block_lt_of_cell? w0 _ hx1)).trans hx1
      replace hx2 := (HBB.cell (World.block_lt_of_cell? w0 _ hx2)).trans hx2
      have HI2 := Aside0.mk hi2
      have HL2 := Aside0.mk hl2
      have HBB' := Aside0.mk HBB
      clear hi2 hl2 HBB
      go_wp2_with fail
      refine Calls.mono (HSUB.out y HY.out A2 c2 u5 (bytesOf s ++ encL (l.take j)) w0 _ (below_alloc HBB'.out _) HL2.out HI2.out (HV.out.below (below_alloc (Below.refl _ _) _)) (by have h1 := HLE.out; have h2 := encT_len t s l; have h3 := HS.out; have h4 := bytesOf_length s; rw [List.length_append]; omega)) ?_
      rintro e w7 ⟨v7, rfl, hb7, hg7, ha7⟩
      have n1 := Aside0.mk hb7
      have n2 := Aside0.mk (((below_alloc HB.out _).grown hg7 (by have := HB.out.size; simp; omega) HN.out))
      have n3 := Aside0.mk (blk_grown (blk_alloc BK.out _) hg7 (HV.out.ne BK.out (by decide)))
      have n4 := Aside0.mk (show ∀ k, v7.ownBlock = some k → w.heap.size ≤ k by
        rcases ha7 with h | ⟨k, h1, h2⟩
        · rw [h]; exact HN.out
        · intro k' h3; rw [h1] at h3; injection h3 with h3; have := HB.out.size; simp at h2; omega)
      clear HB BK HV HN hb7 hg7 ha7
      have HB := n2; have BK := n3; have HV := n1; have HN := n4
      clear n1 n2 n3 n4
      go_wp2
      go_roundw
      case measure => simp [intOf]; omega
      case rel => exact ⟨j + 1, by omega, by go_num, ⟨by rw [HT.out, ← List.append_assoc]; exact HV.out⟩, HN, BK, HB⟩
    · obtain rfl : j = l.length := by omega
      rw [List.take_length] at HV
      have hcz0 : wr.cell? ⟨gb, 0, none⟩ = some (.int .i64 t) := (blk_cell BK.out 0).trans rfl
      have hN : (bytesOf s ++ encL l).length = s.size + (encL l).length := by rw [List.length_append, bytesOf_length]
      obtain ⟨Av, cv, ev, hcv⟩ := HV.out.slice
      rw [hN] at ev hcv
      subst ev
      have hNle : s.size + (encL l).length ≤ 1099511627776 := by have := encT_len t s l; have := HS.out; omega
      have HT := Aside0.mk (show encT ⟨t, s, l⟩ = t % 256 :: (lenB (s.size + (encL l).length) ++ (bytesOf s ++ encL l)) from encT_eq _)
      clear hN
      have ST := Aside0.mk (AppSt.start (HBR.out.below HB.out) (below_then HB0.out HB0.out.size HB.out))
      have HNE := Aside0.mk (show ∀ k, (Value.slice Av (s.size + (encL l).length) cv).ownBlock = some k → b.ownBlock ≠ some k from fun k h1 h2 => by
        have h3 := HN.out k h1
        have h4 := HBR.out.lt k h2
        omega)
      have HLT := Aside0.mk (encT_len t s l)
      generalize s.size + (encL l).length = N at HV hcv hNle HT HNE HLT ⊢
      have HX := Aside0.mk (show xs.length + N ≤ 2199023255552 by have := HL.out; have := HLT.out; have := HS.out; omega)
      by_cases hn : N < 128
      · go_wp2_with (first | ((with_reducible refine gate_builtin (b := .append) (xs := #[.tmp 27, .tmp 31]) rfl ?_); at_builtin; refine app_one (w0 := w0) w0.heap.size rfl (.tmp 27) (.tmp 31) 50 rfl Try.underlying50 info5 _ _ (t % 256) rfl rfl ST.out.row ST.out.bel ST.out.bel.size (by have := HX.out; (try simp only [List.length_append, List.length_singleton]); omega) ?_; intro v8 w8 h1 h2 h3 h4; have n1 := Aside0.mk (ST.out.step h1 h2 h3 h4); clear ST h1 h2 h3 h4; have ST := n1; clear n1) | ((with_reducible refine gate_builtin (b := .append) (xs := #[.tmp 35, .tmp 38]) rfl ?_); at_builtin; refine app_one (w0 := w0) w0.heap.size rfl (.tmp 35) (.tmp 38) 50 rfl Try.underlying50 info5 _ _ ((N : Int)) rfl rfl ST.out.row ST.out.bel ST.out.bel.size (by have := HX.out; (try simp only [List.length_append, List.length_singleton]); omega) ?_; intro v8 w8 h1 h2 h3 h4; have n1 := Aside0.mk (ST.out.step h1 h2 h3 h4); clear ST h1 h2 h3 h4; have ST := n1; clear n1) | ((with_reducible refine gate_builtin (b := .append) (xs := #[.tmp 62, .tmp 63]) rfl ?_); at_builtin; refine app_row (w0 := w0) w0.heap.size rfl (.tmp 62) (.tmp 63) 50 rfl Try.underlying50 info5 _ _ (bytesOf s ++ encL l) Av N cv rfl rfl ST.out.row (ST.out.keep HV.out HNE.out).reads.2 ST.out.bel ST.out.bel.size (by have := HX.out; (try simp only [List.length_append, List.length_singleton]); omega) ?_; intro v8 w8 h1 h2 h3 h4; have n1 := Aside0.mk (ST.out.step h1 h2 h3 h4); clear ST h1 h2 h3 h4; have ST := n1; clear n1))
        go_ret
        exact ⟨_, rfl, by rw [HT.out, lenB, if_pos hn]; simpa using ST.out.row, ST.out.frame HB.out, ST.out.owns HB.out⟩
      · have hnf : ¬ ((N : Int) < 128) := by omega
        go_wp2_with (first | ((with_reducible refine gate_builtin (b := .append) (xs := #[.tmp 27, .tmp 31]) rfl ?_); at_builtin; refine app_one (w0 := w0) w0.heap.size rfl (.tmp 27) (.tmp 31) 50 rfl Try.underlying50 info5 _ _ (t % 256) rfl rfl ST.out.row ST.out.bel ST.out.bel.size (by have := HX.out; (try simp only [List.length_append, List.length_singleton]); omega) ?_; intro v8 w8 h1 h2 h3 h4; have n1 := Aside0.mk (ST.out.step h1 h2 h3 h4); clear ST h1 h2 h3 h4; have ST := n1; clear n1))
        refine Calls.mono (ber_size.calls 7 (N : Int) ((sizeN N : Nat) : Int) _ (size_f N (by omega))) ?_
        rintro e w9 ⟨rfl, ⟨nd, rfl⟩⟩
        have n1 := Aside0.mk (ST.out.drewN nd)
        clear ST
        have ST := n1
        clear n1
        obtain ⟨hk1, hk2⟩ := sizeN_le N (by omega)
        have HLB := Aside0.mk (show lenB N = ((128 + sizeN N : Nat) : Int) :: topB N (sizeN N) by rw [lenB, if_neg hn, show ((128 + sizeN N : Nat) : Int) % 256 = ((128 + sizeN N : Nat) : Int) by omega])
        generalize sizeN N = K at hk1 hk2 HLB ⊢
        go_wp2_with (first | ((with_reducible refine gate_builtin (b := .append) (xs := #[.tmp 42, .tmp 46]) rfl ?_); at_builtin; refine app_one (w0 := w0) w0.heap.size rfl (.tmp 42) (.tmp 46) 50 rfl Try.underlying50 info5 _ _ (128 + (K : Int)) rfl rfl ST.out.row ST.out.bel ST.out.bel.size (by have := HX.out; (try simp only [List.length_append, List.length_singleton]); omega) ?_; intro v8 w8 h1 h2 h3 h4; have n1 := Aside0.mk (ST.out.step h1 h2 h3 h4); clear ST h1 h2 h3 h4; have ST := n1; clear n1))
        obtain ⟨wl, hwl⟩ : ∃ wl : World, wl = wr := ⟨_, rfl⟩
        rw [← hwl] at HV ST HB
        clear hwl
        go_loopw [0, 10] (fun v0 v10 w' => ∃ (j : Nat) (pre : List Int), j ≤ K ∧ v10 = .int .i64 ((j : Int) - 1) ∧ Aside0 (pre ++ topB N j = topB N K) ∧ Aside0 (pre.length ≤ 6) ∧ Aside0 (AppSt w0 wl w' b v0 (xs ++ [t % 256] ++ [128 + (K : Int)] ++ pre))) (fun _ v10 _ => (intOf v10 + 1).toNat)
        case atStart => exact ⟨K, [], Nat.le_refl _, rfl, ⟨rfl⟩, ⟨by simp⟩, ⟨by simpa using ST.out⟩⟩
        case round =>
          obtain ⟨j, pre, hj, rfl, HP, HPL, ST⟩ := hrel
          by_cases hj0 : 1 ≤ j
          · have c1 : decide ((0 : Int) ≤ (j : Int) - 1) = true := by simp; omega
            have HTB := Aside0.mk (topB_pos N j hj0)
            go_wp2_with (first | ((with_reducible refine gate_builtin (b := .append) (xs := #[.tmp 54, .tmp 60]) rfl ?_); at_builtin; refine app_one (w0 := w0) w0.heap.size rfl (.tmp 54) (.tmp 60) 50 rfl Try.underlying50 info5 _ _ (((N : Int) / 2 ^ (8 * (j - 1)) % 256)) rfl rfl ST.out.row ST.out.bel ST.out.bel.size (by have := HX.out; have := HPL.out; (try simp only [List.length_append, List.length_singleton]); omega) ?_; intro v8 w8 h1 h2 h3 h4; have n1 := Aside0.mk (ST.out.step h1 h2 h3 h4); clear ST h1 h2 h3 h4; have ST := n1; clear n1))
            go_roundw
            case measure => simp [intOf]; omega
            case rel => exact ⟨j - 1, pre ++ [((N : Int) / 2 ^ (8 * (j - 1)) % 256)], by omega, by go_num, ⟨by rw [List.append_assoc]; have := HP.out; rw [HTB.out] at this; simpa using this⟩, ⟨by have h1 := congrArg List.length HP.out; rw [List.length_append, topB_len, topB_len] at h1; simp; omega⟩, ⟨by simpa using ST.out⟩⟩
          · obtain rfl : j = 0 := by omega
            have HP2 := Aside0.mk (show pre = topB N K by have := HP.out; simpa [topB] using this)
            have c1 : decide ((0 : Int) ≤ ((0 : Nat) : Int) - 1) = false := by simp
            go_wp2_with (first | ((with_reducible refine gate_builtin (b := .append) (xs := #[.tmp 62, .tmp 63]) rfl ?_); at_builtin; refine app_row (w0 := w0) w0.heap.size rfl (.tmp 62) (.tmp 63) 50 rfl Try.underlying50 info5 _ _ (bytesOf s ++ encL l) Av N cv rfl rfl ST.out.row (ST.out.keep HV.out HNE.out).reads.2 ST.out.bel ST.out.bel.size (by have := HX.out; have := HPL.out; (try simp only [List.length_append, List.length_singleton]); omega) ?_; intro v8 w8 h1 h2 h3 h4; have n1 := Aside0.mk (ST.out.step h1 h2 h3 h4); clear ST h1 h2 h3 h4; have ST := n1; clear n1))
            go_ret
            exact ⟨_, rfl, by rw [HT.out, HLB.out, ← HP2.out]; simpa using ST.out.row, ST.out.frame HB.out, ST.out.owns HB.out⟩

theorem put_all : ∀ n (x : S32), SizeOf.sizeOf x < n → PutSaid x
  | 0, x, h => by omega
  | n + 1, ⟨t, s, l⟩, h => by
    intro A c b xs w0 w h1 h2 h3 h4 h5
    refine put_walk t s l (by omega) (fun y hy => put_all n y ?_) A c b xs w0 w h1 h2 h3 h4 h5
    have := List.sizeOf_lt_of_mem hy
    simp at h
    omega
theorem put_said (x : S32) : PutSaid x := put_all _ x (Nat.lt_succ_self _)


theorem brow_string {w : World} {base : Nat} {v : Value} {xs : List Int} (h : BRow w base v xs) : (convert 50 9 v).run Try.prog w = .ok (.string (strOfNums xs)) w := by
  obtain ⟨A, c, rfl, hc⟩ := h.slice
  obtain ⟨_, hr⟩ := h.reads
  rcases Nat.eq_zero_or_pos xs.length with h0 | h0
  · obtain rfl : xs = [] := List.eq_nil_of_length_eq_zero h0
    rcases h with ⟨h1, _⟩ | ⟨g, cap, cur, fr, h1, _⟩
    · cases h1; exact run_convert_bytes_nil w 50 5 Try.underlying50 Try.underlying5 0 0 9 Try.underlying9
    · cases h1
      exact run_convert_bytes_arg w 50 5 Try.underlying50 Try.underlying5 g 0 0 c [] rfl (fun i hi => by omega) 9 Try.underlying9
  · obtain ⟨ad, rfl, hcell⟩ := hr.2.2 h0
    rcases h with ⟨h1, _⟩ | ⟨g, cap, cur, fr, h1, _⟩
    · cases h1
    · cases h1
      refine run_convert_bytes_arg w 50 5 Try.underlying50 Try.underlying5 g 0 xs.length c xs rfl (fun i hi => ?_) 9 Try.underlying9
      have := hcell i hi
      rw [add_plain] at this
      rw [Nat.zero_add]; exact this

set_option maxHeartbeats 1000000 in
set_option maxRecDepth 100000 in
/-- ber.Put of what may be. -/
theorem Put_yes (k : Nat) (x : S32) (A : Option Addr) (c : Nat) (w : World) (hr : Kd.C k32 w A x.f2.length x.f2) (hc : x.f2.length ≤ c) (hm : ber_May.f k x.f0 x.f1 x.f2 = some true) (hl : (encT x).length ≤ 1099511627776) :
    Calls Try.prog 26 #[.agg #[.int .i64 x.f0, .string x.f1, .slice A x.f2.length c]] w fun e w' => e = .returned (.string (strOfNums (encT x))) ∧ Below w.heap.size w w' := by
  have hu32 := Try.underlying32
  have HR := Aside0.mk hr
  have HC := Aside0.mk hc
  have HM := Aside0.mk hm
  have HL := Aside0.mk hl
  clear hr hc hm hl
  go_enter Try.func26, Try.ntmps26
  go_upto_region 1 with ((with_reducible refine gate_dst (N := 1) rfl ?_); refine box_event ?hg (N := 1) ?hd (cs := #[.int .i64 x.f0, .string x.f1, .slice A x.f2.length c]) (t := 32) ?hr ?_; (case hd => rfl); (case hg => rfl); (case hr => first | (go_simp; done) | (go_simp; rfl)); intro gb hg w4 hbox hb; have HB := Aside0.mk hb; have BK := Aside0.mk hbox; clear hb hbox hg)
  have hcz0 : w4.cell? ⟨gb, 0, none⟩ = some (.int .i64 x.f0) := (blk_cell BK.out 0).trans rfl
  have hcz1 : w4.cell? ⟨gb, 1, none⟩ = some (.string x.f1) := (blk_cell BK.out 1).trans rfl
  have hcz2 : w4.cell? ⟨gb, 2, none⟩ = some (.slice A x.f2.length c) := (blk_cell BK.out 2).trans rfl
  go_wp2_with fail
  refine Calls.mono (ber_May.calls k x.f0 x.f1 A c x.f2 true _ (Kd.C_below HR.out HB.out) HC.out HM.out) ?_
  rintro e w5 ⟨rfl, hb5⟩
  have n1 := Aside0.mk (below_step HB.out hb5)
  have n2 := Aside0.mk (blk_below BK.out hb5)
  clear hcz0 hcz1 hcz2 HB BK hb5
  have HB := n1; have BK := n2
  clear n1 n2
  have hcz0 : w5.cell? ⟨gb, 0, none⟩ = some (.int .i64 x.f0) := (blk_cell BK.out 0).trans rfl
  have hcz1 : w5.cell? ⟨gb, 1, none⟩ = some (.string x.f1) := (blk_cell BK.out 1).trans rfl
  have hcz2 : w5.cell? ⟨gb, 2, none⟩ = some (.slice A x.f2.length c) := (blk_cell BK.out 2).trans rfl
  go_wp2_with fail
  refine Calls.mono (put_said x A c (.slice none 0 0) [] w _ HB.out HC.out HR.out (BRow.nil _ _) (by simpa using HL.out)) ?_
  rintro e w6 ⟨v6, rfl, hb6, hg6, _⟩
  have HB6 := Aside0.mk (HB.out.grown hg6 HB.out.size (fun k h => by simp [Value.ownBlock] at h))
  rw [List.nil_append] at hb6
  have hcv := brow_string hb6
  clear hb6 hg6 hcz0 hcz1 hcz2
  go_wp2
  go_ret
  exact ⟨rfl, HB6.out⟩

set_option maxHeartbeats 1000000 in
set_option maxRecDepth 100000 in
/-- ber.Put of what may not be. -/
theorem Put_no (k : Nat) (x : S32) (A : Option Addr) (c : Nat) (w : World) (hr : Kd.C k32 w A x.f2.length x.f2) (hc : x.f2.length ≤ c) (hm : ber_May.f k x.f0 x.f1 x.f2 = some false) :
    Calls Try.prog 26 #[.agg #[.int .i64 x.f0, .string x.f1, .slice A x.f2.length c]] w fun e w' => e = .returned (.string ⟨#[]⟩) ∧ Below w.heap.size w w' := by
  have hu32 := Try.underlying32
  have HR := Aside0.mk hr
  have HC := Aside0.mk hc
  have HM := Aside0.mk hm
  clear hr hc hm
  go_enter Try.func26, Try.ntmps26
  go_upto_region 1 with ((with_reducible refine gate_dst (N := 1) rfl ?_); refine box_event ?hg (N := 1) ?hd (cs := #[.int .i64 x.f0, .string x.f1, .slice A x.f2.length c]) (t := 32) ?hr ?_; (case hd => rfl); (case hg => rfl); (case hr => first | (go_simp; done) | (go_simp; rfl)); intro gb hg w4 hbox hb; have HB := Aside0.mk hb; have BK := Aside0.mk hbox; clear hb hbox hg)
  have hcz0 : w4.cell? ⟨gb, 0, none⟩ = some (.int .i64 x.f0) := (blk_cell BK.out 0).trans rfl
  have hcz1 : w4.cell? ⟨gb, 1, none⟩ = some (.string x.f1) := (blk_cell BK.out 1).trans rfl
  have hcz2 : w4.cell? ⟨gb, 2, none⟩ = some (.slice A x.f2.length c) := (blk_cell BK.out 2).trans rfl
  go_wp2_with fail
  refine Calls.mono (ber_May.calls k x.f0 x.f1 A c x.f2 false _ (Kd.C_below HR.out HB.out) HC.out HM.out) ?_
  rintro e w5 ⟨rfl, hb5⟩
  have n1 := Aside0.mk (below_step HB.out hb5)
  clear hcz0 hcz1 hcz2 HB BK hb5
  go_wp2
  go_ret
  exact ⟨rfl, n1.out⟩

end Go.Proofs.Ytmgkflkpompchaa.BerPut
