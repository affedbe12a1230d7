/- brookref1.size: called with any tlv that the memory holds and that is not too wide it tells how long and how deep it is. -/
import Derived.Test.YtmgkflkpompchaaPBerAllx3
import Derived.Test.YtmgkflkpompchaaEncSize
import Derived.Test.YtmgkflkpompchaaMem
namespace Go.Proofs.Ytmgkflkpompchaa.RefSize
open Go.RowKit Go.Proofs.YtmgkflkpompchaaW.PrintWords Go.Proofs.YtmgkflkpompchaaW.PrintLast Go.Proofs.YtmgkflkpompchaaW.PrintMore
open Go.Proofs.Ytmgkflkpompchaa.PBerAll Go.Proofs.Ytmgkflkpompchaa.Mem Go.Proofs.Ytmgkflkpompchaa.Enc
set_option linter.unusedVariables false
set_option linter.unusedSimpArgs false

theorem strOfNums_append (a b : List Int) : strOfNums a ++ strOfNums b = strOfNums (a ++ b) := by
  apply ByteArray.ext
  simp [strOfNums, ByteArray.data_append]
theorem topB_div : ∀ (k n : Nat), topB n (k + 1) = topB (n / 256) k ++ [((n % 256 : Nat) : Int)]
  | 0, n => by simp [topB]
  | k + 1, n => by
    rw [topB, topB_div k n, topB]
    rw [List.cons_append, Nat.div_div_eq_div_mul, Nat.pow_succ, Nat.mul_comm (256 ^ k) 256]
theorem reflen_l0 : ∀ (d fuel m : Nat) (acc : List Int), m ≤ 1048576 → digs m = d → acc.length + d ≤ 100 → d < fuel →
    brookref1_length.l0 fuel acc (m : Int) = some (strOfNums ((((128 + (d + acc.length) : Nat) : Int) % 256) :: (topB m d ++ acc)))
  | d, 0, m, acc, h1, h2, h3, h4 => by omega
  | 0, fuel + 1, m, acc, h1, h2, h3, h4 => by
    have hm : m = 0 := by
      unfold digs at h2
      split at h2 <;> omega
    subst hm
    have e : wrap64 (128 + (acc.length : Int)) % 256 = ((128 + (0 + acc.length) : Nat) : Int) % 256 := by unfold wrap64; omega
    rw [brookref1_length.l0, if_neg (by omega)]
    simp only [Option.bind_some]
    rw [strOfNums_append, e, if_pos (by simp [strOfNums, ByteArray.size]; omega)]
    rfl
  | d + 1, fuel + 1, m, acc, h1, h2, h3, h4 => by
    have hm : m ≠ 0 := by
      intro hm
      unfold digs at h2
      rw [dif_pos hm] at h2
      omega
    have h5 : digs (m / 256) = d := by
      unfold digs at h2
      rw [dif_neg hm] at h2
      omega
    have e1 : wrap64 (Int.tdiv (m : Int) 256) = ((m / 256 : Nat) : Int) := by
      rw [Int.tdiv_eq_ediv_of_nonneg (by omega)]
      unfold wrap64; omega
    have e2 : ((m : Int) % 256) = ((m % 256 : Nat) : Int) := by omega
    rw [brookref1_length.l0, if_pos (by omega)]
    simp only [Option.bind_some]
    rw [if_pos (by simp; omega), e1, reflen_l0 d fuel (m / 256) _ (by omega) h5 (by simp; omega) (by omega), topB_div, e2]
    congr 2
    simp
    omega
theorem reflen_f (n : Nat) (h : n ≤ 1048576) : ∃ k, brookref1_length.f k (n : Int) = some (strOfNums (lenB n)) := by
  refine ⟨20, ?_⟩
  unfold brookref1_length.f lenB
  by_cases h1 : n < 128
  · rw [if_pos (by omega), if_pos h1]
    congr 3
    omega
  · rw [if_neg (by omega), if_neg h1]
    have e : digs n = sizeN n := by
      unfold sizeN
      rw [digs, dif_neg (by omega)]; omega
    have := sizeN_le n (by omega)
    rw [reflen_l0 (sizeN n) 20 n [] h e (by simp; omega) (by omega)]
    simp
theorem strOfNums_size (l : List Int) : (strOfNums l).size = l.length := by simp [strOfNums, ByteArray.size]

/-- What Go's two results are. -/
def szR : Option (Nat × Nat) → Int × Int
  | none => (-1, 0)
  | some (n, d) => ((n : Int), (d : Int))
def SizeSaid (x : S32) : Prop := ∀ (A : Option Addr) (c : Nat) (w : World), wideT x → x.f2.length ≤ c → Kd.C k32 w A x.f2.length x.f2 →
    Calls Try.prog 60 #[.agg #[.int .i64 x.f0, .string x.f1, .slice A x.f2.length c]] w fun e w' =>
      e = .returned (.tuple #[.int .i64 (szR (szT x)).1, .int .i64 (szR (szT x)).2]) ∧ Below w.heap.size w w'

def Box (w : World) (gb : Nat) (t : Int) (s : ByteArray) (A : Option Addr) (n c : Nat) : Prop := w.heap[gb]? = some (.cells #[.int .i64 t, .string s, .slice A n c] 32 (0, 0))

set_option maxHeartbeats 4000000 in
set_option maxRecDepth 100000 in
theorem size_bad (t : Int) (s : ByteArray) (l : List S32) (hb : badB t s l = true) : SizeSaid ⟨t, s, l⟩ := by
  intro A c w hw hc hr
  dsimp only at hc hr ⊢
  have HR := Aside0.mk (show szT ⟨t, s, l⟩ = none by simp only [szT]; rw [if_pos hb])
  have hu32 := Try.underlying32
  have HBAD := Aside0.mk hb
  clear hw hc hr hb
  go_enter Try.func60, Try.ntmps60
  go_upto_region 1 with ((with_reducible refine gate_dst (N := 1) rfl ?_); refine box_event ?hg (N := 1) ?hd (cs := #[.int .i64 t, .string s, .slice A l.length c]) (t := 32) ?hr ?_; (case hd => rfl); (case hg => rfl); (case hr => first | (go_simp; done) | (go_simp; rfl)); intro gb hg w4 hbox hb; have HB := Aside0.mk hb; have BK := Aside0.mk hbox; clear hb hbox hg)
  have hcz0 : w4.cell? ⟨gb, 0, none⟩ = some (.int .i64 t) := (blk_cell BK.out 0).trans rfl
  have hcz1 : w4.cell? ⟨gb, 1, none⟩ = some (.string s) := (blk_cell BK.out 1).trans rfl
  have hcz2 : w4.cell? ⟨gb, 2, none⟩ = some (.slice A l.length c) := (blk_cell BK.out 2).trans rfl
  by_cases c1 : t < 0
  · go_wp2
    go_ret2
    exact ⟨by rw [HR.out]; rfl, HB.out⟩
  by_cases c2 : 255 < t
  · go_wp2
    go_ret2
    exact ⟨by rw [HR.out]; rfl, HB.out⟩
  cases c3 : Go.bits .and .i64 t 31 == 31
  case true =>
    go_wp2
    go_ret2
    exact ⟨by rw [HR.out]; rfl, HB.out⟩
  have HC3 := Aside0.mk c3
  cases c4 : Go.bits .and .i64 t 32 == 0
  case true =>
    have c5 : (0 : Int) < (l.length : Int) := by
      have := HBAD.out
      have h4 := beq_iff_eq.1 c4
      simp [badB, c1, c2, h4] at this
      rcases this with h | h
      · simp [h] at c3
      · omega
    have c5n : 0 < l.length := by omega
    go_wp2
    go_ret2
    exact ⟨by rw [HR.out]; rfl, HB.out⟩
  case false =>
    have c4' : (Go.bits .and .i64 t 32 != 0) = true := by rw [bne, c4]; rfl
    have c5 : s.toList.isEmpty = false := by
      have := HBAD.out
      have h4 := beq_eq_false_iff_ne.1 c4
      simp [badB, c1, c2, h4] at this
      rcases this with h | h
      · simp [h] at c3
      · cases h1 : s.toList with
        | nil => exact absurd h1 h
        | cons => rfl
    go_wp2
    go_ret2
    exact ⟨by rw [HR.out]; rfl, HB.out⟩

set_option maxHeartbeats 8000000 in
set_option maxRecDepth 100000 in
theorem size_good (t : Int) (s : ByteArray) (l : List S32) (hb : badB t s l = false) (hsub : ∀ y, y ∈ l → SizeSaid y) : SizeSaid ⟨t, s, l⟩ := by
  intro A c w hw hc hr
  dsimp only at hc hr ⊢
  simp only [wideT] at hw
  obtain ⟨hl100, hs700, hwl⟩ := hw
  have hu32 := Try.underlying32
  have HR := Aside0.mk hr
  have HC := Aside0.mk hc
  have HSUB := Aside0.mk hsub
  have HW := Aside0.mk hwl
  have HSZ := Aside0.mk (show szT ⟨t, s, l⟩ = match szL l s.size (deep0 t) with | none => none | some (n, d) => if 1048576 < n then none else some (n, d) by simp only [szT]; rw [hb]; rfl)
  have c1 : ¬ t < 0 := by intro h; simp [badB, h] at hb
  have c2 : ¬ 255 < t := by intro h; simp [badB, h] at hb
  have c3 : (Go.bits .and .i64 t 31 == 31) = false := by
    cases h : Go.bits .and .i64 t 31 == 31
    · rfl
    · simp [badB, h] at hb
  have HBAD := Aside0.mk hb
  clear hc hr hsub hwl hb
  go_enter Try.func60, Try.ntmps60
  go_upto_region 1 with ((with_reducible refine gate_dst (N := 1) rfl ?_); refine box_event ?hg (N := 1) ?hd (cs := #[.int .i64 t, .string s, .slice A l.length c]) (t := 32) ?hr ?_; (case hd => rfl); (case hg => rfl); (case hr => first | (go_simp; done) | (go_simp; rfl)); intro gb hg w4 hbox hb; have HB := Aside0.mk hb; have BK := Aside0.mk hbox; clear hb hbox hg)
  have hcz0 : w4.cell? ⟨gb, 0, none⟩ = some (.int .i64 t) := (blk_cell BK.out 0).trans rfl
  have hcz1 : w4.cell? ⟨gb, 1, none⟩ = some (.string s) := (blk_cell BK.out 1).trans rfl
  have hcz2 : w4.cell? ⟨gb, 2, none⟩ = some (.slice A l.length c) := (blk_cell BK.out 2).trans rfl
  have hc4 : (∃ h4 : (Go.bits .and .i64 t 32 == 0) = true, l.length = 0) ∨ ((Go.bits .and .i64 t 32 == 0) = false ∧ s.toList.isEmpty = true) := by
    have := HBAD.out
    cases h4 : Go.bits .and .i64 t 32 == 0
    · right
      have h5 := beq_eq_false_iff_ne.1 h4
      simp [badB, h5] at this
      exact ⟨rfl, by rw [this.2]; rfl⟩
    · left
      have h5 := beq_iff_eq.1 h4
      simp [badB, h5] at this
      exact ⟨rfl, by rw [this.2]; rfl⟩
  rcases hc4 with ⟨c4, c5⟩ | ⟨c4, c5⟩
  · have c4' : (Go.bits .and .i64 t 32 != 0) = false := by rw [bne, c4]; rfl
    have c5' : ¬ (0 : Int) < (l.length : Int) := by omega
    have c5n : ¬ 0 < l.length := by omega
    have HD := Aside0.mk (show deep0 t = 0 by unfold deep0; rw [if_pos (beq_iff_eq.1 c4)])
    clear c5
    go_wp2
    clear hcz0 hcz1 hcz2 c4 c4' c1 c2 c3 c5' c5n
    go_loopw [4, 5, 6] (fun v4 v5 v6 w' => ∃ j n d : Nat, j ≤ l.length ∧ v6 = .int .i64 j ∧ v4 = .int .i64 n ∧ v5 = .int .i64 d ∧ n ≤ 700 + 1048600 * j ∧ d ≤ 12 ∧ Aside0 (szL l s.size (deep0 t) = szL (l.drop j) n d) ∧ Aside0 (w'.heap[gb]? = some (.cells #[.int .i64 t, .string s, .slice A l.length c] 32 (0, 0))) ∧ Aside0 (Below w.heap.size w w')) (fun _ _ v6 _ => l.length - (intOf v6).toNat)
    case atStart => exact ⟨0, s.size, 0, Nat.zero_le _, rfl, rfl, rfl, by omega, by omega, ⟨by rw [HD.out]; rfl⟩, BK, HB⟩
    case round =>
      obtain ⟨j, n, d, hj, rfl, rfl, rfl, hn, hd, HSL, BK, HB⟩ := hrel
      have hcz2 : wr.cell? ⟨gb, 2, none⟩ = some (.slice A l.length c) := (blk_cell BK.out 2).trans rfl
      by_cases hlt : j < l.length
      · obtain ⟨ad, A2, c2, e2, hx0, hx1, hx2, hl2, hi2⟩ := at_T32 HR.out (j : Int) (by omega) (by omega)
        cases e2
        rw [show rd_T32 l (j : Int) = l[j] from by simp [rd_T32, List.getD_eq_getElem?_getD, List.getElem?_eq_getElem hlt]] at hx0 hx1 hx2 hl2 hi2
        have HY := Aside0.mk (List.getElem_mem hlt)
        have HDR := Aside0.mk (List.drop_eq_getElem_cons hlt)
        generalize l[j] = y at hx0 hx1 hx2 hl2 hi2 HY HDR
        simp only [Int.toNat_natCast] at hx0 hx1 hx2
        replace hx0 := (HB.out.cell (World.block_lt_of_cell? w _ hx0)).trans hx0
        replace hx1 := (HB.out.cell (World.block_lt_of_cell? w _ hx1)).trans hx1
        replace hx2 := (HB.out.cell (World.block_lt_of_cell? w _ hx2)).trans hx2
        have HI2 := Aside0.mk hi2
        have HL2 := Aside0.mk hl2
        clear hi2 hl2
        go_wp2_with fail
        refine Calls.mono (HSUB.out y HY.out A2 c2 _ (wideL_mem _ HW.out y HY.out) HL2.out (Kd.C_below HI2.out HB.out)) ?_
        rintro e w7 ⟨rfl, hb7⟩
        have HB7 := Aside0.mk (below_step HB.out hb7)
        have BK7 := Aside0.mk (blk_below BK.out hb7)
        clear hb7 hx0 hx1 hx2 hcz2 HB BK
        have hcz2 : w7.cell? ⟨gb, 2, none⟩ = some (.slice (some ad) l.length c) := (blk_cell BK7.out 2).trans rfl
        have HSL2 := Aside0.mk (show szL l s.size (deep0 t) = match szT y with | none => none | some (k, e) => if 12 ≤ e then none else szL (l.drop (j + 1)) (n + 1 + (lenB k).length + k) (max d (e + 1)) by rw [HSL.out, HDR.out]; rfl)
        have HTL := Aside0.mk (szT_le y)
        have HTD := Aside0.mk (szT_deep y)
        cases hsz : szT y with
        | none =>
          rw [hsz] at HSL2
          have HF := Aside0.mk (show szT ⟨t, s, l⟩ = none by rw [HSZ.out, HSL2.out])
          go_wp2
          go_ret2
          exact ⟨by rw [HF.out]; rfl, HB7.out⟩
        | some kd =>
          obtain ⟨k, e⟩ := kd
          rw [hsz] at HSL2
          have hk := HTL.out k e hsz
          have he := HTD.out k e hsz
          clear hsz HTL HTD
          have HSL3 := Aside0.mk (show szL l s.size (deep0 t) = if 12 ≤ e then none else szL (l.drop (j + 1)) (n + 1 + (lenB k).length + k) (max d (e + 1)) from HSL2.out)
          clear HSL2
          simp only [szR]
          by_cases h12 : 12 ≤ e
          · have HF := Aside0.mk (show szT ⟨t, s, l⟩ = none by rw [HSZ.out, HSL3.out, if_pos h12])
            have g12 : (12 : Int) ≤ (e : Int) := by omega
            go_wp2
            go_ret2
            exact ⟨by rw [HF.out]; rfl, HB7.out⟩
          · have g12 : ¬ (12 : Int) ≤ (e : Int) := by omega
            obtain ⟨kf, hkf⟩ := reflen_f k hk
            have HKF := Aside0.mk hkf
            have HSL4 := Aside0.mk (show szL l s.size (deep0 t) = szL (l.drop (j + 1)) (n + 1 + (lenB k).length + k) (max d (e + 1)) by rw [HSL3.out, if_neg h12])
            obtain ⟨lb1, lb2⟩ := lenB_len k hk
            clear HSL3 hkf
            go_wp2_with fail
            refine Calls.mono (brookref1_length.calls kf (k : Int) _ _ HKF.out) ?_
            rintro e8 w8 ⟨rfl, hb8⟩
            have HB8 := Aside0.mk (below_step HB7.out hb8)
            have BK8 := Aside0.mk (blk_below BK7.out hb8)
            clear hb8 HB7 BK7 hcz2
            have hss := strOfNums_size (lenB k)
            have HS := Aside0.mk hss
            clear hss
            generalize hlk : (lenB k).length = q at HS HSL4 lb1 lb2
            generalize strOfNums (lenB k) = sk at HS
            have hq : sk.size ≤ 8 := by rw [HS.out]; omega
            go_wp2
            go_roundw
            case measure => simp [intOf]; omega
            case rel => exact ⟨j + 1, n + 1 + q + k, max d (e + 1), by omega, by go_num, by rw [← HS.out]; go_num, by go_num, by omega, by omega, HSL4, BK8, HB8⟩
      · obtain rfl : j = l.length := by omega
        have HF := Aside0.mk (show szT ⟨t, s, l⟩ = if 1048576 < n then none else some (n, d) by rw [HSZ.out, HSL.out, List.drop_length]; rfl)
        by_cases hbig : 1048576 < n
        · have g1 : (1048576 : Int) < (n : Int) := by omega
          go_wp2
          go_ret2
          exact ⟨by rw [HF.out, if_pos hbig]; rfl, HB.out⟩
        · have g1 : ¬ (1048576 : Int) < (n : Int) := by omega
          go_wp2
          go_ret2
          exact ⟨by rw [HF.out, if_neg hbig]; rfl, HB.out⟩
  · have c4' : (Go.bits .and .i64 t 32 != 0) = true := by rw [bne, c4]; rfl
    have HD := Aside0.mk (show deep0 t = 1 by unfold deep0; rw [if_neg (beq_eq_false_iff_ne.1 c4)])
    go_wp2
    clear hcz0 hcz1 hcz2 c4 c4' c1 c2 c3 c5
    go_loopw [4, 5, 6] (fun v4 v5 v6 w' => ∃ j n d : Nat, j ≤ l.length ∧ v6 = .int .i64 j ∧ v4 = .int .i64 n ∧ v5 = .int .i64 d ∧ n ≤ 700 + 1048600 * j ∧ d ≤ 12 ∧ Aside0 (szL l s.size (deep0 t) = szL (l.drop j) n d) ∧ Aside0 (w'.heap[gb]? = some (.cells #[.int .i64 t, .string s, .slice A l.length c] 32 (0, 0))) ∧ Aside0 (Below w.heap.size w w')) (fun _ _ v6 _ => l.length - (intOf v6).toNat)
    case atStart => exact ⟨0, s.size, 1, Nat.zero_le _, rfl, rfl, rfl, by omega, by omega, ⟨by rw [HD.out]; rfl⟩, BK, HB⟩
    case round =>
      obtain ⟨j, n, d, hj, rfl, rfl, rfl, hn, hd, HSL, BK, HB⟩ := hrel
      have hcz2 : wr.cell? ⟨gb, 2, none⟩ = some (.slice A l.length c) := (blk_cell BK.out 2).trans rfl
      by_cases hlt : j < l.length
      · obtain ⟨ad, A2, c2, e2, hx0, hx1, hx2, hl2, hi2⟩ := at_T32 HR.out (j : Int) (by omega) (by omega)
        cases e2
        rw [show rd_T32 l (j : Int) = l[j] from by simp [rd_T32, List.getD_eq_getElem?_getD, List.getElem?_eq_getElem hlt]] at hx0 hx1 hx2 hl2 hi2
        have HY := Aside0.mk (List.getElem_mem hlt)
        have HDR := Aside0.mk (List.drop_eq_getElem_cons hlt)
        generalize l[j] = y at hx0 hx1 hx2 hl2 hi2 HY HDR
        simp only [Int.toNat_natCast] at hx0 hx1 hx2
        replace hx0 := (HB.out.cell (World.block_lt_of_cell? w _ hx0)).trans hx0
        replace hx1 := (HB.out.cell (World.block_lt_of_cell? w _ hx1)).trans hx1
        replace hx2 := (HB.out.cell (World.block_lt_of_cell? w _ hx2)).trans hx2
        have HI2 := Aside0.mk hi2
        have HL2 := Aside0.mk hl2
        clear hi2 hl2
        go_wp2_with fail
        refine Calls.mono (HSUB.out y HY.out A2 c2 _ (wideL_mem _ HW.out y HY.out) HL2.out (Kd.C_below HI2.out HB.out)) ?_
        rintro e w7 ⟨rfl, hb7⟩
        have HB7 := Aside0.mk (below_step HB.out hb7)
        have BK7 := Aside0.mk (blk_below BK.out hb7)
        clear hb7 hx0 hx1 hx2 hcz2 HB BK
        have hcz2 : w7.cell? ⟨gb, 2, none⟩ = some (.slice (some ad) l.length c) := (blk_cell BK7.out 2).trans rfl
        have HSL2 := Aside0.mk (show szL l s.size (deep0 t) = match szT y with | none => none | some (k, e) => if 12 ≤ e then none else szL (l.drop (j + 1)) (n + 1 + (lenB k).length + k) (max d (e + 1)) by rw [HSL.out, HDR.out]; rfl)
        have HTL := Aside0.mk (szT_le y)
        have HTD := Aside0.mk (szT_deep y)
        cases hsz : szT y with
        | none =>
          rw [hsz] at HSL2
          have HF := Aside0.mk (show szT ⟨t, s, l⟩ = none by rw [HSZ.out, HSL2.out])
          go_wp2
          go_ret2
          exact ⟨by rw [HF.out]; rfl, HB7.out⟩
        | some kd =>
          obtain ⟨k, e⟩ := kd
          rw [hsz] at HSL2
          have hk := HTL.out k e hsz
          have he := HTD.out k e hsz
          clear hsz HTL HTD
          have HSL3 := Aside0.mk (show szL l s.size (deep0 t) = if 12 ≤ e then none else szL (l.drop (j + 1)) (n + 1 + (lenB k).length + k) (max d (e + 1)) from HSL2.out)
          clear HSL2
          simp only [szR]
          by_cases h12 : 12 ≤ e
          · have HF := Aside0.mk (show szT ⟨t, s, l⟩ = none by rw [HSZ.out, HSL3.out, if_pos h12])
            have g12 : (12 : Int) ≤ (e : Int) := by omega
            go_wp2
            go_ret2
            exact ⟨by rw [HF.out]; rfl, HB7.out⟩
          · have g12 : ¬ (12 : Int) ≤ (e : Int) := by omega
            obtain ⟨kf, hkf⟩ := reflen_f k hk
            have HKF := Aside0.mk hkf
            have HSL4 := Aside0.mk (show szL l s.size (deep0 t) = szL (l.drop (j + 1)) (n + 1 + (lenB k).length + k) (max d (e + 1)) by rw [HSL3.out, if_neg h12])
            obtain ⟨lb1, lb2⟩ := lenB_len k hk
            clear HSL3 hkf
            go_wp2_with fail
            refine Calls.mono (brookref1_length.calls kf (k : Int) _ _ HKF.out) ?_
            rintro e8 w8 ⟨rfl, hb8⟩
            have HB8 := Aside0.mk (below_step HB7.out hb8)
            have BK8 := Aside0.mk (blk_below BK7.out hb8)
            clear hb8 HB7 BK7 hcz2
            have hss := strOfNums_size (lenB k)
            have HS := Aside0.mk hss
            clear hss
            generalize hlk : (lenB k).length = q at HS HSL4 lb1 lb2
            generalize strOfNums (lenB k) = sk at HS
            have hq : sk.size ≤ 8 := by rw [HS.out]; omega
            go_wp2
            go_roundw
            case measure => simp [intOf]; omega
            case rel => exact ⟨j + 1, n + 1 + q + k, max d (e + 1), by omega, by go_num, by rw [← HS.out]; go_num, by go_num, by omega, by omega, HSL4, BK8, HB8⟩
      · obtain rfl : j = l.length := by omega
        have HF := Aside0.mk (show szT ⟨t, s, l⟩ = if 1048576 < n then none else some (n, d) by rw [HSZ.out, HSL.out, List.drop_length]; rfl)
        by_cases hbig : 1048576 < n
        · have g1 : (1048576 : Int) < (n : Int) := by omega
          go_wp2
          go_ret2
          exact ⟨by rw [HF.out, if_pos hbig]; rfl, HB.out⟩
        · have g1 : ¬ (1048576 : Int) < (n : Int) := by omega
          go_wp2
          go_ret2
          exact ⟨by rw [HF.out, if_neg hbig]; rfl, HB.out⟩

theorem size_all : ∀ n (x : S32), SizeOf.sizeOf x < n → SizeSaid x
  | 0, x, h => by omega
  | n + 1, ⟨t, s, l⟩, h => by
    cases hb : badB t s l
    · refine size_good t s l hb (fun y hy => size_all n y ?_)
      have := List.sizeOf_lt_of_mem hy
      simp at h
      omega
    · exact size_bad t s l hb
theorem size_said (x : S32) : SizeSaid x := size_all _ x (Nat.lt_succ_self _)

end Go.Proofs.Ytmgkflkpompchaa.RefSize
