/- The log's small functions, and a log in memory. -/
import Derived.Test.YtmgkflkpompchaaStripAwake
import Derived.Test.YtmgkflkpompchaaWalShelf
import Derived.Test.YtmgkflkpompchaaWalPrinted
import Derived.Test.YtmgkflkpompchaaMem
import Derived.Deep.RegionHeld3
import Derived.Deep.DeepCutAuto
import Derived.Shelf.Spec.SlicesGrow
namespace Go.Proofs.Ytmgkflkpompchaa.Wal
/-! ## The log's numbers in bytes: number, value. No condition. -/
section
open Go.RowKit Go.Proofs.YtmgkflkpompchaaW.PrintWords Go.Proofs.YtmgkflkpompchaaW.PrintLast Go.Proofs.YtmgkflkpompchaaW.PrintMore Go.Proofs.Ytmgkflkpompchaa.Strip
set_option linter.unusedVariables false
set_option linter.unusedSimpArgs false

/-! ### number -/
/-- A number's bytes, the highest first. -/
def numL (n : Int) (s : Nat) : List Int := (List.range s).map fun i => n / 2 ^ (8 * (s - 1 - i)) % 256
def numB (n : Int) (s : Nat) : ByteArray := strOfNums (numL n s)
theorem numL_len (n : Int) (s : Nat) : (numL n s).length = s := by simp [numL]
theorem strOfNums_size (l : List Int) : (strOfNums l).size = l.length := by simp [strOfNums, ByteArray.size]
theorem numB_size (n : Int) (s : Nat) : (numB n s).size = s := by rw [numB, strOfNums_size, numL_len]
/-- The bytes behind j rounds. -/
def numJ (n : Int) (s j : Nat) : List Int := List.replicate (s - j) 0 ++ (numL n s).drop (s - j)
theorem numJ_len (n : Int) (s j : Nat) (h : j ≤ s) : (numJ n s j).length = s := by simp [numJ, numL_len]
theorem numJ_step (n : Int) (s j : Nat) (h : j < s) : (numJ n s j).set (s - 1 - j) (n / 2 ^ (8 * j) % 256) = numJ n s (j + 1) := by
  unfold numJ
  rw [show s - (j + 1) = s - 1 - j by omega, show s - j = s - 1 - j + 1 by omega, List.replicate_succ', List.append_assoc, List.set_append_right _ _ (by simp), List.length_replicate, Nat.sub_self]
  congr 1
  have hlt2 : s - 1 - j < (numL n s).length := by rw [numL_len]; omega
  rw [List.drop_eq_getElem_cons hlt2]
  show (n / 2 ^ (8 * j) % 256) :: _ = _
  congr 1
  simp only [numL, List.getElem_map, List.getElem_range]
  rw [show s - 1 - (s - 1 - j) = j by omega]
theorem numJ_all (n : Int) (s : Nat) : numJ n s s = numL n s := by simp [numJ]
theorem numJ_none (n : Int) (s : Nat) : numJ n s 0 = List.replicate s 0 := by
  unfold numJ; rw [Nat.sub_zero, List.drop_of_length_le (by rw [numL_len]; omega), List.append_nil]
theorem madeB (n : Nat) (h : n ≤ 65536) (w : World) : (Instr.makeSlice 50 (.int .i64 (n : Int)) (.int .i64 (n : Int))).run Try.prog w = .ok (.slice (some ⟨w.heap.size, 0, none⟩) n n) (w.alloc (.cells (madeCells #[.int .u8 0] n) 5)) :=
  run_make_row' 50 5 (.int .u8 0) 1 Try.underlying50 infoB rfl .i64 .i64 n (by omega) (by omega) w
theorem cellsB (n : Nat) : madeCells #[.int .u8 0] n = ((List.replicate n (0 : Int)).map fun x => Value.int .u8 x).toArray := by
  apply Array.ext
  · simp [madeCells]
  · intro i h1 h2
    simp [madeCells, Nat.mod_one]
theorem convB {w : World} {g : Nat} {xs : List Int} (h : w.heap[g]? = some (.cells (xs.map fun x => Value.int .u8 x).toArray 5 (0, 0))) (hl : xs.length ≤ 65536) : (convert 50 9 (.slice (some ⟨g, 0, none⟩) xs.length xs.length)).run Try.prog w = .ok (.string (strOfNums xs)) w := by
  refine own_string Try.underlying50 Try.underlying5 Try.underlying9 (base := 0) (n := xs.length) ⟨by simp [nums], .inr ⟨g, xs.length, _, rfl, Nat.zero_le _, h, Nat.le_refl _, by unfold maxLen; omega, by simp, ?_⟩⟩
  rw [List.take_of_length_le (by simp)]; rfl

set_option maxHeartbeats 800000 in
set_option maxRecDepth 100000 in
theorem number_nat (n : Int) (s : Nat) (hs : s ≤ 8) (w : World) : Calls Try.prog 101 #[.int .i64 n, .int .i64 (s : Int)] w fun e w' => e = .returned (.string (numB n s)) ∧ Below w.heap.size w w' := by
  have hmk := madeB s (by omega) w
  go_enter Try.func101, Try.ntmps101
  go_upto_region 3 with fail
  clear hmk
  have N0 := Aside0.mk (show (w.alloc (.cells (madeCells #[.int .u8 0] s) 5)).heap[w.heap.size]? = some (.cells ((numJ n s 0).map fun x => Value.int .u8 x).toArray 5 (0, 0)) from by rw [numJ_none, ← cellsB]; exact blk_new w _)
  have N1 := Aside0.mk (below_alloc (Below.refl _ _) (.cells (madeCells #[.int .u8 0] s) 5) : Below w.heap.size w _)
  generalize w.alloc (.cells (madeCells #[.int .u8 0] s) 5) = w1 at N0 N1 ⊢
  go_loopw [11] (fun v11 w' => ∃ j : Nat, j ≤ s ∧ v11 = .int .i64 j ∧ Aside0 (w'.heap[w.heap.size]? = some (.cells ((numJ n s j).map fun x => Value.int .u8 x).toArray 5 (0, 0))) ∧ Aside0 (Below w.heap.size w w')) (fun v11 _ => s - (intOf v11).toNat)
  case atStart => exact ⟨0, Nat.zero_le _, rfl, N0, N1⟩
  case round =>
    clear N0 N1
    obtain ⟨j, hj, rfl, N0, N1⟩ := hrel
    by_cases hlt : j < s
    · have hc : wr.cell? ⟨w.heap.size, s - 1 - j, none⟩ = some (.int .u8 ((numJ n s j).getD (s - 1 - j) 0)) := by
        rw [blk_cell N0.out]
        have : s - 1 - j < (numJ n s j).length := by rw [numJ_len n s j hj]; omega
        simp [List.getD_eq_getElem?_getD, List.getElem?_eq_getElem this]
      have hf : wr.frozen? ⟨w.heap.size, s - 1 - j, none⟩ = false := blk_frozen N0.out _
      have e8 : (8 * (j : Int)).toNat = 8 * j := by omega
      have esub : (s : Int) - 1 - (j : Int) = ((s - 1 - j : Nat) : Int) := by omega
      have b0 : (0 : Int) ≤ ((s - 1 - j : Nat) : Int) := by omega
      have b1 : ((s - 1 - j : Nat) : Int) < (s : Int) := by omega
      go_wp2
      have M0 := Aside0.mk (show (wr.setCell ⟨w.heap.size, s - 1 - j, none⟩ (.int .u8 (n / 2 ^ (8 * j) % 256))).heap[w.heap.size]? = some (.cells ((numJ n s (j + 1)).map fun x => Value.int .u8 x).toArray 5 (0, 0)) from by
        rw [← numJ_step n s j hlt, List.map_set]
        have := blk_set N0.out (s - 1 - j) (.int .u8 (n / 2 ^ (8 * j) % 256))
        rw [this]; simp)
      have M1 := Aside0.mk (show Below w.heap.size w (wr.setCell ⟨w.heap.size, s - 1 - j, none⟩ (.int .u8 (n / 2 ^ (8 * j) % 256))) from below_set N1.out (Nat.le_refl _))
      clear hc hf
      go_roundw
      case measure => simp [intOf]; omega
      case rel => exact ⟨j + 1, by omega, by go_num, M0, M1⟩
    · obtain rfl : j = s := by omega
      rw [numJ_all] at N0
      have hcv := convB N0.out (by rw [numL_len]; omega)
      rw [numL_len] at hcv
      go_wp2
      go_ret
      exact ⟨rfl, N1.out⟩
theorem number_calls (n s : Int) (h0 : 0 ≤ s) (h1 : s ≤ 8) (w : World) : Calls Try.prog 101 #[.int .i64 n, .int .i64 s] w fun e w' => e = .returned (.string (numB n s.toNat)) ∧ Below w.heap.size w w' := by
  have := number_nat n s.toNat (by omega) w
  rwa [Int.toNat_of_nonneg h0] at this

/-! ### value -/
theorem wrap64_range (x : Int) : -9223372036854775808 ≤ wrap64 x ∧ wrap64 x < 9223372036854775808 := by unfold wrap64; omega
theorem or_byte (x c : Int) (h0 : 0 ≤ c) (h1 : c < 256) : Go.bits .or .i64 (wrap64 (x * 256)) (wrap64 c) = wrap64 (x * 256 + c) := by
  have hc : wrap64 c = c := by unfold wrap64; omega
  rw [hc]
  show IntKind.i64.wrap ((BitVec.ofInt 64 (wrap64 (x * 256)) ||| BitVec.ofInt 64 c).toNat : Int) = _
  obtain ⟨cn, rfl⟩ := Int.eq_ofNat_of_zero_le h0
  have e1 : (BitVec.ofInt 64 (cn : Int)).toNat = cn := by simp [BitVec.toNat_ofInt]; omega
  obtain ⟨q, hq⟩ : ∃ q : Nat, (BitVec.ofInt 64 (wrap64 (x * 256))).toNat = 2 ^ 8 * q := by
    refine ⟨((x * 256) % 18446744073709551616 / 256).toNat, ?_⟩
    rw [BitVec.toNat_ofInt]
    unfold wrap64
    omega
  have hv : ((2 ^ 8 * q : Nat) : Int) = wrap64 (x * 256) % 18446744073709551616 := by
    rw [← hq, BitVec.toNat_ofInt]
    omega
  rw [BitVec.toNat_or, e1, hq, ← Nat.two_pow_add_eq_or_of_lt (by omega), IntKind.wrap_i64]
  have : ((2 ^ 8 * q + cn : Nat) : Int) = ((2 ^ 8 * q : Nat) : Int) + cn := by omega
  rw [this, hv]
  unfold wrap64
  omega
/-- What the bytes are as a number. -/
def valF (a : Int) (l : List Int) : Int := l.foldl (fun a c => wrap64 (a * 256 + c)) a
def valB (s : ByteArray) : Int := valF 0 (bytesOf s)
theorem valF_take (l : List Int) (j : Nat) (h : j < l.length) : valF 0 (l.take (j + 1)) = wrap64 (valF 0 (l.take j) * 256 + l[j]) := by
  rw [List.take_add_one, List.getElem?_eq_getElem h]
  unfold valF
  rw [List.foldl_append]; rfl
def Bytes (l : List Int) : Prop := ∀ c, c ∈ l → 0 ≤ c ∧ c < 256
theorem bytesOf_bytes (s : ByteArray) : Bytes (bytesOf s) := by
  intro c hc
  simp only [bytesOf, List.mem_map] at hc
  obtain ⟨b, _, rfl⟩ := hc
  have := b.toNat_lt
  omega
theorem bytesOf_strOfNums (l : List Int) (h : Bytes l) : bytesOf (strOfNums l) = l := by
  unfold bytesOf strOfNums
  simp only [List.map_map]
  conv => rhs; rw [← List.map_id l]
  apply List.map_congr_left
  intro c hc
  have := h c hc
  simp
  omega
theorem numL_bytes (n : Int) (s : Nat) : Bytes (numL n s) := by
  intro c hc
  simp only [numL, List.mem_map] at hc
  obtain ⟨i, _, rfl⟩ := hc
  omega
theorem bytesOf_numB (n : Int) (s : Nat) : bytesOf (numB n s) = numL n s := bytesOf_strOfNums _ (numL_bytes n s)
theorem val_step (q m : Int) (a : Int) (h : q = m / 256) (h0 : 0 ≤ m) (h1 : m < 9223372036854775808) (ha : a = m % 256) : wrap64 (q * 256 + a) = m := by subst h ha; unfold wrap64; omega
theorem val_num8 (n : Int) (h0 : 0 ≤ n) (h1 : n < 9223372036854775808) : valB (numB n 8) = n := by
  unfold valB
  rw [bytesOf_numB]
  show wrap64 (wrap64 (wrap64 (wrap64 (wrap64 (wrap64 (wrap64 (wrap64 (0 * 256 + n / 72057594037927936 % 256) * 256 + n / 281474976710656 % 256) * 256 + n / 1099511627776 % 256) * 256 + n / 4294967296 % 256) * 256 + n / 16777216 % 256) * 256 + n / 65536 % 256) * 256 + n / 256 % 256) * 256 + n / 1 % 256) = n
  rw [val_step 0 (n / 72057594037927936) _ (by omega) (by omega) (by omega) rfl, val_step (n / 72057594037927936) (n / 281474976710656) _ (by omega) (by omega) (by omega) rfl, val_step (n / 281474976710656) (n / 1099511627776) _ (by omega) (by omega) (by omega) rfl,
    val_step (n / 1099511627776) (n / 4294967296) _ (by omega) (by omega) (by omega) rfl, val_step (n / 4294967296) (n / 16777216) _ (by omega) (by omega) (by omega) rfl, val_step (n / 16777216) (n / 65536) _ (by omega) (by omega) (by omega) rfl,
    val_step (n / 65536) (n / 256) _ (by omega) (by omega) (by omega) rfl, val_step (n / 256) n _ rfl h0 h1 (by omega)]
theorem val_num4 (n : Int) (h0 : 0 ≤ n) (h1 : n < 4294967296) : valB (numB n 4) = n := by
  unfold valB
  rw [bytesOf_numB]
  show wrap64 (wrap64 (wrap64 (wrap64 (0 * 256 + n / 16777216 % 256) * 256 + n / 65536 % 256) * 256 + n / 256 % 256) * 256 + n / 1 % 256) = n
  rw [val_step 0 (n / 16777216) _ (by omega) (by omega) (by omega) (by omega), val_step (n / 16777216) (n / 65536) _ (by omega) (by omega) (by omega) rfl,
    val_step (n / 65536) (n / 256) _ (by omega) (by omega) (by omega) rfl, val_step (n / 256) n _ rfl h0 (by omega) (by omega)]
theorem rd_bytes (s : ByteArray) (j : Nat) (h : j < (bytesOf s).length) : rd (bytesOf s) (j : Int) = (bytesOf s)[j] := by
  unfold rd; rw [List.getD_eq_getElem?_getD, Int.toNat_natCast, List.getElem?_eq_getElem h]; rfl
set_option maxHeartbeats 800000 in
set_option maxRecDepth 100000 in
theorem value_calls (s : ByteArray) (hs : s.size ≤ 1000000) (w : World) : Calls Try.prog 86 #[.string s] w fun e w' => e = .returned (.int .i64 (valB s)) ∧ Below w.heap.size w w' := by
  have HV := Aside0.mk (show valB s = valF 0 (bytesOf s) from rfl)
  go_enter Try.func86, Try.ntmps86
  go_upto_region 3 with ((with_reducible refine gate_dst (N := 7) rfl ?_); refine Mem.conv_event rfl (N := 7) rfl 9 50 (.tmp 6) rfl s rfl Try.underlying9 Try.underlying50 Try.underlying5 (by omega) ?_; intro v w1 hv hb hk; obtain ⟨A, c, rfl, hlc⟩ := hv.slice; have HRD := Aside0.mk hv.reads; have HBB := Aside0.mk hb; clear hv hb hk)
  have HBY := Aside0.mk (bytesOf_bytes s)
  have hll : (bytesOf s).length ≤ 1000000 := by rw [bytesOf_length]; exact hs
  generalize bytesOf s = l at HRD HBY HV hlc hll ⊢
  go_loop [3, 9] (fun v3 v9 => ∃ j : Nat, j ≤ l.length ∧ v9 = .int .i64 j ∧ v3 = .int .i64 (valF 0 (l.take j))) (fun _ v9 => l.length - (intOf v9).toNat)
  case atStart => exact ⟨0, Nat.zero_le _, rfl, rfl⟩
  case round =>
    obtain ⟨j, hj, rfl, rfl⟩ := hrel
    by_cases hlt : j < l.length
    · obtain ⟨ad, rfl, hc⟩ := HRD.out.2.at_ (j : Int) (by omega) (by omega)
      rw [Int.toNat_natCast] at hc
      have HT := Aside0.mk (valF_take l j hlt)
      have hb := HBY.out _ (List.getElem_mem hlt)
      have hrd : rd l (j : Int) = l[j] := by unfold rd; rw [List.getD_eq_getElem?_getD, Int.toNat_natCast, List.getElem?_eq_getElem hlt]; rfl
      rw [hrd] at hc
      clear hrd
      generalize l[j] = b at hc HT hb
      obtain ⟨b0, b1⟩ := hb
      generalize valF 0 (l.take j) = x at HT ⊢
      have HO := Aside0.mk (or_byte x b b0 b1)
      have y0 : (0 : Int) ≤ (j : Int) := by omega
      have y1 : (j : Int) < (l.length : Int) := by omega
      go_wp2
      go_round
      case measure => simp [intOf]; omega
      case rel =>
        refine ⟨j + 1, by omega, by go_num, ?_⟩
        rw [HT.out, ← HO.out]
        rw [show wrap64 b = b by unfold wrap64; omega]
    · obtain rfl : j = l.length := by omega
      rw [List.take_length]
      go_wp2
      go_ret
      exact ⟨by rw [HV.out]; rfl, HBB.out⟩
end

/-! ## The log's heads: a head's block, and a block's head. No condition. -/
section
open Go.RowKit Go.Proofs.YtmgkflkpompchaaW.PrintWords Go.Proofs.YtmgkflkpompchaaW.PrintLast Go.Proofs.YtmgkflkpompchaaW.PrintMore Go.Proofs.Ytmgkflkpompchaa.Strip
set_option linter.unusedVariables false
set_option linter.unusedSimpArgs false

/-- So many bytes of zero, as strings.Repeat gives them. -/
def zeroB (n : Nat) : ByteArray := ⟨(Lib.repeatL (⟨#[0]⟩ : ByteArray).data.toList n).toArray⟩
/-- A head as a block. -/
def blockB (t s z : Int) : ByteArray := numB t 8 ++ numB s 4 ++ numB z 4 ++ zeroB 8 ++ numB t 8
set_option maxHeartbeats 1600000 in
set_option maxRecDepth 100000 in
theorem block_calls (t s z : Int) (w : World) : Calls Try.prog 87 #[.agg #[.int .i64 t, .int .i64 s, .int .i64 z]] w fun e w' => e = .returned (.string (blockB t s z)) ∧ Below w.heap.size w w' := by
  have s8 := numB_size t 8
  have s4 := numB_size s 4
  have z4 := numB_size z 4
  go_enter Try.func87, Try.ntmps87
  go_upto_region 0 with fail
  go_upto_region 1 with ((with_reducible refine gate_dst (N := 1) rfl ?_); refine box_event ?hg (N := 1) ?hd (cs := #[.int .i64 t, .int .i64 s, .int .i64 z]) (t := 104) ?hr ?_; (case hd => rfl); (case hg => rfl); (case hr => first | (go_simp; done) | (go_simp; rfl)); intro gb hg w4 hbox hb; have HB := Aside0.mk hb; have BK := Aside0.mk hbox; have GE := Aside0.mk (show w.heap.size ≤ gb by omega); clear hb hbox hg)
  have hc0 : w4.cell? ⟨gb, 0, none⟩ = some (.int .i64 t) := (blk_cell BK.out 0).trans rfl
  have hc1 : w4.cell? ⟨gb, 1, none⟩ = some (.int .i64 s) := (blk_cell BK.out 1).trans rfl
  have hc2 : w4.cell? ⟨gb, 2, none⟩ = some (.int .i64 z) := (blk_cell BK.out 2).trans rfl
  have h4 : Below w4.heap.size w4 w4.drew := below_drew (Below.refl _ _)
  go_region_held3 (fun w' => w'.cell? ⟨gb, 0, none⟩ = some (.int .i64 t) ∧ w'.cell? ⟨gb, 1, none⟩ = some (.int .i64 s) ∧ w'.cell? ⟨gb, 2, none⟩ = some (.int .i64 z)) (first | exact ⟨pw_cell_below h4 hc0, pw_cell_below h4 hc1, pw_cell_below h4 hc2⟩) (first | (go_at_call 101; refine Calls.mono (number_calls _ _ (by omega) (by omega) _) ?_; rintro e w9 ⟨rfl, hb⟩; have h5 := below_step h4 hb; clear h4 hb; have h4 := h5; clear h5))
  have hsz : (((numB t 8 ++ numB s 4 ++ numB z 4).size : Nat) : Int) = 16 := by rw [ByteArray.size_append, ByteArray.size_append, s8, s4, z4]; rfl
  have HBL := Aside0.mk (show blockB t s z = numB t 8 ++ numB s 4 ++ numB z 4 ++ zeroB 8 ++ numB t 8 from rfl)
  have HS := Aside0.mk hsz
  generalize numB t 8 ++ numB s 4 ++ numB z 4 = nm at hsz HBL HS ⊢
  generalize numB s 4 = ns at s4 ⊢
  generalize numB z 4 = nz at z4 ⊢
  have hnm : ¬ (9223372036854775807 < nm.size + 8) := by omega
  have hnm2 : ¬ (9223372036854775807 < nm.size + 8 + 8) := by omega
  have hzz : (zeroB 8).size = 8 := rfl
  go_upto_region 2 with fail
  go_region_held3 (fun w' => w'.cell? ⟨gb, 0, none⟩ = some (.int .i64 t)) (first | exact pw_cell_below h4 hc0 | exact pw_cell_below (below_drew h4) hc0) (first | (go_at_call 101; refine Calls.mono (number_calls _ _ (by omega) (by omega) _) ?_; rintro e w8 ⟨rfl, hb⟩; have h5 := below_step h4 hb; clear h4 hb; have h4 := h5; clear h5) | (go_at_call 64; refine Calls.mono (Try.strings_Repeat ⟨#[0]⟩ 8 _ (by decide) (by decide)) ?_; rw [show (⟨(Lib.repeatL (⟨#[0]⟩ : ByteArray).data.toList 8).toArray⟩ : ByteArray) = zeroB 8 from rfl]; generalize hz8 : zeroB 8 = z8 at hzz HBL ⊢; rintro e w7 ⟨rfl, hb⟩; have h5 := below_step (below_drew h4) hb; clear h4 hb; have h4 := h5; clear h5 hz8))
  go_wp2
  go_ret
  exact ⟨by rw [HBL.out]; rfl, below_step HB.out h4⟩
/-- A block's head, whatever it bears. -/
def rhT (b : ByteArray) : Int := valB (b.extract 0 8)
def rhS (b : ByteArray) : Int := valB (b.extract 8 12)
def rhZ (b : ByteArray) : Int := valB (b.extract 12 16)
def rhB (b : ByteArray) : Bool := (blockB (rhT b) (rhS b) (rhZ b)).toList == b.toList
set_option maxHeartbeats 4000000 in
set_option maxRecDepth 100000 in
theorem readHead_calls (b : ByteArray) (hb : b.size = 32) (w : World) : Calls Try.prog 65 #[.string b] w fun e w' => e = .returned (.tuple #[.agg #[.int .i64 (rhT b), .int .i64 (rhS b), .int .i64 (rhZ b)], .bool (rhB b)]) ∧ Below w.heap.size w w' := by
  have q0 : (8 : Int) ≤ (b.size : Int) := by omega
  have q1 : (12 : Int) ≤ (b.size : Int) := by omega
  have q2 : (16 : Int) ≤ (b.size : Int) := by omega
  have HX := Aside0.mk (show (b.extract 0 8).size ≤ 1000000 ∧ (b.extract 8 12).size ≤ 1000000 ∧ (b.extract 12 16).size ≤ 1000000 by simp [ByteArray.size_extract]; omega)
  have HE := Aside0.mk (show rhT b = valB (b.extract 0 8) ∧ rhS b = valB (b.extract 8 12) ∧ rhZ b = valB (b.extract 12 16) from ⟨rfl, rfl, rfl⟩)
  have HF := Aside0.mk (show rhB b = ((blockB (rhT b) (rhS b) (rhZ b)).toList == b.toList) from rfl)
  go_enter Try.func65, Try.ntmps65
  go_upto_region 1 with fail
  have R0 := Aside0.mk (blk_new w (.cells #[.int .i64 0, .int .i64 0, .int .i64 0] 104))
  have HW0 := Aside0.mk (below_alloc (Below.refl _ _) (.cells #[.int .i64 0, .int .i64 0, .int .i64 0] 104) : Below w.heap.size w _)
  have HSZ := Aside0.mk (show w.heap.size < (w.alloc (.cells #[.int .i64 0, .int .i64 0, .int .i64 0] 104)).heap.size by simp)
  generalize w.alloc (.cells #[.int .i64 0, .int .i64 0, .int .i64 0] 104) = w0 at R0 HW0 HSZ ⊢
  have HHS := Aside0.mk (show w.heap.size = w.heap.size from rfl)
  go_cut [4] (fun s4 wx => ∃ g, s4 = .pointer (some ⟨g, 0, none⟩) ∧ Aside0 (wx.heap[g]? = some (.cells #[.int .i64 (rhT b), .int .i64 (rhS b), .int .i64 (rhZ b)] 104 (0, 0))) ∧ Aside0 (wx.heap[w.heap.size]? = some (.cells #[.int .i64 0, .int .i64 0, .int .i64 0] 104 (0, 0))) ∧ Aside0 (Below w.heap.size w wx) ∧ w.heap.size < g)
  case first =>
    have h4 : Below w0.heap.size w0 w0.drew := below_drew (Below.refl _ _)
    go_region_held3 (fun w' => True) (first | exact trivial) (first | (go_at_call 86; refine Calls.mono (value_calls _ ?hs _) ?_; (case hs => first | exact HX.out.1 | exact HX.out.2.1 | exact HX.out.2.2); rintro e w9 ⟨rfl, hb⟩; (first | (have ha2 := blk_below ha hb; clear ha k0 k1 k2 f0 f1 f2; have ha := ha2; clear ha2) | (have ha := blk_below (blk_new _ _) hb; have hge := h4.size) | (have ha := blk_below (blk_drew (blk_new _ _)) hb; have hge := Nat.le_refl w0.heap.size) | skip); (first | (have k0 : w9.cell? ⟨_, 0, none⟩ = some (.int .i64 0) := (blk_cell ha 0).trans rfl; have k1 : w9.cell? ⟨_, 1, none⟩ = some (.int .i64 0) := (blk_cell ha 1).trans rfl; have k2 : w9.cell? ⟨_, 2, none⟩ = some (.int .i64 0) := (blk_cell ha 2).trans rfl; have f0 := blk_frozen ha 0; have f1 := blk_frozen ha 1; have f2 := blk_frozen ha 2) | skip); (first | (have h5 := below_step h4 hb) | (have h5 := below_step (below_alloc h4 _) hb) | (have h5 : Below w0.heap.size w0 w9 := below_step (below_drew (below_alloc (Below.refl _ _) _)) hb)); clear h4 hb; have h4 := h5; clear h5))
    all_goals (go_wp2_with fail; go_meet)
    all_goals (
      have hs4 := h4.size
      have hsz := HSZ.out
      rw [HE.out.1, HE.out.2.1, HE.out.2.2]
      first
      | exact ⟨_, rfl, ⟨blk_set (blk_set (blk_set ha 0 _) 1 _) 2 _⟩, ⟨blk_far (blk_far (blk_far (blk_below R0.out h4) (by simp; omega) _) (by simp; omega) _) (by simp; omega) _⟩, ⟨below_set (below_set (below_set (HW0.out.trans (h4.mono HW0.out.size)) (by omega)) (by omega)) (by omega)⟩, by omega⟩
      | exact ⟨_, rfl, ⟨blk_new _ _⟩, ⟨blk_alloc (blk_below R0.out h4) _⟩, ⟨below_alloc (HW0.out.trans (h4.mono HW0.out.size)) _⟩, by omega⟩)
  case rest =>
    obtain ⟨g, rfl, G0, R1, HB, hg⟩ := hcut
    clear R0 HW0 HSZ HX HE q0 q1 q2
    generalize hT : rhT b = T at G0 HF ⊢
    generalize hS : rhS b = S at G0 HF ⊢
    generalize hZ : rhZ b = Z at G0 HF ⊢
    have HT := Aside0.mk (And.intro hT (And.intro hS hZ))
    clear hT hS hZ
    generalize hr : w.heap.size = r at R1 hg ⊢
    have HR := Aside0.mk hr
    clear hr
    have c0 : wc.cell? ⟨g, 0, none⟩ = some (.int .i64 T) := (blk_cell G0.out 0).trans rfl
    have c1 : wc.cell? ⟨g, 1, none⟩ = some (.int .i64 S) := (blk_cell G0.out 1).trans rfl
    have c2 : wc.cell? ⟨g, 2, none⟩ = some (.int .i64 Z) := (blk_cell G0.out 2).trans rfl
    have h4 : Below wc.heap.size wc wc.drew := below_drew (Below.refl _ _)
    go_upto_region 2 with fail
    go_region_held3 (fun w' => w'.cell? ⟨g, 0, none⟩ = some (.int .i64 T) ∧ w'.cell? ⟨g, 1, none⟩ = some (.int .i64 S) ∧ w'.cell? ⟨g, 2, none⟩ = some (.int .i64 Z)) (first | exact ⟨pw_cell_below h4 c0, pw_cell_below h4 c1, pw_cell_below h4 c2⟩ | exact ⟨(blk_cell G9 0).trans rfl, (blk_cell G9 1).trans rfl, (blk_cell G9 2).trans rfl⟩) (first | (go_at_call 87; refine Calls.mono (block_calls _ _ _ _) ?_; rintro e w9 ⟨rfl, hb⟩; have h5 := below_step h4 hb; clear h4 hb; have h4 := h5; clear h5; have hb9 := blk_below R1.out h4; have k0 : w9.cell? ⟨r, 0, none⟩ = some (.int .i64 0) := (blk_cell hb9 0).trans rfl; have k1 : w9.cell? ⟨r, 1, none⟩ = some (.int .i64 0) := (blk_cell hb9 1).trans rfl; have k2 : w9.cell? ⟨r, 2, none⟩ = some (.int .i64 0) := (blk_cell hb9 2).trans rfl; have f0 := blk_frozen hb9 0; have f1 := blk_frozen hb9 1; have f2 := blk_frozen hb9 2; have e1 := blk_set hb9 0 (.int .i64 T); have e2 := blk_set e1 1 (.int .i64 S); have E3 := Aside0.mk (blk_set e2 2 (.int .i64 Z)); have G9 := blk_far (p := ⟨r, 2, none⟩) (blk_far (p := ⟨r, 1, none⟩) (blk_far (p := ⟨r, 0, none⟩) (blk_below G0.out h4) (Nat.ne_of_gt hg) (.int .i64 T)) (Nat.ne_of_gt hg) (.int .i64 S)) (Nat.ne_of_gt hg) (.int .i64 Z); clear hb9 e1 e2))
    go_wp2
    refine bodyPost_ret (results_ct rfl _ _ r 104 #[.int .i64 T, .int .i64 S, .int .i64 Z] (0, 0) _ rfl E3.out Try.underlying104 rfl (by kernel_rfl)) rfl ?_
    refine ⟨by rw [HF.out, HT.out.1, HT.out.2.1, HT.out.2.2]; rfl, ?_⟩
    have hw := HR.out
    have hB := HB.out.trans (h4.mono HB.out.size)
    exact below_set (below_set (below_set hB (by omega)) (by omega)) (by omega)
end

/-! ## The log's memory: rows of strings; room, first. No condition. -/
section
open Go.RowKit Go.Proofs.YtmgkflkpompchaaW.PrintWords Go.Proofs.YtmgkflkpompchaaW.PrintLast Go.Proofs.YtmgkflkpompchaaW.PrintMore Go.Proofs.Ytmgkflkpompchaa.Strip
set_option linter.unusedVariables false
set_option linter.unusedSimpArgs false

theorem cell_heap {w w' : World} {b o : Nat} (h : w'.heap[b]? = w.heap[b]?) : w'.cell? ⟨b, o, none⟩ = w.cell? ⟨b, o, none⟩ := by simp [World.cell?, h]
/-- A row of strings whose block is one of these. -/
def StrS (w : World) (v : Value) (xs : List ByteArray) (G : Nat → Prop) : Prop := ∃ A c, v = .slice A xs.length c ∧ xs.length ≤ c ∧ c ≤ 9223372036854775807 ∧
  ∀ j (h : j < xs.length), ∃ b off, A = some ⟨b, off, none⟩ ∧ G b ∧ w.cell? ⟨b, off + j, none⟩ = some (.string xs[j])
theorem StrS.keep {w w' : World} {v : Value} {xs : List ByteArray} {G S : Nat → Prop} (h : StrS w v xs G) (hk : Strip.Kept S w w') (hd : ∀ k, G k → ¬ S k) : StrS w' v xs G := by
  obtain ⟨A, c, e, h1, h2, h3⟩ := h
  refine ⟨A, c, e, h1, h2, fun j hj => ?_⟩
  obtain ⟨b, off, e1, hg, hc⟩ := h3 j hj
  exact ⟨b, off, e1, hg, (cell_heap (hk.block b (World.block_lt_of_cell? w _ hc) (hd b hg))).trans hc⟩
theorem StrS.below {w w' : World} {v : Value} {xs : List ByteArray} {G : Nat → Prop} (h : StrS w v xs G) (hb : Below w.heap.size w w') : StrS w' v xs G :=
  h.keep (S := fun _ => False) (Strip.Kept.of_below hb) (fun _ _ => id)
theorem StrS.mono {w : World} {v : Value} {xs : List ByteArray} {G G' : Nat → Prop} (h : StrS w v xs G) (hg : ∀ k, k < w.heap.size → G k → G' k) : StrS w v xs G' := by
  obtain ⟨A, c, e, h1, h2, h3⟩ := h
  refine ⟨A, c, e, h1, h2, fun j hj => ?_⟩
  obtain ⟨b, off, e1, hgg, hc⟩ := h3 j hj
  exact ⟨b, off, e1, hg b (World.block_lt_of_cell? w _ hc) hgg, hc⟩
theorem StrS.nil (w : World) (G : Nat → Prop) : StrS w (.slice none 0 0) [] G := ⟨none, 0, rfl, Nat.le_refl _, by omega, fun j h => absurd h (by simp)⟩
theorem StrS.of_own {w : World} {B : Nat} {v : Value} {xs : List ByteArray} (h : w.ownsRow B 9 1 v xs.length (encs Value.string xs)) : StrS w v xs (fun k => B ≤ k) := by
  rcases h.2 with ⟨rfl, h0⟩ | ⟨g, cap, cur, rfl, hb, hh, hn, hm, hs, ht⟩
  · have : xs = [] := List.eq_nil_of_length_eq_zero h0
    subst this; exact StrS.nil _ _
  · refine ⟨some ⟨g, 0, none⟩, cap, rfl, hn, hm, fun j hj => ⟨g, 0, rfl, hb, ?_⟩⟩
    have := (own_at_of (d := (⟨#[]⟩ : ByteArray)) ⟨h.1, .inr ⟨g, cap, cur, rfl, hb, hh, hn, hm, hs, ht⟩⟩ (j : Int) (by omega) (by omega)).1
    rw [Int.toNat_natCast] at this
    rw [Nat.zero_add, this]
    unfold rdOf
    rw [List.getD_eq_getElem?_getD, Int.toNat_natCast, List.getElem?_eq_getElem hj]; rfl
theorem StrS.slice {w : World} {v : Value} {xs : List ByteArray} {G : Nat → Prop} (h : StrS w v xs G) : ∃ A c, v = .slice A xs.length c ∧ xs.length ≤ c ∧ c ≤ 9223372036854775807 := by
  obtain ⟨A, c, e, h1, h2, h3⟩ := h
  exact ⟨A, c, e, h1, h2⟩
theorem StrS.at_ {w : World} {A : Option Addr} {n c : Nat} {xs : List ByteArray} {G : Nat → Prop} (h : StrS w (.slice A n c) xs G) (j : Nat) (hj : j < xs.length) : ∃ b off, A = some ⟨b, off, none⟩ ∧ G b ∧ w.cell? ⟨b, off + j, none⟩ = some (.string xs[j]) := by
  obtain ⟨A', c', e, h1, h2, h3⟩ := h
  injection e with e1 e2 e3
  subst e1
  exact h3 j hj

/-! ### room, first -/
def roomN (n : Nat) : Nat := (n - 2) / 2 * 32
def firstN (n side : Nat) : Nat := 2 + side * ((n - 2) / 2)
set_option maxHeartbeats 400000 in
set_option maxRecDepth 100000 in
theorem room_calls {B : Nat} {w : World} {p q : Nat} {S : St} {F : Nat → Prop} (h : IsStrip B w p S F) (hq : w.cell? ⟨q, 0, none⟩ = some (.pointer (some ⟨p, 0, none⟩))) :
    Calls Try.prog 102 #[.pointer (some ⟨q, 0, none⟩)] w fun e w' => e = .returned (.int .i64 (roomN S.safe.length)) ∧ w = w' := by
  have H := Aside0.mk h
  have hl : S.safe.length ≤ 65536 := by obtain ⟨_, _, _, _, _, _, _, _, _, h8⟩ := h; exact h8
  have HR := Aside0.mk (show (roomN S.safe.length : Int) = wrap64 (max 0 (((S.safe.length : Int) - 2).tdiv 2) * 32) by
    have hr : roomN S.safe.length ≤ 1048576 := by unfold roomN; omega
    have : (roomN S.safe.length : Int) = max 0 (((S.safe.length : Int) - 2).tdiv 2) * 32 := ?_
    · rw [← this]; unfold wrap64; omega
    clear hr
    unfold roomN
    rcases Nat.lt_or_ge S.safe.length 2 with h | h
    · have : S.safe.length = 0 ∨ S.safe.length = 1 := by omega
      rcases this with e | e <;> rw [e] <;> rfl
    · rw [Int.tdiv_eq_ediv_of_nonneg (by omega)]; omega)
  clear h
  go_enter Try.func102, Try.ntmps102
  go_wp2_with (go_at_call 42; refine Calls.mono (size_calls H.out) ?_; rintro e w' ⟨rfl, rfl⟩)
  go_ret
  exact ⟨by rw [HR.out]; rfl, rfl⟩
set_option maxHeartbeats 400000 in
set_option maxRecDepth 100000 in
theorem first_calls {B : Nat} {w : World} {p q : Nat} {S : St} {F : Nat → Prop} (h : IsStrip B w p S F) (hq : w.cell? ⟨q, 0, none⟩ = some (.pointer (some ⟨p, 0, none⟩))) (side : Nat) (hs : side ≤ 1) :
    Calls Try.prog 88 #[.pointer (some ⟨q, 0, none⟩), .int .i64 (side : Int)] w fun e w' => e = .returned (.int .i64 (firstN S.safe.length side)) ∧ w = w' := by
  have HR := Aside0.mk (room_calls h hq)
  have hl : S.safe.length ≤ 65536 := by obtain ⟨_, _, _, _, _, _, _, _, _, h8⟩ := h; exact h8
  have hr : roomN S.safe.length ≤ 1048576 := by unfold roomN; omega
  have HF := Aside0.mk (show (firstN S.safe.length side : Int) = 2 + (side : Int) * (roomN S.safe.length : Int) / 32 by
    unfold firstN roomN
    have : side = 0 ∨ side = 1 := by omega
    rcases this with e | e <;> subst e <;> omega)
  generalize roomN S.safe.length = r at HR HF hr
  clear h hq
  go_enter Try.func88, Try.ntmps88
  have : side = 0 ∨ side = 1 := by omega
  rcases this with e | e <;> subst e
  · go_wp2_with (go_at_call 102; refine Calls.mono HR.out ?_; rintro e w' ⟨rfl, rfl⟩)
    go_ret
    exact ⟨by rw [HF.out]; simp, rfl⟩
  · go_wp2_with (go_at_call 102; refine Calls.mono HR.out ?_; rintro e w' ⟨rfl, rfl⟩)
    go_ret
    exact ⟨by rw [HF.out]; simp, rfl⟩
end

/-! ## The log's bytes of a side. No condition but that they are there. -/
section
open Go.RowKit Go.Proofs.YtmgkflkpompchaaW.PrintWords Go.Proofs.YtmgkflkpompchaaW.PrintLast Go.Proofs.YtmgkflkpompchaaW.PrintMore Go.Proofs.Ytmgkflkpompchaa.Strip
set_option linter.unusedVariables false
set_option linter.unusedSimpArgs false

/-- The bytes of some blocks. -/
def flatL (D : List ByteArray) : List UInt8 := D.flatMap fun b => b.data.toList
/-- A side's first bytes. -/
def bytesB (D : List ByteArray) (f n : Nat) : ByteArray := ⟨((flatL (D.drop f)).take n).toArray⟩
theorem flatL_append (a b : List ByteArray) : flatL (a ++ b) = flatL a ++ flatL b := by simp [flatL]
theorem flatL_len : ∀ (D : List ByteArray), (∀ b ∈ D, b.size = 32) → (flatL D).length = 32 * D.length
  | [], _ => rfl
  | b :: r, h => by
    have h1 := h b List.mem_cons_self
    have h2 := flatL_len r (fun x hx => h x (List.mem_cons_of_mem _ hx))
    have e : flatL (b :: r) = b.data.toList ++ flatL r := rfl
    rw [e, List.length_append, h2, data_length, h1, List.length_cons]; omega
theorem flatL_step (D : List ByteArray) (f i : Nat) (h : f + i < D.length) : flatL ((D.drop f).take (i + 1)) = flatL ((D.drop f).take i) ++ (D.getD (f + i) ⟨#[]⟩).data.toList := by
  rw [List.take_add_one, flatL_append]
  congr 1
  rw [List.getElem?_drop, List.getElem?_eq_getElem h, List.getD_eq_getElem?_getD, List.getElem?_eq_getElem h]
  simp [flatL]
theorem flatL_take (D : List ByteArray) (i n : Nat) (h : ∀ b ∈ D, b.size = 32) (hn : n ≤ 32 * i) : (flatL (D.take i)).take n = (flatL D).take n := by
  rcases Nat.lt_or_ge i D.length with hi | hi
  · conv => rhs; rw [← List.take_append_drop i D]
    rw [flatL_append, List.take_append_of_le_length]
    rw [flatL_len _ (fun b hb => h b (List.mem_of_mem_take hb)), List.length_take]
    omega
  · rw [List.take_of_length_le hi]
theorem extract_list (l : List UInt8) (n : Nat) : (⟨l.toArray⟩ : ByteArray).extract 0 n = ⟨(l.take n).toArray⟩ := by
  apply WideShapes.bytes_inj
  simp
theorem isB_below {B b : Nat} {bs : List Value} {w w' : World} (h : Lib.IsBuilder 128 5 B b bs w) (hb : Below w.heap.size w w') : Lib.IsBuilder 128 5 B b bs w' := by
  have k : ∀ p, Lib.BuilderAt 128 5 B b p bs w → Lib.BuilderAt 128 5 B b p bs w' := by
    rintro p ⟨h1, v, h2, h3, h4⟩
    exact ⟨h1, v, blk_below h2 hb, pw_own_below h3 hb, h4⟩
  exact h.elim (fun x => .inl (k _ x)) (fun x => .inr (k _ x))

set_option maxHeartbeats 1600000 in
set_option maxRecDepth 100000 in
theorem bytes_calls {B : Nat} {w : World} {p q : Nat} {S : St} {F : Nat → Prop} (h : IsStrip B w p S F) (hq : w.cell? ⟨q, 0, none⟩ = some (.pointer (some ⟨p, 0, none⟩))) (side : Nat) (hs : side ≤ 1)
    (hd : S.down = false) (hlo : S.loose = []) (hsz : ∀ b ∈ S.safe, b.size = 32) (n : Nat) (hn : n ≤ roomN S.safe.length) :
    Calls Try.prog 66 #[.pointer (some ⟨q, 0, none⟩), .int .i64 (side : Int), .int .i64 (n : Int)] w fun e w' => e = .returned (.tuple #[.string (bytesB S.safe (firstN S.safe.length side) n), .int .i64 0]) ∧ Below w.heap.size w w' := by
  have H := Aside0.mk h
  have HQ := Aside0.mk hq
  have hl : S.safe.length ≤ 65536 := by obtain ⟨_, _, _, _, _, _, _, _, _, h8⟩ := h; exact h8
  have HRM := Aside0.mk (show ∀ i : Nat, 32 * i < n → firstN S.safe.length side + i < S.safe.length from fun i hi => by
    unfold roomN at hn; unfold firstN
    have : side = 0 ∨ side = 1 := by omega
    rcases this with e | e <;> subst e <;> omega)
  have HAT := Aside0.mk (show ∀ i : Nat, i < S.safe.length → atE S (i : Int) = 0 ∧ rdS S (i : Int) = S.safe.getD i ⟨#[]⟩ from fun i hi => by
    have ha : atE S (i : Int) = 0 := by unfold atE; rw [if_neg (by rw [hd]; simp), if_neg (by omega)]
    refine ⟨ha, ?_⟩
    unfold rdS; rw [if_pos ha, hlo]; rfl)
  have HSZ := Aside0.mk hsz
  have HN := Aside0.mk (show n ≤ 1048576 by unfold roomN at hn; omega)
  have HFI := Aside0.mk (fun (w1 : World) (hb : Below w.heap.size w w1) => first_calls (h.below hb) (pw_cell_below hb hq) side hs)
  have hf : firstN S.safe.length side ≤ 65538 := by
    unfold firstN
    have : side = 0 ∨ side = 1 := by omega
    rcases this with e | e <;> subst e <;> omega
  clear h hd hlo hsz hq hn
  generalize firstN S.safe.length side = f at HRM HFI hf ⊢
  go_enter Try.func66, Try.ntmps66
  go_upto_region 3 with fail
  have B0 : Aside0 (Lib.IsBuilder 128 5 w.heap.size w.heap.size (Lib.byteCells (flatL ((S.safe.drop f).take 0))) (w.alloc (.cells #[.pointer none, .slice none 0 0] 128))) := ⟨.inl ⟨Nat.le_refl _, .slice none 0 0, blk_new w _, own_nil _ _ _ _, by simp [Value.ownBlock]⟩⟩
  have HB := Aside0.mk (below_alloc (Below.refl _ _) (.cells #[.pointer none, .slice none 0 0] 128) : Below w.heap.size w _)
  generalize w.alloc (.cells #[.pointer none, .slice none 0 0] 128) = w1 at B0 HB ⊢
  generalize hgb : w.heap.size = gb at B0 ⊢
  have HGB := Aside0.mk hgb
  clear hgb
  have hnn := HN.out
  go_loopw [9] (fun v9 w' => ∃ i : Nat, i ≤ (n + 31) / 32 ∧ v9 = .int .i64 i ∧ Aside0 (Lib.IsBuilder 128 5 gb gb (Lib.byteCells (flatL ((S.safe.drop f).take i))) w') ∧ Aside0 (Below w.heap.size w w')) (fun v9 _ => (n + 31) / 32 - (intOf v9).toNat)
  case atStart => exact ⟨0, Nat.zero_le _, rfl, B0, HB⟩
  case round =>
    clear B0 HB
    obtain ⟨i, hi, rfl, B0, HB⟩ := hrel
    have HLN := Aside0.mk (show (Lib.byteCells (flatL ((S.safe.drop f).take i))).length = 32 * i by
      rw [Lib.byteCells_length, flatL_len _ (fun b hb => HSZ.out b (List.mem_of_mem_drop (List.mem_of_mem_take hb))), List.length_take, List.length_drop]
      rcases Nat.eq_zero_or_pos i with e | e
      · omega
      · have := HRM.out (i - 1) (by omega); omega)
    go_wp2_with fail
    refine Calls.mono (Try.Builder_Len gb gb _ _ B0.out) ?_
    rw [HLN.out]
    rintro e w' ⟨rfl, rfl⟩
    by_cases hlt : 32 * i < n
    · have hlti : (32 * (i : Int)) < (n : Int) := by omega
      have hfi := HRM.out i hlt
      obtain ⟨ha, hr⟩ := HAT.out (f + i) hfi
      have HA := Aside0.mk (show atE S ((f : Int) + (i : Int)) = 0 from ha)
      have HR := Aside0.mk (show rdS S ((f : Int) + (i : Int)) = S.safe.getD (f + i) ⟨#[]⟩ from hr)
      have HST := Aside0.mk (flatL_step S.safe f i hfi)
      have HBS := Aside0.mk (show (S.safe.getD (f + i) ⟨#[]⟩).size = 32 by rw [List.getD_eq_getElem?_getD, List.getElem?_eq_getElem hfi]; exact HSZ.out _ (List.getElem_mem hfi))
      generalize S.safe.getD (f + i) ⟨#[]⟩ = blk at HR HST HBS
      clear ha hr
      have hw : IntKind.i64.wrap ((f : Int) + (i : Int)) = (f : Int) + (i : Int) := by rw [i64_w]; unfold wrap64; omega
      go_upto_region 5 with fail
      go_region_held3 (fun w' => w'.cell? ⟨q, 0, none⟩ = some (.pointer (some ⟨p, 0, none⟩))) (first | exact pw_cell_below (below_drew HB.out) HQ.out | exact pw_cell_below HB2.out HQ.out) (first | (go_at_call 88; refine Calls.mono (HFI.out _ (below_drew HB.out)) ?_; rintro e w8 ⟨rfl, rfl⟩) | (go_at_call 45; refine Calls.mono (read_calls (H.out.below (below_drew HB.out)) _) ?_; rw [HA.out, HR.out]; rintro e w7 ⟨rfl, hb⟩; have HB2 := Aside0.mk (below_step (below_drew HB.out) hb); have B1 := Aside0.mk (isB_below B0.out (⟨hb.os, hb.tape, hb.output, hb.size, hb.block⟩ : Below w'.heap.size w' w7)); clear hb))
      have hgs := HB2.out.size
      have hge := HGB.out
      have HBW := Aside0.mk (show gb ≤ w7.heap.size by omega)
      clear HB B0 hgs hge
      have HLL := Aside0.mk (show (Lib.byteCells (flatL ((S.safe.drop f).take i))).length + blk.size ≤ 140737488355328 by have := HLN.out; have := HBS.out; have := HN.out; omega)
      go_wp2_with (go_at_call 83; refine Calls.mono (Try.Builder_WriteString gb gb _ blk _ B1.out HLL.out HBW.out) ?_; rintro e w6 ⟨rfl, hx, hb⟩; have B2 := Aside0.mk (Or.inr hx : Lib.IsBuilder 128 5 gb gb _ w6); have HB3 := Aside0.mk (HB2.out.trans (HGB.out ▸ hb)); clear hx hb)
      go_roundw
      case measure => simp [intOf]; omega
      case rel => exact ⟨i + 1, by omega, by go_num, ⟨by rw [HST.out, Lib.byteCells, List.map_append]; exact B2.out⟩, HB3⟩
    · have hlti : ¬ (32 * (i : Int)) < (n : Int) := by omega
      have hgs := HB.out.size
      have hge := HGB.out
      have HBW := Aside0.mk (show gb ≤ w'.heap.size by omega)
      have HEX := Aside0.mk (show (⟨(flatL ((S.safe.drop f).take i)).toArray⟩ : ByteArray).extract 0 n = bytesB S.safe f n by
        rw [extract_list, flatL_take _ _ _ (fun b hb => HSZ.out b (List.mem_of_mem_drop hb)) (by omega)]; rfl)
      have HSS := Aside0.mk (show (n : Int) ≤ ((⟨(flatL ((S.safe.drop f).take i)).toArray⟩ : ByteArray).size : Int) by
        have := HLN.out
        rw [Lib.byteCells_length] at this
        show (n : Int) ≤ (((flatL ((S.safe.drop f).take i)).toArray.size : Nat) : Int)
        rw [List.size_toArray, this]; omega)
      go_wp2_with fail
      refine Calls.mono (Try.Builder_String_any gb gb _ _ B0.out HBW.out) ?_
      have hss := HSS.out
      generalize (⟨(flatL ((S.safe.drop f).take i)).toArray⟩ : ByteArray) = str at HEX hss ⊢
      rintro e w6 ⟨rfl, hb⟩
      have HB3 := Aside0.mk (HB.out.trans (HGB.out ▸ hb))
      clear hb HSS
      go_wp2
      go_ret2
      exact ⟨by rw [← HEX.out]; rfl, HB3.out⟩
end

/-! ## The log's records as bytes, and bytes as records. No condition but on how many bytes. -/
section
open Go.RowKit Go.Proofs.YtmgkflkpompchaaW.PrintWords Go.Proofs.YtmgkflkpompchaaW.PrintLast Go.Proofs.YtmgkflkpompchaaW.PrintMore Go.Proofs.Ytmgkflkpompchaa.Strip
set_option linter.unusedVariables false
set_option linter.unusedSimpArgs false

/-- A record as bytes. -/
def frameL (s : ByteArray) : List UInt8 := (numB (s.size : Int) 4).data.toList ++ s.data.toList
def framedL (l : List ByteArray) : List UInt8 := l.flatMap frameL
def framedB (l : List ByteArray) : ByteArray := ⟨(framedL l).toArray⟩
theorem frameL_len (s : ByteArray) : (frameL s).length = s.size + 4 := by
  unfold frameL; rw [List.length_append, data_length, data_length, numB_size]; omega
theorem framedL_step (l : List ByteArray) (j : Nat) (h : j < l.length) : framedL (l.take (j + 1)) = framedL (l.take j) ++ frameL l[j] := by
  unfold framedL
  rw [List.take_add_one, List.getElem?_eq_getElem h, List.flatMap_append]
  simp
theorem framedL_take_le (l : List ByteArray) (j : Nat) : (framedL (l.take j)).length ≤ (framedL l).length := by
  conv => rhs; rw [← List.take_append_drop j l]
  unfold framedL
  rw [List.flatMap_append, List.length_append]
  omega

set_option maxHeartbeats 1600000 in
set_option maxRecDepth 100000 in
theorem framed_calls {w : World} {v : Value} {l : List ByteArray} {G : Nat → Prop} (h : StrS w v l G) (hsum : (framedL l).length ≤ 1099511627776) :
    Calls Try.prog 90 #[v] w fun e w' => e = .returned (.string (framedB l)) ∧ Below w.heap.size w w' := by
  obtain ⟨A, c, rfl, hlc, hc63⟩ := h.slice
  have H := Aside0.mk h
  have HS := Aside0.mk hsum
  have HF := Aside0.mk (show framedB l = ⟨(framedL l).toArray⟩ from rfl)
  have hll : l.length ≤ 9223372036854775807 := by omega
  clear h hsum
  go_enter Try.func90, Try.ntmps90
  go_upto_region 3 with fail
  have B0 : Aside0 (Lib.IsBuilder 128 5 w.heap.size w.heap.size (Lib.byteCells (framedL (l.take 0))) (w.alloc (.cells #[.pointer none, .slice none 0 0] 128))) := ⟨.inl ⟨Nat.le_refl _, .slice none 0 0, blk_new w _, own_nil _ _ _ _, by simp [Value.ownBlock]⟩⟩
  have HB := Aside0.mk (below_alloc (Below.refl _ _) (.cells #[.pointer none, .slice none 0 0] 128) : Below w.heap.size w _)
  generalize w.alloc (.cells #[.pointer none, .slice none 0 0] 128) = w1 at B0 HB ⊢
  generalize hgb : w.heap.size = gb at B0 ⊢
  have HGB := Aside0.mk hgb
  clear hgb
  go_loopw [8] (fun v8 w' => ∃ j : Nat, j ≤ l.length ∧ v8 = .int .i64 j ∧ Aside0 (Lib.IsBuilder 128 5 gb gb (Lib.byteCells (framedL (l.take j))) w') ∧ Aside0 (Below w.heap.size w w')) (fun v8 _ => l.length - (intOf v8).toNat)
  case atStart => exact ⟨0, Nat.zero_le _, rfl, B0, HB⟩
  case round =>
    clear B0 HB
    obtain ⟨j, hj, rfl, B0, HB⟩ := hrel
    by_cases hlt : j < l.length
    · obtain ⟨b, off, rfl, hg, hc⟩ := H.out.at_ j hlt
      have HX := Aside0.mk (pw_cell_below HB.out hc)
      have HST := Aside0.mk (framedL_step l j hlt)
      have hle := framedL_take_le l (j + 1)
      rw [framedL_step l j hlt, List.length_append, frameL_len] at hle
      have HFR := Aside0.mk (show frameL l[j] = ((numB (l[j].size : Int) 4) ++ l[j]).data.toList by unfold frameL; rw [ByteArray.data_append, Array.toList_append])
      have HNS := Aside0.mk (numB_size (l[j].size : Int) 4)
      clear hc hg
      have hc := HX.out
      generalize l[j] = x at hc HX HST hle HFR HNS
      have hx : x.size ≤ 1099511627776 := by have := HS.out; omega
      have HLL := Aside0.mk (show (Lib.byteCells (framedL (l.take j))).length + (numB (x.size : Int) 4 ++ x).size ≤ 140737488355328 by rw [Lib.byteCells_length, ByteArray.size_append, HNS.out]; have := HS.out; omega)
      clear hle HX
      have hns := HNS.out
      generalize hnx : numB (x.size : Int) 4 = nx at hns HLL HFR HNS
      have HNX := Aside0.mk (show numB (x.size : Int) ((4 : Int).toNat) = nx from hnx)
      clear hnx
      have y0 : (0 : Int) ≤ (j : Int) := by omega
      have y1 : (j : Int) < (l.length : Int) := by omega
      have hadd : ¬ (9223372036854775807 < nx.size + x.size) := by omega
      go_wp2_with (first | (go_at_call 101; refine Calls.mono (number_calls _ _ (by omega) (by omega) _) ?_; rw [HNX.out]; rintro e w8 ⟨rfl, hb⟩; have n1 := Aside0.mk (isB_below B0.out hb); have n2 := Aside0.mk (below_step HB.out hb); clear B0 HB hb; have B0 := n1; have HB := n2; clear n1 n2; have hgs := HB.out.size; have hge := HGB.out; have HBW := Aside0.mk (show gb ≤ w8.heap.size by omega); clear hgs hge) | (go_at_call 83; refine Calls.mono (Try.Builder_WriteString gb gb _ _ _ B0.out HLL.out HBW.out) ?_; rintro e w6 ⟨rfl, hx2, hb⟩; have B2 := Aside0.mk (Or.inr hx2 : Lib.IsBuilder 128 5 gb gb _ w6); have HB3 := Aside0.mk (HB.out.trans (HGB.out ▸ hb)); clear hx2 hb) | fail)
      go_roundw
      case measure => simp [intOf]; omega
      case rel => exact ⟨j + 1, by omega, by go_num, ⟨by rw [HST.out, HFR.out, Lib.byteCells, List.map_append]; exact B2.out⟩, HB3⟩
    · obtain rfl : j = l.length := by omega
      rw [List.take_length] at B0
      have hgs := HB.out.size
      have hge := HGB.out
      have HBW := Aside0.mk (show gb ≤ wr.heap.size by omega)
      clear hgs hge
      go_wp2_with (go_at_call 85; refine Calls.mono (Try.Builder_String_any gb gb _ _ B0.out HBW.out) ?_; rw [← HF.out]; rintro e w6 ⟨rfl, hb⟩; have HB3 := Aside0.mk (HB.out.trans (HGB.out ▸ hb)); clear hb)
      go_ret
      exact ⟨rfl, HB3.out⟩
end

/-! ## The log's records out of bytes. No condition but on how many bytes. -/
section
open Go.RowKit Go.Proofs.YtmgkflkpompchaaW.PrintWords Go.Proofs.YtmgkflkpompchaaW.PrintLast Go.Proofs.YtmgkflkpompchaaW.PrintMore Go.Proofs.Ytmgkflkpompchaa.Strip
set_option linter.unusedVariables false
set_option linter.unusedSimpArgs false

theorem ba_ext {a b : ByteArray} (h : a.data.toList = b.data.toList) : a = b := WideShapes.bytes_inj h
theorem ba_size (a : ByteArray) : a.data.toList.length = a.size := data_length a
theorem mk_size (l : List UInt8) : (⟨l.toArray⟩ : ByteArray).size = l.length := by show l.toArray.size = _; simp
theorem mk_list (l : List UInt8) : (⟨l.toArray⟩ : ByteArray).data.toList = l := rfl
theorem ext_list (a : ByteArray) (i j : Nat) : (a.extract i j).data.toList = (a.data.toList.take j).drop i := by simp [List.drop_take]
/-- The parts of a frame. -/
theorem frame_parts (x : ByteArray) (r : List UInt8) (fb t : ByteArray) (h : fb = ⟨(frameL x ++ r).toArray⟩) (ht : t = ⟨(x.data.toList ++ r).toArray⟩) :
    fb.extract 0 4 = numB (x.size : Int) 4 ∧ fb.extract 4 fb.size = t ∧ t.extract 0 x.size = x ∧ t.extract x.size t.size = ⟨r.toArray⟩ ∧ fb.size = x.size + 4 + r.length ∧ t.size = x.size + r.length := by
  have hn : (numB (x.size : Int) 4).data.toList.length = 4 := by rw [ba_size, numB_size]
  have hx := ba_size x
  have hf : fb.size = x.size + 4 + r.length := by rw [h, mk_size, List.length_append, frameL_len]
  have htt : t.size = x.size + r.length := by rw [ht, mk_size, List.length_append, hx]
  refine ⟨?_, ?_, ?_, ?_, hf, htt⟩
  · apply ba_ext
    rw [ext_list, h, mk_list, frameL, List.drop_zero, List.append_assoc, List.take_append_of_le_length (by omega), List.take_of_length_le (by omega)]
  · apply ba_ext
    rw [ext_list, List.take_of_length_le (by rw [ba_size]; omega), h, ht, mk_list, mk_list, frameL, List.append_assoc]
    rw [List.drop_append_of_le_length (by omega), List.drop_of_length_le (by omega)]; rfl
  · apply ba_ext
    rw [ext_list, ht, mk_list, List.drop_zero, List.take_append_of_le_length (Nat.le_of_eq hx.symm), List.take_of_length_le (Nat.le_of_eq hx)]
  · apply ba_ext
    rw [ext_list, List.take_of_length_le (by rw [ba_size]; exact Nat.le_refl _), ht, mk_list, mk_list]
    rw [List.drop_append_of_le_length (Nat.le_of_eq hx.symm), List.drop_of_length_le (Nat.le_of_eq hx)]; rfl
theorem framedL_drop (l : List ByteArray) (j : Nat) (h : j < l.length) : framedL (l.drop j) = frameL l[j] ++ framedL (l.drop (j + 1)) := by
  rw [List.drop_eq_getElem_cons h]; rfl

set_option maxHeartbeats 1600000 in
set_option maxRecDepth 100000 in
theorem unframed_calls (l : List ByteArray) (hsum : (framedL l).length ≤ 1099511627776) (hsz : ∀ b ∈ l, b.size < 4294967296) (w : World) :
    Calls Try.prog 67 #[.string (framedB l)] w fun e w' => ∃ v, e = .returned v ∧ w'.ownsRow w.heap.size 9 1 v l.length (encs Value.string l) ∧ Below w.heap.size w w' := by
  have HS := Aside0.mk hsum
  have HZ := Aside0.mk hsz
  have HLL := Aside0.mk (show l.length ≤ 1099511627776 by
    have : ∀ l : List ByteArray, l.length ≤ (framedL l).length := by
      intro l
      induction l with
      | nil => exact Nat.le_refl _
      | cons a r ih =>
        have e : framedL (a :: r) = frameL a ++ framedL r := rfl
        rw [e, List.length_append, frameL_len, List.length_cons]; omega
    exact Nat.le_trans (this l) hsum)
  clear hsum hsz
  rw [show framedB l = ⟨(framedL (l.drop 0)).toArray⟩ from rfl]
  generalize hfb : (⟨(framedL (l.drop 0)).toArray⟩ : ByteArray) = fb
  have FB := Aside0.mk hfb
  clear hfb
  go_enter Try.func67, Try.ntmps67
  go_upto_region 2 with fail
  go_loopw [0, 3] (fun v0 v3 w' => ∃ (j : Nat) (fb : ByteArray), j ≤ l.length ∧ v0 = .string fb ∧ Aside0 (⟨(framedL (l.drop j)).toArray⟩ = fb) ∧ Aside0 (w'.ownsRow w.heap.size 9 1 v3 (l.take j).length (encs Value.string (l.take j))) ∧ Aside0 (Below w.heap.size w w')) (fun v0 _ _ => match v0 with | .string s => s.size | _ => 0)
  case atStart => exact ⟨0, fb, Nat.zero_le _, rfl, FB, ⟨own_nil _ _ _ _⟩, ⟨Below.refl _ _⟩⟩
  case round =>
    clear FB
    obtain ⟨j, fj, hj, rfl, FB, RO, HB⟩ := hrel
    by_cases hlt : j < l.length
    · have FD := Aside0.mk (framedL_drop l j hlt)
      have HX := Aside0.mk (HZ.out _ (List.getElem_mem hlt))
      have HT := Aside0.mk (show l.take (j + 1) = l.take j ++ [l[j]] by rw [List.take_add_one, List.getElem?_eq_getElem hlt]; rfl)
      generalize l[j] = x at FD HX HT
      obtain ⟨t, ht⟩ : ∃ t : ByteArray, t = ⟨(x.data.toList ++ framedL (l.drop (j + 1))).toArray⟩ := ⟨_, rfl⟩
      obtain ⟨e1, e2, e3, e4, e5, e6⟩ := frame_parts x (framedL (l.drop (j + 1))) fj t (by rw [← FB.out, FD.out]) ht
      have HV := Aside0.mk (show valB (numB (x.size : Int) 4) = (x.size : Int) from val_num4 _ (by omega) (by have := HX.out; omega))
      have HNS := Aside0.mk (show (numB (x.size : Int) 4).size ≤ 1000000 by rw [numB_size]; omega)
      generalize hfn : (⟨(framedL (l.drop (j + 1))).toArray⟩ : ByteArray) = fn at e4
      have FN := Aside0.mk hfn
      clear hfn
      have E := Aside0.mk (And.intro e1 (And.intro e2 (And.intro e3 e4)))
      have EL := Aside0.mk (show fn.size < fj.size by rw [← FN.out, mk_size, e5]; omega)
      have hf4 : (4 : Int) ≤ (fj.size : Int) := by omega
      have ht4 : (x.size : Int) ≤ (t.size : Int) := by omega
      clear e1 e2 e3 e4 e5 e6 ht
      obtain ⟨A, c, rfl⟩ := own_slice RO.out
      have HLT := Aside0.mk (show (l.take j).length = j by rw [List.length_take]; omega)
      have HLX := Aside0.mk (show (l.take j).length ≤ 1099511627776 by rw [HLT.out]; have := HLL.out; omega)
      generalize l.take j = lj at RO HT HLT HLX ⊢
      have x0 : (0 : Int) ≤ (x.size : Int) := by omega
      go_upto_region 4 with (first | (go_at_call 86; refine Calls.mono (value_calls _ (by rw [E.out.1]; exact HNS.out) _) ?_; rw [E.out.1, HV.out]; rintro e w8 ⟨rfl, hb⟩; have RO2 := Aside0.mk (pw_own_below RO.out hb); have HB2 := Aside0.mk (below_step HB.out hb); clear RO HB hb; have RO := RO2; have HB := HB2; clear RO2 HB2) | fail)
      go_upto_region 5 with fail
      rw [E.out.2.1]
      have e3 := E.out.2.2.1
      have e4 := E.out.2.2.2
      have HBS := HB.out.size
      go_wp2_with (first | ((with_reducible refine gate_builtin (b := .append) (xs := #[.tmp 13, .tmp 17]) rfl ?_); at_builtin; refine print_append_of (w0 := w) Value.string w.heap.size rfl (.tmp 13) (.tmp 17) 48 9 (.string ⟨#[]⟩) 16 rfl Try.underlying48 infoS rfl (by decide) _ lj x rfl rfl rfl RO.out HB.out HBS (by have := HLX.out; omega) ?_; intro v1 w3 q1 q4 q2 q3; obtain ⟨A1, c1, rfl⟩ := own_slice q1; have PP := Aside0.mk (And.intro q1 q4); clear q1 q2 q3 q4 RO HB HBS))
      refine ⟨⟨j + 1, fn, by omega, rfl, FN, ⟨?_⟩, ⟨PP.out.2⟩⟩, EL.out⟩
      rw [HT.out]
      have := PP.out.1
      rwa [show (lj ++ [x]).length = lj.length + 1 by simp] at this ⊢
    · obtain rfl : j = l.length := by omega
      have hz : (fj.size : Int) = 0 := by rw [← FB.out, mk_size, List.drop_length]; rfl
      rw [List.take_length] at RO
      have hz4 : ¬ (4 : Int) ≤ (fj.size : Int) := by omega
      clear hz
      go_wp2
      go_ret
      exact ⟨_, rfl, RO.out, HB.out⟩
end

/-! ## The log's may: what records may be put. No condition but on how many records. -/
section
open Go.RowKit Go.Proofs.YtmgkflkpompchaaW.PrintWords Go.Proofs.YtmgkflkpompchaaW.PrintLast Go.Proofs.YtmgkflkpompchaaW.PrintMore Go.Proofs.Ytmgkflkpompchaa.Strip
set_option linter.unusedVariables false
set_option linter.unusedSimpArgs false

def large (s : ByteArray) : Bool := decide ((1048576 : Int) < (s.size : Int))
set_option maxHeartbeats 400000 in
set_option maxRecDepth 100000 in
theorem large_calls (w : World) : PredAt Try.prog 104 #[] Value.string large w := fun W s _ => by
  unfold FnGives large
  go_enter Try.func104, Try.ntmps104
  go_wp2
  go_ret
  exact ⟨rfl, 0, rfl⟩
theorem enters104 : ∀ args w, (callFunc 104 args).run Try.prog w = .ok (.enter 104 args) w := fun args w => enters_ Try.func104 (by kernel_rfl) (by kernel_rfl) args w
theorem contains_calls {w : World} {v : Value} {l : List ByteArray} {G : Nat → Prop} (h : StrS w v l G) :
    Calls Try.prog 103 #[v, .func (.func 104) #[] #[]] w fun e w' => e = .returned (.bool (l.any large)) ∧ Below w.heap.size w w' := by
  obtain ⟨A, c, rfl, h1, h2, h3⟩ := h
  cases l with
  | nil =>
    refine Calls.mono (Try.slices_ContainsFunc_empty (α := ByteArray) A c _ w) ?_
    rintro e w' ⟨rfl, rfl⟩
    exact ⟨rfl, Below.refl _ _⟩
  | cons x r =>
    obtain ⟨b, off, rfl, _, _⟩ := h3 0 (by simp)
    refine Calls.mono (Try.slices_ContainsFunc (α := ByteArray) Value.string large 104 #[] enters104 b off (x :: r).length c (x :: r) w (large_calls w) (Nat.le_refl _) (by omega) (fun j hj => ?_)) ?_
    · obtain ⟨b', off', e, _, hc⟩ := h3 j hj
      injection e with e; injection e with e1 e2; subst e1 e2
      rw [hc, List.getElem!_eq_getElem?_getD, List.getElem?_eq_getElem hj]; rfl
    · rintro e w' ⟨rfl, q, rfl⟩
      rw [List.take_length]
      exact ⟨rfl, pw_below_drewN (Below.refl _ _) q⟩
def mayE (S : St) (l : List ByteArray) (n : Nat) : Int := if l.any large = true then 4 else if roomN S.safe.length < n ∨ S.safe.length < 2 then 7 else 0
set_option maxHeartbeats 800000 in
set_option maxRecDepth 100000 in
theorem may_calls {B : Nat} {w : World} {p q : Nat} {S : St} {F : Nat → Prop} (hst : IsStrip B w p S F) (hq : w.cell? ⟨q, 0, none⟩ = some (.pointer (some ⟨p, 0, none⟩))) {v : Value} {l : List ByteArray} {G : Nat → Prop} (h : StrS w v l G) (n : Nat) (hn : n ≤ 4611686018427387904) :
    Calls Try.prog 91 #[.pointer (some ⟨q, 0, none⟩), v, .int .i64 (n : Int)] w fun e w' => e = .returned (.int .i64 (mayE S l n)) ∧ Below w.heap.size w w' := by
  have H := Aside0.mk hst
  have HQ := Aside0.mk hq
  have HC := Aside0.mk (contains_calls h)
  have HM := Aside0.mk (show mayE S l n = if l.any large = true then 4 else if roomN S.safe.length < n ∨ S.safe.length < 2 then 7 else 0 from rfl)
  obtain ⟨A, c, rfl, _, _⟩ := h.slice
  clear h hst hq
  generalize l.any large = lg at HC HM
  go_enter Try.func91, Try.ntmps91
  go_wp2_with fail
  refine Calls.mono HC.out ?_
  rintro e w1 ⟨rfl, hb⟩
  have HB := Aside0.mk hb
  have hq1 := pw_cell_below hb HQ.out
  clear hb
  cases lg with
  | true =>
    have HM2 := Aside0.mk (HM.out.trans (if_pos rfl))
    go_wp2
    go_ret
    exact ⟨by rw [HM2.out]; rfl, HB.out⟩
  | false =>
    have HM2 := Aside0.mk (HM.out.trans (if_neg (by simp)))
    clear HM
    by_cases h1 : roomN S.safe.length < n
    · have HM3 := Aside0.mk (HM2.out.trans (if_pos (.inl h1)))
      have h1i : (roomN S.safe.length : Int) < (n : Int) := by omega
      clear HM2
      go_wp2_with (go_at_call 102; refine Calls.mono (room_calls (H.out.below HB.out) hq1) ?_; rintro e w' ⟨rfl, rfl⟩)
      go_ret
      exact ⟨by rw [HM3.out]; rfl, HB.out⟩
    · have h1i : ¬ (roomN S.safe.length : Int) < (n : Int) := by omega
      by_cases h2 : S.safe.length < 2
      · have HM3 := Aside0.mk (HM2.out.trans (if_pos (.inr h2)))
        have h2i : (S.safe.length : Int) < 2 := by omega
        clear HM2
        go_wp2_with (first | (go_at_call 102; refine Calls.mono (room_calls (H.out.below HB.out) hq1) ?_; rintro e w' ⟨rfl, rfl⟩) | (go_at_call 42; refine Calls.mono (size_calls (H.out.below HB.out)) ?_; rintro e w' ⟨rfl, rfl⟩))
        go_ret
        exact ⟨by rw [HM3.out]; rfl, HB.out⟩
      · have HM3 := Aside0.mk (HM2.out.trans (if_neg (by omega)))
        have h2i : ¬ (S.safe.length : Int) < 2 := by omega
        clear HM2
        go_wp2_with (first | (go_at_call 102; refine Calls.mono (room_calls (H.out.below HB.out) hq1) ?_; rintro e w' ⟨rfl, rfl⟩) | (go_at_call 42; refine Calls.mono (size_calls (H.out.below HB.out)) ?_; rintro e w' ⟨rfl, rfl⟩))
        go_ret
        exact ⟨by rw [HM3.out]; rfl, HB.out⟩
end

/-! ## slices.Clone, Grow and Concat at rows of strings. No condition but on how many strings. -/
section
open Go.Proofs Go.Shelf
def Try.laysGrow_ren : Go.Shelf.Ren := ⟨fun | 4 => 93 | n => n, fun | 22 => 48 | 25 => 9 | n => n, fun | n => n⟩
theorem Try.laysGrow : Go.Proofs.Lays8.n4 Try.prog Try.laysGrow_ren := {
  mixed := by kernel_rfl
  f4 := ⟨Try.f93.name, by decide, Try.func93.trans (congrArg some (by kernel_rfl))⟩
  t0 := Try.underlying0
  a0 := Try.isAgg0
  z0 := Try.sizeOf0
  v0 := Try.zeroValue0
  t3 := Try.underlying3
  a3 := Try.isAgg3
  z3 := Try.sizeOf3
  v3 := Try.zeroValue3
  t4 := Try.underlying4
  a4 := Try.isAgg4
  z4 := Try.sizeOf4
  v4 := Try.zeroValue4
  t9 := Try.underlying9
  a9 := Try.isAgg9
  z9 := Try.sizeOf9
  v9 := Try.zeroValue9
  t20 := Try.underlying20
  a20 := Try.isAgg20
  z20 := Try.sizeOf20
  v20 := Try.zeroValue20
  t22 := Try.underlying48
  a22 := Try.isAgg48
  z22 := Try.sizeOf48
  v22 := Try.zeroValue48 }
open Go.RowKit Go.Proofs.YtmgkflkpompchaaW.PrintWords Go.Proofs.YtmgkflkpompchaaW.PrintLast Go.Proofs.YtmgkflkpompchaaW.PrintMore Go.Proofs.Ytmgkflkpompchaa.Strip
set_option linter.unusedVariables false
set_option linter.unusedSimpArgs false

theorem grow_calls (n : Nat) (hn : n ≤ 1099511627776) (w : World) :
    Calls Try.prog 93 #[.slice none 0 0, .int .i64 (n : Int)] w fun e w' => ∃ v, e = .returned v ∧ w'.ownsRow w.heap.size 9 1 v ([] : List ByteArray).length (encs Value.string []) ∧ Below w.heap.size w w' := by
  rcases Nat.eq_zero_or_pos n with h | h
  · subst h
    refine Calls.mono (Any8.slices_Grow_room Try.laysGrow none 0 0 0 w (Nat.le_refl _) (by omega) (by omega) (Nat.le_refl _)) ?_
    rintro e w' ⟨rfl, rfl⟩
    exact ⟨_, rfl, own_nil _ _ _ _, Below.refl _ _⟩
  · obtain ⟨i0, hi, hzz⟩ := Option.map_eq_some_iff.1 infoS
    simp only [Prod.mk.injEq] at hzz
    obtain ⟨hz0, hz1, hz2⟩ := hzz
    refine Calls.mono (Any8.slices_Grow_grow Try.laysGrow i0 (.string ⟨#[]⟩) hi hz0 (by omega) none 0 0 n [] w (Nat.le_refl _) (by omega) (by rw [hz2]; omega) (by omega) (by simp) (fun _ => rfl) (fun a ha => by cases ha)) ?_
    rintro e w' ⟨rfl, rfl⟩
    have hg : 0 + n ≤ grownCap w (0 + n) 0 9 := grownCap_ge w _ _ _
    have hm : grownCap w (0 + n) 0 9 ≤ maxLen := grownCap_le_maxLen w (0 + n) 0 9 (by unfold maxLen; omega)
    refine ⟨_, rfl, ⟨by simp [encs], .inr ⟨w.heap.size, grownCap w (0 + n) 0 9, _, rfl, Nat.le_refl _, blk_new w.drew _, Nat.zero_le _, hm, ?_, by simp [encs]⟩⟩, below_alloc (below_drew (Below.refl _ _)) _⟩
    have hg' : n ≤ grownCap w (0 + n) 0 9 := by omega
    show (([] : List Value).toArray ++ Builtin.zeroCells #[.string ⟨#[]⟩] (0 + n - 0) ++ Builtin.zeroCells #[.string ⟨#[]⟩] (grownCap w (0 + n) 0 9 - (0 + n))).size = grownCap w (0 + n) 0 9 * 1
    generalize grownCap w (0 + n) 0 9 = c at hg' ⊢
    simp [Builtin.zeroCells]
    omega
theorem clone_calls {w : World} {v : Value} {l : List ByteArray} {G : Nat → Prop} (h : StrS w v l G) (hl : l.length ≤ 1099511627776) :
    Calls Try.prog 72 #[v] w fun e w' => ∃ v', e = .returned v' ∧ w'.ownsRow w.heap.size 9 1 v' l.length (encs Value.string l) ∧ Below w.heap.size w w' := by
  obtain ⟨A, c, rfl, h1, h2, h3⟩ := h
  cases l with
  | nil =>
    cases A with
    | none =>
      refine Calls.mono (Try.slices_Clone_string_nil 0 c w) ?_
      rintro e w' ⟨rfl, rfl⟩
      exact ⟨_, rfl, own_nil _ _ _ _, Below.refl _ _⟩
    | some a =>
      refine Calls.mono (Try.slices_Clone_string_zero a c w) ?_
      rintro e w' ⟨v', rfl, ho, _, hb⟩
      exact ⟨_, rfl, ho, hb⟩
  | cons x r =>
    obtain ⟨b, off, rfl, _, _⟩ := h3 0 (by simp)
    refine Calls.mono (Try.slices_Clone_string b off (x :: r).length c (x :: r) w (Nat.le_refl _) (by omega) (fun j hj => ?_)) ?_
    · obtain ⟨b', off', e, _, hc⟩ := h3 j hj
      injection e with e; injection e with e1 e2; subst e1 e2
      rw [hc, List.getD_eq_getElem?_getD, List.getElem?_eq_getElem hj]; rfl
    · rintro e w' ⟨v', rfl, ho, _, hb⟩
      rw [List.take_length] at ho
      exact ⟨_, rfl, ho, hb⟩
theorem StrS.readsOf {w : World} {A : Option Addr} {c : Nat} {l : List ByteArray} {G : Nat → Prop} (h : StrS w (.slice A l.length c) l G) : ReadsOf Value.string (⟨#[]⟩ : ByteArray) w A l.length l := by
  obtain ⟨A', c', e, h1, h2, h3⟩ := h
  injection e with e1 _ _
  subst e1
  refine ⟨rfl, by omega, fun hp => ?_⟩
  obtain ⟨b, off, rfl, _, _⟩ := h3 0 hp
  refine ⟨_, rfl, fun j hj => ?_⟩
  obtain ⟨b', off', e, _, hc⟩ := h3 j hj
  injection e with e; injection e with e1 e2; subst e1 e2
  rw [Addr.add_lit, hc, List.getD_eq_getElem?_getD, List.getElem?_eq_getElem hj]; rfl
set_option maxHeartbeats 1600000 in
set_option maxRecDepth 100000 in
theorem concat_calls {w : World} {g : Nat} {v1 v2 : Value} {l1 l2 : List ByteArray} {G1 G2 : Nat → Prop} (hg : w.heap[g]? = some (.cells #[v1, v2] 48 (0, 0))) (h1 : StrS w v1 l1 G1) (h2 : StrS w v2 l2 G2) (hl : l1.length + l2.length ≤ 1099511627776) :
    Calls Try.prog 70 #[.slice (some ⟨g, 0, none⟩) 2 2] w fun e w' => ∃ v', e = .returned v' ∧ w'.ownsRow w.heap.size 9 1 v' (l1 ++ l2).length (encs Value.string (l1 ++ l2)) ∧ Below w.heap.size w w' := by
  obtain ⟨A1, c1, rfl, k1, m1⟩ := h1.slice
  obtain ⟨A2, c2, rfl, k2, m2⟩ := h2.slice
  have HG := Aside0.mk hg
  have H1 := Aside0.mk h1
  have H2 := Aside0.mk h2
  clear h1 h2
  have a0 : w.cell? ⟨g, 0, none⟩ = some (.slice A1 l1.length c1) := (blk_cell hg 0).trans rfl
  have a1 : w.cell? ⟨g, 1, none⟩ = some (.slice A2 l2.length c2) := (blk_cell hg 1).trans rfl
  clear hg
  go_enter Try.func70, Try.ntmps70
  go_upto_region 3 with fail
  go_loop [3, 11] (fun v3 v11 => ∃ j : Nat, j ≤ 2 ∧ v11 = .int .i64 j ∧ v3 = .int .i64 ((if j = 0 then 0 else if j = 1 then l1.length else l1.length + l2.length : Nat) : Int)) (fun _ v11 => 2 - (intOf v11).toNat)
  case atStart => exact ⟨0, Nat.zero_le _, rfl, rfl⟩
  case round =>
    obtain ⟨j, hj, rfl, rfl⟩ := hrel
    have hjj : j = 0 ∨ j = 1 ∨ j = 2 := by omega
    rcases hjj with e | e | e
    · subst e
      simp only [if_true]
      go_wp2
      go_round
      case measure => simp [intOf]
      case rel => exact ⟨1, by omega, rfl, by simp⟩
    · subst e
      simp only [Nat.one_ne_zero, if_false, if_true]
      go_wp2
      go_round
      case measure => simp [intOf]
      case rel => exact ⟨2, by omega, rfl, by simp⟩
    · subst e
      rw [if_neg (by omega), if_neg (by omega)]
      generalize hN : l1.length + l2.length = N at hl ⊢
      have HN := Aside0.mk hN
      clear hN
      go_wp2_with fail
      refine Calls.mono (grow_calls N hl w) ?_
      rintro e w1 ⟨v, rfl, ho, hb⟩
      have RO := Aside0.mk ho
      have HB := Aside0.mk hb
      clear ho hb a0 a1
      have hN2 := hl
      clear hl
      go_upto_region 11 with fail
      go_loopw [6, 27] (fun v6 v27 w' => ∃ j : Nat, j ≤ 2 ∧ v27 = .int .i64 j ∧ Aside0 (w'.ownsRow w.heap.size 9 1 v6 (if j = 0 then [] else if j = 1 then l1 else l1 ++ l2).length (encs Value.string (if j = 0 then [] else if j = 1 then l1 else l1 ++ l2))) ∧ Aside0 (Below w.heap.size w w')) (fun _ v27 _ => 2 - (intOf v27).toNat)
      case atStart => exact ⟨0, Nat.zero_le _, rfl, RO, HB⟩
      case round =>
        clear RO HB
        obtain ⟨j, hj, rfl, RO, HB⟩ := hrel
        have b0 : wr.cell? ⟨g, 0, none⟩ = some (.slice A1 l1.length c1) := pw_cell_below HB.out ((blk_cell HG.out 0).trans rfl)
        have b1 : wr.cell? ⟨g, 1, none⟩ = some (.slice A2 l2.length c2) := pw_cell_below HB.out ((blk_cell HG.out 1).trans rfl)
        have hjj : j = 0 ∨ j = 1 ∨ j = 2 := by omega
        rcases hjj with e | e | e
        · subst e
          simp only [if_true] at RO
          obtain ⟨A0, c0, rfl⟩ := own_slice RO.out
          have HR := Aside0.mk (H1.out.below HB.out).readsOf
          go_wp2_with (first | ((with_reducible refine gate_builtin (b := .append) (xs := #[.tmp 31, .tmp 32]) rfl ?_); at_builtin; refine print_append_row_of (w0 := w) Value.string (⟨#[]⟩ : ByteArray) w.heap.size rfl (.tmp 31) (.tmp 32) 48 9 (.string ⟨#[]⟩) 16 rfl Try.underlying48 infoS rfl (by decide) (fun _ => rfl) _ [] l1 _ _ _ rfl rfl RO.out HR.out HB.out HB.out.size (by have := HN.out; simp; omega) ?_; intro v1 w3 q1 q4 q2 q3; obtain ⟨A3, c3, rfl⟩ := own_slice q1; have PP := Aside0.mk (And.intro q1 q4); clear q1 q2 q3 q4 RO HB))
          go_roundw
          case measure => simp [intOf]
          case rel => exact ⟨1, by omega, rfl, ⟨by simpa using PP.out.1⟩, ⟨PP.out.2⟩⟩
        · subst e
          simp only [Nat.one_ne_zero, if_false, if_true] at RO
          obtain ⟨A0, c0, rfl⟩ := own_slice RO.out
          have HR := Aside0.mk (H2.out.below HB.out).readsOf
          go_wp2_with (first | ((with_reducible refine gate_builtin (b := .append) (xs := #[.tmp 31, .tmp 32]) rfl ?_); at_builtin; refine print_append_row_of (w0 := w) Value.string (⟨#[]⟩ : ByteArray) w.heap.size rfl (.tmp 31) (.tmp 32) 48 9 (.string ⟨#[]⟩) 16 rfl Try.underlying48 infoS rfl (by decide) (fun _ => rfl) _ l1 l2 _ _ _ rfl rfl RO.out HR.out HB.out HB.out.size (by have := HN.out; simp; omega) ?_; intro v1 w3 q1 q4 q2 q3; obtain ⟨A3, c3, rfl⟩ := own_slice q1; have PP := Aside0.mk (And.intro q1 q4); clear q1 q2 q3 q4 RO HB))
          go_roundw
          case measure => simp [intOf]
          case rel => exact ⟨2, by omega, rfl, ⟨by simpa using PP.out.1⟩, ⟨PP.out.2⟩⟩
        · subst e
          rw [if_neg (by omega), if_neg (by omega)] at RO
          go_wp2
          go_ret
          exact ⟨_, rfl, RO.out, HB.out⟩
end

/-! ## A log and its strip in memory; what a strip's changes keep. No program here. -/
section
open Go.RowKit Go.Proofs.YtmgkflkpompchaaW.PrintWords Go.Proofs.YtmgkflkpompchaaW.PrintLast Go.Proofs.YtmgkflkpompchaaW.PrintMore Go.Proofs.Ytmgkflkpompchaa.Strip
set_option linter.unusedVariables false
set_option linter.unusedSimpArgs false

/-- What stays true of a strip's blocks and changes. -/
structure SInv (S : St) : Prop where
  idx : ∀ c ∈ S.loose, c.1 < S.safe.length
  siz : ∀ c ∈ S.loose, c.2.size = 32
  ssz : ∀ b ∈ S.safe, b.size = 32
  len : S.safe.length ≤ 65536
variable {S S' : St}
theorem SInv.cnt (h : SInv S) : SInv (cntS S) := ⟨h.idx, h.siz, h.ssz, h.len⟩
theorem SInv.tear (h : SInv S) (n : Int) : SInv (tearS S n) := ⟨h.idx, h.siz, h.ssz, h.len⟩
theorem SInv.write (h : SInv S) (i : Int) (b : ByteArray) : SInv (wrS S i b) := by
  unfold wrS
  split
  · rename_i ha
    split
    · rename_i hb
      split
      · have hz := at_zero ha
        refine ⟨?_, ?_, h.ssz, h.len⟩
        · intro c hx
          rcases List.mem_append.1 hx with hx | hx
          · exact h.idx c hx
          · simp at hx; subst hx; show i.toNat < S.safe.length; omega
        · intro c hx
          rcases List.mem_append.1 hx with hx | hx
          · exact h.siz c hx
          · simp at hx; subst hx; exact hb
      · exact h.cnt
    · exact h
  · exact h
theorem SInv.sync (h : SInv S) : SInv (syS S) := by
  unfold syS
  split
  · split
    · exact ⟨fun c hc => by simp at hc, fun c hc => by simp at hc, doAll_size 32 _ _ h.ssz h.siz, by show (doAll _ _).length ≤ _; rw [doAll_len]; exact h.len⟩
    · exact h.cnt
  · exact h
theorem SInv.fall (h : SInv S) (bl cr ke tn : Int) : SInv (fallS S bl cr ke tn) := by
  have hs := doAll_size 32 (S.loose.take (kp ke (S.loose.length + 1))) S.safe h.ssz (fun c hc => h.siz c (List.mem_of_mem_take hc))
  have hl := doAll_len (S.loose.take (kp ke (S.loose.length + 1))) S.safe
  unfold fallS
  generalize kp ke (S.loose.length + 1) = K at hs hl ⊢
  refine ⟨fun c hc => by simp [fallAt] at hc, fun c hc => by simp [fallAt] at hc, ?_, ?_⟩
  · unfold fallAt
    dsimp only
    split
    · exact hs
    · rename_i c hc
      have hmem := List.mem_of_getElem? hc
      intro b hb
      rcases List.mem_or_eq_of_mem_set hb with hb | rfl
      · exact hs b hb
      · have hi := h.idx c hmem
        rw [← hl] at hi
        have h1 := h.siz c hmem
        have h2 : ((doAll S.safe (S.loose.take K)).getD c.1 ⟨#[]⟩).size = 32 := by
          rw [List.getD_eq_getElem?_getD, List.getElem?_eq_getElem hi]
          exact hs _ (List.getElem_mem hi)
        have hk := kp_lt tn 33 (by omega)
        rw [ByteArray.size_append, ByteArray.size_extract, ByteArray.size_extract, h1, h2]; omega
  · unfold fallAt
    dsimp only
    split
    · rw [hl]; exact h.len
    · rw [List.length_set, hl]; exact h.len
theorem SInv.new (bl cr : Int) : SInv (newS bl cr) := by
  refine ⟨fun c hc => by simp [newS] at hc, fun c hc => by simp [newS] at hc, ?_, ?_⟩
  · intro b hb
    obtain rfl := List.eq_of_mem_replicate hb; exact zero_size
  · simp [newS]; exact newN_le bl
theorem wr_num (S : St) (i : Int) (b : ByteArray) : (wrS S i b).loose.length ≤ S.loose.length + 1 := by
  unfold wrS
  split
  · split
    · split
      · show (S.loose ++ _).length ≤ _; simp
      · show S.loose.length ≤ _; omega
    · omega
  · omega

/-! ### the log in memory -/
structure Wl where
  turn : Nat
  side : Nat
  size : Nat
  l : List ByteArray
  dead : Bool
def IsWal (B : Nat) (w : World) (q p : Nat) (W : Wl) (G : Nat → Prop) : Prop := ∃ vl,
  w.heap[q]? = some (.cells #[.pointer (some ⟨p, 0, none⟩), .int .i64 (W.turn : Int), .int .i64 (W.side : Int), .int .i64 (W.size : Int), .int .i64 (W.size : Int), vl, .bool W.dead] 106 (0, 0)) ∧
  StrS w vl W.l G ∧ G q ∧ (∀ k, G k → B ≤ k)
variable {B : Nat} {w w' : World} {p q : Nat} {F F' G G' : Nat → Prop} {W W' : Wl}
theorem IsWal.keep {X : Nat → Prop} (h : IsWal B w q p W G) (hk : Strip.Kept X w w') (hd : ∀ k, G k → ¬ X k) : IsWal B w' q p W G := by
  obtain ⟨vl, h1, h2, h3, h4⟩ := h
  exact ⟨vl, (hk.block q (blk_lt h1) (hd _ h3)).trans h1, h2.keep hk hd, h3, h4⟩
theorem IsWal.below (h : IsWal B w q p W G) (hb : Below w.heap.size w w') : IsWal B w' q p W G := h.keep (X := fun _ => False) (Strip.Kept.of_below hb) (fun _ _ => id)
theorem IsWal.cell0 (h : IsWal B w q p W G) : w.cell? ⟨q, 0, none⟩ = some (.pointer (some ⟨p, 0, none⟩)) := by
  obtain ⟨vl, h1, _⟩ := h; exact (blk_cell h1 0).trans rfl
theorem IsWal.shrink (h : IsWal B w q p W G) : ∃ G', IsWal B w q p W G' ∧ ∀ k, G' k → G k ∧ k < w.heap.size := by
  obtain ⟨vl, h1, h2, h3, h4⟩ := h
  exact ⟨fun k => G k ∧ k < w.heap.size, ⟨vl, h1, h2.mono (fun k hk hg => ⟨hg, hk⟩), ⟨h3, blk_lt h1⟩, fun k hk => h4 k hk.1⟩, fun k hk => hk⟩
/-- A strip and a log of its. -/
structure Both (B : Nat) (w : World) (p q : Nat) (S : St) (W : Wl) (F G : Nat → Prop) : Prop where
  a : IsStrip B w p S F
  b : IsWal B w q p W G
  dis : ∀ k, F k → ¬ G k
  fF : ∀ k, F k → k < w.heap.size
  fG : ∀ k, G k → k < w.heap.size
theorem Both.below (h : Both B w p q S W F G) (hb : Below w.heap.size w w') : Both B w' p q S W F G :=
  ⟨h.a.below hb, h.b.below hb, h.dis, fun k hk => Nat.lt_of_lt_of_le (h.fF k hk) hb.size, fun k hk => Nat.lt_of_lt_of_le (h.fG k hk) hb.size⟩
theorem Both.next (h : Both B w p q S W F G) (hs : IsStrip B w' p S' F') (hn : Strip.Next F F' w w') : ∃ F2, Both B w' p q S' W F2 G ∧ (∀ k, F2 k → F k ∨ w.heap.size ≤ k) := by
  obtain ⟨F2, g1, g2⟩ := hs.shrink
  refine ⟨F2, ⟨g1, h.b.keep hn.1 (fun k hg hf => h.dis k hf hg), fun k hf hg => ?_, fun k hk => (g2 k hk).2, fun k hk => Nat.lt_of_lt_of_le (h.fG k hk) hn.1.size⟩, fun k hk => hn.2 k (g2 k hk).1⟩
  rcases hn.2 k (g2 k hf).1 with f | f
  · exact h.dis k f hg
  · have := h.fG k hg; omega
theorem Both.thru (h : Both B w p q S W F G) (hB : B ≤ w.heap.size) (hn : Strip.Next F F' w w') : Below B w w' := hn.1.below h.a.ge hB
theorem Both.base (h : Both B w p q S W F G) : B ≤ w.heap.size := Nat.le_trans (h.a.ge _ h.a.own) (Nat.le_of_lt (h.fF _ h.a.own))
/-- A field of the log turns. -/
theorem Both.set (h : Both B w p q S W F G) (o : Nat) (v : Value)
    (hc : ∀ vl, (#[.pointer (some ⟨p, 0, none⟩), .int .i64 (W.turn : Int), .int .i64 (W.side : Int), .int .i64 (W.size : Int), .int .i64 (W.size : Int), vl, .bool W.dead] : Array Value).setIfInBounds o v =
      #[.pointer (some ⟨p, 0, none⟩), .int .i64 (W'.turn : Int), .int .i64 (W'.side : Int), .int .i64 (W'.size : Int), .int .i64 (W'.size : Int), vl, .bool W'.dead]) (hl : W'.l = W.l) : Both B (w.setCell ⟨q, o, none⟩ v) p q S W' F G := by
  obtain ⟨vl, h1, h2, h3, h4⟩ := h.b
  have hk : Strip.Kept (fun k => k = q) w (w.setCell ⟨q, o, none⟩ v) := (Strip.Kept.refl (fun k => k = q) w).set (g := q) _ (.inl rfl)
  have hs : (w.setCell ⟨q, o, none⟩ v).heap.size = w.heap.size := by simp [World.setCell]
  refine ⟨h.a.keep hk (fun k hf e => h.dis k hf (e ▸ h3)), ⟨vl, ?_, ?_, h3, h4⟩, h.dis, fun k hk => by rw [hs]; exact h.fF k hk, fun k hk => by rw [hs]; exact h.fG k hk⟩
  · rw [← hc vl]; exact blk_set h1 o v
  · rw [hl]
    obtain ⟨A, c, e, k1, k2, k3⟩ := h2
    refine ⟨A, c, e, k1, k2, fun j hj => ?_⟩
    obtain ⟨b, off, e1, hg, hx⟩ := k3 j hj
    refine ⟨b, off, e1, hg, ?_⟩
    by_cases hbq : b = q
    · subst hbq
      exfalso
      rw [blk_cell h1] at hx
      have hlt := (Array.getElem?_eq_some_iff.1 hx).1
      simp at hlt
      generalize off + j = m at hx hlt
      match m, hlt with
      | 0, _ => simp at hx
      | 1, _ => simp at hx
      | 2, _ => simp at hx
      | 3, _ => simp at hx
      | 4, _ => simp at hx
      | 5, _ => simp at hx; rw [e] at hx; cases hx
      | 6, _ => simp at hx
    · exact (cell_heap (hk.block b (World.block_lt_of_cell? w _ hx) hbq)).trans hx
theorem Both.ge (h : Both B w p q S W F G) : B ≤ q := by
  obtain ⟨vl, h1, h2, h3, h4⟩ := h.b; exact h4 q h3
end
end Go.Proofs.Ytmgkflkpompchaa.Wal
