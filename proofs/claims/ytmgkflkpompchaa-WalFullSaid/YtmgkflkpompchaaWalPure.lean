/- What a log's changes leave on its strip, and what a fall leaves of it. No program here. -/
import Derived.Test.YtmgkflkpompchaaWalFns
namespace Go.Proofs.Ytmgkflkpompchaa.Wal
/-! ## Blocks by their bytes; writes in a row. No program here. -/
section
open Go.RowKit Go.Proofs.YtmgkflkpompchaaW.PrintWords Go.Proofs.YtmgkflkpompchaaW.PrintLast Go.Proofs.YtmgkflkpompchaaW.PrintMore Go.Proofs.Ytmgkflkpompchaa.Strip
set_option linter.unusedVariables false
set_option linter.unusedSimpArgs false

def cb (c : ByteArray) (i : Nat) : UInt8 := c.data.toList.getD i 0
def by_ (D : List ByteArray) (i : Nat) : UInt8 := cb (D.getD (i / 32) ⟨#[]⟩) (i % 32)
theorem flat_get : ∀ (D : List ByteArray), (∀ b ∈ D, b.size = 32) → ∀ i, i < 32 * D.length → (flatL D)[i]? = some (by_ D i)
  | [], _, i, hi => by simp at hi
  | b :: r, h, i, hi => by
    have hb := h b List.mem_cons_self
    have hl : b.data.toList.length = 32 := by rw [ba_size, hb]
    show (b.data.toList ++ flatL r)[i]? = _
    rcases Nat.lt_or_ge i 32 with h1 | h1
    · rw [List.getElem?_append_left (by omega), List.getElem?_eq_getElem (by omega)]
      unfold by_ cb
      rw [Nat.div_eq_of_lt h1, Nat.mod_eq_of_lt h1, List.getD_cons_zero, List.getD_eq_getElem?_getD, List.getElem?_eq_getElem (by omega)]; rfl
    · rw [List.getElem?_append_right (by omega), hl, flat_get r (fun x hx => h x (List.mem_cons_of_mem _ hx)) (i - 32) (by simp at hi; omega)]
      unfold by_
      rw [show i / 32 = (i - 32) / 32 + 1 by omega, show i % 32 = (i - 32) % 32 by omega, List.getD_cons_succ]
theorem by_drop (D : List ByteArray) (f p : Nat) : by_ (D.drop f) p = by_ D (32 * f + p) := by
  unfold by_
  rw [show (32 * f + p) / 32 = f + p / 32 by omega, show (32 * f + p) % 32 = p % 32 by omega, List.getD_eq_getElem?_getD, List.getElem?_drop, ← List.getD_eq_getElem?_getD]
theorem bytes_eq (D : List ByteArray) (h : ∀ b ∈ D, b.size = 32) (f n : Nat) (hn : 32 * f + n ≤ 32 * D.length) : bytesB D f n = ⟨((List.range n).map fun p => by_ D (32 * f + p)).toArray⟩ := by
  apply ba_ext
  show (flatL (D.drop f)).take n = (List.range n).map fun p => by_ D (32 * f + p)
  apply List.ext_getElem?
  intro i
  rcases Nat.lt_or_ge i n with hi | hi
  · rw [List.getElem?_take_of_lt hi, flat_get (D.drop f) (fun b hb => h b (List.mem_of_mem_drop hb)) i (by rw [List.length_drop]; omega), List.getElem?_map, List.getElem?_range hi, by_drop]; rfl
  · rw [List.getElem?_eq_none (by rw [List.length_take]; omega), List.getElem?_eq_none (by simp; omega)]
theorem bytes_size (D : List ByteArray) (h : ∀ b ∈ D, b.size = 32) (f n : Nat) (hn : 32 * f + n ≤ 32 * D.length) : (bytesB D f n).size = n := by
  rw [bytes_eq D h f n hn, mk_size]; simp
theorem by_set (D : List ByteArray) (j : Nat) (c : ByteArray) (hj : j < D.length) (i : Nat) : by_ (D.set j c) i = if i / 32 = j then cb c (i % 32) else by_ D i := by
  unfold by_
  by_cases h : i / 32 = j
  · rw [if_pos h, h, List.getD_eq_getElem?_getD, List.getElem?_set_self hj]; rfl
  · rw [if_neg h, List.getD_eq_getElem?_getD, List.getElem?_set_ne (fun e => h e.symm), ← List.getD_eq_getElem?_getD]
/-- Chunks at blocks in a row. -/
def rowed : Nat → List ByteArray → List (Nat × ByteArray)
  | _, [] => []
  | i, c :: r => (i, c) :: rowed (i + 1) r
theorem rowed_len : ∀ (i : Nat) (cs : List ByteArray), (rowed i cs).length = cs.length
  | _, [] => rfl
  | i, c :: r => by show (rowed (i + 1) r).length + 1 = r.length + 1; rw [rowed_len]
theorem rowed_take : ∀ (i : Nat) (cs : List ByteArray) (k : Nat), (rowed i cs).take k = rowed i (cs.take k)
  | _, [], k => by simp [rowed]
  | i, c :: r, 0 => rfl
  | i, c :: r, k + 1 => by show (i, c) :: (rowed (i + 1) r).take k = (i, c) :: rowed (i + 1) (r.take k); rw [rowed_take]
theorem rowed_mem : ∀ (i : Nat) (cs : List ByteArray) (x : Nat × ByteArray), x ∈ rowed i cs → ∃ k, k < cs.length ∧ x.1 = i + k ∧ x.2 = cs.getD k ⟨#[]⟩
  | _, [], x, h => by simp [rowed] at h
  | i, c :: r, x, h => by
    rcases List.mem_cons.1 h with rfl | h
    · exact ⟨0, by simp, rfl, rfl⟩
    · obtain ⟨k, h1, h2, h3⟩ := rowed_mem (i + 1) r x h
      exact ⟨k + 1, by simpa using h1, by omega, by rw [h3]; rfl⟩
theorem by_doAll : ∀ (cs : List ByteArray) (i : Nat) (D : List ByteArray) (hi : i + cs.length ≤ D.length) (x : Nat),
    by_ (doAll D (rowed i cs)) x = if i ≤ x / 32 ∧ x / 32 < i + cs.length then cb (cs.getD (x / 32 - i) ⟨#[]⟩) (x % 32) else by_ D x
  | [], i, D, hi, x => by rw [if_neg (by simp)]; rfl
  | c :: r, i, D, hi, x => by
    show by_ (doAll (D.set i c) (rowed (i + 1) r)) x = _
    rw [by_doAll r (i + 1) (D.set i c) (by rw [List.length_set]; simp at hi; omega) x, by_set D i c (by simp at hi; omega)]
    simp only [List.length_cons] at hi ⊢
    by_cases h1 : x / 32 = i
    · rw [if_neg (by omega), if_pos h1, if_pos (by omega), h1, Nat.sub_self]; rfl
    · rw [if_neg h1]
      by_cases h2 : i + 1 ≤ x / 32 ∧ x / 32 < i + 1 + r.length
      · rw [if_pos h2, if_pos (by omega), show x / 32 - i = (x / 32 - (i + 1)) + 1 by omega]; rfl
      · rw [if_neg h2, if_neg (by omega)]
theorem getD_doAll : ∀ (cs : List ByteArray) (i : Nat) (D : List ByteArray) (j : Nat), j < i → (doAll D (rowed i cs)).getD j ⟨#[]⟩ = D.getD j ⟨#[]⟩
  | [], i, D, j, h => rfl
  | c :: r, i, D, j, h => by
    show (doAll (D.set i c) (rowed (i + 1) r)).getD j ⟨#[]⟩ = _
    rw [getD_doAll r (i + 1) _ j (by omega), List.getD_eq_getElem?_getD, List.getElem?_set_ne (by omega), ← List.getD_eq_getElem?_getD]
/-! ### chunks -/
theorem cb_append (a b : ByteArray) (i : Nat) : cb (a ++ b) i = if i < a.size then cb a i else cb b (i - a.size) := by
  unfold cb
  rw [show (a ++ b).data.toList = a.data.toList ++ b.data.toList by simp, List.getD_eq_getElem?_getD]
  split
  · rename_i h
    rw [List.getElem?_append_left (by rw [ba_size]; exact h), ← List.getD_eq_getElem?_getD]
  · rename_i h
    rw [List.getElem?_append_right (by rw [ba_size]; omega), ba_size, ← List.getD_eq_getElem?_getD]
theorem cb_extract (a : ByteArray) (i j x : Nat) (h : x < j - i) : cb (a.extract i j) x = cb a (i + x) := by
  unfold cb
  rw [ext_list, List.getD_eq_getElem?_getD, List.getElem?_drop, List.getElem?_take_of_lt (by omega), ← List.getD_eq_getElem?_getD]
theorem chunk_size (b : ByteArray) : (chunk b).size = 32 := by
  unfold chunk; rw [ByteArray.size_append, ByteArray.size_extract, zeroB_size]; omega
theorem chunk_cb (b : ByteArray) (x : Nat) (h : x < 32) (hb : x < b.size) : cb (chunk b) x = cb b x := by
  unfold chunk
  rw [cb_append, if_pos (by rw [ByteArray.size_extract]; omega), cb_extract _ _ _ _ (by omega), Nat.zero_add]
theorem chunks_len : ∀ (k : Nat) (b : ByteArray), b.size ≤ 32 * k → (chunksF k b).length = (b.size + 31) / 32
  | 0, b, h => by rw [show b.size = 0 by omega]; rfl
  | k + 1, b, h => by
    unfold chunksF
    split
    · rename_i h0; rw [h0]; rfl
    · rw [List.length_cons, chunks_len k (restB b) (by rw [restB_size]; omega), restB_size]; omega
theorem chunks_size : ∀ (k : Nat) (b : ByteArray), ∀ c ∈ chunksF k b, c.size = 32
  | 0, b, c, h => by simp [chunksF] at h
  | k + 1, b, c, h => by
    unfold chunksF at h
    split at h
    · simp at h
    · rcases List.mem_cons.1 h with rfl | h
      · exact chunk_size b
      · exact chunks_size k _ c h
theorem chunks_cb : ∀ (k : Nat) (b : ByteArray) (j x : Nat), b.size ≤ 32 * k → x < 32 → 32 * j + x < b.size → cb ((chunksF k b).getD j ⟨#[]⟩) x = cb b (32 * j + x)
  | 0, b, j, x, h, _, hx => by omega
  | k + 1, b, 0, x, h, h32, hx => by
    unfold chunksF
    rw [if_neg (by omega), List.getD_cons_zero, chunk_cb b x h32 (by omega)]
    simp
  | k + 1, b, j + 1, x, h, h32, hx => by
    unfold chunksF
    rw [if_neg (by omega), List.getD_cons_succ, chunks_cb k (restB b) j x (by rw [restB_size]; omega) h32 (by rw [restB_size]; omega)]
    unfold restB
    rw [cb_extract _ _ _ _ (by omega)]
    congr 1; omega
/-! ### writes in a row -/
theorem ask_up {S : St} (h : S.down = false) : askE S = 0 := by unfold askE; rw [h]; rfl
theorem ask_down {S : St} (h : S.down = true) : askE S = 8 := by unfold askE; rw [h]; rfl
theorem at_up {S : St} (h : S.down = false) {i : Nat} (hi : i < S.safe.length) : atE S (i : Int) = 0 := by unfold atE; rw [if_neg (by rw [h]; simp), if_neg (by omega)]
/-- What writes in a row answer, and leave. -/
theorem wrs_is : ∀ (cs : List ByteArray) (S : St) (i : Nat), S.down = false → i + cs.length ≤ S.safe.length → (∀ c ∈ cs, c.size = 32) →
    (wrs S i cs).2.safe = S.safe ∧ (wrs S i cs).2.crash = S.crash ∧
    (((wrs S i cs).1 = 0 ∧ (wrs S i cs).2.down = false ∧ (wrs S i cs).2.loose = S.loose ++ rowed i cs) ∨
     ((wrs S i cs).1 = 8 ∧ (wrs S i cs).2.down = true ∧ ∃ k, (wrs S i cs).2.loose = S.loose ++ rowed i (cs.take k)))
  | [], S, i, hd, _, _ => by
    refine ⟨rfl, rfl, .inl ⟨rfl, hd, ?_⟩⟩
    show S.loose = S.loose ++ []; simp
  | c :: r, S, i, hd, hi, hc => by
    simp only [List.length_cons] at hi
    have ha := at_up hd (i := i) (by omega)
    have hs := hc c List.mem_cons_self
    have hS : wrS S (i : Int) c = if askE (cntS S) = 0 then { cntS S with loose := S.loose ++ [(i, c)] } else cntS S := by
      unfold wrS; rw [if_pos ha, if_pos hs]; rfl
    have hE : wrE S (i : Int) c = askE (cntS S) := by unfold wrE; rw [if_pos ha, if_pos hs]
    cases hq : (cntS S).down with
    | false =>
      have h0 := ask_up hq
      have hw : wrs S i (c :: r) = wrs (wrS S (i : Int) c) (i + 1) r := by
        show (if wrE S (i : Int) c = 0 then _ else _) = _
        rw [hE, if_pos h0]
      rw [hw]
      rw [if_pos h0] at hS
      have hsafe : (wrS S (i : Int) c).safe = S.safe := by rw [hS]; rfl
      have := wrs_is r (wrS S (i : Int) c) (i + 1) (by rw [hS]; exact hq) (by rw [hsafe]; omega) (fun x hx => hc x (List.mem_cons_of_mem _ hx))
      rw [hsafe, show (wrS S (i : Int) c).crash = S.crash by rw [hS]; rfl, show (wrS S (i : Int) c).loose = S.loose ++ [(i, c)] by rw [hS]] at this
      obtain ⟨g1, g2, g3⟩ := this
      refine ⟨g1, g2, ?_⟩
      rcases g3 with ⟨a1, a2, a3⟩ | ⟨a1, a2, k, a3⟩
      · exact .inl ⟨a1, a2, by rw [a3, List.append_assoc]; rfl⟩
      · exact .inr ⟨a1, a2, k + 1, by rw [a3, List.append_assoc]; rfl⟩
    | true =>
      have h8 := ask_down hq
      have hw : wrs S i (c :: r) = (wrE S (i : Int) c, wrS S (i : Int) c) := by
        show (if wrE S (i : Int) c = 0 then _ else _) = _
        rw [hE, if_neg (by rw [h8]; decide)]
      rw [hw]
      rw [if_neg (by rw [h8]; decide)] at hS
      refine ⟨by show (wrS S (i : Int) c).safe = _; rw [hS]; rfl, by show (wrS S (i : Int) c).crash = _; rw [hS]; rfl, .inr ⟨by show wrE S (i : Int) c = 8; rw [hE, h8], by show (wrS S (i : Int) c).down = true; rw [hS]; exact hq, 0, ?_⟩⟩
      show (wrS S (i : Int) c).loose = _
      rw [hS]; show S.loose = S.loose ++ []; simp
end

/-! ## A head's block, whole, torn, and older. No program here. -/
section
open Go.RowKit Go.Proofs.YtmgkflkpompchaaW.PrintWords Go.Proofs.YtmgkflkpompchaaW.PrintLast Go.Proofs.YtmgkflkpompchaaW.PrintMore Go.Proofs.Ytmgkflkpompchaa.Strip
set_option linter.unusedVariables false
set_option linter.unusedSimpArgs false

theorem loop_eq (b : ByteArray) : ∀ (n i : Nat) (r : List UInt8), b.size - i = n → ByteArray.toList.loop b i r = r.reverse ++ b.data.toList.drop i
  | 0, i, r, h => by
    unfold ByteArray.toList.loop
    rw [if_neg (by omega), List.drop_eq_nil_of_le (by rw [ba_size]; omega), List.append_nil]
  | n + 1, i, r, h => by
    have hi : i < b.data.toList.length := by rw [ba_size]; omega
    unfold ByteArray.toList.loop
    rw [if_pos (by omega), loop_eq b n (i + 1) _ (by omega), List.drop_eq_getElem_cons hi]
    have : b.get! i = b.data.toList[i] := by
      show b.data[i]! = _
      have h2 : i < b.data.size := by show i < b.size; omega
      rw [getElem!_pos b.data i h2]; simp
    rw [this]; simp
theorem toList_eq (b : ByteArray) : b.toList = b.data.toList := by
  unfold ByteArray.toList
  rw [loop_eq b b.size 0 [] (by omega)]; simp
theorem toList_beq (a b : ByteArray) : (a.toList == b.toList) = true ↔ a = b := by
  rw [beq_iff_eq, toList_eq, toList_eq]
  exact ⟨ba_ext, fun h => by rw [h]⟩

theorem five (a b c d e : ByteArray) (ha : a.size = 8) (hb : b.size = 4) (hc : c.size = 4) (hd : d.size = 8) (he : e.size = 8) :
    (a ++ b ++ c ++ d ++ e).extract 0 8 = a ∧ (a ++ b ++ c ++ d ++ e).extract 8 12 = b ∧ (a ++ b ++ c ++ d ++ e).extract 12 16 = c ∧ (a ++ b ++ c ++ d ++ e).extract 24 32 = e := by
  rw [← ba_size] at ha hb hc hd he
  have hx : (a ++ b ++ c ++ d ++ e).data.toList = a.data.toList ++ (b.data.toList ++ (c.data.toList ++ (d.data.toList ++ e.data.toList))) := by simp
  refine ⟨?_, ?_, ?_, ?_⟩ <;> apply ba_ext <;> rw [ext_list, hx, List.drop_take]
  · rw [List.drop_zero, List.take_left' ha]
  · rw [List.drop_left' ha, List.take_left' hb]
  · rw [← List.append_assoc, List.drop_left' (by rw [List.length_append]; omega), List.take_left' hc]
  · rw [← List.append_assoc, ← List.append_assoc, ← List.append_assoc, List.drop_left' (by simp only [List.length_append]; omega), List.take_of_length_le (by omega)]
theorem zeroB8 : (zeroB 8).size = 8 := zeroB_size 8
theorem block_parts (t s z : Int) : (blockB t s z).extract 0 8 = numB t 8 ∧ (blockB t s z).extract 8 12 = numB s 4 ∧ (blockB t s z).extract 12 16 = numB z 4 ∧ (blockB t s z).extract 24 32 = numB t 8 :=
  five _ _ _ _ _ (numB_size _ _) (numB_size _ _) (numB_size _ _) zeroB8 (numB_size _ _)
theorem blockB_size (t s z : Int) : (blockB t s z).size = 32 := by
  unfold blockB; simp only [ByteArray.size_append, numB_size, zeroB_size]
/-- A whole head is read. -/
theorem head_read (t s z : Nat) (ht : t ≤ 1099511627776) (hs : s < 4294967296) (hz : z < 4294967296) : rhB (blockB t s z) = true ∧ rhT (blockB t s z) = t ∧ rhS (blockB t s z) = s ∧ rhZ (blockB t s z) = z := by
  obtain ⟨h1, h2, h3, h4⟩ := block_parts t s z
  have e1 : rhT (blockB t s z) = t := by unfold rhT; rw [h1, val_num8 _ (by omega) (by omega)]
  have e2 : rhS (blockB t s z) = s := by unfold rhS; rw [h2, val_num4 _ (by omega) (by omega)]
  have e3 : rhZ (blockB t s z) = z := by unfold rhZ; rw [h3, val_num4 _ (by omega) (by omega)]
  refine ⟨?_, e1, e2, e3⟩
  unfold rhB
  rw [e1, e2, e3, toList_beq]
/-- What is read as a head has its turn twice. -/
theorem read_twice (b : ByteArray) (h : rhB b = true) : rhT b = valB (b.extract 24 32) ∧ b.extract 0 8 = b.extract 24 32 := by
  unfold rhB at h
  rw [toList_beq] at h
  obtain ⟨h1, _, _, h4⟩ := block_parts (rhT b) (rhS b) (rhZ b)
  rw [h] at h1 h4
  exact ⟨by show valB (b.extract 0 8) = _; rw [h1, h4], by rw [h1, h4]⟩
def tb (T : Nat) : UInt8 := UInt8.ofNat (T % 256)
theorem cb_num (t : Nat) : cb (numB (t : Int) 8) 7 = tb t := by
  have : (numB (t : Int) 8).data.toList = (numL (t : Int) 8).map fun n => UInt8.ofNat n.toNat := by simp [numB, strOfNums]
  unfold cb
  rw [this]
  show UInt8.ofNat ((t : Int) / 1 % 256).toNat = _
  unfold tb
  congr 1
  omega
theorem tb_ne (a b : Nat) (h : a % 256 ≠ b % 256) : tb a ≠ tb b := by
  intro e
  unfold tb at e
  have h1 : (UInt8.ofNat (a % 256)).toNat = (UInt8.ofNat (b % 256)).toNat := by rw [e]
  rw [UInt8.toNat_ofNat', UInt8.toNat_ofNat'] at h1
  omega
theorem cb_first (b : ByteArray) : cb (b.extract 0 8) 7 = cb b 7 := cb_extract b 0 8 7 (by omega)
theorem cb_last (b : ByteArray) : cb (b.extract 24 32) 7 = cb b 31 := cb_extract b 24 32 7 (by omega)
/-- A block that no Open takes before the turn ahead of T, and that may be torn on its way to T. -/
def Small (T : Nat) (b : ByteArray) : Prop := valB (b.extract 24 32) + 1 < (T : Int) ∨ valB (b.extract 24 32) ≤ 0
def Old (T : Nat) (b : ByteArray) : Prop := b.size = 32 ∧ cb b 31 ≠ tb T ∧ (cb b 7 = tb T ∨ Small T b)
theorem Old.read {T : Nat} {b : ByteArray} (h : Old T b) (hr : rhB b = true) : rhT b + 1 < (T : Int) ∨ rhT b ≤ 0 := by
  obtain ⟨h1, h2⟩ := read_twice b hr
  rw [h1]
  rcases h.2.2 with h3 | h3
  · have h4 : cb b 7 = cb b 31 := by rw [← cb_first, h2, cb_last]
    exact absurd (h4.symm.trans h3) h.2.1
  · exact h3
theorem Old.tear {T : Nat} {b : ByteArray} (h : Old T b) (s z : Int) (t : Nat) (ht : t < 32) : Old T ((blockB (T : Int) s z).extract 0 t ++ b.extract t 32) := by
  have hs := blockB_size (T : Int) s z
  have hbs := h.1
  have hes : ((blockB (T : Int) s z).extract 0 t).size = t := by rw [ByteArray.size_extract]; omega
  have hsz : ((blockB (T : Int) s z).extract 0 t ++ b.extract t 32).size = 32 := by rw [ByteArray.size_append, hes, ByteArray.size_extract]; omega
  have hb7 : cb (blockB (T : Int) s z) 7 = tb T := by rw [← cb_first, (block_parts _ _ _).1, cb_num]
  refine ⟨hsz, ?_, ?_⟩
  · rw [cb_append, hes, if_neg (by omega), cb_extract _ _ _ _ (by omega), show t + (31 - t) = 31 by omega]; exact h.2.1
  · rcases Nat.lt_or_ge 7 t with h7 | h7
    · left
      rw [cb_append, hes, if_pos h7, cb_extract _ _ _ _ (by omega), Nat.zero_add, hb7]
    · have e1 : ((blockB (T : Int) s z).extract 0 t ++ b.extract t 32).extract 24 32 = b.extract 24 32 := by
        apply ba_ext
        have hl : ((blockB (T : Int) s z).extract 0 t).data.toList.length = t := by rw [ba_size, hes]
        rw [ext_list, ext_list, List.drop_take, List.drop_take, show ((blockB (T : Int) s z).extract 0 t ++ b.extract t 32).data.toList = ((blockB (T : Int) s z).extract 0 t).data.toList ++ (b.extract t 32).data.toList by simp,
          List.drop_append, List.drop_eq_nil_of_le (by omega), List.nil_append, hl, ext_list, List.drop_drop, List.drop_take, List.take_take]
        rw [show t + (24 - t) = 24 by omega]; rfl
      have e2 : cb ((blockB (T : Int) s z).extract 0 t ++ b.extract t 32) 7 = cb b 7 := by
        rw [cb_append, hes, if_neg (by omega), cb_extract _ _ _ _ (by omega), show t + (7 - t) = 7 by omega]
      rcases h.2.2 with h3 | h3
      · exact .inl (e2.trans h3)
      · right; unfold Small; rw [e1]; exact h3
theorem Old.next (C : Nat) (hC : C ≤ 1099511627776) (s z : Int) : Old (C + 1 + 1) (blockB (C : Int) s z) := by
  refine ⟨blockB_size _ _ _, ?_, .inr (.inl ?_)⟩
  · rw [← cb_last, (block_parts _ _ _).2.2.2, cb_num]
    exact tb_ne _ _ (by omega)
  · rw [(block_parts _ _ _).2.2.2, val_num8 _ (by omega) (by omega)]; omega
theorem zero_block : zero32 = blockB 0 0 0 := by
  apply ba_ext
  rfl
theorem Old.zero : Old 1 zero32 := by
  rw [zero_block]
  refine ⟨blockB_size _ _ _, ?_, .inr (.inr ?_)⟩
  · have := cb_num 0
    rw [← cb_last, (block_parts _ _ _).2.2.2, show ((0 : Int)) = ((0 : Nat) : Int) from rfl, cb_num]
    exact tb_ne _ _ (by omega)
  · rw [(block_parts _ _ _).2.2.2, val_num8 _ (by omega) (by omega)]; omega
end

/-! ## What a log leaves on its strip, and what a fall leaves of it. No program here. -/
section
open Go.RowKit Go.Proofs.YtmgkflkpompchaaW.PrintWords Go.Proofs.YtmgkflkpompchaaW.PrintLast Go.Proofs.YtmgkflkpompchaaW.PrintMore Go.Proofs.Ytmgkflkpompchaa.Strip
set_option linter.unusedVariables false
set_option linter.unusedSimpArgs false

structure Disk (D : List ByteArray) (C side size : Nat) (l : List ByteArray) : Prop where
  ssz : ∀ b ∈ D, b.size = 32
  len : D.length ≤ 65536
  new : C % 2 < D.length → D.getD (C % 2) ⟨#[]⟩ = blockB (C : Int) (side : Int) (size : Int)
  old : (C + 1) % 2 < D.length → Old (C + 1) (D.getD ((C + 1) % 2) ⟨#[]⟩)
  c0 : C = 0 → side = 0 ∧ size = 0
  two : D.length < 2 → C = 0
  hside : side ≤ 1
  hsize : size ≤ roomN D.length
  bytes : bytesB D (firstN D.length side) size = framedB l
variable {D D' : List ByteArray} {C side size : Nat} {l : List ByteArray}

theorem room_lt (h : D.length ≤ 65536) : roomN D.length ≤ 1048576 := by unfold roomN; omega
theorem step_no (c : Int × Int × Int) (b : ByteArray) (h : rhB b = true → rhT b ≤ c.1) : hdStep c b = c := by
  unfold hdStep; rw [if_neg (fun g => by have := h g.1; have := g.2; omega)]
theorem step_yes (c : Int × Int × Int) (b : ByteArray) (h : rhB b = true) (h2 : c.1 < rhT b) : hdStep c b = (rhT b, rhS b, rhZ b) := by
  unfold hdStep; rw [if_pos ⟨h, h2⟩]
theorem step_new (C side size : Nat) (hC : C ≤ 1099511627776) (hs : side ≤ 1) (hz : size ≤ 1048576) (h0 : C = 0 → side = 0 ∧ size = 0) (c : Int × Int × Int) (hc : c.1 < (C : Int) ∨ (C = 0 ∧ c = (0, 0, 0))) :
    hdStep c (blockB (C : Int) (side : Int) (size : Int)) = ((C : Int), (side : Int), (size : Int)) := by
  obtain ⟨g1, g2, g3, g4⟩ := head_read C side size hC (by omega) (by omega)
  rcases hc with hc | ⟨rfl, rfl⟩
  · rw [step_yes c _ g1 (by rw [g2]; exact hc), g2, g3, g4]
  · obtain ⟨rfl, rfl⟩ := h0 rfl
    rw [step_no _ _ (fun _ => by rw [g2]; simp)]; rfl
/-- The highest head is the log's. -/
theorem Disk.hd (h : Disk D C side size l) (hC : C ≤ 1099511627776) : hdS (D.take 2) = ((C : Int), (side : Int), (size : Int)) := by
  have hz := Nat.le_trans h.hsize (room_lt h.len)
  have hnew := h.new
  have hold := h.old
  have htwo := h.two
  cases D with
  | nil =>
    have hc := htwo (by simp)
    subst hc
    obtain ⟨rfl, rfl⟩ := h.c0 rfl
    rfl
  | cons a r =>
    cases r with
    | nil =>
      have hc := htwo (by simp)
      subst hc
      have h1 := hnew (by simp)
      obtain ⟨rfl, rfl⟩ := h.c0 rfl
      rw [show ([a] : List ByteArray).getD (0 % 2) ⟨#[]⟩ = a from rfl] at h1
      subst h1
      exact step_new 0 0 0 (by omega) (by omega) (by omega) (fun _ => ⟨rfl, rfl⟩) _ (.inr ⟨rfl, rfl⟩)
    | cons b r =>
      show hdStep (hdStep (0, 0, 0) a) b = _
      have h1 := hnew (by simp; omega)
      have h2 := hold (by simp; omega)
      rcases Nat.mod_two_eq_zero_or_one C with e | e
      · rw [e] at h1
        rw [show (C + 1) % 2 = 1 by omega] at h2
        rw [show (a :: b :: r).getD 0 ⟨#[]⟩ = a from rfl] at h1
        rw [show (a :: b :: r).getD 1 ⟨#[]⟩ = b from rfl] at h2
        subst h1
        rw [step_new C side size hC h.hside hz h.c0 _ ((Nat.eq_zero_or_pos C).elim (fun h0 => .inr ⟨h0, rfl⟩) (fun h0 => .inl (by show (0 : Int) < C; omega)))]
        exact step_no _ _ (fun g => by have := h2.read g; show rhT b ≤ (C : Int); omega)
      · rw [e] at h1
        rw [show (C + 1) % 2 = 0 by omega] at h2
        rw [show (a :: b :: r).getD 1 ⟨#[]⟩ = b from rfl] at h1
        rw [show (a :: b :: r).getD 0 ⟨#[]⟩ = a from rfl] at h2
        subst h1
        refine step_new C side size hC h.hside hz h.c0 _ (.inl ?_)
        unfold hdStep
        split
        · rename_i g
          have h3 := h2.read g.1
          have h4 : (0 : Int) < rhT a := g.2
          show rhT a < (C : Int); omega
        · show (0 : Int) < (C : Int); omega
theorem bytes_eq' (D : List ByteArray) (h : ∀ b ∈ D, b.size = 32) (f n : Nat) (hn : n = 0 ∨ 32 * f + n ≤ 32 * D.length) : bytesB D f n = ⟨((List.range n).map fun p => by_ D (32 * f + p)).toArray⟩ := by
  rcases hn with rfl | hn
  · apply ba_ext; show (flatL (D.drop f)).take 0 = _; simp
  · exact bytes_eq D h f n hn
theorem region (N side size : Nat) (hs : side ≤ 1) (hz : size ≤ roomN N) : size = 0 ∨ 32 * firstN N side + size ≤ 32 * N := by
  unfold roomN at hz
  unfold firstN
  rcases Nat.le_one_iff_eq_zero_or_eq_one.1 hs with rfl | rfl <;> omega

/-- Blocks that keep the heads, and what lies at a place. -/
structure Keeps (D D' : List ByteArray) (f size : Nat) : Prop where
  len : D'.length = D.length
  ssz : ∀ b ∈ D', b.size = 32
  heads : ∀ j, j < 2 → D'.getD j ⟨#[]⟩ = D.getD j ⟨#[]⟩
  at_ : ∀ p, p < size → by_ D' (32 * f + p) = by_ D (32 * f + p)
def Harmless (D : List ByteArray) (f size : Nat) (x : Nat × ByteArray) : Prop :=
  2 ≤ x.1 ∧ x.1 < D.length ∧ x.2.size = 32 ∧ ∀ p, p < size → (32 * f + p) / 32 = x.1 → cb x.2 ((32 * f + p) % 32) = by_ D (32 * f + p)
variable {f : Nat}
theorem set_sizes (D : List ByteArray) (h : ∀ b ∈ D, b.size = 32) (j : Nat) (c : ByteArray) (hc : c.size = 32) : ∀ b ∈ D.set j c, b.size = 32 := by
  intro b hb
  rcases List.mem_or_eq_of_mem_set hb with hb | rfl
  · exact h b hb
  · exact hc
theorem Keeps.refl (h : ∀ b ∈ D, b.size = 32) : Keeps D D f size := ⟨rfl, h, fun _ _ => rfl, fun _ _ => rfl⟩
theorem Keeps.set (h : Keeps D D' f size) {x : Nat × ByteArray} (hx : Harmless D f size x) : Keeps D (D'.set x.1 x.2) f size := by
  obtain ⟨h1, h2, h3, h4⟩ := hx
  refine ⟨by rw [List.length_set, h.len], set_sizes _ h.ssz _ _ h3, fun j hj => ?_, fun p hp => ?_⟩
  · rw [List.getD_eq_getElem?_getD, List.getElem?_set_ne (by omega), ← List.getD_eq_getElem?_getD]; exact h.heads j hj
  · rw [by_set _ _ _ (by rw [h.len]; exact h2)]
    split
    · rename_i e; exact h4 p hp e
    · exact h.at_ p hp
theorem Keeps.all : ∀ (xs : List (Nat × ByteArray)) {D' : List ByteArray}, Keeps D D' f size → (∀ x ∈ xs, Harmless D f size x) → Keeps D (doAll D' xs) f size
  | [], _, h, _ => h
  | x :: r, D', h, hx => Keeps.all r (h.set (hx x List.mem_cons_self)) (fun y hy => hx y (List.mem_cons_of_mem _ hy))
theorem torn_size (c b : ByteArray) (hc : c.size = 32) (hb : b.size = 32) (t : Nat) : (c.extract 0 t ++ b.extract t 32).size = 32 ∨ 32 < t := by
  rw [ByteArray.size_append, ByteArray.size_extract, ByteArray.size_extract]; omega
theorem getD_size (h : ∀ b ∈ D, b.size = 32) (j : Nat) (hj : j < D.length) : (D.getD j ⟨#[]⟩).size = 32 := by
  rw [List.getD_eq_getElem?_getD, List.getElem?_eq_getElem hj]; exact h _ (List.getElem_mem hj)
theorem Harmless.torn (h : Keeps D D' f size) {x : Nat × ByteArray} (hx : Harmless D f size x) (t : Nat) (ht : t < 33) : Harmless D f size (x.1, x.2.extract 0 t ++ (D'.getD x.1 ⟨#[]⟩).extract t 32) := by
  obtain ⟨h1, h2, h3, h4⟩ := hx
  have hb := getD_size h.ssz x.1 (by rw [h.len]; exact h2)
  refine ⟨h1, h2, (torn_size _ _ h3 hb t).elim id (fun g => by omega), fun p hp e => ?_⟩
  show cb (x.2.extract 0 t ++ (D'.getD x.1 ⟨#[]⟩).extract t 32) _ = _
  have hes : (x.2.extract 0 t).size = t := by rw [ByteArray.size_extract]; omega
  rw [cb_append, hes]
  split
  · rw [cb_extract _ _ _ _ (by omega), Nat.zero_add]; exact h4 p hp e
  · rw [cb_extract _ _ _ _ (by omega), show t + ((32 * f + p) % 32 - t) = (32 * f + p) % 32 by omega]
    have := h.at_ p hp
    unfold by_ at this
    rw [e] at this
    rw [this]; unfold by_; rw [e]
theorem Keeps.fall {S : St} (h : Keeps D S.safe f size) (hl : ∀ x ∈ S.loose, Harmless D f size x) (bl cr ke tn : Int) : Keeps D (fallS S bl cr ke tn).safe f size := by
  unfold fallS
  generalize kp ke (S.loose.length + 1) = K
  have hk := Keeps.all (S.loose.take K) h (fun x hx => hl x (List.mem_of_mem_take hx))
  rcases Nat.lt_or_ge K S.loose.length with hK | hK
  · rw [fallAt_some S cr tn K hK]
    exact hk.set (Harmless.torn hk (hl _ (List.getElem_mem hK)) _ (kp_lt tn 33 (by omega)))
  · unfold fallAt
    rw [List.getElem?_eq_none hK]
    exact hk
theorem Disk.keep (h : Disk D C side size l) (hk : Keeps D D' (firstN D.length side) size) : Disk D' C side size l := by
  refine ⟨hk.ssz, by rw [hk.len]; exact h.len, fun hh => ?_, fun hh => ?_, h.c0, by rw [hk.len]; exact h.two, h.hside, by rw [hk.len]; exact h.hsize, ?_⟩
  · rw [hk.heads _ (by omega)]; exact h.new (by rw [← hk.len]; exact hh)
  · rw [hk.heads _ (by omega)]; exact h.old (by rw [← hk.len]; exact hh)
  · have hr := region D.length side size h.hside h.hsize
    rw [← h.bytes, hk.len, bytes_eq' D h.ssz _ _ hr, bytes_eq' D' hk.ssz _ _ (by rw [hk.len]; exact hr)]
    apply ba_ext
    show List.map _ _ = List.map _ _
    exact List.map_congr_left (fun p hp => hk.at_ p (List.mem_range.1 hp))
theorem first_ge (N side : Nat) : 2 ≤ firstN N side := by unfold firstN; omega
/-- A head's block does not touch the bytes. -/
theorem by_head (D : List ByteArray) (N side j : Nat) (c : ByteArray) (hj : j < 2) (hl : j < D.length) (p : Nat) : by_ (D.set j c) (32 * firstN N side + p) = by_ D (32 * firstN N side + p) := by
  have := first_ge N side
  rw [by_set _ _ _ hl, if_neg (by omega)]
theorem bytes_head (D : List ByteArray) (h : ∀ b ∈ D, b.size = 32) (side size j : Nat) (c : ByteArray) (hc : c.size = 32) (hj : j < 2) (hl : j < D.length) (hs : side ≤ 1) (hz : size ≤ roomN D.length) :
    bytesB (D.set j c) (firstN D.length side) size = bytesB D (firstN D.length side) size := by
  have hr := region D.length side size hs hz
  rw [bytes_eq' D h _ _ hr, bytes_eq' _ (set_sizes D h j c hc) _ _ (by rw [List.length_set]; exact hr)]
  apply ba_ext
  show List.map _ _ = List.map _ _
  exact List.map_congr_left (fun p hp => by_head D _ _ _ _ hj hl p)
/-- The older head is torn. -/
theorem Disk.slot (h : Disk D C side size l) (h2 : 2 ≤ D.length) {b : ByteArray} (hb : Old (C + 1) b) : Disk (D.set ((C + 1) % 2) b) C side size l := by
  have hl : (D.set ((C + 1) % 2) b).length = D.length := by rw [List.length_set]
  refine ⟨set_sizes D h.ssz _ _ hb.1, by rw [hl]; exact h.len, fun _ => ?_, fun hh => ?_, h.c0, by rw [hl]; exact h.two, h.hside, by rw [hl]; exact h.hsize, ?_⟩
  · rw [List.getD_eq_getElem?_getD, List.getElem?_set_ne (by omega), ← List.getD_eq_getElem?_getD]; exact h.new (by omega)
  · rw [List.getD_eq_getElem?_getD, List.getElem?_set_self (by omega)]; exact hb
  · rw [hl, bytes_head D h.ssz _ _ _ _ hb.1 (by omega) (by omega) h.hside h.hsize]; exact h.bytes
/-- The next head is put. -/
theorem Disk.head (h : Disk D C side size l) (h2 : 2 ≤ D.length) (hC : C ≤ 1099511627776) {side' size' : Nat} {l' : List ByteArray} (hs : side' ≤ 1) (hz : size' ≤ roomN D.length) (hb : bytesB D (firstN D.length side') size' = framedB l') :
    Disk (D.set ((C + 1) % 2) (blockB ((C + 1 : Nat) : Int) (side' : Int) (size' : Int))) (C + 1) side' size' l' := by
  have hl : (D.set ((C + 1) % 2) (blockB ((C + 1 : Nat) : Int) (side' : Int) (size' : Int))).length = D.length := by rw [List.length_set]
  refine ⟨set_sizes D h.ssz _ _ (blockB_size _ _ _), by rw [hl]; exact h.len, fun _ => ?_, fun hh => ?_, fun g => by omega, fun g => by rw [hl] at g; omega, hs, by rw [hl]; exact hz, ?_⟩
  · rw [List.getD_eq_getElem?_getD, List.getElem?_set_self (by omega)]; rfl
  · rw [List.getD_eq_getElem?_getD, List.getElem?_set_ne (by omega), ← List.getD_eq_getElem?_getD, show (C + 1 + 1) % 2 = C % 2 by omega, h.new (by omega)]
    exact Old.next C hC _ _
  · rw [hl, bytes_head D h.ssz _ _ _ _ (blockB_size _ _ _) (by omega) (by omega) hs hz]; exact hb
/-- A new strip. -/
theorem Disk.fresh (bl cr : Int) : Disk (newS bl cr).safe 0 0 0 [] := by
  have hs := (SInv.new bl cr).ssz
  have hl := (SInv.new bl cr).len
  have hg : ∀ j, j < (newS bl cr).safe.length → (newS bl cr).safe.getD j ⟨#[]⟩ = zero32 := by
    intro j hj
    rw [List.getD_eq_getElem?_getD, List.getElem?_eq_getElem hj]
    exact List.eq_of_mem_replicate (List.getElem_mem hj)
  refine ⟨hs, hl, fun h => ?_, fun h => ?_, fun _ => ⟨rfl, rfl⟩, fun _ => rfl, by omega, Nat.zero_le _, ?_⟩
  · rw [hg _ h, zero_block]; rfl
  · rw [hg _ h]; exact Old.zero
  · simp [bytesB, framedB, framedL]
end

/-! ## A log's change of its strip: done, or fallen in. No program here. -/
section
open Go.RowKit Go.Proofs.YtmgkflkpompchaaW.PrintWords Go.Proofs.YtmgkflkpompchaaW.PrintLast Go.Proofs.YtmgkflkpompchaaW.PrintMore Go.Proofs.Ytmgkflkpompchaa.Strip
set_option linter.unusedVariables false
set_option linter.unusedSimpArgs false

/-- What put's parts are: where, and what. -/
def putI (S : St) (side at_ : Nat) : Nat := firstN S.safe.length side + at_ / 32
def putC (S : St) (side at_ : Nat) (b : ByteArray) : List ByteArray := chunksF (aheadB S side at_ b).size (aheadB S side at_ b)
variable {S : St} {side at_ : Nat} {b : ByteArray}
theorem ahead_size (hi : SInv S) (hs : side ≤ 1) (hr : at_ ≤ roomN S.safe.length) : (aheadB S side at_ b).size = at_ % 32 + b.size := by
  have h1 : (bytesB S.safe (firstN S.safe.length side) at_).size = at_ := by
    rw [bytes_eq' _ hi.ssz _ _ (region _ _ _ hs hr), mk_size]; simp
  unfold aheadB
  rw [ByteArray.size_append, ByteArray.size_extract, h1]; omega
theorem putC_len (hi : SInv S) (hs : side ≤ 1) (hr : at_ ≤ roomN S.safe.length) : (putC S side at_ b).length = (at_ % 32 + b.size + 31) / 32 := by
  unfold putC; rw [chunks_len _ _ (by omega), ahead_size hi hs hr]
theorem putC_fits (hi : SInv S) (hs : side ≤ 1) (hr : at_ + b.size ≤ roomN S.safe.length) (h2 : 2 ≤ S.safe.length) : putI S side at_ + (putC S side at_ b).length ≤ S.safe.length := by
  rw [putC_len hi hs (by omega)]
  unfold putI firstN
  unfold roomN at hr
  rcases Nat.le_one_iff_eq_zero_or_eq_one.1 hs with rfl | rfl <;> omega
theorem putC_sizes : ∀ c ∈ putC S side at_ b, c.size = 32 := chunks_size _ _
theorem cb_of (l : List UInt8) (i : Nat) : cb ⟨l.toArray⟩ i = l.getD i 0 := rfl
theorem ahead_cb (hi : SInv S) (hs : side ≤ 1) (hr : at_ ≤ roomN S.safe.length) (x : Nat) : cb (aheadB S side at_ b) x = if x < at_ % 32 then by_ S.safe (32 * firstN S.safe.length side + at_ / 32 * 32 + x) else cb b (x - at_ % 32) := by
  have h0 := bytes_eq' _ hi.ssz _ _ (region _ _ _ hs hr)
  have h1 : (bytesB S.safe (firstN S.safe.length side) at_).size = at_ := by rw [h0, mk_size]; simp
  have h2 : ((bytesB S.safe (firstN S.safe.length side) at_).extract (at_ / 32 * 32) at_).size = at_ % 32 := by rw [ByteArray.size_extract, h1]; omega
  unfold aheadB
  rw [cb_append, h2]
  split
  · rename_i hx
    rw [cb_extract _ _ _ _ (by omega), h0, cb_of, List.getD_eq_getElem?_getD, List.getElem?_map, List.getElem?_range (by omega)]
    show by_ _ _ = by_ _ _
    rw [Nat.add_assoc]
  · rfl
/-- A byte of a chunk. -/
theorem putC_cb (hi : SInv S) (hs : side ≤ 1) (hr : at_ ≤ roomN S.safe.length) (j x : Nat) (hx : x < 32) (h : 32 * j + x < at_ % 32 + b.size) : cb ((putC S side at_ b).getD j ⟨#[]⟩) x = if 32 * j + x < at_ % 32 then by_ S.safe (32 * firstN S.safe.length side + at_ / 32 * 32 + (32 * j + x)) else cb b (32 * j + x - at_ % 32) := by
  unfold putC
  rw [chunks_cb _ _ j x (by omega) hx (by rw [ahead_size hi hs hr]; exact h), ahead_cb hi hs hr]
/-- What put leaves. -/
theorem put_is (hi : SInv S) (hd : S.down = false) (hlo : S.loose = []) (hs : side ≤ 1) (hr : at_ + b.size ≤ roomN S.safe.length) (h2 : 2 ≤ S.safe.length) (turn size : Nat) :
    ((putR S turn side size at_ b).1 = 0 ∧ (putR S turn side size at_ b).2.down = false ∧ (putR S turn side size at_ b).2.loose = [] ∧ (putR S turn side size at_ b).2.safe = (doAll S.safe (rowed (putI S side at_) (putC S side at_ b))).set (turn % 2) (blockB (turn : Int) (side : Int) (size : Int))) ∨
    ((putR S turn side size at_ b).1 = 8 ∧ (putR S turn side size at_ b).2.down = true ∧
      (((putR S turn side size at_ b).2.safe = S.safe ∧ ∃ k, (putR S turn side size at_ b).2.loose = rowed (putI S side at_) ((putC S side at_ b).take k)) ∨
       ((putR S turn side size at_ b).2.safe = doAll S.safe (rowed (putI S side at_) (putC S side at_ b)) ∧ ((putR S turn side size at_ b).2.loose = [] ∨ (putR S turn side size at_ b).2.loose = [(turn % 2, blockB (turn : Int) (side : Int) (size : Int))])))) := by
  obtain ⟨g1, g2, g3⟩ := wrs_is (putC S side at_ b) S (putI S side at_) hd (putC_fits hi hs hr h2) putC_sizes
  rw [hlo, List.nil_append] at g3
  have hW : putW S side at_ b = wrs S (putI S side at_) (putC S side at_ b) := rfl
  unfold putR
  rw [hW]
  generalize hw : wrs S (putI S side at_) (putC S side at_ b) = r at g1 g2 g3 ⊢
  obtain ⟨e, S1⟩ := r
  dsimp only at g1 g2 g3 ⊢
  rcases g3 with ⟨a1, a2, a3⟩ | ⟨a1, a2, k, a3⟩
  · rw [if_pos a1]
    unfold headR
    have hq : askE S1 = 0 := ask_up a2
    cases hc : (cntS S1).down with
    | true =>
      have h8 := ask_down hc
      have hy : syS S1 = cntS S1 := by unfold syS; rw [if_pos hq, if_neg (by rw [h8]; decide)]
      have hye : syE S1 = 8 := by unfold syE; rw [if_pos hq, h8]
      rw [if_neg (by rw [hye]; decide), hye, hy]
      refine .inr ⟨rfl, hc, .inl ⟨g1, (putC S side at_ b).length, ?_⟩⟩
      rw [List.take_length]; exact a3
    | false =>
      have h0 := ask_up hc
      have hy : syS S1 = { cntS S1 with safe := doAll S1.safe S1.loose, loose := [] } := by unfold syS; rw [if_pos hq, if_pos h0]
      have hye : syE S1 = 0 := by unfold syE; rw [if_pos hq, h0]
      rw [if_pos hye]
      have e1 : (syS S1).safe = doAll S.safe (rowed (putI S side at_) (putC S side at_ b)) := by rw [hy]; show doAll S1.safe S1.loose = _; rw [g1, a3]
      have e2 : (syS S1).loose = [] := by rw [hy]
      have e3 : (syS S1).down = false := by rw [hy]; exact hc
      generalize syS S1 = S2 at e1 e2 e3 ⊢
      have hl2 : S2.safe.length = S.safe.length := by rw [e1, doAll_len]
      have ha := at_up e3 (i := turn % 2) (by omega)
      have hbs := blockB_size (turn : Int) (side : Int) (size : Int)
      generalize blockB (turn : Int) (side : Int) (size : Int) = hb at hbs ⊢
      have hE : wrE S2 ((turn % 2 : Nat) : Int) hb = askE (cntS S2) := by unfold wrE; rw [if_pos ha, if_pos hbs]
      cases hc2 : (cntS S2).down with
      | true =>
        have h8 := ask_down hc2
        have hw2 : wrS S2 ((turn % 2 : Nat) : Int) hb = cntS S2 := by unfold wrS; rw [if_pos ha, if_pos hbs, if_neg (by rw [h8]; decide)]
        rw [if_neg (by rw [hE, h8]; decide), hE, h8, hw2]
        exact .inr ⟨rfl, hc2, .inr ⟨e1, .inl e2⟩⟩
      | false =>
        have h00 := ask_up hc2
        have hw2 : wrS S2 ((turn % 2 : Nat) : Int) hb = { cntS S2 with loose := S2.loose ++ [(turn % 2, hb)] } := by unfold wrS; rw [if_pos ha, if_pos hbs, if_pos h00]; rfl
        rw [if_pos (by rw [hE, h00])]
        have k1 : (wrS S2 ((turn % 2 : Nat) : Int) hb).safe = S2.safe := by rw [hw2]; rfl
        have k2 : (wrS S2 ((turn % 2 : Nat) : Int) hb).loose = [(turn % 2, hb)] := by rw [hw2, e2]; rfl
        have k3 : (wrS S2 ((turn % 2 : Nat) : Int) hb).down = false := by rw [hw2]; exact hc2
        generalize wrS S2 ((turn % 2 : Nat) : Int) hb = S3 at k1 k2 k3 ⊢
        have hq3 : askE S3 = 0 := ask_up k3
        cases hc3 : (cntS S3).down with
        | true =>
          have h8 := ask_down hc3
          have hy3 : syS S3 = cntS S3 := by unfold syS; rw [if_pos hq3, if_neg (by rw [h8]; decide)]
          have hye3 : syE S3 = 8 := by unfold syE; rw [if_pos hq3, h8]
          rw [hye3, hy3]
          exact .inr ⟨rfl, hc3, .inr ⟨k1.trans e1, .inr k2⟩⟩
        | false =>
          have h03 := ask_up hc3
          have hy3 : syS S3 = { cntS S3 with safe := doAll S3.safe S3.loose, loose := [] } := by unfold syS; rw [if_pos hq3, if_pos h03]
          have hye3 : syE S3 = 0 := by unfold syE; rw [if_pos hq3, h03]
          rw [hye3, hy3]
          refine .inl ⟨rfl, hc3, rfl, ?_⟩
          show doAll S3.safe S3.loose = _
          rw [k1, k2, e1]; rfl
  · rw [if_neg (by rw [a1]; decide)]
    exact .inr ⟨a1, a2, .inl ⟨g1, k, a3⟩⟩
/-- The change goes behind all, or to the other side. -/
def Apart (C_side C_size side at_ : Nat) : Prop := (side = C_side ∧ at_ = C_size) ∨ (side ≤ 1 ∧ side ≠ C_side ∧ at_ = 0)
variable {C cs cz : Nat} {l : List ByteArray}
theorem put_harmless (hi : SInv S) (h : Disk S.safe C cs cz l) (hs : side ≤ 1) (hr : at_ + b.size ≤ roomN S.safe.length) (h2 : 2 ≤ S.safe.length) (ha : Apart cs cz side at_) :
    ∀ x ∈ rowed (putI S side at_) (putC S side at_ b), Harmless S.safe (firstN S.safe.length cs) cz x := by
  intro x hx
  have hfit := putC_fits (b := b) hi hs hr h2
  obtain ⟨k, hk, e1, e2⟩ := rowed_mem _ _ _ hx
  have hfg := first_ge S.safe.length side
  have hlen := putC_len (b := b) hi hs (at_ := at_) (by omega)
  refine ⟨by rw [e1]; unfold putI; omega, by omega, ?_, fun p hp e => ?_⟩
  · rw [e2]
    exact putC_sizes _ (by rw [List.getD_eq_getElem?_getD, List.getElem?_eq_getElem hk]; exact List.getElem_mem hk)
  · rw [e1] at e
    unfold putI at e
    rcases ha with ⟨rfl, rfl⟩ | ⟨h3, h4, rfl⟩
    · have hk0 : k = 0 := by omega
      subst hk0
      rw [e2, putC_cb hi hs (by omega) 0 _ (by omega) (by omega), if_pos (by omega)]
      congr 1
      omega
    · exfalso
      have hz := h.hsize
      have hcs := h.hside
      unfold firstN at e
      unfold roomN at hz hr
      rw [hlen] at hk
      rcases Nat.le_one_iff_eq_zero_or_eq_one.1 hcs with rfl | rfl <;> rcases Nat.le_one_iff_eq_zero_or_eq_one.1 h3 with rfl | rfl <;> omega
/-- The bytes when all is done. -/
theorem put_bytes (hi : SInv S) (hs : side ≤ 1) (hr : at_ + b.size ≤ roomN S.safe.length) (h2 : 2 ≤ S.safe.length) :
    bytesB (doAll S.safe (rowed (putI S side at_) (putC S side at_ b))) (firstN S.safe.length side) (at_ + b.size) = bytesB S.safe (firstN S.safe.length side) at_ ++ b := by
  have hfit := putC_fits (b := b) hi hs hr h2
  have hlen := putC_len (b := b) hi hs (at_ := at_) (by omega)
  have hsz : ∀ x ∈ doAll S.safe (rowed (putI S side at_) (putC S side at_ b)), x.size = 32 := doAll_size 32 _ _ hi.ssz (fun c hc => by
    obtain ⟨k, hk, e1, e2⟩ := rowed_mem _ _ _ hc
    rw [e2]
    exact putC_sizes _ (by rw [List.getD_eq_getElem?_getD, List.getElem?_eq_getElem hk]; exact List.getElem_mem hk))
  rw [bytes_eq' _ hsz _ _ (by rw [doAll_len]; exact region _ _ _ hs hr), bytes_eq' _ hi.ssz _ _ (region _ _ _ hs (by omega))]
  apply ba_ext
  rw [show ((⟨((List.range at_).map fun p => by_ S.safe (32 * firstN S.safe.length side + p)).toArray⟩ : ByteArray) ++ b).data.toList = ((List.range at_).map fun p => by_ S.safe (32 * firstN S.safe.length side + p)) ++ b.data.toList by simp]
  show List.map _ _ = _
  apply List.ext_getElem?
  intro p
  rcases Nat.lt_or_ge p (at_ + b.size) with hp | hp
  · rw [List.getElem?_map, List.getElem?_range hp]
    show some (by_ _ _) = _
    rw [by_doAll _ _ _ hfit]
    have hfg := first_ge S.safe.length side
    rcases Nat.lt_or_ge p at_ with hq | hq
    · rw [List.getElem?_append_left (by simp; omega), List.getElem?_map, List.getElem?_range hq]
      show _ = some _
      congr 1
      split
      · rename_i hc
        unfold putI at hc ⊢
        rw [putC_cb hi hs (by omega) _ _ (by omega) (by omega), if_pos (by omega)]
        congr 1
        omega
      · rfl
    · rw [List.getElem?_append_right (by simp; omega), List.length_map, List.length_range]
      have hin : p - at_ < b.data.toList.length := by rw [ba_size]; omega
      rw [if_pos (by unfold putI; rw [hlen]; omega)]
      unfold putI
      rw [putC_cb hi hs (by omega) _ _ (by omega) (by omega), if_neg (by omega), List.getElem?_eq_getElem hin]
      unfold cb
      rw [show 32 * ((32 * firstN S.safe.length side + p) / 32 - (firstN S.safe.length side + at_ / 32)) + (32 * firstN S.safe.length side + p) % 32 - at_ % 32 = p - at_ by omega, List.getD_eq_getElem?_getD, List.getElem?_eq_getElem hin]; rfl
  · rw [List.getElem?_eq_none (by simp; omega), List.getElem?_eq_none (by rw [List.length_append, List.length_map, List.length_range, ba_size]; omega)]
end

/-! ## A log's Append and Checkpoint: what stands after. No program here. -/
section
open Go.RowKit Go.Proofs.YtmgkflkpompchaaW.PrintWords Go.Proofs.YtmgkflkpompchaaW.PrintLast Go.Proofs.YtmgkflkpompchaaW.PrintMore Go.Proofs.Ytmgkflkpompchaa.Strip
set_option linter.unusedVariables false
set_option linter.unusedSimpArgs false

/-- A log that lives, on its strip. -/
structure Whole (S : St) (W : Wl) : Prop where
  inv : SInv S
  up : S.down = false
  lo : S.loose = []
  disk : Disk S.safe W.turn W.side W.size W.l
  live : W.dead = false
  turn : W.turn ≤ 1000000
  sum : W.size = (framedL W.l).length
/-- A strip that fell in a change: whatever stays of it. -/
def Fell (S : St) (C cs cz : Nat) (l : List ByteArray) (C' cs' cz' : Nat) (l' : List ByteArray) : Prop :=
  ∀ bl cr ke tn, Disk (fallS S bl cr ke tn).safe C cs cz l ∨ Disk (fallS S bl cr ke tn).safe C' cs' cz' l'
/-- A strip that does not fall of itself. -/
def Quiet (S : St) (M : Int) : Prop := S.crash ≤ 0 ∧ 0 ≤ S.count ∧ S.count ≤ M
theorem Quiet.next {S : St} {M : Int} (h : Quiet S M) (hM : M ≤ 1099511627776) : (cntS S).down = false ∧ Quiet (cntS S) (M + 1) := by
  obtain ⟨h1, h2, h3⟩ := h
  have hw : wrap64 (S.count + 1) = S.count + 1 := by unfold wrap64; omega
  refine ⟨?_, h1, ?_, ?_⟩
  · show (wrap64 (S.count + 1) == S.crash) = false
    rw [hw, beq_eq_false_iff_ne]; omega
  · show 0 ≤ wrap64 (S.count + 1); rw [hw]; omega
  · show wrap64 (S.count + 1) ≤ M + 1; rw [hw]; omega
theorem Quiet.mono {S : St} {M N : Int} (h : Quiet S M) (hN : M ≤ N) : Quiet S N := ⟨h.1, h.2.1, by have := h.2.2; omega⟩
theorem quiet_wrs : ∀ (cs : List ByteArray) (S : St) (i : Nat) (M : Int), S.down = false → i + cs.length ≤ S.safe.length → (∀ c ∈ cs, c.size = 32) → Quiet S M → M + cs.length ≤ 1099511627776 →
    (wrs S i cs).1 = 0 ∧ Quiet (wrs S i cs).2 (M + cs.length)
  | [], S, i, M, hd, _, _, hq, hM => ⟨rfl, hq.mono (by simp)⟩
  | c :: r, S, i, M, hd, hi, hc, hq, hM => by
    simp only [List.length_cons] at hi hM ⊢
    have ha := at_up hd (i := i) (by omega)
    have hs := hc c List.mem_cons_self
    obtain ⟨n1, n2⟩ := hq.next (by omega)
    have h0 := ask_up n1
    have hS : wrS S (i : Int) c = { cntS S with loose := S.loose ++ [(i, c)] } := by
      unfold wrS; rw [if_pos ha, if_pos hs, if_pos h0]; rfl
    have hE : wrE S (i : Int) c = 0 := by unfold wrE; rw [if_pos ha, if_pos hs, h0]
    have hw : wrs S i (c :: r) = wrs (wrS S (i : Int) c) (i + 1) r := by
      show (if wrE S (i : Int) c = 0 then _ else _) = _
      rw [hE, if_pos rfl]
    rw [hw]
    have hsafe : (wrS S (i : Int) c).safe = S.safe := by rw [hS]; rfl
    obtain ⟨a1, a2⟩ := quiet_wrs r (wrS S (i : Int) c) (i + 1) (M + 1) (by rw [hS]; exact n1) (by rw [hsafe]; omega) (fun x hx => hc x (List.mem_cons_of_mem _ hx)) (by rw [hS]; exact n2) (by omega)
    exact ⟨a1, a2.mono (by omega)⟩
theorem quiet_sync {S : St} {M : Int} (hd : S.down = false) (h : Quiet S M) (hM : M ≤ 1099511627776) : syE S = 0 ∧ (syS S).down = false ∧ (syS S).safe.length = S.safe.length ∧ Quiet (syS S) (M + 1) := by
  obtain ⟨n1, n2⟩ := h.next hM
  have hq := ask_up hd
  have h0 := ask_up n1
  have hy : syS S = { cntS S with safe := doAll S.safe S.loose, loose := [] } := by unfold syS; rw [if_pos hq, if_pos h0]
  refine ⟨by unfold syE; rw [if_pos hq, h0], by rw [hy]; exact n1, ?_, ?_⟩
  · rw [hy]; exact doAll_len _ _
  · rw [hy]; exact n2
theorem quiet_put {S : St} {M : Int} {side at_ : Nat} {b : ByteArray} (hi : SInv S) (hd : S.down = false) (hs : side ≤ 1) (hr : at_ + b.size ≤ roomN S.safe.length) (h2 : 2 ≤ S.safe.length) (turn size : Nat) (h : Quiet S M) (hM : M ≤ 1000000000) :
    (putR S turn side size at_ b).1 = 0 ∧ Quiet (putR S turn side size at_ b).2 (M + 40000) := by
  have hfit := putC_fits (b := b) hi hs hr h2
  have hlen := putC_len (b := b) hi hs (at_ := at_) (by omega)
  have hl := hi.len
  have hro : roomN S.safe.length ≤ 1048576 := room_lt hl
  have hW : putW S side at_ b = wrs S (putI S side at_) (putC S side at_ b) := rfl
  obtain ⟨w1, w2⟩ := quiet_wrs (putC S side at_ b) S (putI S side at_) M hd hfit putC_sizes h (by omega)
  have w3 := (wrs_is (putC S side at_ b) S (putI S side at_) hd hfit putC_sizes)
  unfold putR
  rw [hW]
  generalize wrs S (putI S side at_) (putC S side at_ b) = r at w1 w2 w3 ⊢
  obtain ⟨e, S1⟩ := r
  dsimp only at w1 w2 w3 ⊢
  obtain ⟨w4, -, w5⟩ := w3
  have w6 : S1.down = false := by
    rcases w5 with ⟨-, g, -⟩ | ⟨g, -⟩
    · exact g
    · rw [w1] at g; cases g
  rw [if_pos w1]
  obtain ⟨y1, y2, y3, y4⟩ := quiet_sync w6 w2 (by omega)
  unfold headR
  rw [if_pos y1]
  generalize syS S1 = S2 at y2 y3 y4 ⊢
  have ha := at_up y2 (i := turn % 2) (by rw [y3, w4]; omega)
  have hbs := blockB_size (turn : Int) (side : Int) (size : Int)
  generalize blockB (turn : Int) (side : Int) (size : Int) = hb at hbs ⊢
  obtain ⟨n1, n2⟩ := y4.next (by omega)
  have h0 := ask_up n1
  have hE : wrE S2 ((turn % 2 : Nat) : Int) hb = 0 := by unfold wrE; rw [if_pos ha, if_pos hbs, h0]
  have hw2 : wrS S2 ((turn % 2 : Nat) : Int) hb = { cntS S2 with loose := S2.loose ++ [(turn % 2, hb)] } := by unfold wrS; rw [if_pos ha, if_pos hbs, if_pos h0]; rfl
  rw [if_pos hE, hw2]
  obtain ⟨z1, z2, z3, z4⟩ := quiet_sync (S := { cntS S2 with loose := S2.loose ++ [(turn % 2, hb)] }) n1 (M := M + (putC S side at_ b).length + 1 + 1) n2 (by omega)
  exact ⟨z1, z4.mono (by omega)⟩
theorem SInv.wrs : ∀ (cs : List ByteArray) {S : St} (i : Nat), SInv S → SInv (wrs S i cs).2
  | [], S, i, h => h
  | c :: r, S, i, h => by
    show SInv (if wrE S (i : Int) c = 0 then Wal.wrs (wrS S (i : Int) c) (i + 1) r else (wrE S (i : Int) c, wrS S (i : Int) c)).2
    split
    · exact SInv.wrs r (i + 1) (h.write _ _)
    · exact h.write _ _
theorem SInv.put {S : St} (h : SInv S) (turn side size at_ : Nat) (b : ByteArray) : SInv (putR S turn side size at_ b).2 := by
  have hw := SInv.wrs (chunksF (aheadB S side at_ b).size (aheadB S side at_ b)) (firstN S.safe.length side + at_ / 32) h
  unfold putR putW
  generalize Wal.wrs S (firstN S.safe.length side + at_ / 32) (chunksF (aheadB S side at_ b).size (aheadB S side at_ b)) = r at hw ⊢
  obtain ⟨e, S1⟩ := r
  dsimp only at hw ⊢
  split
  · unfold headR
    split
    · split
      · exact (hw.sync.write _ _).sync
      · exact hw.sync.write _ _
    · exact hw.sync
  · exact hw
theorem framedL_append (a b : List ByteArray) : framedL (a ++ b) = framedL a ++ framedL b := by simp [framedL]
theorem framedB_append (a b : List ByteArray) : framedB (a ++ b) = framedB a ++ framedB b := by
  apply ba_ext
  show framedL (a ++ b) = _
  rw [framedL_append]; simp [framedB]
theorem bytes_none (D : List ByteArray) (f : Nat) : bytesB D f 0 = ⟨#[]⟩ := by simp [bytesB]
/-- What a change leaves. -/
theorem chg_is {S : St} {W : Wl} (h : Whole S W) (ht : W.turn + 1 ≤ 1000000) {l all : List ByteArray} {side at_ : Nat} (ha : Apart W.side W.size side at_) (hs : side ≤ 1) (hb : framedB all = bytesB S.safe (firstN S.safe.length side) at_ ++ framedB l) :
    (mayE S l (at_ + (framedB l).size) ≠ 0 ∧ chgR S W l all side at_ = ⟨mayE S l (at_ + (framedB l).size), S, W⟩) ∨
    (mayE S l (at_ + (framedB l).size) = 0 ∧ (chgR S W l all side at_).S.safe.length = S.safe.length ∧ SInv (chgR S W l all side at_).S ∧
      (((chgR S W l all side at_).e = 0 ∧ Whole (chgR S W l all side at_).S (chgR S W l all side at_).W ∧ (chgR S W l all side at_).W.l = all ∧ (chgR S W l all side at_).W.turn = W.turn + 1) ∨
       ((chgR S W l all side at_).e = 8 ∧ (chgR S W l all side at_).S.down = true ∧ (chgR S W l all side at_).W = { W with dead := true } ∧
         Fell (chgR S W l all side at_).S W.turn W.side W.size W.l (W.turn + 1) side (at_ + (framedB l).size) all)) ∧
      (∀ M, Quiet S M → M ≤ 1000000000 → (chgR S W l all side at_).e = 0 ∧ Quiet (chgR S W l all side at_).S (M + 40000))) := by
  by_cases hm : mayE S l (at_ + (framedB l).size) ≠ 0
  · left
    refine ⟨hm, ?_⟩
    unfold chgR
    rw [if_neg (by rw [h.live]; simp), if_pos hm]
  replace hm := Decidable.not_not.1 hm
  right
  obtain ⟨m1, m2, m3⟩ := mayE_zero hm
  have hp := put_is (b := framedB l) h.inv h.up h.lo hs m1 m2 (W.turn + 1) (at_ + (framedB l).size)
  have hI := SInv.put h.inv (W.turn + 1) side (at_ + (framedB l).size) at_ (framedB l)
  have hQ := fun M => quiet_put (M := M) (b := framedB l) h.inv h.up hs m1 m2 (W.turn + 1) (at_ + (framedB l).size)
  have hby := put_bytes (b := framedB l) h.inv hs m1 m2
  have hhm := put_harmless (b := framedB l) h.inv h.disk hs m1 m2 ha
  have hK := Keeps.all (rowed (putI S side at_) (putC S side at_ (framedB l))) (Keeps.refl (f := firstN S.safe.length W.side) (size := W.size) h.inv.ssz) hhm
  have hD1 := h.disk.keep hK
  have hD2 : Disk ((doAll S.safe (rowed (putI S side at_) (putC S side at_ (framedB l)))).set ((W.turn + 1) % 2) (blockB ((W.turn + 1 : Nat) : Int) (side : Int) ((at_ + (framedB l).size : Nat) : Int))) (W.turn + 1) side (at_ + (framedB l).size) all := by
    refine hD1.head (by rw [doAll_len]; exact m2) (by omega) hs (by rw [doAll_len]; exact m1) ?_
    rw [doAll_len, hby, hb]
  have hall : (framedL all).length = at_ + (framedB l).size := by
    have hh := congrArg ByteArray.size hb
    rw [framedB_size, ByteArray.size_append, bytes_eq' _ h.inv.ssz _ _ (region _ _ _ hs (by omega)), mk_size, List.length_map, List.length_range] at hh
    exact hh
  unfold chgR
  rw [if_neg (by rw [h.live]; simp), if_neg (by rw [hm]; simp)]
  generalize putR S (W.turn + 1) side (at_ + (framedB l).size) at_ (framedB l) = R at hp hI hQ ⊢
  obtain ⟨e, S'⟩ := R
  dsimp only at hp hI hQ ⊢
  rcases hp with ⟨p1, p2, p3, p4⟩ | ⟨p1, p2, p3⟩
  · subst p1
    rw [if_neg (by simp)]
    refine ⟨hm, by rw [p4, List.length_set, doAll_len], hI, .inl ⟨rfl, ⟨hI, p2, p3, ?_, rfl, ht, hall.symm⟩, rfl, rfl⟩, fun M g1 g2 => hQ M g1 g2⟩
    show Disk S'.safe _ _ _ _
    rw [p4]; exact hD2
  · subst p1
    rw [if_pos (by simp)]
    refine ⟨hm, ?_, hI, .inr ⟨rfl, p2, rfl, ?_⟩, fun M g1 g2 => absurd (hQ M g1 g2).1 (by decide)⟩
    · show S'.safe.length = _
      rcases p3 with ⟨q1, _⟩ | ⟨q1, _⟩
      · rw [q1]
      · rw [q1, doAll_len]
    · intro bl cr ke tn
      show Disk (fallS S' bl cr ke tn).safe _ _ _ _ ∨ Disk (fallS S' bl cr ke tn).safe _ _ _ _
      rcases p3 with ⟨q1, k, q2⟩ | ⟨q1, q2 | q2⟩
      · left
        refine h.disk.keep (Keeps.fall (S := S') ?_ (fun x hx => ?_) bl cr ke tn)
        · rw [q1]; exact Keeps.refl h.inv.ssz
        · rw [q2, ← rowed_take] at hx
          exact hhm x (List.mem_of_mem_take hx)
      · left
        refine h.disk.keep (Keeps.fall (S := S') ?_ (fun x hx => ?_) bl cr ke tn)
        · rw [q1]; exact hK
        · rw [q2] at hx; simp at hx
      · have hT := kp_lt tn 33 (by omega)
        unfold fallS
        rw [show kp ke (S'.loose.length + 1) = kp ke 2 by rw [q2]; rfl]
        have hlt := kp_lt ke 2 (by omega)
        generalize kp ke 2 = K at hlt ⊢
        have hold := hD1.old (by rw [doAll_len]; omega)
        have hl1 : (doAll S.safe (rowed (putI S side at_) (putC S side at_ (framedB l)))).length = S.safe.length := doAll_len _ _
        rcases Nat.lt_or_ge K 1 with hK0 | hK1
        · have : K = 0 := by omega
          subst this
          have e0 : (fallAt S' cr 0 tn).safe = S'.safe.set ((W.turn + 1) % 2) ((blockB ((W.turn + 1 : Nat) : Int) (side : Int) ((at_ + (framedB l).size : Nat) : Int)).extract 0 (kp tn 33) ++ (S'.safe.getD ((W.turn + 1) % 2) ⟨#[]⟩).extract (kp tn 33) 32) := by
            unfold fallAt
            rw [q2]; rfl
          rw [e0, q1]
          generalize kp tn 33 = t at hT ⊢
          rcases Nat.lt_or_ge t 32 with ht32 | ht32
          · left
            exact hD1.slot (by rw [hl1]; exact m2) (hold.tear _ _ t ht32)
          · right
            have ht' : t = 32 := by omega
            subst ht'
            have hbs := blockB_size ((W.turn + 1 : Nat) : Int) (side : Int) ((at_ + (framedB l).size : Nat) : Int)
            rw [show (blockB ((W.turn + 1 : Nat) : Int) (side : Int) ((at_ + (framedB l).size : Nat) : Int)).extract 0 32 ++ ((doAll S.safe (rowed (putI S side at_) (putC S side at_ (framedB l)))).getD ((W.turn + 1) % 2) ⟨#[]⟩).extract 32 32 = blockB ((W.turn + 1 : Nat) : Int) (side : Int) ((at_ + (framedB l).size : Nat) : Int) from ?_]
            · exact hD2
            · apply ba_ext
              rw [show ∀ a b : ByteArray, (a ++ b).data.toList = a.data.toList ++ b.data.toList from fun a b => by simp, ext_list, ext_list, List.drop_zero, List.take_of_length_le (by rw [ba_size, hbs]; omega), List.drop_eq_nil_of_le (by rw [List.length_take]; omega), List.append_nil]
        · right
          have : K = 1 := by omega
          subst this
          have e1 : (fallAt S' cr 1 tn).safe = S'.safe.set ((W.turn + 1) % 2) (blockB ((W.turn + 1 : Nat) : Int) (side : Int) ((at_ + (framedB l).size : Nat) : Int)) := by
            unfold fallAt
            rw [q2]; rfl
          rw [e1, q1]
          exact hD2
theorem apart_append (W : Wl) : Apart W.side W.size W.side W.size := .inl ⟨rfl, rfl⟩
theorem apart_check (W : Wl) (h : W.side ≤ 1) : Apart W.side W.size ((W.side + 1) % 2) 0 := .inr ⟨by omega, by omega, rfl⟩
theorem framed_append {S : St} {W : Wl} (h : Whole S W) (l : List ByteArray) : framedB (W.l ++ l) = bytesB S.safe (firstN S.safe.length W.side) W.size ++ framedB l := by rw [h.disk.bytes, framedB_append]
theorem framed_check {S : St} (l : List ByteArray) (f : Nat) : framedB l = bytesB S.safe f 0 ++ framedB l := by
  rw [bytes_none]; apply ba_ext; simp
/-- A log just opened. -/
theorem whole_open {S : St} {C cs cz : Nat} {l : List ByteArray} (hi : SInv S) (hd : S.down = false) (hlo : S.loose = []) (h : Disk S.safe C cs cz l) (hC : C ≤ 1000000) (hz : cz = (framedL l).length) : Whole S ⟨C, cs, cz, l, false⟩ := ⟨hi, hd, hlo, h, rfl, hC, hz⟩
theorem disk_sum {D : List ByteArray} {C cs cz : Nat} {l : List ByteArray} (h : Disk D C cs cz l) : cz = (framedL l).length := by
  have hh := congrArg ByteArray.size h.bytes
  rw [framedB_size, bytes_eq' _ h.ssz _ _ (region _ _ _ h.hside h.hsize), mk_size, List.length_map, List.length_range] at hh
  exact hh
end
end Go.Proofs.Ytmgkflkpompchaa.Wal
