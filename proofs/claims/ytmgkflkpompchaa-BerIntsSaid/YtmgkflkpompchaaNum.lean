/- What ber.Int and ber.ReadInt, and the reference's, come to: plain laws on numbers and lists. No condition. -/
import Derived.Test.YtmgkflkpompchaaPBerNumbersx
namespace Go.Proofs.Ytmgkflkpompchaa.Num
open Go.RowKit Go.Proofs.YtmgkflkpompchaaW.PrintWords Go.Proofs.YtmgkflkpompchaaW.PrintLast Go.Proofs.YtmgkflkpompchaaW.PrintMore
open Go.Proofs.Ytmgkflkpompchaa.PBerNumbers
set_option linter.unusedVariables false
set_option linter.unusedSimpArgs false

/-! ### slices.Reverse -/
theorem rev_l0 : ∀ (d k : Nat) (a m b : List Int), a.length = b.length → m.length ≤ d → d < k → a.length + m.length + b.length ≤ 140737488355328 →
    slices_Reverse_byte_byte.l0 k (a ++ m ++ b) (a.length : Int) ((a.length : Int) + m.length - 1) = some (a ++ m.reverse ++ b)
  | d, 0, a, m, b, h1, h2, h3, h4 => by omega
  | d, k + 1, a, m, b, h1, h2, h3, h4 => by
    rw [slices_Reverse_byte_byte.l0]
    by_cases hm : m.length ≤ 1
    · rw [if_neg (by omega)]
      have : m.reverse = m := by
        match m, hm with
        | [], _ => rfl
        | [x], _ => rfl
      rw [this]
    · obtain ⟨x, m1, rfl⟩ : ∃ x m1, m = x :: m1 := by
        cases m with
        | nil => simp at hm
        | cons x m1 => exact ⟨x, m1, rfl⟩
      have hne : m1 ≠ [] := by intro e; subst e; simp at hm
      obtain ⟨m2, y, rfl⟩ : ∃ m2 y, m1 = m2 ++ [y] := ⟨m1.dropLast, m1.getLast hne, (List.dropLast_concat_getLast hne).symm⟩
      simp only [List.length_cons, List.length_append, List.length_nil] at hm h2 h4 ⊢
      rw [if_pos (by omega), if_pos (by omega), if_pos (by omega), if_pos (by omega), if_pos (by omega)]
      have e1 : rd (a ++ x :: (m2 ++ [y]) ++ b) ((a.length : Int) + ((m2.length + (0 + 1) + 1 : Nat) : Int) - 1) = y := by
        have : ((a.length : Int) + ((m2.length + (0 + 1) + 1 : Nat) : Int) - 1).toNat = a.length + (m2.length + 1) := by omega
        rw [rd, this]
        simp [List.getD_eq_getElem?_getD, List.getElem?_append]
      have e2 : rd (a ++ x :: (m2 ++ [y]) ++ b) (a.length : Int) = x := by
        simp [rd, List.getD_eq_getElem?_getD, List.getElem?_append]
      have e3 : ((a ++ x :: (m2 ++ [y]) ++ b).set ((a.length : Int)).toNat y).set ((a.length : Int) + ((m2.length + (0 + 1) + 1 : Nat) : Int) - 1).toNat x = (a ++ [y]) ++ m2 ++ ([x] ++ b) := by
        have : ((a.length : Int) + ((m2.length + (0 + 1) + 1 : Nat) : Int) - 1).toNat = a.length + (m2.length + 1) := by omega
        rw [this]
        simp [List.set_append]
      rw [e1, e2, e3]
      have e4 : wrap64 ((a.length : Int) + 1) = (((a ++ [y]).length : Nat) : Int) := by unfold wrap64; simp; omega
      have e5 : wrap64 ((a.length : Int) + ((m2.length + (0 + 1) + 1 : Nat) : Int) - 1 - 1) = (((a ++ [y]).length : Nat) : Int) + (m2.length : Int) - 1 := by unfold wrap64; simp; omega
      rw [e4, e5]
      obtain ⟨d', rfl⟩ : ∃ d', d = d' + 1 := ⟨d - 1, by omega⟩
      rw [rev_l0 d' k (a ++ [y]) m2 ([x] ++ b) (by simp; omega) (by omega) (by omega) (by simp; omega)]
      simp
theorem rev_f (k : Nat) (l : List Int) (h : l.length < k) (hl : l.length ≤ 140737488355328) : slices_Reverse_byte_byte.f k l = some l.reverse := by
  unfold slices_Reverse_byte_byte.f
  have := rev_l0 l.length k [] l [] rfl (Nat.le_refl _) h (by simpa using hl)
  have e : wrap64 ((l.length : Int) - 1) = ((([] : List Int).length : Nat) : Int) + l.length - 1 := by unfold wrap64; simp; omega
  rw [e]
  simpa using this

/-! ### the bytes of a number, the lowest first -/
def leB : Nat → Int → List Int
  | 0, n => [n % 256]
  | k + 1, n => if -128 ≤ n ∧ n ≤ 127 then [n % 256] else n % 256 :: leB k (n / 256)
/-- So small a number. -/
def R (k : Nat) (n : Int) : Prop := -(128 * 256 ^ k) ≤ n ∧ n < 128 * 256 ^ k
theorem R_div {k : Nat} {n : Int} (h : R (k + 1) n) : R k (n / 256) := by
  obtain ⟨h1, h2⟩ := h
  rw [Int.pow_succ] at h1 h2
  constructor
  · rw [Int.le_ediv_iff_mul_le (by decide)]; omega
  · rw [Int.ediv_lt_iff_lt_mul (by decide)]; omega
theorem R7 (n : Int) (h1 : -9223372036854775808 ≤ n) (h2 : n < 9223372036854775808) : R 7 n := ⟨by omega, by omega⟩
theorem leB_len : ∀ (k : Nat) (n : Int), 1 ≤ (leB k n).length ∧ (leB k n).length ≤ k + 1
  | 0, n => by simp [leB]
  | k + 1, n => by
    unfold leB
    split
    · simp
    · have := leB_len k (n / 256)
      simp; omega
/-- As a text, the highest first. -/
def encI (n : Int) : ByteArray := strOfNums (leB 7 n).reverse

theorem int_l0 : ∀ (k fuel : Nat) (n : Int) (pre : List Int), R k n → pre.length + k + 10 ≤ 1000 → 2 * k + pre.length + 10 < fuel →
    ber_Int.l0 fuel n (pre ++ [n % 256]) (n / 128) = some (strOfNums ((pre ++ leB k n).reverse))
  | k, 0, n, pre, h1, h2, h3 => by omega
  | 0, fuel + 1, n, pre, h1, h2, h3 => by
    have h : -128 ≤ n ∧ n ≤ 127 := by obtain ⟨a, b⟩ := h1; simp at a b; omega
    rw [ber_Int.l0, rev_f fuel _ (by simp; omega) (by simp; omega)]
    by_cases c : n / 128 = 0
    · rw [if_pos c]; rfl
    · rw [if_neg c, if_pos (by omega)]; rfl
  | k + 1, fuel + 1, n, pre, h1, h2, h3 => by
    rw [ber_Int.l0]
    by_cases h : -128 ≤ n ∧ n ≤ 127
    · rw [rev_f fuel _ (by simp; omega) (by simp; omega), leB, if_pos h]
      by_cases c : n / 128 = 0
      · rw [if_pos c]; rfl
      · rw [if_neg c, if_pos (by omega)]; rfl
    · rw [if_neg (by omega), if_neg (by omega), if_pos (by simp; omega)]
      have e : n / 128 / 256 = n / 256 / 128 := by omega
      rw [e, int_l0 k fuel (n / 256) (pre ++ [n % 256]) (R_div h1) (by simp; omega) (by simp; omega), leB, if_neg h]
      simp
theorem int_f (fuel : Nat) (n : Int) (h1 : -9223372036854775808 ≤ n) (h2 : n < 9223372036854775808) (hf : 30 < fuel) : ber_Int.f fuel n = some (encI n) := by
  unfold ber_Int.f encI
  have := int_l0 7 fuel n [] (R7 n h1 h2) (by simp) (by simp; omega)
  simpa using this
theorem refint_l0 : ∀ (k fuel : Nat) (n : Int) (acc : List Int), R k n → acc.length + k + 10 ≤ 1000 → k < fuel →
    brookref1_Int.l0 fuel n acc = some (strOfNums ((leB k n).reverse ++ acc))
  | k, 0, n, acc, h1, h2, h3 => by omega
  | 0, fuel + 1, n, acc, h1, h2, h3 => by
    have h : -128 ≤ n ∧ n ≤ 127 := by obtain ⟨a, b⟩ := h1; simp at a b; omega
    rw [brookref1_Int.l0]
    simp only [Option.bind_some]
    rw [if_pos (by simp; omega), if_pos (by omega), if_pos (by omega)]; rfl
  | k + 1, fuel + 1, n, acc, h1, h2, h3 => by
    rw [brookref1_Int.l0]
    simp only [Option.bind_some]
    rw [if_pos (by simp; omega)]
    by_cases h : -128 ≤ n ∧ n ≤ 127
    · rw [if_pos (by omega), if_pos (by omega), leB, if_pos h]; rfl
    · have e := refint_l0 k fuel (n / 256) ([n % 256] ++ acc) (R_div h1) (by simp; omega) (by omega)
      rw [leB, if_neg h]
      by_cases h5 : n ≥ -128
      · rw [if_pos h5, if_neg (by omega), e]; simp
      · rw [if_neg h5, e]; simp
theorem refint_f (fuel : Nat) (n : Int) (h1 : -9223372036854775808 ≤ n) (h2 : n < 9223372036854775808) (hf : 30 < fuel) : brookref1_Int.f fuel n = some (encI n) := by
  unfold brookref1_Int.f encI
  have := refint_l0 7 fuel n [] (R7 n h1 h2) (by simp) (by omega)
  simpa using this


/-! ### a number out of bytes -/
theorem wrap64_range (x : Int) : -9223372036854775808 ≤ wrap64 x ∧ wrap64 x < 9223372036854775808 := by unfold wrap64; omega
theorem or_byte (x c : Int) (h0 : 0 ≤ c) (h1 : c < 256) : Go.bits .or .i64 (wrap64 (x * 256)) (wrap64 c) = wrap64 (x * 256 + c) := by
  have hc : wrap64 c = c := by unfold wrap64; omega
  rw [hc]
  show IntKind.i64.wrap ((BitVec.ofInt 64 (wrap64 (x * 256)) ||| BitVec.ofInt 64 c).toNat : Int) = _
  obtain ⟨cn, rfl⟩ := Int.eq_ofNat_of_zero_le h0
  have e1 : (BitVec.ofInt 64 (cn : Int)).toNat = cn := by simp [BitVec.toNat_ofInt]; omega
  obtain ⟨q, hq⟩ : ∃ q : Nat, (BitVec.ofInt 64 (wrap64 (x * 256))).toNat = 2 ^ 8 * q := by
    refine ⟨((x * 256) % 18446744073709551616 / 256).toNat, ?_⟩
    rw [BitVec.toNat_ofInt]
    unfold wrap64
    omega
  have hv : ((2 ^ 8 * q : Nat) : Int) = wrap64 (x * 256) % 18446744073709551616 := by
    rw [← hq, BitVec.toNat_ofInt]
    omega
  rw [BitVec.toNat_or, e1, hq, ← Nat.two_pow_add_eq_or_of_lt (by omega), IntKind.wrap_i64]
  have : ((2 ^ 8 * q + cn : Nat) : Int) = ((2 ^ 8 * q : Nat) : Int) + cn := by omega
  rw [this, hv]
  unfold wrap64
  omega
/-- The first byte's own number. -/
def i8 (c : Int) : Int := if c < 128 then c else c - 256
theorem i8_wrap (c : Int) (h0 : 0 ≤ c) (h1 : c < 256) : wrap64 (IntKind.i8.wrap c) = i8 c := by
  unfold wrap64 i8
  simp [IntKind.wrap, IntKind.bits, IntKind.signed]
  split <;> split <;> omega
def valF (a : Int) (l : List Int) : Int := l.foldl (fun a c => wrap64 (a * 256 + c)) a
def valB : List Int → Int
  | [] => 0
  | c :: r => valF (i8 c) r
theorem valF_range (l : List Int) : ∀ a, -9223372036854775808 ≤ a → a < 9223372036854775808 → -9223372036854775808 ≤ valF a l ∧ valF a l < 9223372036854775808 := by
  induction l with
  | nil => exact fun a h1 h2 => ⟨h1, h2⟩
  | cons c r ih => exact fun a _ _ => ih _ (wrap64_range _).1 (wrap64_range _).2
def Bytes (l : List Int) : Prop := ∀ c, c ∈ l → 0 ≤ c ∧ c < 256
theorem valB_range (l : List Int) (h : Bytes l) : -9223372036854775808 ≤ valB l ∧ valB l < 9223372036854775808 := by
  cases l with
  | nil => simp [valB]
  | cons c r =>
    have := h c (by simp)
    exact valF_range r _ (by unfold i8; split <;> omega) (by unfold i8; split <;> omega)
theorem bytesOf_bytes (s : ByteArray) : Bytes (bytesOf s) := by
  intro c hc
  simp only [bytesOf, List.mem_map] at hc
  obtain ⟨b, _, rfl⟩ := hc
  have := b.toNat_lt
  omega
theorem drop_bt (s : ByteArray) (i : Nat) (h : i < s.size) : (bytesOf s).drop i = bt s i :: (bytesOf s).drop (i + 1) := by
  have hl : i < (bytesOf s).length := by rw [bytesOf_length]; exact h
  rw [List.drop_eq_getElem_cons hl]
  congr 1
  have := rd_bytesOf s (i : Int)
  rw [rd, List.getD_eq_getElem?_getD, Int.toNat_natCast, List.getElem?_eq_getElem hl] at this
  simpa using this

/-- What both readings answer. -/
noncomputable def RI (s : ByteArray) : Int × Bool :=
  if s.size = 0 ∨ 8 < s.size then (0, false) else if (encI (valB (bytesOf s))).toList = s.toList then (valB (bytesOf s), true) else (0, false)

theorem readint_l0 : ∀ (d fuel : Nat) (s : ByteArray) (a : Int) (i : Nat), s.size - i = d → i ≤ s.size → s.size ≤ 100 → -9223372036854775808 ≤ a → a < 9223372036854775808 → d + 40 < fuel →
    ber_ReadInt.l0 fuel s a i = if (encI (valF a ((bytesOf s).drop i))).toList = s.toList then some (valF a ((bytesOf s).drop i), true) else some (0, false)
  | d, 0, s, a, i, h1, h2, h3, h4, h5, h6 => by omega
  | 0, fuel + 1, s, a, i, h1, h2, h3, h4, h5, h6 => by
    rw [ber_ReadInt.l0, if_neg (by omega), int_f fuel a h4 h5 (by omega)]
    rw [List.drop_of_length_le (by rw [bytesOf_length]; omega)]
    rfl
  | d + 1, fuel + 1, s, a, i, h1, h2, h3, h4, h5, h6 => by
    have hb := bt_range s i
    rw [ber_ReadInt.l0, if_pos (by omega), if_pos (by omega), or_byte a _ hb.1 (by omega)]
    have e : wrap64 ((i : Int) + 1) = ((i + 1 : Nat) : Int) := by unfold wrap64; omega
    rw [e, readint_l0 d fuel s _ (i + 1) (by omega) (by omega) h3 (wrap64_range _).1 (wrap64_range _).2 (by omega), drop_bt s i (by omega)]
    rfl
theorem toList_nil (s : ByteArray) : s.toList = [] ↔ s.size = 0 := by
  rw [ByteArray.toList_eq, ← data_length, List.length_eq_zero_iff]
theorem bytesOf_cons (s : ByteArray) (h : 0 < s.size) : bytesOf s = bt s 0 :: (bytesOf s).drop 1 := by
  have := drop_bt s 0 h
  simpa using this
theorem readint_f (fuel : Nat) (s : ByteArray) (h : s.size ≤ 100) (hf : 200 < fuel) : ber_ReadInt.f fuel s = some (RI s) := by
  obtain ⟨fuel, rfl⟩ : ∃ f, fuel = f + 1 := ⟨fuel - 1, by omega⟩
  unfold ber_ReadInt.f RI
  by_cases h0 : s.size = 0
  · rw [if_pos ((toList_nil s).2 h0), if_pos (.inl h0)]
    rw [ber_ReadInt.j0, if_pos rfl]
  · rw [if_neg (fun e => h0 ((toList_nil s).1 e)), ber_ReadInt.j0]
    by_cases h8 : 8 < s.size
    · have hd : decide ((s.size : Int) > 8) = true := by simp; omega
      rw [hd, if_pos rfl, if_pos (.inr h8)]
    · have hb := bt_range s 0
      have hd : decide ((s.size : Int) > 8) = false := by simp; omega
      rw [hd, if_neg (show ¬ (false = true) by decide), if_pos (show (0 : Int) < (s.size : Int) by omega), i8_wrap _ hb.1 (by omega), if_neg (show ¬ (s.size = 0 ∨ 8 < s.size) by omega)]
      have hr : -9223372036854775808 ≤ i8 (bt s 0) ∧ i8 (bt s 0) < 9223372036854775808 := by unfold i8; split <;> omega
      have e := readint_l0 (s.size - 1) fuel s (i8 (bt s 0)) 1 rfl (by omega) h hr.1 hr.2 (by omega)
      rw [show ((1 : Nat) : Int) = 1 from rfl] at e
      rw [e]
      have e2 : valB (bytesOf s) = valF (i8 (bt s 0)) ((bytesOf s).drop 1) := by
        conv => lhs; rw [bytesOf_cons s (by omega)]
        rfl
      rw [e2]
      split <;> rfl
theorem refreadint_l0 : ∀ (d fuel : Nat) (s : ByteArray) (a : Int) (i : Nat), s.size - i = d → i ≤ s.size → s.size ≤ 100 → -9223372036854775808 ≤ a → a < 9223372036854775808 → d + 40 < fuel →
    brookref1_ReadInt.l0 fuel s a i = if (encI (valF a ((bytesOf s).drop i))).toList = s.toList then some (valF a ((bytesOf s).drop i), true) else some (0, false)
  | d, 0, s, a, i, h1, h2, h3, h4, h5, h6 => by omega
  | 0, fuel + 1, s, a, i, h1, h2, h3, h4, h5, h6 => by
    rw [brookref1_ReadInt.l0, if_neg (by omega), refint_f fuel a h4 h5 (by omega)]
    rw [List.drop_of_length_le (by rw [bytesOf_length]; omega)]
    rfl
  | d + 1, fuel + 1, s, a, i, h1, h2, h3, h4, h5, h6 => by
    have hb := bt_range s i
    rw [brookref1_ReadInt.l0, if_pos (by omega), if_pos (by omega), or_byte a _ hb.1 (by omega)]
    have e : wrap64 ((i : Int) + 1) = ((i + 1 : Nat) : Int) := by unfold wrap64; omega
    rw [e, refreadint_l0 d fuel s _ (i + 1) (by omega) (by omega) h3 (wrap64_range _).1 (wrap64_range _).2 (by omega), drop_bt s i (by omega)]
    rfl
theorem refreadint_f (fuel : Nat) (s : ByteArray) (h : s.size ≤ 100) (hf : 200 < fuel) : brookref1_ReadInt.f fuel s = some (RI s) := by
  obtain ⟨fuel, rfl⟩ : ∃ f, fuel = f + 1 := ⟨fuel - 1, by omega⟩
  unfold brookref1_ReadInt.f RI
  by_cases h0 : s.size = 0
  · rw [if_pos (by omega), if_pos (.inl h0)]
    rw [brookref1_ReadInt.j0, if_pos rfl]
  · rw [if_neg (by omega), brookref1_ReadInt.j0]
    by_cases h8 : 8 < s.size
    · have hd : decide ((s.size : Int) > 8) = true := by simp; omega
      rw [hd, if_pos rfl, if_pos (.inr h8)]
    · have hb := bt_range s 0
      have hd : decide ((s.size : Int) > 8) = false := by simp; omega
      rw [hd, if_neg (show ¬ (false = true) by decide), if_pos (show (0 : Int) < (s.size : Int) by omega), i8_wrap _ hb.1 (by omega), if_neg (show ¬ (s.size = 0 ∨ 8 < s.size) by omega)]
      have hr : -9223372036854775808 ≤ i8 (bt s 0) ∧ i8 (bt s 0) < 9223372036854775808 := by unfold i8; split <;> omega
      have e := refreadint_l0 (s.size - 1) fuel s (i8 (bt s 0)) 1 rfl (by omega) h hr.1 hr.2 (by omega)
      rw [show ((1 : Nat) : Int) = 1 from rfl] at e
      rw [e]
      have e2 : valB (bytesOf s) = valF (i8 (bt s 0)) ((bytesOf s).drop 1) := by
        conv => lhs; rw [bytesOf_cons s (by omega)]
        rfl
      rw [e2]
      split <;> rfl

/-! ### told again -/
theorem valB_snoc (l : List Int) (c : Int) (h : l ≠ []) : valB (l ++ [c]) = wrap64 (valB l * 256 + c) := by
  cases l with
  | nil => exact absurd rfl h
  | cons x r => simp [valB, valF, List.foldl_append]
theorem leB_val : ∀ (k : Nat) (n : Int), R k n → -9223372036854775808 ≤ n → n < 9223372036854775808 → valB (leB k n).reverse = n
  | 0, n, h, h1, h2 => by
    have : -128 ≤ n ∧ n ≤ 127 := by obtain ⟨a, b⟩ := h; simp at a b; omega
    simp only [leB, List.reverse_cons, List.reverse_nil, List.nil_append, valB, valF, List.foldl_nil, i8]
    split <;> omega
  | k + 1, n, h, h1, h2 => by
    unfold leB
    split
    · simp only [List.reverse_cons, List.reverse_nil, List.nil_append, valB, valF, List.foldl_nil, i8]
      split <;> omega
    · rw [List.reverse_cons, valB_snoc _ _ (by have := (leB_len k (n / 256)).1; intro e; rw [List.reverse_eq_nil_iff] at e; rw [e] at this; simp at this), leB_val k (n / 256) (R_div h) (by omega) (by omega)]
      unfold wrap64
      omega
theorem leB_bytes : ∀ (k : Nat) (n : Int), Bytes (leB k n)
  | 0, n => by intro c hc; simp [leB] at hc; omega
  | k + 1, n => by
    intro c hc
    unfold leB at hc
    split at hc
    · simp at hc; omega
    · rcases List.mem_cons.1 hc with rfl | hc
      · omega
      · exact leB_bytes k (n / 256) c hc
theorem bytesOf_strOfNums (l : List Int) (h : Bytes l) : bytesOf (strOfNums l) = l := by
  unfold bytesOf strOfNums
  simp only [List.map_map]
  apply List.ext_getElem
  · simp
  · intro i h1 h2
    simp
    have := h l[i] (List.getElem_mem h2)
    omega
theorem encI_bytes (n : Int) : bytesOf (encI n) = (leB 7 n).reverse := bytesOf_strOfNums _ (fun c hc => leB_bytes 7 n c (List.mem_reverse.1 hc))
theorem encI_size (n : Int) : 1 ≤ (encI n).size ∧ (encI n).size ≤ 8 := by
  have h := bytesOf_length (encI n)
  rw [encI_bytes, List.length_reverse] at h
  have := leB_len 7 n
  omega
theorem RI_enc (n : Int) (h1 : -9223372036854775808 ≤ n) (h2 : n < 9223372036854775808) : RI (encI n) = (n, true) := by
  have hs := encI_size n
  unfold RI
  rw [if_neg (by omega), encI_bytes, leB_val 7 n (R7 n h1 h2) h1 h2, if_pos rfl]
end Go.Proofs.Ytmgkflkpompchaa.Num
