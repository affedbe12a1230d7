/- How long and how deep a tlv is, and whether it may be: plain definitions and laws. No condition. -/
import Derived.Test.YtmgkflkpompchaaEnc
namespace Go.Proofs.Ytmgkflkpompchaa.Enc
open Go.RowKit Go.Proofs.YtmgkflkpompchaaW.PrintWords
open Go.Proofs.Ytmgkflkpompchaa.PBerAll (S32)
set_option linter.unusedVariables false
set_option linter.unusedSimpArgs false

/-- Something of the tlv's own may not be. -/
def badB (t : Int) (s : ByteArray) (l : List S32) : Bool :=
  decide (t < 0) || decide (255 < t) || (Go.bits .and .i64 t 31 == 31) || (if Go.bits .and .i64 t 32 = 0 then decide (0 < l.length) else decide (s.toList ≠ []))
def deep0 (t : Int) : Nat := if Go.bits .and .i64 t 32 = 0 then 0 else 1
mutual
/-- How long its content is, and how deep it is; none: it may not be. -/
def szT : S32 → Option (Nat × Nat)
  | ⟨t, s, l⟩ => if badB t s l = true then none else
    match szL l s.size (deep0 t) with
    | none => none
    | some (n, d) => if 1048576 < n then none else some (n, d)
def szL : List S32 → Nat → Nat → Option (Nat × Nat)
  | [], n, d => some (n, d)
  | x :: r, n, d =>
    match szT x with
    | none => none
    | some (k, e) => if 12 ≤ e then none else szL r (n + 1 + (lenB k).length + k) (max d (e + 1))
end
mutual
/-- Of no more others, bytes, than a statement goes through. -/
def wideT : S32 → Prop
  | ⟨t, s, l⟩ => l.length ≤ 100 ∧ s.size ≤ 700 ∧ wideL l
def wideL : List S32 → Prop
  | [] => True
  | x :: r => wideT x ∧ wideL r
end
theorem wideL_mem : ∀ (l : List S32), wideL l → ∀ x, x ∈ l → wideT x
  | [], _, x, h => by simp at h
  | y :: r, hw, x, h => by
    simp only [wideL] at hw
    rcases List.mem_cons.1 h with rfl | h
    · exact hw.1
    · exact wideL_mem r hw.2 x h
theorem szT_le (x : S32) (n d : Nat) (h : szT x = some (n, d)) : n ≤ 1048576 := by
  cases x
  simp only [szT] at h
  split at h
  · cases h
  · split at h
    · cases h
    · split at h
      · cases h
      · injection h with h; injection h with h1 h2; omega
theorem lenB_len (n : Nat) (h : n ≤ 1048576) : (lenB n).length ≤ 8 ∧ 1 ≤ (lenB n).length := by
  unfold lenB
  have := sizeN_le n (by omega)
  split
  · simp
  · simp [topB_len]; omega
theorem szL_deep : ∀ (l : List S32) (n d m e : Nat), szL l n d = some (m, e) → d ≤ 12 → e ≤ 12
  | [], n, d, m, e, h, hd => by simp only [szL] at h; injection h with h; injection h with h1 h2; omega
  | x :: r, n, d, m, e, h, hd => by
    simp only [szL] at h
    split at h
    · cases h
    · split at h
      · cases h
      · exact szL_deep r _ _ m e h (by omega)
theorem deep0_le (t : Int) : deep0 t ≤ 1 := by unfold deep0; split <;> omega
theorem szT_deep (x : S32) (n d : Nat) (h : szT x = some (n, d)) : d ≤ 12 := by
  cases x
  rename_i t s l
  simp only [szT] at h
  split at h
  · cases h
  · split at h
    · cases h
    · rename_i heq
      split at h
      · cases h
      · injection h with h; injection h with h1 h2
        have := szL_deep l _ _ _ _ heq (by have := deep0_le t; omega)
        omega
theorem szL_enc : ∀ (l : List S32), (∀ y, y ∈ l → ∀ n d, szT y = some (n, d) → n = y.f1.size + (encL y.f2).length) → ∀ n d m e, szL l n d = some (m, e) → m = n + (encL l).length ∧ ∀ y, y ∈ l → ∃ k q, szT y = some (k, q)
  | [], hs, n, d, m, e, h => by
    simp only [szL] at h
    injection h with h; injection h with h1 h2
    exact ⟨by simp [encL, h1], fun y hy => by simp at hy⟩
  | x :: r, hs, n, d, m, e, h => by
    simp only [szL] at h
    split at h
    · cases h
    · rename_i k q heq
      split at h
      · cases h
      · obtain ⟨h1, h2⟩ := szL_enc r (fun y hy => hs y (List.mem_cons_of_mem _ hy)) _ _ m e h
        have h3 := hs x (by simp) k q heq
        have h4 : (encT x).length = 1 + (lenB k).length + k := by
          rw [encT_eq, ← h3]
          have := bytesOf_length x.f1
          simp [this]; omega
        refine ⟨by simp [encL, h4]; omega, fun y hy => ?_⟩
        rcases List.mem_cons.1 hy with rfl | hy
        · exact ⟨k, q, heq⟩
        · exact h2 y hy
theorem szT_enc_all : ∀ (b : Nat) (x : S32), SizeOf.sizeOf x < b → ∀ n d, szT x = some (n, d) → n = x.f1.size + (encL x.f2).length ∧ ∀ y, y ∈ x.f2 → ∃ k q, szT y = some (k, q)
  | 0, x, h => by omega
  | b + 1, ⟨t, s, l⟩, hb => by
    intro n d h
    simp only [szT] at h
    split at h
    · cases h
    · split at h
      · cases h
      · rename_i m e heq
        have h1 := szL_enc l (fun y hy k q hk => (szT_enc_all b y (by
          have := List.sizeOf_lt_of_mem hy
          simp at hb
          omega) k q hk).1) _ _ _ _ heq
        split at h
        · cases h
        · injection h with h; injection h with h2 h3
          exact ⟨by rw [← h2]; exact h1.1, h1.2⟩
theorem szT_enc (x : S32) (n d : Nat) (h : szT x = some (n, d)) : n = x.f1.size + (encL x.f2).length := (szT_enc_all _ x (Nat.lt_succ_self _) n d h).1
theorem szT_sub (x : S32) (n d : Nat) (h : szT x = some (n, d)) : ∀ y, y ∈ x.f2 → ∃ k q, szT y = some (k, q) := (szT_enc_all _ x (Nat.lt_succ_self _) n d h).2
theorem bytesOf_nums (l : List Int) (h : ∀ c, c ∈ l → 0 ≤ c ∧ c < 256) : bytesOf (strOfNums l) = l := by
  unfold bytesOf strOfNums
  simp only [List.map_map]
  apply List.ext_getElem
  · simp
  · intro i h1 h2
    simp
    have := h l[i] (List.getElem_mem h2)
    omega
theorem topB_bytes (n : Nat) : ∀ k c, c ∈ topB n k → 0 ≤ c ∧ c < 256
  | 0, c, h => by simp [topB] at h
  | k + 1, c, h => by
    rw [topB] at h
    rcases List.mem_cons.1 h with rfl | h
    · omega
    · exact topB_bytes n k c h
theorem lenB_bytes (n : Nat) : ∀ c, c ∈ lenB n → 0 ≤ c ∧ c < 256 := by
  intro c h
  unfold lenB at h
  split at h
  · simp at h; omega
  · rcases List.mem_cons.1 h with rfl | h
    · omega
    · exact topB_bytes n _ c h
theorem encT_small (x : S32) (n d : Nat) (h : szT x = some (n, d)) : (encT x).length ≤ 1048600 := by
  have h1 := szT_le x n d h
  have h2 := szT_enc x n d h
  have h3 := lenB_len n h1
  rw [encT_eq, ← h2]
  have := bytesOf_length x.f1
  simp [this]; omega
end Go.Proofs.Ytmgkflkpompchaa.Enc
