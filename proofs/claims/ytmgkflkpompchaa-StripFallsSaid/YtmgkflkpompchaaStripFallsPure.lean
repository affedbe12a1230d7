/- A fall of a strip in which each loose change has a block of its own. No program here. -/
import Derived.Test.YtmgkflkpompchaaStripAwake
namespace Go.Proofs.Ytmgkflkpompchaa.StripFalls
open Go.RowKit Go.Proofs.Ytmgkflkpompchaa.Strip
set_option linter.unusedVariables false
set_option linter.unusedSimpArgs false

/-- The changes of the bytes: each in a block of its own. -/
def numbered (l : List Int) : List (Nat × ByteArray) := l.zipIdx.map fun q => (q.2, blk q.1)
theorem numbered_len (l : List Int) : (numbered l).length = l.length := by simp [numbered]
theorem numbered_at (l : List Int) (i : Nat) (h : i < (numbered l).length) : (numbered l)[i] = (i, blk (l[i]'(by simpa [numbered] using h))) := by simp [numbered]
theorem numbered_snoc (l : List Int) (x : Int) : numbered (l ++ [x]) = numbered l ++ [(l.length, blk x)] := by simp [numbered, List.zipIdx_append]
theorem doAll_own (s : List ByteArray) (l : List (Nat × ByteArray)) (hl : ∀ i (h : i < l.length), l[i].1 = i) (hs : l.length ≤ s.length) :
    ∀ K, K ≤ l.length → ∀ i, (doAll s (l.take K))[i]? = if h : i < K ∧ i < l.length then some (l[i]'h.2).2 else s[i]?
  | 0, _, i => by rw [dif_neg (by omega)]; rfl
  | K + 1, hK, i => by
    have ih := doAll_own s l hl hs K (by omega) i
    rw [doAll_take s l K (by omega), List.getElem?_set, hl K (by omega), doAll_len]
    by_cases e : K = i
    · subst e
      rw [if_pos rfl, if_pos (by omega), dif_pos ⟨by omega, by omega⟩]
    · rw [if_neg e, ih]
      by_cases h : i < K ∧ i < l.length
      · rw [dif_pos h, dif_pos ⟨by omega, h.2⟩]
      · rw [dif_neg h, dif_neg (by omega)]
/-- The blocks ahead of the changes. -/
def base : List ByteArray := (List.replicate 40 zero32).set 39 (blk 9)
theorem base_len : base.length = 40 := by simp [base]
theorem base_size : ∀ b ∈ base, b.size = 32 := by
  intro b hb
  rcases List.mem_or_eq_of_mem_set hb with hb | rfl
  · obtain rfl := List.eq_of_mem_replicate hb; exact zero_size
  · exact blk_size 9
theorem base_at (i : Nat) (h : i < 39) : base[i]? = some zero32 := by
  unfold base
  rw [List.getElem?_set_ne (by omega), List.getElem?_replicate, if_pos (by omega)]
theorem base_last : base[39]? = some (blk 9) := by
  unfold base
  rw [List.getElem?_set_self (by simp)]
/-- What stands in a block behind the fall. -/
def wantB (l : List Int) (K T i : Nat) (h : i < l.length) : ByteArray := if i < K then blk l[i] else if i = K then (blk l[i]).extract 0 T ++ zero32.extract T 32 else zero32
theorem fall_safe (l : List Int) (n : Int) (hl : l.length ≤ 30) (ke tn : Int) :
    (fallS ⟨base, numbered l, 0, n, false⟩ 0 0 ke tn).safe.length = 40 ∧
    (∀ i (h : i < l.length), (fallS ⟨base, numbered l, 0, n, false⟩ 0 0 ke tn).safe.getD i ⟨#[]⟩ = wantB l (kp ke (l.length + 1)) (kp tn 33) i h) ∧
    (fallS ⟨base, numbered l, 0, n, false⟩ 0 0 ke tn).safe.getD 39 ⟨#[]⟩ = blk 9 := by
  unfold fallS
  simp only [numbered_len]
  have hK := kp_lt ke (l.length + 1) (by omega)
  generalize kp ke (l.length + 1) = K at hK ⊢
  have hown : ∀ i (h : i < (numbered l).length), (numbered l)[i].1 = i := fun i h => by rw [numbered_at l i h]
  have hD := fun K hK => doAll_own base (numbered l) hown (by rw [numbered_len, base_len]; omega) K hK
  by_cases hk : K < l.length
  · have hk' : K < (numbered l).length := by rw [numbered_len]; exact hk
    rw [fallAt_some _ _ _ _ hk', numbered_at l K hk']
    dsimp only
    have D := hD K (by omega)
    have hlen := doAll_len ((numbered l).take K) base
    have hz : (doAll base ((numbered l).take K)).getD K ⟨#[]⟩ = zero32 := by
      rw [List.getD_eq_getElem?_getD, D K, dif_neg (by omega), base_at K (by omega)]; rfl
    rw [hz]
    generalize doAll base ((numbered l).take K) = s at D hlen
    rw [base_len] at hlen
    refine ⟨by rw [List.length_set, hlen], fun i h => ?_, ?_⟩
    · rw [List.getD_eq_getElem?_getD]
      unfold wantB
      by_cases e : K = i
      · subst e
        rw [List.getElem?_set_self (by omega), if_neg (by omega), if_pos rfl, Option.getD_some]
      · rw [List.getElem?_set_ne e, D i]
        by_cases h1 : i < K
        · rw [dif_pos ⟨h1, by rw [numbered_len]; exact h⟩, if_pos h1]
          simp only [numbered_at, Option.getD_some]
        · rw [dif_neg (by omega), if_neg h1, if_neg (fun q => e q.symm), base_at i (by omega)]; rfl
    · rw [List.getD_eq_getElem?_getD, List.getElem?_set_ne (by omega), D 39, dif_neg (by rw [numbered_len]; omega), base_last]; rfl
  · obtain rfl : K = l.length := by omega
    have e : fallAt ⟨base, numbered l, 0, n, false⟩ 0 l.length tn = fallAt ⟨base, numbered l, 0, n, false⟩ 0 (numbered l).length tn := by rw [numbered_len]
    have D := hD (numbered l).length (Nat.le_refl _)
    rw [List.take_length] at D
    have hlen := doAll_len (numbered l) base
    have e2 : ∀ T, (fallAt ⟨base, numbered l, 0, n, false⟩ 0 l.length T).safe = doAll base (numbered l) := by
      intro T
      have : l.length = (numbered l).length := (numbered_len l).symm
      have h2 := fallAt_none ⟨base, numbered l, 0, n, false⟩ 0 T
      rw [show (⟨base, numbered l, 0, n, false⟩ : St).loose.length = l.length from numbered_len l] at h2
      rw [h2]
    rw [e2]
    generalize doAll base (numbered l) = s at D hlen
    rw [base_len] at hlen
    refine ⟨hlen, fun i h => ?_, ?_⟩
    · rw [List.getD_eq_getElem?_getD, D i, dif_pos ⟨by rw [numbered_len]; exact h, by rw [numbered_len]; exact h⟩]
      unfold wantB
      rw [if_pos h]
      simp only [numbered_at, Option.getD_some]
    · rw [List.getD_eq_getElem?_getD, D 39, dif_neg (by rw [numbered_len]; omega), base_last]; rfl
theorem fall_rest (S : St) (ke tn : Int) : (fallS S 0 0 ke tn).loose = [] ∧ (fallS S 0 0 ke tn).down = false := ⟨rfl, rfl⟩
theorem fall_at (l : List Int) (n : Int) (hl : l.length ≤ 30) (ke tn : Int) (i : Nat) (hi : i < 40) : atE (fallS ⟨base, numbered l, 0, n, false⟩ 0 0 ke tn) (i : Int) = 0 := by
  have h := (fall_safe l n hl ke tn).1
  unfold atE
  rw [if_neg (by rw [(fall_rest _ _ _).2]; simp), h, if_neg (by omega)]
theorem fall_read (l : List Int) (n : Int) (hl : l.length ≤ 30) (ke tn : Int) :
    (∀ i (h : i < l.length), rdS (fallS ⟨base, numbered l, 0, n, false⟩ 0 0 ke tn) (i : Int) = wantB l (kp ke (l.length + 1)) (kp tn 33) i h) ∧ rdS (fallS ⟨base, numbered l, 0, n, false⟩ 0 0 ke tn) 39 = blk 9 := by
  have h := fall_safe l n hl ke tn
  refine ⟨fun i hi => ?_, ?_⟩
  · unfold rdS
    rw [if_pos (fall_at l n hl ke tn i (by omega)), (fall_rest _ _ _).1]
    exact h.2.1 i hi
  · unfold rdS
    rw [if_pos (show atE _ 39 = 0 from fall_at l n hl ke tn 39 (by omega)), (fall_rest _ _ _).1]
    exact h.2.2
/-- The writes. -/
theorem falls_write (l : List Int) (n : Nat) (hn : n ≤ 100) (j : Nat) (hj : j < 30) (hl : l.length = j) (x : Int) :
    wrE ⟨base, numbered l, 0, (n : Int), false⟩ (j : Int) (blk x) = 0 ∧ wrS ⟨base, numbered l, 0, (n : Int), false⟩ (j : Int) (blk x) = ⟨base, numbered (l ++ [x]), 0, ((n + 1 : Nat) : Int), false⟩ := by
  have ha : atE ⟨base, numbered l, 0, (n : Int), false⟩ (j : Int) = 0 := by
    unfold atE
    rw [if_neg (by simp)]
    simp only [base_len]
    rw [if_neg (by omega)]
  unfold wrE wrS
  rw [if_pos ha, if_pos ha, if_pos (blk_size x), if_pos (blk_size x), cnt0 _ _ _ (by omega) (by omega)]
  refine ⟨rfl, ?_⟩
  rw [if_pos (show askE _ = 0 from rfl), numbered_snoc, hl]
  simp
theorem first_write : wrE (newS 40 0) 39 (blk 9) = 0 ∧ wrS (newS 40 0) 39 (blk 9) = ⟨List.replicate 40 zero32, [(39, blk 9)], 0, 1, false⟩ := by
  have e : newS 40 0 = ⟨List.replicate 40 zero32, [], 0, 0, false⟩ := rfl
  have ha : atE ⟨List.replicate 40 zero32, [], 0, 0, false⟩ 39 = 0 := by
    unfold atE; rw [if_neg (by simp), if_neg (by simp)]
  rw [e]
  unfold wrE wrS
  rw [if_pos ha, if_pos ha, if_pos (blk_size 9), if_pos (blk_size 9), cnt0 _ _ _ (by omega) (by omega)]
  refine ⟨rfl, ?_⟩
  rw [if_pos (show askE _ = 0 from rfl)]
  rfl
theorem first_sync : syE ⟨List.replicate 40 zero32, [(39, blk 9)], 0, 1, false⟩ = 0 ∧ syS ⟨List.replicate 40 zero32, [(39, blk 9)], 0, 1, false⟩ = ⟨base, numbered [], 0, ((2 : Nat) : Int), false⟩ := by
  unfold syE syS
  have h0 : askE ⟨List.replicate 40 zero32, [(39, blk 9)], 0, 1, false⟩ = 0 := rfl
  rw [if_pos h0, if_pos h0, cnt0 _ _ _ (by omega) (by omega)]
  refine ⟨rfl, ?_⟩
  rw [if_pos (show askE _ = 0 from rfl)]
  rfl
end Go.Proofs.Ytmgkflkpompchaa.StripFalls
