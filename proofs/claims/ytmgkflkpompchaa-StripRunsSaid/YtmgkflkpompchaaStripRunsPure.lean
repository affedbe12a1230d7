/- The program's strip beside the reference's: what stays true through a run; their memory side by side. No program here. -/
import Derived.Test.YtmgkflkpompchaaStripRef6
import Derived.Test.YtmgkflkpompchaaArgs
namespace Go.Proofs.Ytmgkflkpompchaa.StripRuns
open Go.RowKit Go.Proofs.YtmgkflkpompchaaW.PrintWords Go.Proofs.Ytmgkflkpompchaa.Strip
set_option linter.unusedVariables false
set_option linter.unusedSimpArgs false

structure RunInv (S : St) (n : Nat) : Prop where
  c0 : 0 ≤ S.count
  c1 : S.count ≤ n
  cr : S.crash ≤ 9223372036854775807
  ssz : ∀ b ∈ S.safe, b.size = 32
  idx : ∀ c ∈ S.loose, c.1 < S.safe.length
  siz : ∀ c ∈ S.loose, c.2.size = 32
  num : S.loose.length ≤ n
  len : S.safe.length ≤ 65536
variable {S : St} {n : Nat}
theorem RunInv.bnd (h : RunInv S n) (hn : n ≤ 1000) : Bnd S := ⟨h.c0, by have := h.c1; omega, h.cr⟩
theorem RunInv.lng (h : RunInv S n) (hn : n ≤ 1000) : S.loose.length ≤ 1099511627776 := Nat.le_trans h.num (by omega)
theorem RunInv.more (h : RunInv S n) : RunInv S (n + 1) := ⟨h.c0, by have := h.c1; omega, h.cr, h.ssz, h.idx, h.siz, Nat.le_succ_of_le h.num, h.len⟩
theorem run_new (bl cr : Int) (hc : cr ≤ 9223372036854775807) : RunInv (newS bl cr) 0 := by
  refine ⟨Int.le_refl _, Int.le_refl _, hc, ?_, fun c hc => by simp [newS] at hc, fun c hc => by simp [newS] at hc, Nat.le_refl _, ?_⟩
  · intro b hb
    obtain rfl := List.eq_of_mem_replicate hb; exact zero_size
  · simp [newS]; exact newN_le bl
theorem run_cnt (h : RunInv S n) (hn : n ≤ 1000) : RunInv (cntS S) (n + 1) := by
  have hw := (cnt_up (h.bnd hn)).1
  have h0 := h.c0
  have h1 := h.c1
  exact ⟨by rw [hw]; omega, by rw [hw]; omega, h.cr, h.ssz, h.idx, h.siz, Nat.le_succ_of_le h.num, h.len⟩
theorem run_write (h : RunInv S n) (hn : n ≤ 1000) (i : Int) (b : ByteArray) : RunInv (wrS S i b) (n + 1) := by
  unfold wrS
  split
  · rename_i ha
    split
    · rename_i hb
      have hc := run_cnt h hn
      split
      · have hz := at_zero ha
        refine ⟨hc.c0, hc.c1, hc.cr, hc.ssz, ?_, ?_, ?_, hc.len⟩
        · intro c hx
          rcases List.mem_append.1 hx with hx | hx
          · exact h.idx c hx
          · simp at hx; subst hx; show i.toNat < S.safe.length; omega
        · intro c hx
          rcases List.mem_append.1 hx with hx | hx
          · exact h.siz c hx
          · simp at hx; subst hx; exact hb
        · show (S.loose ++ _).length ≤ _
          rw [List.length_append]; have := h.num; simp; omega
      · exact hc
    · exact h.more
  · exact h.more
theorem run_sync (h : RunInv S n) (hn : n ≤ 1000) : RunInv (syS S) (n + 1) := by
  unfold syS
  split
  · have hc := run_cnt h hn
    split
    · exact ⟨hc.c0, hc.c1, hc.cr, doAll_size 32 _ _ h.ssz h.siz, fun c hc => by simp at hc, fun c hc => by simp at hc, Nat.zero_le _, by show (doAll _ _).length ≤ _; rw [doAll_len]; exact h.len⟩
    · exact hc
  · exact h.more
theorem run_tear (h : RunInv S n) (k : Int) (hk : k ≤ 9223372036854775807) : RunInv (tearS S k) (n + 1) :=
  ⟨Int.le_refl _, by show (0 : Int) ≤ _; omega, hk, h.ssz, h.idx, h.siz, Nat.le_succ_of_le h.num, h.len⟩
theorem mem_take_size {b : ByteArray} (k : Nat) (hk : k ≤ 32) {o : ByteArray} (h1 : b.size = 32) (h2 : o.size = 32) : (b.extract 0 k ++ o.extract k 32).size = 32 := by
  simp [ByteArray.size_append, ByteArray.size_extract, h1, h2]; omega
theorem run_fall (h : RunInv S n) (bl cr ke tn : Int) (hk : cr ≤ 9223372036854775807) : RunInv (fallS S bl cr ke tn) (n + 1) := by
  have hs := doAll_size 32 (S.loose.take (kp ke (S.loose.length + 1))) S.safe h.ssz (fun c hc => h.siz c (List.mem_of_mem_take hc))
  have hl := doAll_len (S.loose.take (kp ke (S.loose.length + 1))) S.safe
  unfold fallS
  generalize kp ke (S.loose.length + 1) = K at hs hl ⊢
  refine ⟨Int.le_refl _, by show (0 : Int) ≤ _; omega, hk, ?_, fun c hc => by simp [fallAt] at hc, fun c hc => by simp [fallAt] at hc, Nat.zero_le _, ?_⟩
  · unfold fallAt
    dsimp only
    split
    · exact hs
    · rename_i c hc
      have hmem := List.mem_of_getElem? hc
      intro b hb
      rcases List.mem_or_eq_of_mem_set hb with hb | rfl
      · exact hs b hb
      · have hi := h.idx c hmem
        rw [← hl] at hi
        refine mem_take_size _ (by have := kp_lt tn 33 (by omega); omega) (h.siz c hmem) ?_
        rw [List.getD_eq_getElem?_getD, List.getElem?_eq_getElem hi]
        exact hs _ (List.getElem_mem hi)
  · unfold fallAt
    dsimp only
    split
    · rw [hl]; exact h.len
    · rw [List.length_set, hl]; exact h.len

/-! ### side by side -/
structure Pair (B : Nat) (w : World) (p q : Nat) (S T : St) (F G : Nat → Prop) : Prop where
  a : IsStrip B w p S F
  b : IsRf B w q T G
  dis : ∀ k, F k → ¬ G k
  fF : ∀ k, F k → k < w.heap.size
  fG : ∀ k, G k → k < w.heap.size
variable {B : Nat} {w w' : World} {p q : Nat} {S' T T' : St} {F F' G G' : Nat → Prop}
theorem Pair.below (h : Pair B w p q S T F G) (hb : Below w.heap.size w w') : Pair B w' p q S T F G :=
  ⟨h.a.below hb, h.b.below hb, h.dis, fun k hk => Nat.lt_of_lt_of_le (h.fF k hk) hb.size, fun k hk => Nat.lt_of_lt_of_le (h.fG k hk) hb.size⟩
theorem Pair.nextA (h : Pair B w p q S T F G) (hs : IsStrip B w' p S' F') (hn : Strip.Next F F' w w') : ∃ F2, Pair B w' p q S' T F2 G := by
  obtain ⟨F2, g1, g2⟩ := hs.shrink
  refine ⟨F2, g1, h.b.keep hn.1 (fun k hg hf => h.dis k hf hg), fun k hf hg => ?_, fun k hk => (g2 k hk).2, fun k hk => Nat.lt_of_lt_of_le (h.fG k hk) hn.1.size⟩
  rcases hn.2 k (g2 k hf).1 with f | f
  · exact h.dis k f hg
  · have := h.fG k hg; omega
theorem Pair.nextB (h : Pair B w p q S T F G) (hs : IsRf B w' q T' G') (hn : Strip.Next G G' w w') : ∃ G2, Pair B w' p q S T' F G2 := by
  obtain ⟨G2, g1, g2⟩ := hs.shrink
  refine ⟨G2, h.a.keep hn.1 (fun k hf hg => h.dis k hf hg), g1, fun k hf hg => ?_, fun k hk => Nat.lt_of_lt_of_le (h.fF k hk) hn.1.size, fun k hk => (g2 k hk).2⟩
  rcases hn.2 k (g2 k hg).1 with f | f
  · exact h.dis k hf f
  · have := h.fF k hf; omega
theorem Pair.thruA {w0 : World} (h : Pair w0.heap.size w p q S T F G) (hb : Below w0.heap.size w0 w) (hn : Strip.Next F F' w w') : Below w0.heap.size w0 w' := below_thru hb h.a.ge hn.1
theorem Pair.thruB {w0 : World} (h : Pair w0.heap.size w p q S T F G) (hb : Below w0.heap.size w0 w) (hn : Strip.Next G G' w w') : Below w0.heap.size w0 w' := below_thru hb h.b.ge hn.1
theorem pair_start {w w1 w2 w3 : World} {p q : Nat} {F G : Nat → Prop} (hw : Below w.heap.size w w1) (ha : IsStrip w1.heap.size w2 p S F) (hb : Below w1.heap.size w1 w2) (hc : IsRf w2.heap.size w3 q T G) (hd : Below w2.heap.size w2 w3) :
    ∃ F' G', Pair w.heap.size w3 p q S T F' G' ∧ Below w.heap.size w w3 := by
  obtain ⟨F', f1, f2⟩ := ha.shrink
  obtain ⟨G', g1, g2⟩ := hc.shrink
  have hge := hc.ge
  have lowA : IsStrip w.heap.size w2 p S F' := by
    obtain ⟨gs, vl, h1, h2, h3, h4, h5, h6, h7, h8⟩ := f1
    exact ⟨gs, vl, h1, h2, own_weaken h3 hw.size, h4, h5, h6, fun k hk => Nat.le_trans hw.size (h7 k hk), h8⟩
  have h2s : w.heap.size ≤ w2.heap.size := Nat.le_trans hw.size hb.size
  have lowB : IsRf w.heap.size w3 q T G' := by
    obtain ⟨vs, vl, h1, h2, h3, h4, h5, h6, h7⟩ := g1
    exact ⟨vs, vl, h1, own_weaken h2 h2s, own_weaken h3 h2s, h4, h5, h6, fun k hk => Nat.le_trans h2s (h7 k hk)⟩
  refine ⟨F', G', ⟨lowA.below hd, lowB, fun k hf hg => ?_, fun k hk => Nat.lt_of_lt_of_le (f2 k hk).2 hd.size, fun k hk => (g2 k hk).2⟩, (hw.trans (hb.mono hw.size)).trans (hd.mono h2s)⟩
  have := (f2 k hf).2; have := hge k (g2 k hg).1; omega
end Go.Proofs.Ytmgkflkpompchaa.StripRuns
