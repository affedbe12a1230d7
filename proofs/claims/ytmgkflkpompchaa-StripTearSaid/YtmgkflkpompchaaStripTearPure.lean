/- A strip that is torn: what it answers to changes, counted. No program here. -/
import Derived.Test.YtmgkflkpompchaaStripAwake
namespace Go.Proofs.Ytmgkflkpompchaa.StripTear
open Go.RowKit Go.Proofs.Ytmgkflkpompchaa.Strip
set_option linter.unusedVariables false
set_option linter.unusedSimpArgs false

/-- Behind c changes of a strip whose change number k is the last one. -/
structure TInv (S : St) (k c : Nat) : Prop where
  crash : S.crash = (k : Int)
  len : S.safe.length = 2
  ssz : ∀ b ∈ S.safe, b.size = 32
  idx : ∀ x ∈ S.loose, x.1 < 2
  siz : ∀ x ∈ S.loose, x.2.size = 32
  num : S.loose.length ≤ c
  up : c < k → S.count = (c : Int) ∧ S.down = false
  dn : k ≤ c → S.down = true
/-- What the change behind c others answers. -/
def ansE (k c : Nat) : Int := if c + 1 < k then 0 else 8
theorem cnt_count {S : St} {k c : Nat} (h : TInv S k c) (hc : c ≤ 100) (hk : c < k) : (cntS S).count = ((c + 1 : Nat) : Int) ∧ (cntS S).down = decide (c + 1 = k) := by
  have hw : wrap64 (S.count + 1) = ((c + 1 : Nat) : Int) := by rw [(h.up hk).1]; unfold wrap64; omega
  refine ⟨hw, ?_⟩
  show (wrap64 (S.count + 1) == S.crash) = _
  rw [hw, h.crash]
  by_cases e : c + 1 = k
  · rw [e]; simp
  · rw [decide_eq_false e]; simp; omega
theorem cnt_inv {S : St} {k c : Nat} (h : TInv S k c) (hc : c ≤ 100) (hk : c < k) : TInv (cntS S) k (c + 1) := by
  obtain ⟨h1, h2⟩ := cnt_count h hc hk
  exact ⟨h.crash, h.len, h.ssz, h.idx, h.siz, Nat.le_succ_of_le h.num, fun e => ⟨h1, by rw [h2]; exact decide_eq_false (by omega)⟩, fun e => by rw [h2]; exact decide_eq_true (by omega)⟩
theorem ask_cnt {S : St} {k c : Nat} (h : TInv S k c) (hc : c ≤ 100) (hk : c < k) : askE (cntS S) = ansE k c := by
  unfold askE ansE
  rw [(cnt_count h hc hk).2]
  by_cases e : c + 1 = k
  · rw [if_pos (by simpa using e), if_neg (by omega)]
  · rw [if_neg (by simpa using e), if_pos (by omega)]
theorem down_ans {k c : Nat} (hk : k ≤ c) : ansE k c = 8 := if_neg (by omega)
theorem tear_write {S : St} {k c : Nat} (h : TInv S k c) (hc : c ≤ 100) (j : Nat) (hj : j < 2) (b : ByteArray) (hb : b.size = 32) : wrE S (j : Int) b = ansE k c ∧ TInv (wrS S (j : Int) b) k (c + 1) := by
  unfold wrE wrS
  by_cases hk : c < k
  · have ha : atE S (j : Int) = 0 := by
      unfold atE
      rw [if_neg (by rw [(h.up hk).2]; simp), if_neg (by rw [h.len]; omega)]
    rw [if_pos ha, if_pos hb, if_pos ha, if_pos hb, ask_cnt h hc hk]
    refine ⟨rfl, ?_⟩
    have hi := cnt_inv h hc hk
    split
    · refine ⟨hi.crash, hi.len, hi.ssz, ?_, ?_, ?_, hi.up, hi.dn⟩
      · intro x hx
        rcases List.mem_append.1 hx with hx | hx
        · exact h.idx x hx
        · simp at hx; subst hx; simpa using hj
      · intro x hx
        rcases List.mem_append.1 hx with hx | hx
        · exact h.siz x hx
        · simp at hx; subst hx; exact hb
      · show (S.loose ++ _).length ≤ _
        rw [List.length_append]; have := h.num; simp; omega
    · exact hi
  · have hd := h.dn (by omega)
    have ha : atE S (j : Int) = 8 := by unfold atE; rw [if_pos hd]
    rw [ha, if_neg (by decide), if_neg (by decide)]
    exact ⟨(down_ans (by omega)).symm, ⟨h.crash, h.len, h.ssz, h.idx, h.siz, Nat.le_succ_of_le h.num, fun e => absurd e (by omega), fun _ => hd⟩⟩
theorem tear_sync {S : St} {k c : Nat} (h : TInv S k c) (hc : c ≤ 100) : syE S = ansE k c ∧ TInv (syS S) k (c + 1) := by
  unfold syE syS
  by_cases hk : c < k
  · have ha : askE S = 0 := by unfold askE; rw [if_neg (by rw [(h.up hk).2]; simp)]
    rw [if_pos ha, if_pos ha, ask_cnt h hc hk]
    refine ⟨rfl, ?_⟩
    have hi := cnt_inv h hc hk
    split
    · exact ⟨hi.crash, (doAll_len _ _).trans h.len, doAll_size 32 _ _ h.ssz h.siz, fun x hx => absurd hx (by simp), fun x hx => absurd hx (by simp), Nat.zero_le _, hi.up, hi.dn⟩
    · exact hi
  · have hd := h.dn (by omega)
    have ha : askE S = 8 := by unfold askE; rw [if_pos hd]
    rw [ha, if_neg (by decide), if_neg (by decide)]
    exact ⟨(down_ans (by omega)).symm, ⟨h.crash, h.len, h.ssz, h.idx, h.siz, Nat.le_succ_of_le h.num, fun e => absurd e (by omega), fun _ => hd⟩⟩
theorem tear_new (k : Nat) (hk : 1 ≤ k) : TInv (newS 2 (k : Int)) k 0 := by
  refine ⟨rfl, rfl, ?_, fun x hx => absurd hx (by simp [newS]), fun x hx => absurd hx (by simp [newS]), Nat.zero_le _, fun _ => ⟨rfl, rfl⟩, fun e => absurd e (by omega)⟩
  intro b hb
  obtain rfl := List.eq_of_mem_replicate hb
  exact zero_size
theorem tear_again {S : St} {k : Nat} (h : TInv S k 0) (hk : 1 ≤ k) (k' : Nat) (hk' : 1 ≤ k') : TInv (tearS S (k' : Int)) k' 0 :=
  ⟨rfl, h.len, h.ssz, h.idx, h.siz, h.num, fun _ => ⟨rfl, (h.up (by omega)).2⟩, fun e => absurd e (by omega)⟩
end Go.Proofs.Ytmgkflkpompchaa.StripTear
