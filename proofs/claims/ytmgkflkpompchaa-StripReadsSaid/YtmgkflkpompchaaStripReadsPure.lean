/- Two strips and a row of what was written: what a read answers behind writes and syncs. No program here. -/
import Derived.Test.YtmgkflkpompchaaStripAwake
namespace Go.Proofs.Ytmgkflkpompchaa.StripReads
open Go.RowKit Go.Proofs.YtmgkflkpompchaaW.PrintWords Go.Proofs.Ytmgkflkpompchaa.Strip
set_option linter.unusedVariables false
set_option linter.unusedSimpArgs false

theorem loop_len (b : ByteArray) : ∀ (n i : Nat) (r : List UInt8), b.size - i = n → (ByteArray.toList.loop b i r).length = r.length + n
  | 0, i, r, h => by
    unfold ByteArray.toList.loop
    rw [if_neg (by omega)]; simp
  | n + 1, i, r, h => by
    unfold ByteArray.toList.loop
    rw [if_pos (by omega), loop_len b n (i + 1) _ (by omega)]
    simp; omega
theorem toList_len (b : ByteArray) : b.toList.length = b.size := by
  unfold ByteArray.toList
  rw [loop_len b b.size 0 [] (by omega)]; simp
theorem toList_some (b : ByteArray) (h : b.size = 32) : ¬ b.toList = [] ∧ b.toList.isEmpty = false := by
  have := toList_len b
  cases e : b.toList with
  | nil => rw [e, h] at this; simp at this
  | cons x r => exact ⟨by simp, rfl⟩
theorem look_snoc (l : List (Nat × ByteArray)) (k : Nat) (b : ByteArray) (i : Int) (x : ByteArray) : Strip.look (l ++ [(k, b)]) i x = if (k : Int) = i then b else Strip.look l i x := by
  unfold Strip.look; rw [List.foldl_append]; rfl
theorem getD_set (s : List ByteArray) (k i : Nat) (b d : ByteArray) (h : k < s.length) : (s.set k b).getD i d = if k = i then b else s.getD i d := by
  rw [List.getD_eq_getElem?_getD, List.getD_eq_getElem?_getD, List.getElem?_set]
  by_cases e : k = i
  · subst e; rw [if_pos rfl, if_pos h, if_pos rfl]; rfl
  · rw [if_neg e, if_neg e]
theorem doAll_look : ∀ (l : List (Nat × ByteArray)) (s : List ByteArray) (i : Nat), (∀ c ∈ l, c.1 < s.length) → (doAll s l).getD i ⟨#[]⟩ = Strip.look l (i : Int) (s.getD i ⟨#[]⟩)
  | [], s, i, _ => rfl
  | c :: r, s, i, h => by
    show (doAll (s.set c.1 c.2) r).getD i ⟨#[]⟩ = Strip.look r (i : Int) (if (c.1 : Int) = i then c.2 else s.getD i ⟨#[]⟩)
    rw [doAll_look r (s.set c.1 c.2) i (fun x hx => by rw [List.length_set]; exact h x (List.mem_cons_of_mem _ hx)), getD_set _ _ _ _ _ (h c List.mem_cons_self)]
    congr 1
    by_cases e : c.1 = i
    · rw [if_pos e, if_pos (by omega)]
    · rw [if_neg e, if_neg (by omega)]

/-- Behind n writes, and some syncs. -/
structure RInv (S : St) (W : List ByteArray) (n : Nat) : Prop where
  dn : S.down = false
  crash : S.crash = 0
  cnt : 0 ≤ S.count ∧ S.count ≤ 2 * n
  len : S.safe.length = 8
  idx : ∀ c ∈ S.loose, c.1 < 8
  num : S.loose.length ≤ n
  wln : W.length = 8
  tell : ∀ j, j < 8 → (W.getD j ⟨#[]⟩ = ⟨#[]⟩ ∧ rdS S (j : Int) = zero32) ∨ ((W.getD j ⟨#[]⟩).size = 32 ∧ rdS S (j : Int) = W.getD j ⟨#[]⟩)
theorem at_ok {S : St} (h1 : S.down = false) (h2 : S.safe.length = 8) (j : Nat) (hj : j < 8) : atE S (j : Int) = 0 := by
  unfold atE; rw [if_neg (by rw [h1]; simp), if_neg (by rw [h2]; omega)]
theorem rd_ok {S : St} (h1 : S.down = false) (h2 : S.safe.length = 8) (j : Nat) (hj : j < 8) : rdS S (j : Int) = Strip.look S.loose (j : Int) (S.safe.getD j ⟨#[]⟩) := by
  unfold rdS; rw [if_pos (at_ok h1 h2 j hj)]; rfl
theorem cnt_ok {S : St} (h1 : S.down = false) (h2 : S.crash = 0) (h3 : 0 ≤ S.count) (h4 : S.count ≤ 1000) : cntS S = { S with count := S.count + 1, down := false } := by
  have e : S = ⟨S.safe, S.loose, 0, S.count, false⟩ := by cases S; simp only at h1 h2; subst h1 h2; rfl
  have := cnt0 S.safe S.loose S.count h3 (by omega)
  rw [← e] at this
  rw [this]
  cases S; simp only at h1 h2; subst h1 h2; rfl
theorem r_new : RInv (newS 8 0) (List.replicate 8 ⟨#[]⟩) 0 := by
  refine ⟨rfl, rfl, ⟨by decide, by decide⟩, rfl, fun c hc => by simp [newS] at hc, Nat.le_refl _, rfl, fun j hj => .inl ?_⟩
  have h2 : rdS (newS 8 0) (j : Int) = zero32 := by
    rw [rd_ok rfl rfl j hj]
    show (List.replicate 8 zero32).getD j ⟨#[]⟩ = zero32
    rw [List.getD_eq_getElem?_getD, List.getElem?_replicate, if_pos hj]; rfl
  refine ⟨?_, h2⟩
  rw [List.getD_eq_getElem?_getD, List.getElem?_replicate, if_pos hj]; rfl
theorem r_write {S : St} {W : List ByteArray} {n : Nat} (h : RInv S W n) (hn : n ≤ 100) (k : Nat) (hk : k < 8) (b : ByteArray) (hb : b.size = 32) : wrE S (k : Int) b = 0 ∧ RInv (wrS S (k : Int) b) (W.set k b) (n + 1) ∧ 0 ≤ (wrS S (k : Int) b).count ∧ (wrS S (k : Int) b).count + 1 ≤ 2 * (n + 1 : Nat) := by
  have ha := at_ok h.dn h.len k hk
  have hc := h.cnt
  unfold wrE wrS
  rw [if_pos ha, if_pos ha, if_pos hb, if_pos hb, cnt_ok h.dn h.crash hc.1 (by omega)]
  refine ⟨rfl, ?_⟩
  rw [if_pos (show askE _ = 0 from rfl)]
  refine ⟨⟨rfl, h.crash, ⟨by show 0 ≤ S.count + 1; omega, by show S.count + 1 ≤ _; omega⟩, h.len, ?_, ?_, by rw [List.length_set]; exact h.wln, ?_⟩, ?_, ?_⟩
  · intro c hc
    rcases List.mem_append.1 hc with hc | hc
    · exact h.idx c hc
    · simp at hc; subst hc; simpa using hk
  · show (S.loose ++ _).length ≤ _
    rw [List.length_append]; have := h.num; simp; omega
  · intro j hj
    have e : rdS { S with loose := S.loose ++ [((k : Int).toNat, b)], count := S.count + 1, down := false } (j : Int) = if k = j then b else rdS S (j : Int) := by
      rw [rd_ok (S := { S with loose := S.loose ++ [((k : Int).toNat, b)], count := S.count + 1, down := false }) rfl h.len j hj, rd_ok h.dn h.len j hj]
      show Strip.look (S.loose ++ [((k : Int).toNat, b)]) (j : Int) (S.safe.getD j ⟨#[]⟩) = _
      rw [Int.toNat_natCast, look_snoc]
      by_cases e : k = j
      · rw [if_pos e, if_pos (by omega)]
      · rw [if_neg e, if_neg (by omega)]
    have := h.tell j hj
    rw [getD_set _ _ _ _ _ (by rw [h.wln]; exact hk)]
    show _ ∧ rdS { S with loose := S.loose ++ [((k : Int).toNat, b)], count := S.count + 1, down := false } (j : Int) = _ ∨ _ ∧ rdS { S with loose := S.loose ++ [((k : Int).toNat, b)], count := S.count + 1, down := false } (j : Int) = _
    rw [e]
    by_cases e : k = j
    · rw [if_pos e, if_pos e]; exact .inr ⟨hb, rfl⟩
    · rw [if_neg e, if_neg e]; exact this
  · show 0 ≤ S.count + 1; omega
  · show S.count + 1 + 1 ≤ _; omega
theorem r_sync {S : St} {W : List ByteArray} {n : Nat} (h : RInv S W n) (hn : n ≤ 100) (h0 : 0 ≤ S.count ∧ S.count + 1 ≤ 2 * n) : syE S = 0 ∧ (syS S).loose = [] ∧ RInv (syS S) W n := by
  have ha : askE S = 0 := by unfold askE; rw [if_neg (by rw [h.dn]; simp)]
  unfold syE syS
  rw [if_pos ha, if_pos ha, cnt_ok h.dn h.crash h0.1 (by omega)]
  refine ⟨rfl, ?_⟩
  rw [if_pos (show askE _ = 0 from rfl)]
  refine ⟨rfl, rfl, h.crash, ⟨by show 0 ≤ S.count + 1; omega, by show S.count + 1 ≤ _; omega⟩, (doAll_len _ _).trans h.len, fun c hc => by simp at hc, Nat.zero_le _, h.wln, ?_⟩
  intro j hj
  rw [rd_ok rfl ((doAll_len _ _).trans h.len) j hj]
  show _ ∧ (doAll S.safe S.loose).getD j ⟨#[]⟩ = _ ∨ _ ∧ (doAll S.safe S.loose).getD j ⟨#[]⟩ = _
  rw [doAll_look _ _ _ (by rw [h.len]; exact h.idx)]
  have := h.tell j hj
  rw [rd_ok h.dn h.len j hj] at this
  exact this

/-! ### two strips, and the row -/
structure Two (B : Nat) (w : World) (p q gw : Nat) (S : St) (W : List ByteArray) (F G : Nat → Prop) : Prop where
  a : IsStrip B w p S F
  b : IsStrip B w q (newS 8 0) G
  row : w.heap[gw]? = some (.cells (W.map Value.string).toArray 9 (0, 0))
  dG : ∀ k, G k → ¬ F k ∧ k < w.heap.size
  dW : ¬ F gw ∧ ¬ G gw ∧ B ≤ gw
variable {B : Nat} {w w' : World} {p q gw : Nat} {S S' : St} {W : List ByteArray} {F F' G : Nat → Prop}
theorem Two.below (h : Two B w p q gw S W F G) (hb : Below w.heap.size w w') : Two B w' p q gw S W F G :=
  ⟨h.a.below hb, h.b.below hb, blk_below h.row hb, fun k hk => ⟨(h.dG k hk).1, Nat.lt_of_lt_of_le (h.dG k hk).2 hb.size⟩, h.dW⟩
theorem Two.next (h : Two B w p q gw S W F G) (hs : IsStrip B w' p S' F') (hn : Strip.Next F F' w w') : Two B w' p q gw S' W F' G := by
  refine ⟨hs, h.b.keep hn.1 (fun k hk => (h.dG k hk).1), (hn.1.block gw (blk_lt h.row) h.dW.1).trans h.row, fun k hk => ⟨fun f => ?_, Nat.lt_of_lt_of_le (h.dG k hk).2 hn.1.size⟩, fun f => ?_, h.dW.2⟩
  · rcases hn.2 k f with f | f
    · exact (h.dG k hk).1 f
    · have := (h.dG k hk).2; omega
  · rcases hn.2 gw f with f | f
    · exact h.dW.1 f
    · have := blk_lt h.row; omega
theorem Two.store (h : Two B w p q gw S W F G) (k : Nat) (b : ByteArray) : Two B (w.setCell ⟨gw, k, none⟩ (.string b)) p q gw S (W.set k b) F G := by
  have hk : Kept (fun i => i = gw) w (w.setCell ⟨gw, k, none⟩ (.string b)) := (Kept.refl (fun i => i = gw) w).set (g := gw) _ (.inl rfl)
  refine ⟨h.a.keep hk (fun i hi e => h.dW.1 (e ▸ hi)), h.b.keep hk (fun i hi e => h.dW.2.1 (e ▸ hi)), ?_, fun i hi => ⟨(h.dG i hi).1, Nat.lt_of_lt_of_le (h.dG i hi).2 hk.size⟩, h.dW⟩
  rw [← set_map]
  exact blk_set h.row k _
theorem Two.thru {w0 : World} (h : Two w0.heap.size w p q gw S W F G) (hb : Below w0.heap.size w0 w) (hn : Strip.Kept F w w') : Below w0.heap.size w0 w' := below_thru hb h.a.ge hn
theorem Two.thru_store {w0 : World} (h : Two w0.heap.size w p q gw S W F G) (hb : Below w0.heap.size w0 w) (k : Nat) (v : Value) : Below w0.heap.size w0 (w.setCell ⟨gw, k, none⟩ v) := below_set hb h.dW.2.2
theorem Two.cell (h : Two B w p q gw S W F G) (k : Nat) (hk : k < W.length) : w.cell? ⟨gw, k, none⟩ = some (.string (W.getD k ⟨#[]⟩)) := by
  rw [blk_cell h.row]
  simp [List.getD_eq_getElem?_getD, List.getElem?_eq_getElem hk]
theorem Two.free (h : Two B w p q gw S W F G) (k : Nat) : w.frozen? ⟨gw, k, none⟩ = false := blk_frozen h.row k
theorem cells_zero (n : Nat) : madeCells #[.string ⟨#[]⟩] n = ((List.replicate n (⟨#[]⟩ : ByteArray)).map Value.string).toArray := by
  apply Array.ext
  · simp [madeCells]
  · intro i h1 h2
    simp [madeCells, Nat.mod_one]
/-- The two strips made, and the row. -/
theorem two_start {w w1 w2 : World} {p q : Nat} {F G : Nat → Prop} (ha : IsStrip w.heap.size w1 p (newS 8 0) F) (hb : Below w.heap.size w w1) (hc : IsStrip w1.heap.size w2 q (newS 8 0) G) (hd : Below w1.heap.size w1 w2) :
    ∃ F' G', Two w.heap.size (w2.alloc (.cells (madeCells #[.string ⟨#[]⟩] 8) 9)) p q w2.heap.size (newS 8 0) (List.replicate 8 ⟨#[]⟩) F' G' ∧ Below w.heap.size w (w2.alloc (.cells (madeCells #[.string ⟨#[]⟩] 8) 9)) := by
  obtain ⟨F', f1, f2⟩ := ha.shrink
  obtain ⟨G', g1, g2⟩ := hc.shrink
  have hal : Below w2.heap.size w2 (w2.alloc (.cells (madeCells #[.string ⟨#[]⟩] 8) 9)) := below_alloc (Below.refl _ _) _
  have lower : ∀ {x : World} {S : St}, IsStrip w1.heap.size x q S G' → IsStrip w.heap.size x q S G' := by
    rintro x S ⟨gs, vl, h1, h2, h3, h4, h5, h6, h7, h8⟩
    exact ⟨gs, vl, h1, h2, own_weaken h3 hb.size, h4, h5, h6, fun k hk => Nat.le_trans hb.size (h7 k hk), h8⟩
  have hge := hc.ge
  refine ⟨F', G', ⟨(f1.below hd).below hal, lower (g1.below hal), ?_, fun k hk => ⟨fun f => ?_, ?_⟩, fun f => ?_, fun g => ?_, ?_⟩, below_alloc (hb.trans (hd.mono hb.size)) _⟩
  · rw [cells_zero]; exact blk_new w2 _
  · have := hge k (g2 k hk).1; have := (f2 k f).2; omega
  · exact Nat.lt_of_lt_of_le (g2 k hk).2 hal.size
  · have := (f2 _ f).2; have := hd.size; omega
  · have := (g2 _ g).2; omega
  · exact Nat.le_trans hb.size hd.size
end Go.Proofs.Ytmgkflkpompchaa.StripReads
