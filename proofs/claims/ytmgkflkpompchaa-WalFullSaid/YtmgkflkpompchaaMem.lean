/- Words on memory for this seat: a row of bytes of one's own whose block may bear a mark behind its cells (what a conversion of a string lays), and what append leaves of it. No condition. -/
import Derived.Test.YtmgkflkpompchaaPBerAllx2
import Derived.Laws.BytesArg
namespace Go.Proofs.Ytmgkflkpompchaa.Mem
open Go.RowKit Go.Proofs.YtmgkflkpompchaaW.PrintWords Go.Proofs.YtmgkflkpompchaaW.PrintLast Go.Proofs.YtmgkflkpompchaaW.PrintMore
set_option linter.unusedVariables false
set_option linter.unusedSimpArgs false

/-- No cell of the block is frozen. -/
def FreeMark (cur : Array Value) (fr : Nat × Nat) : Prop := ∀ i, i < cur.size → ¬ (fr.1 ≤ i ∧ i < fr.2)

/-- A row of bytes of one's own. -/
def BRow (w : World) (base : Nat) (v : Value) (xs : List Int) : Prop :=
  (v = .slice none 0 0 ∧ xs = []) ∨
  ∃ g cap cur fr, v = .slice (some ⟨g, 0, none⟩) xs.length cap ∧ base ≤ g ∧ w.heap[g]? = some (.cells cur 5 fr) ∧ FreeMark cur fr ∧ xs.length ≤ cap ∧ cap ≤ maxLen ∧ cur.size = cap ∧ cur.toList.take xs.length = nums .u8 xs

theorem BRow.nil (w : World) (base : Nat) : BRow w base (.slice none 0 0) [] := .inl ⟨rfl, rfl⟩

theorem BRow.of_own {w : World} {base : Nat} {v : Value} {xs : List Int} (h : w.ownsRow base 5 1 v xs.length (nums .u8 xs)) : BRow w base v xs := by
  rcases h.2 with ⟨h1, h2⟩ | ⟨g, cap, cur, rfl, hb, hh, hn, hm, hs, ht⟩
  · exact .inl ⟨h1, List.eq_nil_of_length_eq_zero h2⟩
  · exact .inr ⟨g, cap, cur, (0, 0), rfl, hb, hh, fun i _ => by simp, hn, hm, by simpa using hs, by simpa using ht⟩

theorem BRow.keep {w w1 : World} {base : Nat} {v : Value} {xs : List Int} (h : BRow w base v xs) (hm : ∀ k, v.ownBlock = some k → w1.heap[k]? = w.heap[k]?) : BRow w1 base v xs := by
  rcases h with h | ⟨g, cap, cur, fr, rfl, hb, hh, r⟩
  · exact .inl h
  · exact .inr ⟨g, cap, cur, fr, rfl, hb, (hm g (by simp [Value.ownBlock])).trans hh, r⟩

theorem BRow.lt {w : World} {base : Nat} {v : Value} {xs : List Int} (h : BRow w base v xs) : ∀ k, v.ownBlock = some k → k < w.heap.size := by
  rcases h with ⟨rfl, _⟩ | ⟨g, cap, cur, fr, rfl, hb, hh, r⟩
  · intro k hk; simp [Value.ownBlock] at hk
  · intro k hk
    have : g = k := by simpa [Value.ownBlock] using hk
    subst this
    exact (Array.getElem?_eq_some_iff.1 hh).1

theorem BRow.base_le {w : World} {base : Nat} {v : Value} {xs : List Int} (h : BRow w base v xs) : ∀ k, v.ownBlock = some k → base ≤ k := by
  rcases h with ⟨rfl, _⟩ | ⟨g, cap, cur, fr, rfl, hb, hh, r⟩
  · intro k hk; simp [Value.ownBlock] at hk
  · intro k hk
    have : g = k := by simpa [Value.ownBlock] using hk
    omega

theorem BRow.below {w w1 : World} {base : Nat} {v : Value} {xs : List Int} (h : BRow w base v xs) (hb : Below w.heap.size w w1) : BRow w1 base v xs :=
  h.keep fun k hk => hb.block k (h.lt k hk)

theorem BRow.lower {w : World} {base base' : Nat} {v : Value} {xs : List Int} (h : BRow w base v xs) (hb : base' ≤ base) : BRow w base' v xs := by
  rcases h with h | ⟨g, cap, cur, fr, rfl, hg, r⟩
  · exact .inl h
  · exact .inr ⟨g, cap, cur, fr, rfl, by omega, r⟩

theorem BRow.slice {w : World} {base : Nat} {v : Value} {xs : List Int} (h : BRow w base v xs) : ∃ A c, v = .slice A xs.length c ∧ xs.length ≤ c := by
  rcases h with ⟨rfl, rfl⟩ | ⟨g, cap, cur, fr, rfl, _, _, _, hc, _⟩
  · exact ⟨none, 0, rfl, Nat.le_refl _⟩
  · exact ⟨_, cap, rfl, hc⟩

theorem BRow.reads {w : World} {base : Nat} {A : Option Addr} {n c : Nat} {xs : List Int} (h : BRow w base (.slice A n c) xs) : n = xs.length ∧ ReadsInt w .u8 A n xs := by
  rcases h with ⟨h1, rfl⟩ | ⟨g, cap, cur, fr, h1, hb, hh, hf, hn, hm, hs, ht⟩
  · cases h1
    exact ⟨rfl, rfl, by omega, fun hp => absurd hp (by omega)⟩
  · cases h1
    refine ⟨rfl, rfl, by simp only [maxLen] at hm; omega, fun hp => ⟨_, rfl, fun j hj => ?_⟩⟩
    rw [add_plain, cell_of_row w g j cur 5 fr hh]
    have h2 : (cur.toList.take xs.length)[j]? = (nums .u8 xs)[j]? := by rw [ht]
    rw [List.getElem?_take_of_lt hj, Array.getElem?_toList] at h2
    rw [h2]
    simp [nums, List.getElem?_eq_getElem hj, List.getD_eq_getElem?_getD]

/-- A block of another type is not the row's own. -/
theorem BRow.ne {w : World} {base g : Nat} {v : Value} {xs : List Int} {cs : Array Value} {e : TypeId} {fr : Nat × Nat} (h : BRow w base v xs) (hg : w.heap[g]? = some (.cells cs e fr)) (he : e ≠ 5) : some g ≠ v.ownBlock := by
  rcases h with ⟨rfl, _⟩ | ⟨g', cap, cur, fr', rfl, _, hh, _⟩
  · simp [Value.ownBlock]
  · intro hk
    have : g = g' := by simpa [Value.ownBlock] using hk
    subst this
    rw [hg] at hh
    injection hh with hh
    injection hh with _ h2 _
    exact he h2

/-- What a run of cells written leaves of a row, whatever its mark. -/
theorem setCells_rowM {g : Nat} {e : TypeId} {fr : Nat × Nat} : ∀ (vs : List Value) (o : Nat) (w : World) (cur : Array Value), w.heap[g]? = some (.cells cur e fr) → o + vs.length ≤ cur.size →
    ∃ cur', (w.setCells g o vs).heap[g]? = some (.cells cur' e fr) ∧ cur'.size = cur.size ∧ cur'.toList = cur.toList.take o ++ vs ++ cur.toList.drop (o + vs.length)
  | [], o, w, cur, h, _ => ⟨cur, h, rfl, by simp⟩
  | v :: r, o, w, cur, h, hl => by
    have h2 : (w.setCell ⟨g, o, none⟩ v).heap[g]? = some (.cells (cur.setIfInBounds o v) e fr) := by
      simp [World.setCell, Array.getElem?_modify, h]
    simp only [List.length_cons] at hl
    obtain ⟨cur', h3, h4, h5⟩ := setCells_rowM r (o + 1) (w.setCell ⟨g, o, none⟩ v) _ h2 (by simp; omega)
    refine ⟨cur', h3, by rw [h4]; simp, ?_⟩
    rw [h5, Array.toList_setIfInBounds]
    have ho : o < cur.toList.length := by rw [Array.length_toList]; omega
    rw [List.take_set, List.drop_set_of_lt (by omega)]
    simp only [List.length_cons]
    rw [show o + 1 + r.length = o + (r.length + 1) by omega]
    congr 1
    rw [List.take_succ_eq_append_getElem ho, List.set_append_right _ _ (by rw [List.length_take]; omega)]
    have ho' : o < cur.size := by omega
    simp [Nat.min_eq_left (Nat.le_of_lt ho')]

theorem run_append_brow {P : Program} (w : World) (base : Nat) (t ty : TypeId) (ht : P.underlying t = some (.slice 5)) (hinfo : (P.info? 5).map (fun i => (i.zero, i.size, i.bytes)) = some (some (.int .u8 0), 1, 1))
    (v : Value) (xs : List Int) (h : BRow w base v xs) (hbase : base ≤ w.heap.size) (A : Option Addr) (m c : Nat) (ys : List Int) (HR : ReadsInt w .u8 A m ys) (hl : xs.length + m ≤ 140737488355328) :
    ∃ v1 w1, (Builtin.append_ #[t, t] ty #[v, .slice A m c]).run P w = .ok v1 w1 ∧ BRow w1 base v1 (xs ++ ys) ∧ w.grownBy w1 v.ownBlock ∧ (v1.ownBlock = v.ownBlock ∨ ∃ b, v1.ownBlock = some b ∧ w.heap.size ≤ b) := by
  obtain ⟨i0, hi, hzz⟩ := Option.map_eq_some_iff.1 hinfo
  simp only [Prod.mk.injEq] at hzz
  obtain ⟨hz0, hz1, hz2⟩ := hzz
  have hm : ys.length = m := HR.1
  rcases A with _ | ad
  · have h0 : m = 0 := by
      rcases Nat.eq_zero_or_pos m with h0 | h0
      · exact h0
      · obtain ⟨ad, h, _⟩ := HR.2.2 h0
        cases h
    subst h0
    obtain rfl : ys = [] := List.eq_nil_of_length_eq_zero hm
    refine ⟨v, w, ?_, by simpa using h, World.grownBy.refl w _, .inl rfl⟩
    rcases h with ⟨rfl, hn⟩ | ⟨g, cap, cur, fr, rfl, _, _, _, hnc, _⟩
    · simp [Builtin.append_, run_underlying ht, sizeOf, typeInfo, hi, Builtin.lenOf, Builtin.firstCells]
    · simp [Builtin.append_, run_underlying ht, sizeOf, typeInfo, hi, Builtin.lenOf, Builtin.firstCells, hnc, storeCells]
  · have hcells : ∀ j u, (nums .u8 ys)[j]? = some u → w.cell? (ad.add j) = some u := by
      intro j u hu
      have hj : j < ys.length := by
        rcases Nat.lt_or_ge j ys.length with h | h
        · exact h
        · simp [nums, List.getElem?_eq_none h] at hu
      obtain ⟨ad', h', hc⟩ := HR.2.2 (by omega)
      injection h' with h'
      subst h'
      have := hc j (by omega)
      simp [nums, List.getElem?_eq_getElem hj] at hu
      subst hu
      rw [this]
      simp [List.getD_eq_getElem?_getD, List.getElem?_eq_getElem hj]
    have hone : ∀ u ∈ nums .u8 ys, u.oneCell' = true := by
      intro u hu; simp only [nums, List.mem_map] at hu; obtain ⟨q, _, rfl⟩ := hu; rfl
    rcases h with ⟨rfl, rfl⟩ | ⟨g, cap, cur, fr, rfl, hg, hh, hfr, hnc, hcm, hcs, htk⟩
    · obtain ⟨v1, w1, hr, h2, h3, _, h5⟩ := run_append_own_at (P := P) w base t ty 5 i0 (.int .u8 0) 1 1 ht hi hz0 hz1 hz2 rfl (by omega) (.slice none 0 0) 0 [] ⟨by simp, .inl ⟨rfl, rfl⟩⟩ ad m c (nums .u8 ys) (by simp [nums, hm]) hcells
        hone (by simp only [maxLen]; simp at hl; omega) (by simpa using hl) hbase
      refine ⟨v1, w1, hr, BRow.of_own (by simpa [nums, hm] using h2), h3, ?_⟩
      rcases h5 with h5 | h5
      · exact .inl h5
      · exact .inr ⟨_, h5, Nat.le_refl _⟩
    · by_cases hroom : xs.length + m ≤ cap
      · have hsz : ∀ j, j < (nums .u8 ys).length → xs.length + j < cur.size := by intro j hj; rw [nums_length] at hj; omega
        have hrun := run_append_room_cells (P := P) w t ty 5 i0 ht hi g 0 xs.length cap ad m c (nums .u8 ys) (by rw [nums_length, hz1]; omega) hcells hone hroom
          (fun j hj => by rw [hz1, cell_of_row w g _ cur 5 fr hh]; simpa using hsz j hj)
          (fun j hj => by have := hfr _ (hsz j hj); simp only [hz1, World.frozen?, hh, Nat.mul_one, Nat.zero_add]; simpa [Nat.not_lt] using this)
        obtain ⟨cur', h3, h4, h5⟩ := setCells_rowM (nums .u8 ys) xs.length w cur hh (by rw [nums_length]; omega)
        obtain ⟨s1, s2, s3, s4⟩ := setCells_same g (nums .u8 ys) xs.length w
        rw [hz1] at hrun
        simp only [Nat.zero_add, Nat.mul_one] at hrun
        refine ⟨_, _, hrun, .inr ⟨g, cap, cur', fr, by rw [List.length_append, hm], hg, h3, fun i hi' => hfr i (by rw [← h4]; exact hi'), by rw [List.length_append]; omega, hcm, h4.trans hcs, ?_⟩, ⟨s1, s2, s3, by rw [s4]; exact Nat.le_refl _, fun k _ hk => setCells_far _ _ k (fun e => hk (by simp [Value.ownBlock, e]))⟩, .inl rfl⟩
        have hlen : (cur.toList.take xs.length).length = xs.length := by rw [htk, nums_length]
        rw [h5, htk, nums_append, List.length_append]
        rw [List.take_append_of_le_length (by simp [nums_length])]
        rw [List.take_of_length_le (by simp [nums_length])]
      · obtain ⟨v1, w1, hr, h2, h3⟩ := run_append_arg_grows (P := P) w t ty 5 i0 (.int .u8 0) 1 1 ht hi hz0 hz1 hz2 rfl (by omega) ⟨g, 0, none⟩ xs.length cap (nums .u8 xs) (by simp [nums_length]) (fun j u hj => by
            rw [add_plain, cell_of_row w g j cur 5 fr hh]
            have hj' : j < xs.length := by
              rcases Nat.lt_or_ge j xs.length with h | h
              · exact h
              · simp [nums, List.getElem?_eq_none h] at hj
            have h2 : (cur.toList.take xs.length)[j]? = (nums .u8 xs)[j]? := by rw [htk]
            rw [List.getElem?_take_of_lt hj', Array.getElem?_toList] at h2
            rw [h2]; exact hj) ad m c (nums .u8 ys) (by simp [nums_length, hm]) hcells (by omega) (by simp only [maxLen]; omega) (by simpa using hl)
        have h2' : w1.ownsRow w.heap.size 5 1 v1 (xs ++ ys).length (nums .u8 (xs ++ ys)) := by rw [List.length_append, hm, nums_append]; exact h2
        refine ⟨v1, w1, hr, (BRow.of_own h2').lower hbase, ⟨h3.os, h3.tape, h3.output, h3.size, fun k hk _ => h3.block k hk (by simp)⟩, ?_⟩
        rcases h2.2 with ⟨h4, h5⟩ | ⟨g', cap', cur', h4, h5, _⟩
        · omega
        · exact .inr ⟨g', by rw [h4]; rfl, h5⟩

/-- Behind some appends that began at the row b in the world w. -/
structure AppSt (w0 w W : World) (b v : Value) (xs : List Int) : Prop where
  row : BRow W w0.heap.size v xs
  bel : Below w0.heap.size w0 W
  grown : w.grownBy W b.ownBlock
  own : v.ownBlock = b.ownBlock ∨ ∃ k, v.ownBlock = some k ∧ w.heap.size ≤ k
theorem AppSt.start {w0 w : World} {b : Value} {xs : List Int} (h : BRow w w0.heap.size b xs) (hB : Below w0.heap.size w0 w) : AppSt w0 w w b b xs := ⟨h, hB, World.grownBy.refl _ _, .inl rfl⟩
theorem AppSt.step {w0 w W w1 : World} {b v v1 : Value} {xs ys : List Int} (h : AppSt w0 w W b v xs) (hr : BRow w1 w0.heap.size v1 ys) (hB : Below w0.heap.size w0 w1) (hg : W.grownBy w1 v.ownBlock)
    (ha : v1.ownBlock = v.ownBlock ∨ ∃ k, v1.ownBlock = some k ∧ W.heap.size ≤ k) : AppSt w0 w w1 b v1 ys := by
  refine ⟨hr, hB, ⟨hg.os.trans h.grown.os, hg.tape.trans h.grown.tape, hg.output.trans h.grown.output, Nat.le_trans h.grown.size hg.size, fun k hk hne => ?_⟩, ?_⟩
  · refine (hg.block k (Nat.lt_of_lt_of_le hk h.grown.size) ?_).trans (h.grown.block k hk hne)
    rcases h.own with h1 | ⟨k', h1, h2⟩
    · rw [h1]; exact hne
    · rw [h1]; intro e; injection e with e; omega
  · rcases ha with h1 | ⟨k', h1, h2⟩
    · rw [h1]; exact h.own
    · exact .inr ⟨k', h1, Nat.le_trans h.grown.size h2⟩
theorem AppSt.frame {w0 w1 w W : World} {b v : Value} {xs : List Int} (h : AppSt w0 w W b v xs) (hB : Below w1.heap.size w1 w) : w1.grownBy W b.ownBlock :=
  ⟨h.grown.os.trans hB.os, h.grown.tape.trans hB.tape, h.grown.output.trans hB.output, Nat.le_trans hB.size h.grown.size, fun k hk hne => (h.grown.block k (Nat.lt_of_lt_of_le hk hB.size) hne).trans (hB.block k hk)⟩
theorem AppSt.owns {w0 w1 w W : World} {b v : Value} {xs : List Int} (h : AppSt w0 w W b v xs) (hB : Below w1.heap.size w1 w) : v.ownBlock = b.ownBlock ∨ ∃ k, v.ownBlock = some k ∧ w1.heap.size ≤ k := by
  rcases h.own with h1 | ⟨k, h1, h2⟩
  · exact .inl h1
  · exact .inr ⟨k, h1, Nat.le_trans hB.size h2⟩
theorem AppSt.drewN {w0 w W : World} {b v : Value} {xs : List Int} (h : AppSt w0 w W b v xs) (n : Nat) : AppSt w0 w (W.drewN n) b v xs :=
  ⟨h.row, pw_below_drewN h.bel n, ⟨h.grown.os, h.grown.tape, h.grown.output, h.grown.size, h.grown.block⟩, h.own⟩
theorem AppSt.keep {w0 w W : World} {b v u : Value} {xs ys : List Int} {base : Nat} (h : AppSt w0 w W b v xs) (hu : BRow w base u ys) (hne : ∀ k, u.ownBlock = some k → b.ownBlock ≠ some k) : BRow W base u ys :=
  hu.keep fun k hk => h.grown.block k (hu.lt k hk) (fun e => hne k hk e.symm)

section
variable {P : Program} {ops : Array Oper} {rest : List Oper} {o : Oper} {a : Act} {Q : Exit → Act → World → Prop}
/-- 'append(v, ys...)' at an operation of a walk. -/
theorem app_row {w0 W : World} (base : Nat) (hgd : o.guard = none) (s x : Operand) (t : TypeId)
    (ho : o.op = .call { callee := .builtin .append, args := #[s, x], argTypes := #[t, t] })
    (ht : P.underlying t = some (.slice 5)) (hinfo : (P.info? 5).map (fun i => (i.zero, i.size, i.bytes)) = some (some (.int .u8 0), 1, 1))
    (v : Value) (xs ys : List Int) (A : Option Addr) (m c : Nat) (hs : a.eval s = v) (hx : a.eval x = .slice A m c)
    (HO : BRow W base v xs) (HR : ReadsInt W .u8 A m ys) (HB : Below base w0 W) (hbase : base ≤ W.heap.size) (hl : xs.length + m ≤ 140737488355328)
    (h : ∀ v1 w1, BRow w1 base v1 (xs ++ ys) → Below base w0 w1 → W.grownBy w1 v.ownBlock → (v1.ownBlock = v.ownBlock ∨ ∃ b, v1.ownBlock = some b ∧ W.heap.size ≤ b) → wpList P ops Q rest (a.put o.dst v1) w1) :
    wpList P ops Q (o :: rest) a W := by
  obtain ⟨v1, w1, hr, hown, hg, hat⟩ := run_append_brow (P := P) W base t o.type ht hinfo v xs HO hbase A m c ys HR hl
  refine wpList_plain hgd fun K hK => ?_
  unfold Oper.wp execOp
  simp only [ho, resolve, invoke, builtin, Sem.run_bind, Sem.run_pure, Result.andThen_ok, List.map_toArray, List.map_cons, List.map_nil, hs, hx, hr]
  exact hK _ _ (h v1 w1 hown (HB.grown hg hbase (fun k hk => HO.base_le k hk)) hg hat)
/-- 'append(v, y)': the goal's world is 'W.alloc' of the variadic's box. -/
theorem app_one {w0 W : World} (base : Nat) (hgd : o.guard = none) (s x : Operand) (t : TypeId)
    (ho : o.op = .call { callee := .builtin .append, args := #[s, x], argTypes := #[t, t] })
    (ht : P.underlying t = some (.slice 5)) (hinfo : (P.info? 5).map (fun i => (i.zero, i.size, i.bytes)) = some (some (.int .u8 0), 1, 1))
    (v : Value) (xs : List Int) (y : Int) (hs : a.eval s = v) (hx : a.eval x = .slice (some ⟨W.heap.size, 0, none⟩) 1 1)
    (HO : BRow W base v xs) (HB : Below base w0 W) (hbase : base ≤ W.heap.size) (hl : xs.length + 1 ≤ 140737488355328)
    (h : ∀ v1 w1, BRow w1 base v1 (xs ++ [y]) → Below base w0 w1 → W.grownBy w1 v.ownBlock → (v1.ownBlock = v.ownBlock ∨ ∃ b, v1.ownBlock = some b ∧ W.heap.size ≤ b) → wpList P ops Q rest (a.put o.dst v1) w1) :
    wpList P ops Q (o :: rest) a (W.alloc (.cells #[.int .u8 y] 5)) := by
  refine app_row (w0 := w0) base hgd s x t ho ht hinfo v xs [y] (some ⟨W.heap.size, 0, none⟩) 1 1 hs hx (HO.below ((Below.refl _ _).alloc (Nat.le_refl _) _)) ?_ (HB.alloc hbase _) (by simp; omega) hl ?_
  · refine ⟨rfl, by omega, fun _ => ⟨_, rfl, fun j hj => ?_⟩⟩
    have : j = 0 := by omega
    subst this
    rw [add_plain]
    rw [cell_of_row _ _ _ #[.int .u8 y] 5 (0, 0) (heap_alloc_new W _)]
    rfl
  · intro v1 w1 hb hB hg hat
    refine h v1 w1 hb hB (World.grownBy.trans (World.grownBy_alloc W _ _) hg) ?_
    rcases hat with hat | ⟨b, h1, h2⟩
    · exact .inl hat
    · exact .inr ⟨b, h1, by simp at h2; omega⟩
/-- '[]byte(s)' at an operation of a walk. -/
theorem conv_event {W : World} (hgd : o.guard = none) {N : Tmp} (_hd : o.dst = some N) (src dst : TypeId) (x : Operand) (ho : o.op = .convert src dst x) (s : ByteArray) (hx : a.eval x = .string s)
    {u : TypeDesc} (hs : P.underlying src = some u) (hd : P.underlying dst = some (.slice 5)) (he : P.underlying 5 = some (.int .u8)) (hm : s.size ≤ 140737488355328)
    (h : ∀ v w1, BRow w1 W.heap.size v (bytesOf s) → Below W.heap.size W w1 → (∃ k, v.ownBlock = some k ∧ W.heap.size ≤ k) → wpList P ops Q rest (a.put o.dst v) w1) : wpList P ops Q (o :: rest) a W := by
  have hrun := print_bytes (P := P) src dst 5 hs hd he s W
  refine Kd.event_run hgd (v := .slice (some ⟨W.heap.size, 0, none⟩) s.size (grownCap W s.size 0 5)) (w1 := Lib.bytesWorld W 5 s) ?_ (h _ _ ?_ (bytes_below (Below.refl _ _) (Nat.le_refl _) 5 s) ⟨_, rfl, Nat.le_refl _⟩)
  · unfold execOp
    simp only [ho, hx, Sem.run_bind, Sem.run_pure, Result.andThen_ok, hrun]
  · have h1 := grownCap_ge W s.size 0 5
    have h2 := grownCap_le_maxLen W s.size 0 5 (by simp only [maxLen]; omega)
    have hl : (bytesOf s).length = s.size := bytesOf_length s
    have hsz : (Lib.bytesCells W 5 s).size = grownCap W s.size 0 5 := by
      have : s.data.size = s.size := rfl
      simp [Lib.bytesCells, this]; omega
    refine .inr ⟨W.heap.size, grownCap W s.size 0 5, Lib.bytesCells W 5 s, _, by rw [hl], Nat.le_refl _, Lib.bytesWorld_at_new W 5 s, ?_, by rw [hl]; exact h1, h2, hsz, ?_⟩
    · intro i hi hc
      simp only at hc
      omega
    · rw [hl]
      have hd : s.data.toList.length = s.size := data_length s
      simp [Lib.bytesCells, nums, bytesOf, List.take_append_of_le_length, hd]
end

end Go.Proofs.Ytmgkflkpompchaa.Mem
