/- The strip's Tear and Write. -/
import Derived.Test.YtmgkflkpompchaaStripOps
import Derived.Test.YtmgkflkpompchaaMem
namespace Go.Proofs.Ytmgkflkpompchaa.Strip
open Go.RowKit Go.Proofs.YtmgkflkpompchaaW.PrintWords Go.Proofs.YtmgkflkpompchaaW.PrintLast Go.Proofs.YtmgkflkpompchaaW.PrintMore
set_option linter.unusedVariables false
set_option linter.unusedSimpArgs false

theorem info117 : (Try.prog.info? 117).map (fun i => (i.zero, i.size, i.bytes)) = some (some (.agg #[.int .i64 0, .string ⟨#[]⟩]), 2, 24) := by kernel_rfl
set_option maxHeartbeats 400000 in
set_option maxRecDepth 100000 in
theorem tear_calls {B : Nat} {w : World} {p : Nat} {S : St} {F : Nat → Prop} (h : IsStrip B w p S F) (n : Int) :
    Calls Try.prog 52 #[.pointer (some ⟨p, 0, none⟩), .int .i64 n] w fun e w' => e = .returned (.tuple #[]) ∧ IsStrip B w' p (tearS S n) F ∧ Kept (fun k => k = p) w w' := by
  have H := Aside0.mk h
  obtain ⟨gs, vl, hp, _⟩ := h
  have BK := Aside0.mk hp
  have hc2 : w.cell? ⟨p, 2, none⟩ = some (.int .i64 S.crash) := (blk_cell hp 2).trans rfl
  have hf2 : w.frozen? ⟨p, 2, none⟩ = false := blk_frozen hp 2
  clear hp
  go_enter Try.func52, Try.ntmps52
  go_wp2_with fail
  refine Calls.mono (store_calls p 3 S.count 0 _ ((blk_cell (blk_set BK.out 2 _) 3).trans rfl) (blk_frozen (blk_set BK.out 2 _) 3)) ?_
  rintro e wn ⟨rfl, rfl⟩
  clear hc2 hf2
  have k1 : Kept (fun k => k = p) w ((w.setCell ⟨p, 2, none⟩ (.int .i64 n)).setCell ⟨p, 3, none⟩ (.int .i64 0)) := ((Kept.refl (fun k => k = p) w).set (g := p) _ (.inl rfl)).set (g := p) _ (.inl rfl)
  have HT := Aside0.mk (show IsStrip B _ p (tearS S n) F ∧ Kept (fun k => k = p) w _ from ⟨H.out.turn (S' := tearS S n) rfl rfl k1 (fun a b e => blk_set (blk_set e 2 _) 3 _), k1⟩)
  clear k1
  go_wp2
  go_end0
  exact ⟨rfl, HT.out⟩
set_option maxHeartbeats 400000 in
set_option maxRecDepth 100000 in
theorem tear_nil (n : Int) (w : World) : Calls Try.prog 52 #[.pointer none, .int .i64 n] w fun e w' => e = .returned (.tuple #[]) ∧ w = w' := by
  go_enter Try.func52, Try.ntmps52
  go_wp2
  go_end0
  exact ⟨rfl, rfl⟩

section
variable {P : Program} {ops : Array Oper} {rest : List Oper} {o : Oper} {a : Act} {Q : Exit → Act → World → Prop}
/-- 'append(v, change{i, b})' at an operation of a walk. -/
theorem app_chg {W : World} (base : Nat) (hgd : o.guard = none) (s x : Operand) (t e : TypeId)
    (ho : o.op = .call { callee := .builtin .append, args := #[s, x], argTypes := #[t, t] })
    (ht : P.underlying t = some (.slice e)) {z : Value} {by_ : Nat} (hinfo : (P.info? e).map (fun i => (i.zero, i.size, i.bytes)) = some (some z, 2, by_)) (hzs : z.cells.size = 2)
    (v : Value) (n : Nat) (xs : List Value) (y1 y2 : Value) (h1 : y1.oneCell' = true) (h2 : y2.oneCell' = true) (hs : a.eval s = v) (hx : a.eval x = .slice (some ⟨W.heap.size, 0, none⟩) 1 1)
    (HO : W.ownsRow base e 2 v n xs) (hbase : base ≤ W.heap.size) (hl : (n + 1) * by_ ≤ 140737488355328) (hl' : n + 1 ≤ 140737488355328)
    (h : ∀ v1 w1, w1.ownsRow base e 2 v1 (n + 1) (xs ++ [y1, y2]) → W.grownBy w1 v.ownBlock → (v1.ownBlock = v.ownBlock ∨ ∃ b, v1.ownBlock = some b ∧ W.heap.size ≤ b) → wpList P ops Q rest (a.put o.dst v1) w1) :
    wpList P ops Q (o :: rest) a (W.alloc (.cells #[y1, y2] e)) := by
  obtain ⟨i0, hi, hzz⟩ := Option.map_eq_some_iff.1 hinfo
  simp only [Prod.mk.injEq] at hzz
  obtain ⟨hz0, hz1, hz2⟩ := hzz
  have hcell : ∀ j u, [y1, y2][j]? = some u → (W.alloc (.cells #[y1, y2] e)).cell? ((⟨W.heap.size, 0, none⟩ : Addr).add j) = some u := by
    intro j u hu
    rw [add_plain, cell_of_row _ _ _ #[y1, y2] e (0, 0) (heap_alloc_new W _)]
    match j, hu with
    | 0, hu => exact hu
    | 1, hu => exact hu
  obtain ⟨v1, w1, hr, g1, g2, _, g4⟩ := run_append_own_at (P := P) (w := W.alloc (.cells #[y1, y2] e)) base t o.type e i0 z 2 by_ ht hi hz0 hz1 hz2 hzs (by omega) v n xs (HO.alloc _) ⟨W.heap.size, 0, none⟩ 1 1 [y1, y2] rfl hcell
    (by intro u hu; simp only [List.mem_cons, List.not_mem_nil, or_false] at hu; rcases hu with rfl | rfl <;> assumption) (by simp only [maxLen]; omega) hl (by simp; omega)
  refine wpList_plain hgd fun K hK => ?_
  unfold Oper.wp execOp
  simp only [ho, resolve, invoke, builtin, Sem.run_bind, Sem.run_pure, Result.andThen_ok, List.map_toArray, List.map_cons, List.map_nil, hs, hx, hr]
  refine hK _ _ (h v1 w1 g1 (World.grownBy.trans (World.grownBy_alloc W _ _) g2) ?_)
  rcases g4 with g4 | g4
  · exact .inl g4
  · exact .inr ⟨_, g4, by simp⟩
end

theorem Next.of_kept {B : Nat} {w w2 : World} {p : Nat} {S : St} {F : Nat → Prop} (hk : Kept (fun k => k = p) w w2) (h : IsStrip B w2 p S F) : Next F F w w2 := by
  obtain ⟨gs, vl, h1, h2, h3, h4, _⟩ := h
  exact ⟨⟨hk.os, hk.tape, hk.output, hk.size, fun k hk' hn => hk.block k hk' (fun e => hn (e ▸ h4))⟩, fun k hk => .inl hk⟩
def wrE (S : St) (i : Int) (b : ByteArray) : Int := if atE S i = 0 then if b.size = 32 then askE (cntS S) else 1 else atE S i
def wrS (S : St) (i : Int) (b : ByteArray) : St :=
  if atE S i = 0 then if b.size = 32 then if askE (cntS S) = 0 then { cntS S with loose := S.loose ++ [(i.toNat, b)] } else cntS S else S else S
theorem atE_cases (S : St) (i : Int) : atE S i = 0 ∨ atE S i = 1 ∨ atE S i = 8 := by
  unfold atE; split
  · exact .inr (.inr rfl)
  · split
    · exact .inr (.inl rfl)
    · exact .inl rfl
theorem askE_cases (S : St) : askE S = 0 ∨ askE S = 8 := by
  unfold askE; split
  · exact .inr rfl
  · exact .inl rfl
theorem at_zero {S : St} {i : Int} (h : atE S i = 0) : S.down = false ∧ 0 ≤ i ∧ i < S.safe.length := by
  unfold atE at h
  split at h
  · cases h
  · split at h
    · cases h
    · exact ⟨by simpa using ‹¬ S.down = true›, by omega, by omega⟩

/-- A change put behind the loose ones. -/
theorem push_strip {B : Nat} {w2 : World} {p gs : Nat} {vl : Value} {T : St} {F : Nat → Prop}
    (h1 : w2.heap[p]? = some (.cells #[.slice (some ⟨gs, 0, none⟩) T.safe.length T.safe.length, vl, .int .i64 T.crash, .int .i64 T.count, .bool T.down] 101 (0, 0)))
    (h2 : w2.heap[gs]? = some (.cells (T.safe.map Value.string).toArray 9 (0, 0))) (h3 : w2.ownsRow B 117 2 vl T.loose.length (chCells T.loose))
    (h4 : F p) (h5 : F gs) (h6 : ∀ k, vl.ownBlock = some k → F k) (h7 : ∀ k, F k → B ≤ k) (h8 : T.safe.length ≤ 65536)
    {w3 : World} {v1 : Value} (n : Nat) (b : ByteArray) (ho : w3.ownsRow B 117 2 v1 (T.loose.length + 1) (chCells T.loose ++ [.int .i64 (n : Int), .string b])) (hg : w2.grownBy w3 vl.ownBlock)
    (ha : v1.ownBlock = vl.ownBlock ∨ ∃ k, v1.ownBlock = some k ∧ w2.heap.size ≤ k) :
    ∃ F', IsStrip B (w3.setCell ⟨p, 1, none⟩ v1) p { T with loose := T.loose ++ [(n, b)] } F' ∧ Next F F' w2 (w3.setCell ⟨p, 1, none⟩ v1) := by
  have e1 := blk_grown h1 hg (own_ne h3 h1 (by decide))
  have e2 := blk_grown h2 hg (own_ne h3 h2 (by decide))
  have hne : p ≠ gs := blk_ne h1 h2 (by decide)
  have k3 : Kept F w2 w3 := ⟨hg.os, hg.tape, hg.output, hg.size, fun k hk hn => hg.block k hk (fun e => hn (h6 k e.symm))⟩
  refine ⟨fun k => F k ∨ v1.ownBlock = some k, ⟨gs, v1, blk_set e1 1 _, blk_far e2 (by simpa using hne.symm) _, ?_, .inl h4, .inl h5, fun k hk => .inr hk, ?_, h8⟩, k3.set _ (.inl h4), ?_⟩
  · have := own_setCell (p := ⟨p, 1, none⟩) ho (own_ne ho e1 (by decide)) v1
    rw [show ({ T with loose := T.loose ++ [(n, b)] } : St).loose.length = T.loose.length + 1 by simp, show chCells ({ T with loose := T.loose ++ [(n, b)] } : St).loose = chCells T.loose ++ [.int .i64 (n : Int), .string b] by simp [chCells]]
    exact this
  · rintro k (hk | hk)
    · exact h7 k hk
    · exact own_base ho k hk
  · rintro k (hk | hk)
    · exact .inl hk
    · rcases ha with ha | ⟨k', ha, hb⟩
      · exact .inl (h6 k (ha.symm.trans hk))
      · rw [ha] at hk; injection hk with hk; exact .inr (by omega)

set_option maxHeartbeats 800000 in
set_option maxRecDepth 100000 in
theorem write_calls {B : Nat} {w : World} {p : Nat} {S : St} {F : Nat → Prop} (h : IsStrip B w p S F) (i : Int) (b : ByteArray) (hl : S.loose.length ≤ 1099511627776) :
    Calls Try.prog 43 #[.pointer (some ⟨p, 0, none⟩), .int .i64 i, .string b] w fun e w' => e = .returned (.int .i64 (wrE S i b)) ∧ ∃ F', IsStrip B w' p (wrS S i b) F' ∧ Next F F' w w' := by
  have H := Aside0.mk h
  have HL := Aside0.mk hl
  clear h hl
  have HE := Aside0.mk (show wrE S i b = if atE S i = 0 then if b.size = 32 then askE (cntS S) else 1 else atE S i from rfl)
  have HS := Aside0.mk (show wrS S i b = if atE S i = 0 then if b.size = 32 then if askE (cntS S) = 0 then { cntS S with loose := S.loose ++ [(i.toNat, b)] } else cntS S else S else S from rfl)
  go_enter Try.func43, Try.ntmps43
  go_wp2_with fail
  refine Calls.mono (at_calls H.out i) ?_
  rintro e w' ⟨rfl, rfl⟩
  rcases atE_cases S i with h0 | h0 | h0
  · have HI := Aside0.mk (at_zero h0)
    by_cases hb : b.size = 32
    · have HE1 := Aside0.mk (HE.out.trans ((if_pos h0).trans (if_pos hb)))
      have HS1 := Aside0.mk (HS.out.trans ((if_pos h0).trans (if_pos hb)))
      clear HE HS
      rw [h0]
      clear h0
      have hbb : (b.size : Int) = 32 := by omega
      clear hb
      go_wp2_with fail
      refine Calls.mono (counted_calls H.out) ?_
      rintro e w2 ⟨rfl, hs2, hk2⟩
      have H2 := Aside0.mk hs2
      have K2 := Aside0.mk hk2
      clear hs2 hk2
      rcases askE_cases (cntS S) with h1 | h1
      · have HS2 := Aside0.mk (HS1.out.trans (if_pos h1))
        have HE2 := Aside0.mk (HE1.out.trans h1)
        clear HS1 HE1
        rw [h1]
        clear h1
        obtain ⟨n, rfl⟩ : ∃ n : Nat, i = n := ⟨i.toNat, by have := HI.out; omega⟩
        obtain ⟨gs, vl, g1, g2, g3, g4, g5, g6, g7, g8⟩ := H2.out
        obtain ⟨A, c, rfl⟩ := own_slice g3
        have hc1 : w2.cell? ⟨p, 1, none⟩ = some (.slice A (cntS S).loose.length c) := (blk_cell g1 1).trans rfl
        have hBp : B ≤ w2.heap.size := Nat.le_trans (g7 _ g4) (Nat.le_of_lt (blk_lt g1))
        have G1 := Aside0.mk g1
        have G3 := Aside0.mk g3
        have HP := Aside0.mk (fun {w3 v1} => push_strip g1 g2 g3 g4 g5 g6 g7 g8 (w3 := w3) (v1 := v1) n b)
        clear g1 g2 g3 g4 g5 g6 g7 g8
        go_wp2_with (first | ((with_reducible refine gate_builtin (b := .append) (xs := #[.tmp 28, .tmp 32]) rfl ?_); at_builtin; refine app_chg B rfl (.tmp 28) (.tmp 32) 94 117 rfl Try.underlying94 info117 rfl _ _ _ (.int .i64 (n : Int)) (.string b) rfl rfl rfl rfl G3.out hBp (by have := HL.out; show (S.loose.length + 1) * 24 ≤ _; omega) (by have := HL.out; show S.loose.length + 1 ≤ _; omega) ?_; intro v1 w3 q1 q2 q3; obtain ⟨A1, c1, rfl⟩ := own_slice q1; have PP := Aside0.mk (HP.out q1 q2 q3); have e1 := blk_grown G1.out q2 (own_ne G3.out G1.out (by decide)); have hd1 : w3.cell? ⟨p, 1, none⟩ = some (.slice A (cntS S).loose.length c) := (blk_cell e1 1).trans rfl; have hf1 : w3.frozen? ⟨p, 1, none⟩ = false := blk_frozen e1 1; clear e1 q1 q2 q3 hc1 hBp))
        clear hd1 hf1
        go_ret
        obtain ⟨F', z1, z2⟩ := PP.out
        exact ⟨by rw [HE2.out]; rfl, by rw [HS2.out]; exact ⟨F', z1, (Next.of_kept K2.out H2.out).trans z2⟩⟩
      · have HS2 := Aside0.mk (HS1.out.trans (if_neg (by rw [h1]; decide)))
        have HE2 := Aside0.mk (HE1.out.trans h1)
        clear HS1 HE1
        rw [h1]
        clear h1
        go_wp2
        go_ret
        exact ⟨by rw [HE2.out]; rfl, by rw [HS2.out]; exact ⟨F, H2.out, Next.of_kept K2.out H2.out⟩⟩
    · have HE1 := Aside0.mk (HE.out.trans ((if_pos h0).trans (if_neg hb)))
      have HS1 := Aside0.mk (HS.out.trans ((if_pos h0).trans (if_neg hb)))
      clear HE HS
      rw [h0]
      have hbb : ¬ (b.size : Int) = 32 := by omega
      clear h0 hb
      go_wp2
      go_ret
      exact ⟨by rw [HE1.out]; rfl, by rw [HS1.out]; exact ⟨F, H.out, Next.refl _ _⟩⟩
  · have HE1 := Aside0.mk (HE.out.trans ((if_neg (by rw [h0]; decide)).trans h0))
    have HS1 := Aside0.mk (HS.out.trans (if_neg (by rw [h0]; decide)))
    clear HE HS
    rw [h0]
    clear h0
    go_wp2
    go_ret
    exact ⟨by rw [HE1.out]; rfl, by rw [HS1.out]; exact ⟨F, H.out, Next.refl _ _⟩⟩
  · have HE1 := Aside0.mk (HE.out.trans ((if_neg (by rw [h0]; decide)).trans h0))
    have HS1 := Aside0.mk (HS.out.trans (if_neg (by rw [h0]; decide)))
    clear HE HS
    rw [h0]
    clear h0
    go_wp2
    go_ret
    exact ⟨by rw [HE1.out]; rfl, by rw [HS1.out]; exact ⟨F, H.out, Next.refl _ _⟩⟩
end Go.Proofs.Ytmgkflkpompchaa.Strip
