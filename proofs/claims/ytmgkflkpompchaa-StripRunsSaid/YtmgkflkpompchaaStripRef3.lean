/- The reference's strip (brookref16): Write. No condition but bounds on what was counted. -/
import Derived.Test.YtmgkflkpompchaaStripRef2
namespace Go.Proofs.Ytmgkflkpompchaa.Strip
open Go.RowKit Go.Proofs.YtmgkflkpompchaaW.PrintWords Go.Proofs.YtmgkflkpompchaaW.PrintLast Go.Proofs.YtmgkflkpompchaaW.PrintMore
set_option linter.unusedVariables false
set_option linter.unusedSimpArgs false

theorem info120 : (Try.prog.info? 120).map (fun i => (i.zero, i.size, i.bytes)) = some (some (.agg #[.int .i64 0, .string ⟨#[]⟩]), 2, 24) := by kernel_rfl
/-- A change put behind the loose ones. -/
theorem rpush {B : Nat} {w2 : World} {p : Nat} {vs vl : Value} {T : St} {F : Nat → Prop}
    (h1 : w2.heap[p]? = some (.cells #[vs, vl, .int .i64 (left T), .bool T.down] 77 (0, 0)))
    (h2 : w2.ownsRow B 9 1 vs T.safe.length (encs Value.string T.safe)) (h3 : w2.ownsRow B 120 2 vl T.loose.length (chCells T.loose))
    (h4 : F p) (h5 : ∀ k, vs.ownBlock = some k → F k) (h6 : ∀ k, vl.ownBlock = some k → F k) (h7 : ∀ k, F k → B ≤ k)
    {w3 : World} {v1 : Value} (n : Nat) (b : ByteArray) (ho : w3.ownsRow B 120 2 v1 (T.loose.length + 1) (chCells T.loose ++ [.int .i64 (n : Int), .string b])) (hg : w2.grownBy w3 vl.ownBlock)
    (ha : v1.ownBlock = vl.ownBlock ∨ ∃ k, v1.ownBlock = some k ∧ w2.heap.size ≤ k) :
    ∃ F', IsRf B (w3.setCell ⟨p, 1, none⟩ v1) p { T with loose := T.loose ++ [(n, b)] } F' ∧ Next F F' w2 (w3.setCell ⟨p, 1, none⟩ v1) := by
  have e1 := blk_grown h1 hg (own_ne h3 h1 (by decide))
  have o2 : w3.ownsRow B 9 1 vs T.safe.length (encs Value.string T.safe) := by
    refine own_other h2 hg ?_
    rcases own_type_ne h2 h3 (by decide) with h | h
    · exact .inl h
    · exact .inr h
  have k3 : Kept F w2 w3 := ⟨hg.os, hg.tape, hg.output, hg.size, fun k hk hn => hg.block k hk (fun e => hn (h6 k e.symm))⟩
  refine ⟨fun k => F k ∨ v1.ownBlock = some k, ⟨vs, v1, blk_set e1 1 _, ?_, ?_, .inl h4, fun k hk => .inl (h5 k hk), fun k hk => .inr hk, ?_⟩, k3.set _ (.inl h4), ?_⟩
  · exact own_setCell (p := ⟨p, 1, none⟩) o2 (own_ne o2 e1 (by decide)) v1
  · have := own_setCell (p := ⟨p, 1, none⟩) ho (own_ne ho e1 (by decide)) v1
    rw [show ({ T with loose := T.loose ++ [(n, b)] } : St).loose.length = T.loose.length + 1 by simp, show chCells ({ T with loose := T.loose ++ [(n, b)] } : St).loose = chCells T.loose ++ [.int .i64 (n : Int), .string b] by simp [chCells]]
    exact this
  · rintro k (hk | hk)
    · exact h7 k hk
    · exact own_base ho k hk
  · rintro k (hk | hk)
    · exact .inl hk
    · rcases ha with ha | ⟨k', ha, hb⟩
      · exact .inl (h6 k (ha.symm.trans hk))
      · rw [ha] at hk; injection hk with hk; exact .inr (by omega)
theorem wrE_at {S : St} {i : Int} {b : ByteArray} {k : Int} (h : atE S i = k) (hk : k ≠ 0) : wrE S i b = k ∧ wrS S i b = S := by
  unfold wrE wrS; rw [h, if_neg hk, if_neg hk]; exact ⟨rfl, rfl⟩
theorem wrE_size {S : St} {i : Int} {b : ByteArray} (h : atE S i = 0) (hb : ¬ b.size = 32) : wrE S i b = 1 ∧ wrS S i b = S := by
  unfold wrE wrS; rw [h, if_pos rfl, if_pos rfl, if_neg hb, if_neg hb]; exact ⟨rfl, rfl⟩
theorem wrE_down {S : St} {i : Int} {b : ByteArray} (h : atE S i = 0) (hb : b.size = 32) (hd : (cntS S).down = true) : wrE S i b = 8 ∧ wrS S i b = cntS S := by
  have ha : askE (cntS S) = 8 := if_pos hd
  unfold wrE wrS; rw [h, if_pos rfl, if_pos rfl, if_pos hb, if_pos hb, ha, if_neg (by decide)]; exact ⟨rfl, rfl⟩
theorem wrE_done {S : St} {i : Int} {b : ByteArray} (h : atE S i = 0) (hb : b.size = 32) (hd : (cntS S).down = false) : wrE S i b = 0 ∧ wrS S i b = { cntS S with loose := S.loose ++ [(i.toNat, b)] } := by
  have ha : askE (cntS S) = 0 := if_neg (by rw [hd]; simp)
  unfold wrE wrS; rw [h, if_pos rfl, if_pos rfl, if_pos hb, if_pos hb, ha, if_pos rfl]; exact ⟨rfl, rfl⟩

set_option maxHeartbeats 800000 in
set_option maxRecDepth 100000 in
theorem rwrite_calls {B : Nat} {w : World} {p : Nat} {S : St} {F : Nat → Prop} (h : IsRf B w p S F) (hb : Bnd S) (hl : S.loose.length ≤ 1099511627776) (i : Int) (b : ByteArray) :
    Calls Try.prog 50 #[.pointer (some ⟨p, 0, none⟩), .int .i64 i, .string b] w fun e w' => e = .returned (.int .i64 (wrE S i b)) ∧ ∃ F', IsRf B w' p (wrS S i b) F' ∧ Next F F' w w' := by
  have H := Aside0.mk h
  have HL := Aside0.mk hl
  have HB := Aside0.mk hb
  clear hl hb
  obtain ⟨vs, vl, g1, g2, g3, g4, g5, g6, g7⟩ := h
  have hx3 : w.cell? ⟨p, 3, none⟩ = some (.bool S.down) := (blk_cell g1 3).trans rfl
  cases hd : S.down with
  | true =>
    rw [hd] at hx3
    have HR := Aside0.mk (wrE_at (b := b) (atE_down i hd) (by decide))
    clear g1 g2 g3 g4 g5 g6 g7 hd
    go_enter Try.func50, Try.ntmps50
    go_wp2
    go_ret
    exact ⟨by rw [HR.out.1]; rfl, by rw [HR.out.2]; exact ⟨F, H.out, Next.refl _ _⟩⟩
  | false =>
    rw [hd] at hx3
    have HU := Aside0.mk (atE_up i hd)
    have HD := Aside0.mk hd
    obtain ⟨A1, c1, rfl⟩ := own_slice g2
    have hx0 : w.cell? ⟨p, 0, none⟩ = some (.slice A1 S.safe.length c1) := (blk_cell g1 0).trans rfl
    have hm1 := own_max g2
    clear g1 g2 g3 g4 g5 g6 g7 hd
    by_cases hi0 : i < 0
    · have HR := Aside0.mk (wrE_at (b := b) (HU.out.trans (if_pos (.inl hi0))) (by decide))
      clear HU
      go_enter Try.func50, Try.ntmps50
      go_wp2
      go_ret
      exact ⟨by rw [HR.out.1]; rfl, by rw [HR.out.2]; exact ⟨F, H.out, Next.refl _ _⟩⟩
    · by_cases hi1 : (S.safe.length : Int) ≤ i
      · have HR := Aside0.mk (wrE_at (b := b) (HU.out.trans (if_pos (.inr hi1))) (by decide))
        clear HU
        go_enter Try.func50, Try.ntmps50
        go_wp2
        go_ret
        exact ⟨by rw [HR.out.1]; rfl, by rw [HR.out.2]; exact ⟨F, H.out, Next.refl _ _⟩⟩
      · by_cases hz : b.size = 32
        · have HA := Aside0.mk (HU.out.trans (if_neg (by omega)))
          clear HU
          have hzi : (b.size : Int) = 32 := by omega
          have HZ := Aside0.mk hz
          clear hz
          obtain ⟨n, rfl⟩ : ∃ n : Nat, i = n := ⟨i.toNat, by omega⟩
          go_enter Try.func50, Try.ntmps50
          go_wp2_with fail
          refine Calls.mono (rcount_calls H.out HB.out HD.out) ?_
          rintro e w2 ⟨rfl, hs2, hk2⟩
          have H2 := Aside0.mk hs2
          have K2 := Aside0.mk hk2
          clear hs2 hk2 hx0 hx3 hi0 hi1 hm1
          cases hc : (cntS S).down with
          | true =>
            have HR := Aside0.mk (wrE_down HA.out HZ.out hc)
            clear hc
            go_wp2
            go_ret
            exact ⟨by rw [HR.out.1]; rfl, by rw [HR.out.2]; exact ⟨F, H2.out, Next.of_kept' K2.out H2.out⟩⟩
          | false =>
            have HR := Aside0.mk (wrE_done HA.out HZ.out hc)
            clear hc
            obtain ⟨us, ul, g1, g2, g3, g4, g5, g6, g7⟩ := H2.out
            obtain ⟨A, c, rfl⟩ := own_slice g3
            have hc1 : w2.cell? ⟨p, 1, none⟩ = some (.slice A (cntS S).loose.length c) := (blk_cell g1 1).trans rfl
            have hBp : B ≤ w2.heap.size := Nat.le_trans (g7 _ g4) (Nat.le_of_lt (blk_lt g1))
            have G1 := Aside0.mk g1
            have G3 := Aside0.mk g3
            have HP := Aside0.mk (fun {w3 v1} => rpush g1 g2 g3 g4 g5 g6 g7 (w3 := w3) (v1 := v1) n b)
            clear g1 g2 g3 g4 g5 g6 g7
            go_wp2_with (first | ((with_reducible refine gate_builtin (b := .append) (xs := #[.tmp 37, .tmp 41]) rfl ?_); at_builtin; refine app_chg B rfl (.tmp 37) (.tmp 41) 75 120 rfl Try.underlying75 info120 rfl _ _ _ (.int .i64 (n : Int)) (.string b) rfl rfl rfl rfl G3.out hBp (by have := HL.out; show (S.loose.length + 1) * 24 ≤ _; omega) (by have := HL.out; show S.loose.length + 1 ≤ _; omega) ?_; intro v1 w3 q1 q2 q3; obtain ⟨A1, c1, rfl⟩ := own_slice q1; have PP := Aside0.mk (HP.out q1 q2 q3); have e1 := blk_grown G1.out q2 (own_ne G3.out G1.out (by decide)); have hd1 : w3.cell? ⟨p, 1, none⟩ = some (.slice A (cntS S).loose.length c) := (blk_cell e1 1).trans rfl; have hf1 : w3.frozen? ⟨p, 1, none⟩ = false := blk_frozen e1 1; clear e1 q1 q2 q3 hc1 hBp))
            clear hd1 hf1
            go_ret
            obtain ⟨F', z1, z2⟩ := PP.out
            exact ⟨by rw [HR.out.1]; rfl, by rw [HR.out.2]; exact ⟨F', z1, (Next.of_kept' K2.out H2.out).trans z2⟩⟩
        · have HR := Aside0.mk (wrE_size (HU.out.trans (if_neg (by omega))) hz)
          clear HU
          have hzi : ¬ (b.size : Int) = 32 := by omega
          clear hz
          go_enter Try.func50, Try.ntmps50
          go_wp2
          go_ret
          exact ⟨by rw [HR.out.1]; rfl, by rw [HR.out.2]; exact ⟨F, H.out, Next.refl _ _⟩⟩
end Go.Proofs.Ytmgkflkpompchaa.Strip
