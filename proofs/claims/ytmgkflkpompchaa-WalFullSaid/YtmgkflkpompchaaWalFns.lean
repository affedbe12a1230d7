/- The log's put, change, Append, Checkpoint, Records, Open. -/
import Derived.Test.YtmgkflkpompchaaWalBase
import Derived.Deep.QuietTactic
import Derived.BigQuiet
namespace Go.Proofs.Ytmgkflkpompchaa.Wal
/-! ## The log's put. No condition but that there is room. -/
section
open Go.RowKit Go.Proofs.YtmgkflkpompchaaW.PrintWords Go.Proofs.YtmgkflkpompchaaW.PrintLast Go.Proofs.YtmgkflkpompchaaW.PrintMore Go.Proofs.Ytmgkflkpompchaa.Strip
set_option linter.unusedVariables false
set_option linter.unusedSimpArgs false

/-- The next block of bytes. -/
def chunk (b : ByteArray) : ByteArray := b.extract 0 (min b.size 32) ++ zeroB (32 - min b.size 32)
def restB (b : ByteArray) : ByteArray := b.extract (min b.size 32) b.size
def chunksF : Nat → ByteArray → List ByteArray
  | 0, _ => []
  | k + 1, b => if b.size = 0 then [] else chunk b :: chunksF k (restB b)
/-- Some writes in a row, till one falls. -/
def wrs : St → Nat → List ByteArray → Int × St
  | S, _, [] => (0, S)
  | S, i, c :: r => if wrE S (i : Int) c = 0 then wrs (wrS S (i : Int) c) (i + 1) r else (wrE S (i : Int) c, wrS S (i : Int) c)
/-- A sync, the head, a sync. -/
def headR (S : St) (turn side size : Nat) : Int × St :=
  if syE S = 0 then
    if wrE (syS S) ((turn % 2 : Nat) : Int) (blockB turn side size) = 0 then (syE (wrS (syS S) ((turn % 2 : Nat) : Int) (blockB turn side size)), syS (wrS (syS S) ((turn % 2 : Nat) : Int) (blockB turn side size)))
    else (wrE (syS S) ((turn % 2 : Nat) : Int) (blockB turn side size), wrS (syS S) ((turn % 2 : Nat) : Int) (blockB turn side size))
  else (syE S, syS S)
def aheadB (S : St) (side at_ : Nat) (b : ByteArray) : ByteArray := (bytesB S.safe (firstN S.safe.length side) at_).extract (at_ / 32 * 32) at_ ++ b
def putW (S : St) (side at_ : Nat) (b : ByteArray) : Int × St := wrs S (firstN S.safe.length side + at_ / 32) (chunksF (aheadB S side at_ b).size (aheadB S side at_ b))
def putR (S : St) (turn side size at_ : Nat) (b : ByteArray) : Int × St := if (putW S side at_ b).1 = 0 then headR (putW S side at_ b).2 turn side size else putW S side at_ b
theorem loop_len (b : ByteArray) : ∀ (n i : Nat) (r : List UInt8), b.size - i = n → (ByteArray.toList.loop b i r).length = r.length + n
  | 0, i, r, h => by
    unfold ByteArray.toList.loop
    rw [if_neg (by omega)]; simp
  | n + 1, i, r, h => by
    unfold ByteArray.toList.loop
    rw [if_pos (by omega), loop_len b n (i + 1) _ (by omega)]
    simp; omega
theorem toList_len (b : ByteArray) : b.toList.length = b.size := by
  unfold ByteArray.toList
  rw [loop_len b b.size 0 [] (by omega)]; simp
theorem toList_some (b : ByteArray) (h : ¬ b.size = 0) : ¬ b.toList = [] ∧ b.toList.isEmpty = false := by
  have := toList_len b
  cases e : b.toList with
  | nil => rw [e] at this; simp at this; omega
  | cons x r => exact ⟨by simp, rfl⟩
theorem toList_none (b : ByteArray) (h : b.size = 0) : b.toList = [] ∧ b.toList.isEmpty = true := by
  have := toList_len b
  cases e : b.toList with
  | nil => exact ⟨rfl, rfl⟩
  | cons x r => rw [e] at this; simp at this; omega
theorem sy_num (S : St) : (syS S).loose.length ≤ S.loose.length := by
  unfold syS
  split
  · split
    · exact Nat.zero_le _
    · exact Nat.le_refl _
  · exact Nat.le_refl _
theorem wrS_len (S : St) (i : Int) (b : ByteArray) : (wrS S i b).safe.length = S.safe.length := by
  unfold wrS
  split
  · split
    · split <;> rfl
    · rfl
  · rfl
theorem zeroB_size (n : Nat) : (zeroB n).size = n := by
  have : ∀ n, (Lib.repeatL ([0] : List UInt8) n).length = n := by
    intro n
    induction n with
    | zero => rfl
    | succ n ih => simp [Lib.repeatL] at ih ⊢; exact ih
  show (Lib.repeatL ([0] : List UInt8) n).toArray.size = n
  rw [List.size_toArray, this]
theorem restB_size (b : ByteArray) : (restB b).size = b.size - 32 := by
  unfold restB; rw [ByteArray.size_extract]; omega

set_option maxHeartbeats 3200000 in
set_option maxRecDepth 100000 in
theorem put_calls {B : Nat} {w : World} {p q : Nat} {S : St} {W : Wl} {F G : Nat → Prop} (h : Both B w p q S W F G) (hi : SInv S) (hd : S.down = false) (hlo : S.loose = []) (turn side size at_ : Nat) (hside : side ≤ 1) (hturn : turn ≤ 1099511627776)
    (b : ByteArray) (hroom : at_ + b.size ≤ roomN S.safe.length) :
    Calls Try.prog 92 #[.pointer (some ⟨q, 0, none⟩), .agg #[.int .i64 (turn : Int), .int .i64 (side : Int), .int .i64 (size : Int)], .int .i64 (at_ : Int), .string b] w fun e w' =>
      e = .returned (.int .i64 (putR S turn side size at_ b).1) ∧ (∃ F', Both B w' p q (putR S turn side size at_ b).2 { W with dead := (putR S turn side size at_ b).1 != 0 } F' G ∧ ∀ k, F' k → F k ∨ w.heap.size ≤ k) ∧ Strip.Kept (fun k => F k ∨ k = q) w w' := by
  have H := Aside0.mk h
  have HI := Aside0.mk hi
  have HD := Aside0.mk (And.intro hd hlo)
  have hl := hi.len
  have hrm : roomN S.safe.length ≤ 1048576 := by unfold roomN; omega
  have HRO := Aside0.mk hroom
  have HBY := Aside0.mk (fun (w1 : World) (hb : Below w.heap.size w w1) => bytes_calls (h.a.below hb) (pw_cell_below hb h.b.cell0) side hside hd hlo hi.ssz at_ (by omega))
  have hfb : firstN S.safe.length side ≤ 65540 := by
    unfold firstN
    have : side = 0 ∨ side = 1 := by omega
    rcases this with e | e <;> subst e <;> omega
  have HFI := Aside0.mk (show ∀ (w1 : World) (T : St) (F1 : Nat → Prop), Both B w1 p q T W F1 G → T.safe.length = S.safe.length → Calls Try.prog 88 #[.pointer (some ⟨q, 0, none⟩), .int .i64 (side : Int)] w1 fun e w' => e = .returned (.int .i64 (firstN S.safe.length side)) ∧ w1 = w' from fun w1 T F1 hb ht => by have := first_calls hb.a hb.b.cell0 side hside; rwa [ht] at this)
  have HBS := Aside0.mk (show (bytesB S.safe (firstN S.safe.length side) at_).size = at_ by
    unfold bytesB
    rw [mk_size, List.length_take, flatL_len _ (fun x hx => hi.ssz x (List.mem_of_mem_drop hx)), List.length_drop]
    unfold roomN at hroom; unfold firstN
    have : side = 0 ∨ side = 1 := by omega
    rcases this with e | e <;> subst e <;> omega)
  have hai : at_ ≤ 1048576 := by omega
  have hbi : b.size ≤ 1048576 := by omega
  clear h hi hd hlo hroom
  go_enter Try.func92, Try.ntmps92
  go_upto_region 0 with fail
  go_upto_region 1 with ((with_reducible refine gate_dst (N := 5) rfl ?_); refine box_event ?hg (N := 5) ?hd (cs := #[.int .i64 (turn : Int), .int .i64 (side : Int), .int .i64 (size : Int)]) (t := 104) ?hr ?_; (case hd => rfl); (case hg => rfl); (case hr => first | (go_simp; done) | (go_simp; rfl)); intro gb hg w4 hbox hb; have HB := Aside0.mk hb; have BK := Aside0.mk hbox; have GE := Aside0.mk hg; clear hb hbox hg)
  have HT := Aside0.mk (H.out.below HB.out)
  have hc1 : w4.cell? ⟨gb, 1, none⟩ = some (.int .i64 (side : Int)) := (blk_cell BK.out 1).trans rfl
  have HPR := Aside0.mk (show putR S turn side size at_ b = if (wrs S (firstN S.safe.length side + at_ / 32) (chunksF (((bytesB S.safe (firstN S.safe.length side) at_).extract (at_ / 32 * 32) at_ ++ b).size) ((bytesB S.safe (firstN S.safe.length side) at_).extract (at_ / 32 * 32) at_ ++ b))).1 = 0 then headR (wrs S (firstN S.safe.length side + at_ / 32) (chunksF (((bytesB S.safe (firstN S.safe.length side) at_).extract (at_ / 32 * 32) at_ ++ b).size) ((bytesB S.safe (firstN S.safe.length side) at_).extract (at_ / 32 * 32) at_ ++ b))).2 turn side size else wrs S (firstN S.safe.length side + at_ / 32) (chunksF (((bytesB S.safe (firstN S.safe.length side) at_).extract (at_ / 32 * 32) at_ ++ b).size) ((bytesB S.safe (firstN S.safe.length side) at_).extract (at_ / 32 * 32) at_ ++ b)) from rfl)
  generalize firstN S.safe.length side = f at HBY HFI HBS HPR hfb
  generalize bytesB S.safe f at_ = ah at HBY HBS HPR
  have hmin : min (ah.size : Int) ((at_ : Int) / 32 * 32) = ((at_ / 32 * 32 : Nat) : Int) := by rw [HBS.out]; omega
  have hm1 : (0 : Int) ≤ ((at_ / 32 * 32 : Nat) : Int) := by omega
  have hm2 : ((at_ / 32 * 32 : Nat) : Int) ≤ (ah.size : Int) := by rw [HBS.out]; omega
  have hadd : ¬ (9223372036854775807 < ah.size - at_ / 32 * 32 + b.size) := by have := HBS.out; omega
  go_upto_region 3 with (first | (go_at_call 66; refine Calls.mono (HBY.out _ HB.out) ?_; rintro e w5 ⟨rfl, hb⟩; have n1 := Aside0.mk (HT.out.below hb); have n2 := Aside0.mk (below_step HB.out hb); have n3 := Aside0.mk (blk_below BK.out hb); clear HT HB BK hb; have HT := n1; have HB := n2; have BK := n3; clear n1 n2 n3) | fail)
  clear hc1
  go_upto_region 4 with fail
  rw [show ah.extract (at_ / 32 * 32) ah.size = ah.extract (at_ / 32 * 32) at_ by rw [HBS.out]]
  have habs : (ah.extract (at_ / 32 * 32) at_ ++ b).size = at_ - at_ / 32 * 32 + b.size := by rw [ByteArray.size_append, ByteArray.size_extract, HBS.out]; omega
  generalize ah.extract (at_ / 32 * 32) at_ ++ b = ab at HPR habs ⊢
  generalize ah.extract (at_ / 32 * 32) at_ = ah2
  generalize hR : wrs S (f + at_ / 32) (chunksF ab.size ab) = R at HPR
  have HRR := Aside0.mk hR
  have hab1 : ab.size ≤ 1048608 := by omega
  clear hR hmin hm1 hm2 hadd habs
  go_loopw [3, 9, 11] (fun v3 v9 v11 w' => ∃ (k i : Nat) (e : Int) (bb : ByteArray) (T : St) (F2 : Nat → Prop), v3 = .string bb ∧ v9 = .int .i64 (i : Int) ∧ v11 = .int .i64 e ∧ Aside0 (Both B w' p q T W F2 G) ∧ Aside0 (SInv T) ∧ Aside0 (T.safe.length = S.safe.length) ∧ bb.size ≤ k ∧ i + bb.size ≤ 2097152 ∧ T.loose.length + bb.size ≤ 1048608 ∧ Aside0 ((e = 0 ∧ wrs T (f + i) (chunksF k bb) = R) ∨ (e ≠ 0 ∧ (e, T) = R)) ∧ Aside0 (¬ F2 gb) ∧
    Aside0 (w'.heap[gb]? = some (.cells #[.int .i64 (turn : Int), .int .i64 (side : Int), .int .i64 (size : Int)] 104 (0, 0))) ∧ Aside0 (Strip.Kept (fun k => F k ∨ k = q) w w') ∧ Aside0 (∀ k, F2 k → F k ∨ w.heap.size ≤ k)) (fun v3 _ _ _ => match v3 with | .string s => s.size | _ => 0)
  case atStart => exact ⟨ab.size, at_ / 32, 0, ab, S, F, rfl, by rw [Int.natCast_ediv]; rfl, rfl, HT, HI, ⟨rfl⟩, Nat.le_refl _, by omega, by rw [HD.out.2]; simpa using hab1, ⟨.inl ⟨rfl, HRR.out⟩⟩, ⟨fun hf => by have := H.out.fF gb hf; have := GE.out; omega⟩, BK, ⟨Strip.Kept.of_below HB.out⟩, ⟨fun k hk => .inl hk⟩⟩
  case round =>
    clear HT BK HB HRR
    obtain ⟨k, i, e, bb, T, F2, rfl, rfl, rfl, HT, HTI, HTL, hk, hib, hlb, HR, HFG, BK, HB, HFO⟩ := hrel
    by_cases he : e = 0
    · subst he
      have HR0 := Aside0.mk (HR.out.elim (fun h => h.2) (fun h => absurd rfl h.1))
      clear HR
      by_cases hb0 : bb.size = 0
      · skip
        have HRES0 := Aside0.mk (show putR S turn side size at_ b = headR T turn side size from by
          have h0 := HR0.out
          have h1 : chunksF k bb = [] := by
            cases k with
            | zero => rfl
            | succ k => exact if_pos hb0
          rw [h1] at h0
          have h2 : wrs T (f + i) [] = (0, T) := rfl
          rw [h2] at h0
          rw [HPR.out, ← h0]; exact if_pos rfl)
        obtain ⟨t1, t2⟩ := toList_none bb hb0
        obtain ⟨e3, he3⟩ : ∃ x, x = syE T := ⟨_, rfl⟩
        obtain ⟨T3, hT3⟩ : ∃ x, x = syS T := ⟨_, rfl⟩
        have HE3 := Aside0.mk (And.intro he3.symm hT3.symm)
        have HTI3 := Aside0.mk (show SInv T3 from hT3 ▸ HTI.out.sync)
        have HH := Aside0.mk (show headR T turn side size = if e3 = 0 then if wrE T3 ((turn % 2 : Nat) : Int) (blockB turn side size) = 0 then (syE (wrS T3 ((turn % 2 : Nat) : Int) (blockB turn side size)), syS (wrS T3 ((turn % 2 : Nat) : Int) (blockB turn side size))) else (wrE T3 ((turn % 2 : Nat) : Int) (blockB turn side size), wrS T3 ((turn % 2 : Nat) : Int) (blockB turn side size)) else (e3, T3) from by rw [he3, hT3]; rfl)
        clear he3 hT3
        have hq0 := HT.out.b.cell0
        go_upto_region 11 with (first | (go_at_call 47; refine Calls.mono (sync_calls HT.out.a HTI.out.idx) ?_; rw [HE3.out.1, HE3.out.2]; rintro e w3 ⟨rfl, F3, hs, hn⟩; have HX3 := Aside0.mk (HT.out.next hs hn); have HB3 := Aside0.mk (HB.out.trans hn.1 (fun k hk => (HFO.out k hk).elim (fun h => .inl (.inl h)) .inr)); have hk3 := hn.1; clear hs hn) | fail)
        clear t1 t2
        obtain ⟨F3', hx3, hf3⟩ := HX3.out
        have H3 := Aside0.mk hx3
        have HFG3 := Aside0.mk (show ¬ F3' gb from fun hf => by
          rcases hf3 gb hf with h1 | h1
          · exact HFG.out h1
          · have := blk_lt BK.out; omega)
        have BK3 := Aside0.mk ((hk3.block gb (blk_lt BK.out) HFG.out).trans BK.out)
        have HLO3 := Aside0.mk (show T3.loose.length ≤ 1099511627776 by rw [← HE3.out.2]; exact Nat.le_trans (sy_num T) (by omega))
        have HFO3 := Aside0.mk (show ∀ k, F3' k → F k ∨ w.heap.size ≤ k from fun k hk => (hf3 k hk).elim (fun h => HFO.out k h) (fun h => .inr (by have := HB.out.size; omega)))
        clear hx3 hf3 HX3 hk3 hq0 HT HB BK
        by_cases h3 : e3 = 0
        · subst h3
          obtain ⟨e4, he4⟩ : ∃ x, x = wrE T3 ((turn : Int) % 2) (blockB turn side size) := ⟨_, rfl⟩
          obtain ⟨T4, hT4⟩ : ∃ x, x = wrS T3 ((turn : Int) % 2) (blockB turn side size) := ⟨_, rfl⟩
          have HE4 := Aside0.mk (And.intro he4.symm hT4.symm)
          have HTI4 := Aside0.mk (show SInv T4 from hT4 ▸ HTI3.out.write _ _)
          have hn4 := wr_num T3 ((turn : Int) % 2) (blockB turn side size)
          rw [← hT4] at hn4
          have HH2 := Aside0.mk (show headR T turn side size = if e4 = 0 then (syE T4, syS T4) else (e4, T4) from by rw [HH.out, if_pos rfl, show ((turn % 2 : Nat) : Int) = (turn : Int) % 2 by omega, ← he4, ← hT4])
          clear he4 hT4 hn4 HH
          have HQ := Aside0.mk H3.out.b.cell0
          have HC0 := Aside0.mk (show w3.cell? ⟨gb, 0, none⟩ = some (.int .i64 (turn : Int)) from (blk_cell BK3.out 0).trans rfl)
          have HC1 := Aside0.mk (show w3.cell? ⟨gb, 1, none⟩ = some (.int .i64 (side : Int)) from (blk_cell BK3.out 1).trans rfl)
          have HC2 := Aside0.mk (show w3.cell? ⟨gb, 2, none⟩ = some (.int .i64 (size : Int)) from (blk_cell BK3.out 2).trans rfl)
          go_upto_region 12 with fail
          go_region_held3 (fun w' => w'.cell? ⟨q, 0, none⟩ = some (.pointer (some ⟨p, 0, none⟩)) ∧ w'.cell? ⟨gb, 0, none⟩ = some (.int .i64 (turn : Int)) ∧ w'.cell? ⟨gb, 1, none⟩ = some (.int .i64 (side : Int)) ∧ w'.cell? ⟨gb, 2, none⟩ = some (.int .i64 (size : Int))) (first | exact ⟨HQ.out, HC0.out, HC1.out, HC2.out⟩ | exact ⟨pw_cell_below HB7.out HQ.out, pw_cell_below HB7.out HC0.out, pw_cell_below HB7.out HC1.out, pw_cell_below HB7.out HC2.out⟩ | exact ⟨HX4.out.elim (fun _ h => h.1.b.cell0), (blk_cell BK4.out 0).trans rfl, (blk_cell BK4.out 1).trans rfl, (blk_cell BK4.out 2).trans rfl⟩) (first | (go_at_call 87; refine Calls.mono (block_calls _ _ _ _) ?_; rintro e w7 ⟨rfl, hb⟩; have HB7 := Aside0.mk (⟨hb.os, hb.tape, hb.output, hb.size, hb.block⟩ : Below w3.heap.size w3 w7); clear hb) | (go_at_call 43; refine Calls.mono (write_calls (H3.out.below HB7.out).a _ _ HLO3.out) ?_; rw [show (turn : Int).tmod 2 = (turn : Int) % 2 from Int.tmod_eq_emod_of_nonneg (by omega), HE4.out.1, HE4.out.2]; rintro e w4 ⟨rfl, F4, hs, hn⟩; have HX4 := Aside0.mk ((H3.out.below HB7.out).next hs hn); have HB4 := Aside0.mk ((HB3.out.trans (Strip.Kept.of_below (F := fun _ => False) HB7.out) (fun _ h => h.elim)).trans hn.1 (fun k hk => (HFO3.out k hk).elim (fun h => .inl (.inl h)) .inr)); have BK4 := Aside0.mk ((hn.1.block gb (blk_lt (blk_below BK3.out HB7.out)) HFG3.out).trans (blk_below BK3.out HB7.out)); clear hs hn))
          obtain ⟨F4', hx4, hf4⟩ := HX4.out
          have H4 := Aside0.mk hx4
          have HFO4 := Aside0.mk (show ∀ k, F4' k → F k ∨ w.heap.size ≤ k from fun k hk => (hf4 k hk).elim (fun h => HFO3.out k h) (fun h => .inr (by have := HB3.out.size; have := HB7.out.size; omega)))
          clear hx4 hf4 HX4 HQ HC0 HC1 HC2
          by_cases h4 : e4 = 0
          · subst h4
            obtain ⟨e5, he5⟩ : ∃ x, x = syE T4 := ⟨_, rfl⟩
            obtain ⟨T5, hT5⟩ : ∃ x, x = syS T4 := ⟨_, rfl⟩
            have HE5 := Aside0.mk (And.intro he5.symm hT5.symm)
            have HRES := Aside0.mk (show putR S turn side size at_ b = (e5, T5) from by rw [HRES0.out, HH2.out, if_pos rfl, ← he5, ← hT5])
            clear he5 hT5
            have hq4 := H4.out.b.cell0
            go_upto_region 15 with (first | (go_at_call 47; refine Calls.mono (sync_calls H4.out.a HTI4.out.idx) ?_; rw [HE5.out.1, HE5.out.2]; rintro e w5 ⟨rfl, F5, hs, hn⟩; have HX5 := Aside0.mk (H4.out.next hs hn); have HB5 := Aside0.mk (HB4.out.trans hn.1 (fun k hk => (HFO4.out k hk).elim (fun h => .inl (.inl h)) .inr)); have hk5 := hn.1; clear hs hn) | fail)
            obtain ⟨F5', hx5, hf5⟩ := HX5.out
            have H5 := Aside0.mk hx5
            have HFO5 := Aside0.mk (show ∀ k, F5' k → F k ∨ w.heap.size ≤ k from fun k hk => (hf5 k hk).elim (fun h => HFO4.out k h) (fun h => .inr (by have := HB4.out.size; omega)))
            clear hx5 hf5 HX5 hk5 hq4
            by_cases h5 : e5 = 0
            · subst h5
              obtain ⟨vl, g1, _⟩ := H5.out.b
              have hq6 : w5.cell? ⟨q, 6, none⟩ = some (.bool W.dead) := (blk_cell g1 6).trans rfl
              have hf6 : w5.frozen? ⟨q, 6, none⟩ = false := blk_frozen g1 6
              have hq0 : w5.cell? ⟨q, 0, none⟩ = some (.pointer (some ⟨p, 0, none⟩)) := (blk_cell g1 0).trans rfl
              clear g1
              have HZ := Aside0.mk (Both.set (W' := { W with dead := false }) H5.out 6 (.bool false) (fun _ => rfl) rfl)
              have HBZ := Aside0.mk (show Strip.Kept (fun k => F k ∨ k = q) w (w5.setCell ⟨q, 6, none⟩ (.bool false)) from HB5.out.set (g := q) _ (.inl (.inr rfl)))
              go_wp2
              go_ret
              rw [HRES.out]
              exact ⟨rfl, ⟨_, HZ.out, HFO5.out⟩, HBZ.out⟩
            · have hbz : (e5 != 0) = true := by rw [bne_iff_ne]; exact h5
              obtain ⟨vl, g1, _⟩ := H5.out.b
              have hq6 : w5.cell? ⟨q, 6, none⟩ = some (.bool W.dead) := (blk_cell g1 6).trans rfl
              have hf6 : w5.frozen? ⟨q, 6, none⟩ = false := blk_frozen g1 6
              have hq0 : w5.cell? ⟨q, 0, none⟩ = some (.pointer (some ⟨p, 0, none⟩)) := (blk_cell g1 0).trans rfl
              clear g1
              have HZ := Aside0.mk (Both.set (W' := { W with dead := true }) H5.out 6 (.bool true) (fun _ => rfl) rfl)
              have HBZ := Aside0.mk (show Strip.Kept (fun k => F k ∨ k = q) w (w5.setCell ⟨q, 6, none⟩ (.bool true)) from HB5.out.set (g := q) _ (.inl (.inr rfl)))
              go_wp2
              go_ret
              rw [HRES.out]
              exact ⟨rfl, ⟨_, by rw [hbz]; exact HZ.out, HFO5.out⟩, HBZ.out⟩
          · have hbe : (e4 == 0) = false := by rw [beq_eq_false_iff_ne]; exact h4
            have hbz : (e4 != 0) = true := by rw [bne_iff_ne]; exact h4
            have HRES := Aside0.mk (show putR S turn side size at_ b = (e4, T4) from by rw [HRES0.out, HH2.out, if_neg h4])
            obtain ⟨vl, g1, _⟩ := H4.out.b
            have hq6 : w4.cell? ⟨q, 6, none⟩ = some (.bool W.dead) := (blk_cell g1 6).trans rfl
            have hf6 : w4.frozen? ⟨q, 6, none⟩ = false := blk_frozen g1 6
            have hq0 : w4.cell? ⟨q, 0, none⟩ = some (.pointer (some ⟨p, 0, none⟩)) := (blk_cell g1 0).trans rfl
            clear g1
            have HZ := Aside0.mk (Both.set (W' := { W with dead := true }) H4.out 6 (.bool true) (fun _ => rfl) rfl)
            have HBZ := Aside0.mk (show Strip.Kept (fun k => F k ∨ k = q) w (w4.setCell ⟨q, 6, none⟩ (.bool true)) from HB4.out.set (g := q) _ (.inl (.inr rfl)))
            go_wp2
            go_ret
            rw [HRES.out]
            exact ⟨rfl, ⟨_, by rw [hbz]; exact HZ.out, HFO4.out⟩, HBZ.out⟩
        · have hbe : (e3 == 0) = false := by rw [beq_eq_false_iff_ne]; exact h3
          have hbz : (e3 != 0) = true := by rw [bne_iff_ne]; exact h3
          have HRES := Aside0.mk (show putR S turn side size at_ b = (e3, T3) from by rw [HRES0.out, HH.out, if_neg h3])
          obtain ⟨vl, g1, _⟩ := H3.out.b
          have hq6 : w3.cell? ⟨q, 6, none⟩ = some (.bool W.dead) := (blk_cell g1 6).trans rfl
          have hf6 : w3.frozen? ⟨q, 6, none⟩ = false := blk_frozen g1 6
          have hq0 : w3.cell? ⟨q, 0, none⟩ = some (.pointer (some ⟨p, 0, none⟩)) := (blk_cell g1 0).trans rfl
          clear g1
          have HZ := Aside0.mk (Both.set (W' := { W with dead := true }) H3.out 6 (.bool true) (fun _ => rfl) rfl)
          have HBZ := Aside0.mk (show Strip.Kept (fun k => F k ∨ k = q) w (w3.setCell ⟨q, 6, none⟩ (.bool true)) from HB3.out.set (g := q) _ (.inl (.inr rfl)))
          go_wp2
          go_ret
          rw [HRES.out]
          exact ⟨rfl, ⟨_, by rw [hbz]; exact HZ.out, HFO3.out⟩, HBZ.out⟩
      · obtain ⟨t1, t2⟩ := toList_some bb hb0
        obtain ⟨k, rfl⟩ : ∃ k', k = k' + 1 := ⟨k - 1, by omega⟩
        have HCK := Aside0.mk (show chunksF (k + 1) bb = chunk bb :: chunksF k (restB bb) from if_neg hb0)
        have hrs := restB_size bb
        obtain ⟨e2, he2⟩ : ∃ x, x = wrE T ((f : Int) + (i : Int)) (chunk bb) := ⟨_, rfl⟩
        obtain ⟨T2, hT2⟩ : ∃ x, x = wrS T ((f : Int) + (i : Int)) (chunk bb) := ⟨_, rfl⟩
        have HE2 := Aside0.mk he2
        have HT2 := Aside0.mk hT2
        have HR1 := Aside0.mk (show (e2 = 0 ∧ wrs T2 (f + (i + 1)) (chunksF k (restB bb)) = R) ∨ (e2 ≠ 0 ∧ (e2, T2) = R) from by
          have h0 := HR0.out
          rw [HCK.out] at h0
          have h1 : wrs T (f + i) (chunk bb :: chunksF k (restB bb)) = if wrE T ((f + i : Nat) : Int) (chunk bb) = 0 then wrs (wrS T ((f + i : Nat) : Int) (chunk bb)) (f + i + 1) (chunksF k (restB bb)) else (wrE T ((f + i : Nat) : Int) (chunk bb), wrS T ((f + i : Nat) : Int) (chunk bb)) := rfl
          rw [h1, show ((f + i : Nat) : Int) = (f : Int) + (i : Int) by omega, ← he2, ← hT2] at h0
          by_cases hz : e2 = 0
          · rw [if_pos hz] at h0; exact .inl ⟨hz, h0⟩
          · rw [if_neg hz] at h0; exact .inr ⟨hz, h0⟩)
        have HTI2 := Aside0.mk (show SInv T2 from hT2 ▸ HTI.out.write _ _)
        have HTL2 := Aside0.mk (show T2.safe.length = S.safe.length from by rw [hT2, wrS_len, HTL.out])
        have hn2 := wr_num T ((f : Int) + (i : Int)) (chunk bb)
        rw [← hT2] at hn2
        have HLB := Aside0.mk (show T.loose.length ≤ 1099511627776 by omega)
        have HCH := Aside0.mk (show chunk bb = bb.extract 0 (min bb.size 32) ++ zeroB (32 - min bb.size 32) from rfl)
        have HRB := Aside0.mk (show restB bb = bb.extract (min bb.size 32) bb.size from rfl)
        have hzs := zeroB_size (32 - min bb.size 32)
        have hmi : min (bb.size : Int) 32 = ((min bb.size 32 : Nat) : Int) := by omega
        clear he2 hT2 HCK HR0 hb0
        have hm1 : min bb.size 32 ≤ bb.size := by omega
        have hm2 : min bb.size 32 ≤ 32 := by omega
        go_upto_region 7 with fail
        clear hmi
        generalize min bb.size 32 = m at HCH HRB hzs hm1 hm2 ⊢
        generalize hzb : zeroB (32 - m) = z at HCH hzs
        have HZB := Aside0.mk hzb
        clear hzb
        have HEE := Aside0.mk (show wrE T ((f : Int) + (i : Int)) (bb.extract 0 m ++ z) = e2 ∧ wrS T ((f : Int) + (i : Int)) (bb.extract 0 m ++ z) = T2 by rw [← HCH.out]; exact ⟨HE2.out.symm, HT2.out.symm⟩)
        have q0 : (0 : Int) ≤ (m : Int) := by omega
        have q1 : (m : Int) ≤ (bb.size : Int) := by omega
        have hsub : IntKind.i64.wrap (32 - (m : Int)) = ((32 - m : Nat) : Int) := by rw [i64_w]; unfold wrap64; omega
        have hsum : IntKind.i64.wrap ((f : Int) + (i : Int)) = (f : Int) + (i : Int) := by rw [i64_w]; unfold wrap64; omega
        have hadd : ¬ (9223372036854775807 < min m bb.size + z.size) := by omega
        have HQ := Aside0.mk HT.out.b.cell0
        have HCC := Aside0.mk (show wr.cell? ⟨gb, 1, none⟩ = some (.int .i64 (side : Int)) from (blk_cell BK.out 1).trans rfl)
        have HTD := Aside0.mk (HT.out.below (below_drew (Below.refl _ _)))
        go_region_held3 (fun w' => w'.cell? ⟨q, 0, none⟩ = some (.pointer (some ⟨p, 0, none⟩)) ∧ w'.cell? ⟨gb, 1, none⟩ = some (.int .i64 (side : Int))) (first | exact ⟨HQ.out, HCC.out⟩ | exact ⟨pw_cell_below HB7.out HQ.out, pw_cell_below HB7.out HCC.out⟩ | exact ⟨HW6.out.elim (fun _ h => h.1.b.cell0), (blk_cell BK6.out 1).trans rfl⟩) (first | (go_at_call 88; refine Calls.mono (HFI.out _ T F2 HTD.out HTL.out) ?_; rintro e w8 ⟨rfl, rfl⟩) | (go_at_call 64; refine Calls.mono (Try.strings_Repeat ⟨#[0]⟩ (32 - m) _ (by omega) (by show 1 * (32 - m) ≤ _; omega)) ?_; rw [show (⟨(Lib.repeatL (⟨#[0]⟩ : ByteArray).data.toList (32 - m)).toArray⟩ : ByteArray) = z from HZB.out]; rintro e w7 ⟨rfl, hb⟩; have HB7 := Aside0.mk (⟨hb.os, hb.tape, hb.output, hb.size, hb.block⟩ : Below wr.heap.size wr w7); clear hb) | (go_at_call 43; refine Calls.mono (write_calls (HT.out.below HB7.out).a _ _ HLB.out) ?_; rw [HEE.out.1, HEE.out.2]; rintro e w6 ⟨rfl, F6, hs, hn⟩; have HW6 := Aside0.mk ((HT.out.below HB7.out).next hs hn); have HB6 := Aside0.mk ((HB.out.trans (Strip.Kept.of_below (F := fun _ => False) HB7.out) (fun _ h => h.elim)).trans hn.1 (fun k hk => (HFO.out k hk).elim (fun h => .inl (.inl h)) .inr)); have hkk := hn.1.block gb (blk_lt (blk_below BK.out HB7.out)) HFG.out; have BK6 := Aside0.mk (hkk.trans (blk_below BK.out HB7.out)); clear hkk; clear hs hn))
        obtain ⟨F6', hw6, hf6⟩ := HW6.out
        have H6 := Aside0.mk hw6
        have HFG6 := Aside0.mk (show ¬ F6' gb from fun hf => by
          rcases hf6 gb hf with h1 | h1
          · exact HFG.out h1
          · have := blk_lt BK.out; have := HB7.out.size; omega)
        have HFO6 := Aside0.mk (show ∀ k, F6' k → F k ∨ w.heap.size ≤ k from fun k hk => (hf6 k hk).elim (fun h => HFO.out k h) (fun h => .inr (by have := HB7.out.size; have := HB.out.size; omega)))
        clear hw6 hf6 HW6 HQ HCC HTD
        have HRS := Aside0.mk hrs
        have HSS := Aside0.mk (show (bb.extract m bb.size).size < bb.size by rw [← HRB.out]; have := toList_len bb; have : ¬ bb.size = 0 := fun h => t1 (toList_none bb h).1; omega)
        clear t1 t2
        have hii := hib
        have hrr := hrs
        clear hrs hsum hsub hadd
        go_wp2
        go_roundw
        case measure => exact HSS.out
        case rel => exact ⟨k, i + 1, e2, restB bb, T2, F6', by rw [HRB.out], by go_num, rfl, H6, HTI2, HTL2, by have := HRS.out; omega, by have := HRS.out; have := HSS.out; rw [← HRB.out] at this; omega, by have := HRS.out; have := HSS.out; rw [← HRB.out] at this; omega, HR1, HFG6, BK6, HB6, HFO6⟩
    · have HR0 := Aside0.mk (HR.out.elim (fun h => absurd h.1 he) (fun h => h.2))
      clear HR
      have hbe : (e == 0) = false := by rw [beq_eq_false_iff_ne]; exact he
      have hbz : (e != 0) = true := by rw [bne_iff_ne]; exact he
      have HRES := Aside0.mk (show putR S turn side size at_ b = (e, T) from by rw [HPR.out, ← HR0.out]; exact if_neg he)
      obtain ⟨vl, g1, _⟩ := HT.out.b
      have hq6 : wr.cell? ⟨q, 6, none⟩ = some (.bool W.dead) := (blk_cell g1 6).trans rfl
      have hf6 : wr.frozen? ⟨q, 6, none⟩ = false := blk_frozen g1 6
      have hq0 : wr.cell? ⟨q, 0, none⟩ = some (.pointer (some ⟨p, 0, none⟩)) := (blk_cell g1 0).trans rfl
      clear g1
      have HZ := Aside0.mk (Both.set (W' := { W with dead := true }) HT.out 6 (.bool true) (fun _ => rfl) rfl)
      have HBZ := Aside0.mk (show Strip.Kept (fun k => F k ∨ k = q) w (wr.setCell ⟨q, 6, none⟩ (.bool true)) from HB.out.set (g := q) _ (.inl (.inr rfl)))
      go_wp2
      go_ret
      rw [HRES.out]
      exact ⟨rfl, ⟨_, by rw [hbz]; exact HZ.out, HFO.out⟩, HBZ.out⟩
end

/-! ## The log's change. No condition but on how many bytes. -/
section
open Go.RowKit Go.Proofs.YtmgkflkpompchaaW.PrintWords Go.Proofs.YtmgkflkpompchaaW.PrintLast Go.Proofs.YtmgkflkpompchaaW.PrintMore Go.Proofs.Ytmgkflkpompchaa.Strip
set_option linter.unusedVariables false
set_option linter.unusedSimpArgs false

/-- What a change answers, and leaves. -/
structure Res where
  e : Int
  S : St
  W : Wl
def chgR (S : St) (W : Wl) (l all : List ByteArray) (side at_ : Nat) : Res :=
  if W.dead = true then ⟨8, S, W⟩
  else if mayE S l (at_ + (framedB l).size) ≠ 0 then ⟨mayE S l (at_ + (framedB l).size), S, W⟩
  else if (putR S (W.turn + 1) side (at_ + (framedB l).size) at_ (framedB l)).1 ≠ 0 then
    ⟨(putR S (W.turn + 1) side (at_ + (framedB l).size) at_ (framedB l)).1, (putR S (W.turn + 1) side (at_ + (framedB l).size) at_ (framedB l)).2, { W with dead := true }⟩
  else ⟨0, (putR S (W.turn + 1) side (at_ + (framedB l).size) at_ (framedB l)).2, ⟨W.turn + 1, side, at_ + (framedB l).size, all, false⟩⟩
theorem mayE_zero {S : St} {l : List ByteArray} {n : Nat} (h : mayE S l n = 0) : n ≤ roomN S.safe.length ∧ 2 ≤ S.safe.length ∧ l.any large = false := by
  unfold mayE at h
  by_cases h1 : l.any large = true
  · rw [if_pos h1] at h; cases h
  · rw [if_neg h1] at h
    by_cases h2 : roomN S.safe.length < n ∨ S.safe.length < 2
    · rw [if_pos h2] at h; cases h
    · exact ⟨by omega, by omega, by simpa using h1⟩
theorem framedB_size (l : List ByteArray) : (framedB l).size = (framedL l).length := mk_size _

/-- A log whose fields are all new. -/
theorem Both.renew {B : Nat} {w w5 : World} {p q : Nat} {S : St} {W W' : Wl} {F G GA : Nat → Prop} (h : Both B w p q S W F G) {va : Value} (ha : StrS w va W'.l GA) (hGA : ∀ k, GA k → B ≤ k ∧ ¬ F k ∧ k ≠ q)
    (hk : Strip.Kept (fun k => k = q) w w5) (hc : w5.heap[q]? = some (.cells #[.pointer (some ⟨p, 0, none⟩), .int .i64 (W'.turn : Int), .int .i64 (W'.side : Int), .int .i64 (W'.size : Int), .int .i64 (W'.size : Int), va, .bool W'.dead] 106 (0, 0))) : ∃ G', Both B w5 p q S W' F G' ∧ ∀ k, G' k → G k ∨ GA k := by
  have hq : G q := by obtain ⟨vl, h1, h2, h3, h4⟩ := h.b; exact h3
  have hlt : q < w.heap.size := h.fG q hq
  refine ⟨fun k => k = q ∨ (GA k ∧ k < w.heap.size), ⟨h.a.keep hk (fun k hf e => h.dis k hf (e ▸ hq)), ⟨va, hc, ?_, .inl rfl, ?_⟩, ?_, fun k hf => Nat.lt_of_lt_of_le (h.fF k hf) hk.size, ?_⟩, fun k hk => hk.elim (fun e => .inl (e ▸ hq)) (fun g => .inr g.1)⟩
  · exact ((ha.mono (G' := fun k => GA k ∧ k < w.heap.size) (fun k h1 h2 => ⟨h2, h1⟩)).keep hk (fun k hg => (hGA k hg.1).2.2)).mono (fun k _ hg => .inr hg)
  · rintro k (rfl | hg)
    · exact h.ge
    · exact (hGA k hg.1).1
  · rintro k hf (rfl | hg)
    · exact h.dis _ hf hq
    · exact (hGA k hg.1).2.1 hf
  · rintro k (rfl | hg)
    · exact Nat.lt_of_lt_of_le hlt hk.size
    · exact Nat.lt_of_lt_of_le hg.2 hk.size
set_option maxHeartbeats 3200000 in
set_option maxRecDepth 100000 in
theorem change_calls {B : Nat} {w : World} {p q : Nat} {S : St} {W : Wl} {F G GL GA : Nat → Prop} (h : Both B w p q S W F G) (hi : SInv S) (hup : W.dead = false → S.down = false ∧ S.loose = []) (hturn : W.turn + 1 ≤ 1099511627776)
    {vl va : Value} {l all : List ByteArray} (hl : StrS w vl l GL) (ha : StrS w va all GA) (hGA : ∀ k, GA k → B ≤ k ∧ ¬ F k ∧ k ≠ q) (hsum : (framedL l).length ≤ 1099511627776) (side at_ : Nat) (hside : side ≤ 1) (hat : at_ ≤ 1099511627776) :
    Calls Try.prog 69 #[.pointer (some ⟨q, 0, none⟩), vl, va, .int .i64 (side : Int), .int .i64 (at_ : Int)] w fun e w' =>
      e = .returned (.int .i64 (chgR S W l all side at_).e) ∧ (∃ F' G', Both B w' p q (chgR S W l all side at_).S (chgR S W l all side at_).W F' G' ∧ (∀ k, F' k → F k ∨ w.heap.size ≤ k) ∧ ∀ k, G' k → G k ∨ GA k) ∧ Strip.Kept (fun k => F k ∨ k = q) w w' := by
  have H := Aside0.mk h
  have HI := Aside0.mk hi
  have HL := Aside0.mk hl
  have HA := Aside0.mk ha
  have HGA := Aside0.mk hGA
  have HR := Aside0.mk (show chgR S W l all side at_ = if W.dead = true then ⟨8, S, W⟩
    else if mayE S l (at_ + (framedB l).size) ≠ 0 then ⟨mayE S l (at_ + (framedB l).size), S, W⟩
    else if (putR S (W.turn + 1) side (at_ + (framedB l).size) at_ (framedB l)).1 ≠ 0 then
      ⟨(putR S (W.turn + 1) side (at_ + (framedB l).size) at_ (framedB l)).1, (putR S (W.turn + 1) side (at_ + (framedB l).size) at_ (framedB l)).2, { W with dead := true }⟩
    else ⟨0, (putR S (W.turn + 1) side (at_ + (framedB l).size) at_ (framedB l)).2, ⟨W.turn + 1, side, at_ + (framedB l).size, all, false⟩⟩ from rfl)
  have HFS := Aside0.mk (framedB_size l)
  have HSU := Aside0.mk hsum
  obtain ⟨A1, c1, rfl, k1, m1⟩ := hl.slice
  obtain ⟨A2, c2, rfl, k2, m2⟩ := ha.slice
  obtain ⟨vr, g1, _⟩ := h.b
  have hx6 : w.cell? ⟨q, 6, none⟩ = some (.bool W.dead) := (blk_cell g1 6).trans rfl
  clear g1
  cases hd : W.dead with
  | true =>
    rw [hd] at hx6 HR
    have HR2 := Aside0.mk (HR.out.trans (if_pos rfl))
    clear h hi hup hl ha hGA hd HR
    go_enter Try.func69, Try.ntmps69
    go_wp2
    go_ret
    rw [HR2.out]
    exact ⟨rfl, ⟨F, G, H.out, fun k hk => .inl hk, fun k hk => .inl hk⟩, Strip.Kept.refl _ _⟩
  | false =>
    rw [hd] at hx6 HR
    have HR2 := Aside0.mk (HR.out.trans (if_neg (by simp)))
    have HUP := Aside0.mk (hup hd)
    have HDD := Aside0.mk hd
    clear h hi hup hl ha hGA hd HR
    generalize hfb : framedB l = fb at HR2 HFS
    have HFB := Aside0.mk hfb
    clear hfb
    have hfs : fb.size ≤ 1099511627776 := by have := HFS.out; have := HSU.out; omega
    obtain ⟨m, hm⟩ : ∃ m, m = mayE S l (at_ + fb.size) := ⟨_, rfl⟩
    have HM := Aside0.mk (show mayE S l (at_ + fb.size) = m from hm.symm)
    rw [← hm] at HR2
    have HMZ := Aside0.mk (show m = 0 → at_ + fb.size ≤ roomN S.safe.length from fun h0 => (mayE_zero (hm.symm.trans h0)).1)
    clear hm
    go_enter Try.func69, Try.ntmps69
    have hcast : (at_ : Int) + (fb.size : Int) = ((at_ + fb.size : Nat) : Int) := by omega
    have HCAST := Aside0.mk hcast
    clear hcast
    go_upto_region 7 with (first | (go_at_call 90; refine Calls.mono (framed_calls HL.out HSU.out) ?_; rw [HFB.out]; rintro e w1 ⟨rfl, hb⟩; have H1 := Aside0.mk (H.out.below hb); have HB1 := Aside0.mk hb; have HL1 := Aside0.mk (HL.out.below hb); clear hb) | (go_at_call 91; rw [HCAST.out]; refine Calls.mono (may_calls H1.out.a H1.out.b.cell0 HL1.out (at_ + fb.size) (by omega)) ?_; rw [HM.out]; rintro e w2 ⟨rfl, hb⟩; have H2 := Aside0.mk (H1.out.below hb); have HB2 := Aside0.mk (below_step HB1.out hb); clear hb) | fail)
    by_cases hm : m = 0
    · subst hm
      have HR3 := Aside0.mk (HR2.out.trans (if_neg (by simp)))
      have HROOM := Aside0.mk (HMZ.out rfl)
      clear HR2 HMZ
      obtain ⟨vr, g1, _⟩ := H2.out.b
      have hx1 : w2.cell? ⟨q, 1, none⟩ = some (.int .i64 (W.turn : Int)) := (blk_cell g1 1).trans rfl
      clear g1 hx6
      have HT1 := Aside0.mk (show (W.turn : Int) + 1 = ((W.turn + 1 : Nat) : Int) by omega)
      go_upto_region 10 with fail
      clear hx1
      rw [HT1.out, HCAST.out]
      have NB := Aside0.mk (blk_new w2 (.cells #[.int .i64 ((W.turn + 1 : Nat) : Int), .int .i64 (side : Int), .int .i64 ((at_ + fb.size : Nat) : Int)] 104))
      have H3 := Aside0.mk (H2.out.below (below_alloc (Below.refl _ _) (.cells #[.int .i64 ((W.turn + 1 : Nat) : Int), .int .i64 (side : Int), .int .i64 ((at_ + fb.size : Nat) : Int)] 104)))
      have HB3 := Aside0.mk (below_alloc HB2.out (.cells #[.int .i64 ((W.turn + 1 : Nat) : Int), .int .i64 (side : Int), .int .i64 ((at_ + fb.size : Nat) : Int)] 104))
      have HNF := Aside0.mk (show ¬ F w2.heap.size ∧ w2.heap.size ≠ q from ⟨fun hf => by have := H2.out.fF _ hf; omega, fun e => by have h1 := H2.out.b; obtain ⟨_, h2, _⟩ := h1; have := blk_lt h2; omega⟩)
      generalize w2.alloc (.cells #[.int .i64 ((W.turn + 1 : Nat) : Int), .int .i64 (side : Int), .int .i64 ((at_ + fb.size : Nat) : Int)] 104) = w3 at NB H3 HB3 ⊢
      generalize w2.heap.size = hb at NB HNF ⊢
      have hb0 : w3.cell? ⟨hb, 0, none⟩ = some (.int .i64 ((W.turn + 1 : Nat) : Int)) := (blk_cell NB.out 0).trans rfl
      have hb1 : w3.cell? ⟨hb, 1, none⟩ = some (.int .i64 (side : Int)) := (blk_cell NB.out 1).trans rfl
      have hb2 : w3.cell? ⟨hb, 2, none⟩ = some (.int .i64 ((at_ + fb.size : Nat) : Int)) := (blk_cell NB.out 2).trans rfl
      obtain ⟨R, hR⟩ : ∃ R, R = putR S (W.turn + 1) side (at_ + fb.size) at_ fb := ⟨_, rfl⟩
      have HRR := Aside0.mk (show putR S (W.turn + 1) side (at_ + fb.size) at_ fb = R from hR.symm)
      rw [← hR] at HR3
      clear hR
      obtain ⟨r1, r2⟩ := R
      dsimp only at HR3
      go_wp2_with fail
      first | rw [HT1.out, HCAST.out] | skip
      refine Calls.mono (put_calls H3.out HI.out HUP.out.1 HUP.out.2 (W.turn + 1) side (at_ + fb.size) at_ hside hturn fb HROOM.out) ?_
      rw [HRR.out]
      dsimp only
      rintro e w4 ⟨rfl, ⟨F4, hb4, hf4⟩, hk4⟩
      have H4 := Aside0.mk hb4
      have HF4 := Aside0.mk hf4
      have HK4 := Aside0.mk hk4
      clear hb4 hf4 hk4 hb0 hb1 hb2
      have HSZ3 := Aside0.mk HB3.out.size
      have HFX := Aside0.mk (show ∀ k, F4 k → F k ∨ w.heap.size ≤ k from fun k hk => (HF4.out k hk).elim .inl (fun h => .inr (by have := HSZ3.out; omega)))
      have HKW := Aside0.mk ((Strip.Kept.of_below (F := fun k => F k ∨ k = q) HB3.out).trans HK4.out (fun k hk => .inl hk))
      by_cases h1 : r1 = 0
      · subst h1
        have HR4 := Aside0.mk (HR3.out.trans (if_neg (by simp)))
        clear HR3
        have NB4 := Aside0.mk ((HK4.out.block hb (blk_lt NB.out) (fun h => h.elim HNF.out.1 HNF.out.2)).trans NB.out)
        have hb0 : w4.cell? ⟨hb, 0, none⟩ = some (.int .i64 ((W.turn + 1 : Nat) : Int)) := (blk_cell NB4.out 0).trans rfl
        have hb1 : w4.cell? ⟨hb, 1, none⟩ = some (.int .i64 (side : Int)) := (blk_cell NB4.out 1).trans rfl
        have hb2 : w4.cell? ⟨hb, 2, none⟩ = some (.int .i64 ((at_ + fb.size : Nat) : Int)) := (blk_cell NB4.out 2).trans rfl
        obtain ⟨vr4, g4, _⟩ := H4.out.b
        have GQ := Aside0.mk g4
        clear g4
        have k1 : w4.cell? ⟨q, 1, none⟩ = some (.int .i64 (W.turn : Int)) := (blk_cell GQ.out 1).trans rfl
        have k2 : w4.cell? ⟨q, 2, none⟩ = some (.int .i64 (W.side : Int)) := (blk_cell GQ.out 2).trans rfl
        have k3 : w4.cell? ⟨q, 3, none⟩ = some (.int .i64 (W.size : Int)) := (blk_cell GQ.out 3).trans rfl
        have f1 := blk_frozen GQ.out 1
        have f2 := blk_frozen GQ.out 2
        have f3 := blk_frozen GQ.out 3
        have e1 := blk_set GQ.out 1 (.int .i64 ((W.turn : Int) + 1))
        have e2 := blk_set e1 2 (.int .i64 (side : Int))
        have e3 := blk_set e2 3 (.int .i64 ((at_ : Int) + (fb.size : Int)))
        have k5 : (((w4.setCell ⟨q, 1, none⟩ (.int .i64 ((W.turn : Int) + 1))).setCell ⟨q, 2, none⟩ (.int .i64 (side : Int))).setCell ⟨q, 3, none⟩ (.int .i64 ((at_ : Int) + (fb.size : Int)))).cell? ⟨q, 5, none⟩ = some vr4 := (blk_cell e3 5).trans rfl
        have f5 := blk_frozen e3 5
        have e5 := blk_set e3 5 (.slice A2 all.length c2)
        have EQ := Aside0.mk (show ((((w4.setCell ⟨q, 1, none⟩ (.int .i64 ((W.turn : Int) + 1))).setCell ⟨q, 2, none⟩ (.int .i64 (side : Int))).setCell ⟨q, 3, none⟩ (.int .i64 ((at_ : Int) + (fb.size : Int)))).setCell ⟨q, 5, none⟩ (.slice A2 all.length c2)).heap[q]? = some (.cells #[.pointer (some ⟨p, 0, none⟩), .int .i64 ((W.turn : Int) + 1), .int .i64 (side : Int), .int .i64 ((at_ : Int) + (fb.size : Int)), .int .i64 (W.size : Int), .slice A2 all.length c2, .bool false] 106 (0, 0)) from e5)
        clear e1 e2 e3 e5
        have hne : hb ≠ q := HNF.out.2
        have NB5 := Aside0.mk (show ((((w4.setCell ⟨q, 1, none⟩ (.int .i64 ((W.turn : Int) + 1))).setCell ⟨q, 2, none⟩ (.int .i64 (side : Int))).setCell ⟨q, 3, none⟩ (.int .i64 ((at_ : Int) + (fb.size : Int)))).setCell ⟨q, 5, none⟩ (.slice A2 all.length c2)).heap[hb]? = _ from blk_far (p := ⟨q, 5, none⟩) (blk_far (p := ⟨q, 3, none⟩) (blk_far (p := ⟨q, 2, none⟩) (blk_far (p := ⟨q, 1, none⟩) NB4.out hne _) hne _) hne _) hne _)
        have KQ := Aside0.mk (show Strip.Kept (fun k => k = q) w4 ((((w4.setCell ⟨q, 1, none⟩ (.int .i64 ((W.turn : Int) + 1))).setCell ⟨q, 2, none⟩ (.int .i64 (side : Int))).setCell ⟨q, 3, none⟩ (.int .i64 ((at_ : Int) + (fb.size : Int)))).setCell ⟨q, 5, none⟩ (.slice A2 all.length c2)) from ((((Strip.Kept.refl (fun k => k = q) w4).set (g := q) _ (.inl rfl)).set (g := q) _ (.inl rfl)).set (g := q) _ (.inl rfl)).set (g := q) _ (.inl rfl))
        go_upto_region 14 with fail
        clear k1 k2 k3 k5 f1 f2 f3 f5 hb0 hb1 hb2 hne
        generalize ((((w4.setCell ⟨q, 1, none⟩ (.int .i64 ((W.turn : Int) + 1))).setCell ⟨q, 2, none⟩ (.int .i64 (side : Int))).setCell ⟨q, 3, none⟩ (.int .i64 ((at_ : Int) + (fb.size : Int)))).setCell ⟨q, 5, none⟩ (.slice A2 all.length c2)) = w5 at EQ NB5 KQ ⊢
        have HC2 := Aside0.mk (show w5.cell? ⟨hb, 2, none⟩ = some (.int .i64 ((at_ : Int) + (fb.size : Int))) from (blk_cell NB5.out 2).trans rfl)
        have HC3 := Aside0.mk (show (w5.setCell ⟨q, 4, none⟩ (.int .i64 ((at_ : Int) + (fb.size : Int)))).cell? ⟨hb, 2, none⟩ = some (.int .i64 ((at_ : Int) + (fb.size : Int))) from (blk_cell (blk_far (p := ⟨q, 4, none⟩) NB5.out HNF.out.2 _) 2).trans rfl)
        go_region_held3 (fun w' => w'.cell? ⟨hb, 2, none⟩ = some (.int .i64 ((at_ : Int) + (fb.size : Int)))) (first | exact HC2.out | exact HC3.out) (first | (go_at_call 68; refine Calls.mono (store_calls q 4 (W.size : Int) _ _ ?a1 ?a2) ?_; (case a1 => exact (blk_cell (blk_drew EQ.out) 4).trans rfl); (case a2 => exact blk_frozen (blk_drew EQ.out) 4); rintro e wn ⟨rfl, rfl⟩))
        have EF := Aside0.mk (show (w5.setCell ⟨q, 4, none⟩ (.int .i64 ((at_ : Int) + (fb.size : Int)))).heap[q]? = some (.cells #[.pointer (some ⟨p, 0, none⟩), .int .i64 ((W.turn : Int) + 1), .int .i64 (side : Int), .int .i64 ((at_ : Int) + (fb.size : Int)), .int .i64 ((at_ : Int) + (fb.size : Int)), .slice A2 all.length c2, .bool false] 106 (0, 0)) from blk_set EQ.out 4 _)
        have KF := Aside0.mk (show Strip.Kept (fun k => k = q) w4 (w5.setCell ⟨q, 4, none⟩ (.int .i64 ((at_ : Int) + (fb.size : Int)))) from KQ.out.set (g := q) _ (.inl rfl))
        have HAK := Aside0.mk ((HA.out.mono (G' := fun k => GA k ∧ k < w.heap.size) (fun k h1 h2 => ⟨h2, h1⟩)).keep HKW.out (fun k hg hf => hf.elim (HGA.out k hg.1).2.1 (HGA.out k hg.1).2.2))
        have KFD := Aside0.mk (show Strip.Kept (fun k => k = q) w4 (w5.setCell ⟨q, 4, none⟩ (.int .i64 ((at_ : Int) + (fb.size : Int)))).drew from ⟨KF.out.os, KF.out.tape, KF.out.output, KF.out.size, KF.out.block⟩)
        have HFIN := Aside0.mk (Both.renew (w5 := (w5.setCell ⟨q, 4, none⟩ (.int .i64 ((at_ : Int) + (fb.size : Int)))).drew) (W' := ⟨W.turn + 1, side, at_ + fb.size, all, false⟩) H4.out HAK.out (fun k hg => ⟨(HGA.out k hg.1).1, fun hf => (HFX.out k hf).elim (HGA.out k hg.1).2.1 (fun h => by have := hg.2; omega), (HGA.out k hg.1).2.2⟩) KFD.out EF.out)
        clear HAK EF KF
        go_wp2
        go_ret
        rw [HR4.out]
        obtain ⟨G', hG', hG2⟩ := HFIN.out
        exact ⟨rfl, ⟨F4, G', hG', HFX.out, fun k hk => (hG2 k hk).imp id (fun h => h.1)⟩, HKW.out.trans KFD.out (fun k hk => .inl (.inr hk))⟩
      · have HR4 := Aside0.mk (HR3.out.trans (if_pos h1))
        have hbm : (r1 != 0) = true := by rw [bne_iff_ne]; exact h1
        clear HR3
        have HZ := Aside0.mk H4.out
        rw [hbm] at HZ
        go_wp2
        go_ret
        rw [HR4.out]
        exact ⟨rfl, ⟨F4, G, HZ.out, HFX.out, fun k hk => .inl hk⟩, HKW.out⟩
    · have HR3 := Aside0.mk (HR2.out.trans (if_pos hm))
      have hbm : (m != 0) = true := by rw [bne_iff_ne]; exact hm
      clear HR2
      go_wp2
      go_ret
      rw [HR3.out]
      exact ⟨rfl, ⟨F, G, H2.out, fun k hk => .inl hk, fun k hk => .inl hk⟩, Strip.Kept.of_below HB2.out⟩
end

/-! ## The log's Append, Checkpoint, Records. No condition but on how many bytes. -/
section
open Go.RowKit Go.Proofs.YtmgkflkpompchaaW.PrintWords Go.Proofs.YtmgkflkpompchaaW.PrintLast Go.Proofs.YtmgkflkpompchaaW.PrintMore Go.Proofs.Ytmgkflkpompchaa.Strip
set_option linter.unusedVariables false
set_option linter.unusedSimpArgs false

set_option maxHeartbeats 400000 in
set_option maxRecDepth 100000 in
theorem records_nil (w : World) : Calls Try.prog 37 #[.pointer none] w fun e w' => e = .returned (.slice none 0 0) ∧ w = w' := by
  go_enter Try.func37, Try.ntmps37
  go_wp2
  go_ret
  exact ⟨rfl, rfl⟩
set_option maxHeartbeats 400000 in
set_option maxRecDepth 100000 in
theorem append_nil (v : Value) (w : World) : Calls Try.prog 35 #[.pointer none, v] w fun e w' => e = .returned (.int .i64 2) ∧ w = w' := by
  go_enter Try.func35, Try.ntmps35
  go_wp2
  go_ret
  exact ⟨rfl, rfl⟩
set_option maxHeartbeats 400000 in
set_option maxRecDepth 100000 in
theorem checkpoint_nil (v : Value) (w : World) : Calls Try.prog 38 #[.pointer none, v] w fun e w' => e = .returned (.int .i64 2) ∧ w = w' := by
  go_enter Try.func38, Try.ntmps38
  go_wp2
  go_ret
  exact ⟨rfl, rfl⟩
set_option maxHeartbeats 400000 in
set_option maxRecDepth 100000 in
theorem records_calls {B : Nat} {w : World} {p q : Nat} {W : Wl} {G : Nat → Prop} (h : IsWal B w q p W G) (hl : W.l.length ≤ 1099511627776) :
    Calls Try.prog 37 #[.pointer (some ⟨q, 0, none⟩)] w fun e w' => ∃ v, e = .returned v ∧ w'.ownsRow w.heap.size 9 1 v W.l.length (encs Value.string W.l) ∧ Below w.heap.size w w' := by
  obtain ⟨vl, h1, h2, h3, h4⟩ := h
  have HC := Aside0.mk (clone_calls h2 hl)
  obtain ⟨A, c, rfl, _, _⟩ := h2.slice
  have hc5 : w.cell? ⟨q, 5, none⟩ = some (.slice A W.l.length c) := (blk_cell h1 5).trans rfl
  clear h1 h2 h3 h4
  go_enter Try.func37, Try.ntmps37
  go_wp2_with fail
  refine Calls.mono HC.out ?_
  rintro e w1 ⟨v, rfl, ho, hb⟩
  have HO := Aside0.mk ho
  have HB := Aside0.mk hb
  clear ho hb hc5
  go_wp2
  go_ret
  exact ⟨v, rfl, HO.out, HB.out⟩
/-- What a call of the log's leaves. -/
def After (B : Nat) (w w' : World) (p q : Nat) (F G : Nat → Prop) (R : Res) : Prop := (∃ F' G', Both B w' p q R.S R.W F' G' ∧ (∀ k, F' k → F k ∨ w.heap.size ≤ k) ∧ ∀ k, G' k → G k ∨ w.heap.size ≤ k) ∧ Strip.Kept (fun k => F k ∨ k = q) w w'
theorem After.earlier {B N : Nat} {w w1 w2 : World} {p q : Nat} {F G : Nat → Prop} {R : Res} (hb : Below w.heap.size w w1) (hN : w.heap.size ≤ N)
    (h : (∃ F' G', Both B w2 p q R.S R.W F' G' ∧ (∀ k, F' k → F k ∨ w1.heap.size ≤ k) ∧ ∀ k, G' k → G k ∨ N ≤ k) ∧ Strip.Kept (fun k => F k ∨ k = q) w1 w2) : After B w w2 p q F G R := by
  obtain ⟨⟨F', G', h1, h2, h4⟩, h3⟩ := h
  exact ⟨⟨F', G', h1, fun k hk => (h2 k hk).elim .inl (fun h => .inr (Nat.le_trans hb.size h)), fun k hk => (h4 k hk).elim .inl (fun h => .inr (Nat.le_trans hN h))⟩, (Strip.Kept.of_below (F := fun k => F k ∨ k = q) hb).trans h3 (fun k hk => .inl hk)⟩

theorem fresh_ok {B : Nat} {w : World} {p q : Nat} {S : St} {W : Wl} {F G : Nat → Prop} (h : Both B w p q S W F G) {N : Nat} (hN : w.heap.size ≤ N) : ∀ k, N ≤ k → B ≤ k ∧ ¬ F k ∧ k ≠ q := by
  intro k hk
  have hb := h.base
  refine ⟨by omega, fun hf => by have := h.fF k hf; omega, fun e => ?_⟩
  obtain ⟨vl, h1, _⟩ := h.b
  have := blk_lt h1
  omega
end

/-! ## The log's Append. No condition but on how many bytes. -/
section
open Go.RowKit Go.Proofs.YtmgkflkpompchaaW.PrintWords Go.Proofs.YtmgkflkpompchaaW.PrintLast Go.Proofs.YtmgkflkpompchaaW.PrintMore Go.Proofs.Ytmgkflkpompchaa.Strip
set_option linter.unusedVariables false
set_option linter.unusedSimpArgs false

set_option maxHeartbeats 3200000 in
set_option maxRecDepth 100000 in
theorem append_calls {B : Nat} {w : World} {p q : Nat} {S : St} {W : Wl} {F G GL : Nat → Prop} (h : Both B w p q S W F G) (hi : SInv S) (hup : W.dead = false → S.down = false ∧ S.loose = []) (hturn : W.turn + 1 ≤ 1099511627776) (hside : W.side ≤ 1) (hsize : W.size ≤ 1099511627776)
    {vl : Value} {l : List ByteArray} (hl : StrS w vl l GL) (hsum : (framedL l).length ≤ 1099511627776) (hlen : W.l.length + l.length ≤ 1099511627776) :
    Calls Try.prog 35 #[.pointer (some ⟨q, 0, none⟩), vl] w fun e w' => e = .returned (.int .i64 (chgR S W l (W.l ++ l) W.side W.size).e) ∧ After B w w' p q F G (chgR S W l (W.l ++ l) W.side W.size) := by
  have H := Aside0.mk h
  have HI := Aside0.mk hi
  have HUP := Aside0.mk hup
  have HL := Aside0.mk hl
  have HLE := Aside0.mk hlen
  have HSU := Aside0.mk hsum
  obtain ⟨vr, g1, g2, _⟩ := h.b
  obtain ⟨A1, c1, rfl, k1, m1⟩ := hl.slice
  obtain ⟨A2, c2, rfl, k2, m2⟩ := g2.slice
  have HW := Aside0.mk g2
  have hc5 : w.cell? ⟨q, 5, none⟩ = some (.slice A2 W.l.length c2) := (blk_cell g1 5).trans rfl
  have hc2 : w.cell? ⟨q, 2, none⟩ = some (.int .i64 (W.side : Int)) := (blk_cell g1 2).trans rfl
  have GQ := Aside0.mk g1
  clear h hi hup hl hlen hsum g1 g2
  go_enter Try.func35, Try.ntmps35
  go_upto_region 3 with fail
  have HC := Aside0.mk (And.intro hc5 hc2)
  have HBA := Aside0.mk (show Below w.heap.size w (w.alloc (.cells #[.slice A2 W.l.length c2, .slice A1 l.length c1] 48)).drew from below_drew (below_alloc (Below.refl _ _) _))
  have hcA : (w.alloc (.cells #[.slice A2 W.l.length c2, .slice A1 l.length c1] 48)).cell? ⟨q, 2, none⟩ = some (.int .i64 (W.side : Int)) := pw_cell_below (below_alloc (Below.refl _ _) _) HC.out.2
  go_region_with (first | (go_at_call 70; refine Calls.mono (concat_calls (blk_drew (blk_new w _)) (HW.out.below HBA.out) (HL.out.below HBA.out) HLE.out) ?_; rintro e w7 ⟨v, rfl, ho, hb⟩; have HB7 := Aside0.mk (below_step HBA.out hb); have hc7 := pw_cell_below HB7.out HC.out.2; have hs := StrS.of_own ho; obtain ⟨A3, c3, rfl⟩ := own_slice ho; rw [List.length_append] at hs ⊢; have HS7 := Aside0.mk hs; clear ho hb hs) | (go_at_call 71; refine Calls.mono (load_calls q 4 (W.size : Int) _ (pw_cell_below HB7.out ((blk_cell GQ.out 4).trans rfl))) ?_; rintro e w8 ⟨rfl, h8⟩; subst h8) | (go_at_call 69; refine Calls.mono (change_calls (H.out.below HB7.out) HI.out HUP.out hturn (HL.out.below HB7.out) HS7.out (fresh_ok H.out HBA.out.size) HSU.out W.side W.size hside hsize) ?_; rintro e w9 ⟨rfl, hx⟩; have HX := Aside0.mk (After.earlier (R := chgR S W l (W.l ++ l) W.side W.size) HB7.out HBA.out.size hx); clear hx))
  all_goals (go_wp2; go_ret; exact ⟨rfl, HX.out⟩)
end

/-! ## The log's Checkpoint. No condition but on how many bytes. -/
section
open Go.RowKit Go.Proofs.YtmgkflkpompchaaW.PrintWords Go.Proofs.YtmgkflkpompchaaW.PrintLast Go.Proofs.YtmgkflkpompchaaW.PrintMore Go.Proofs.Ytmgkflkpompchaa.Strip
set_option linter.unusedVariables false
set_option linter.unusedSimpArgs false

set_option maxHeartbeats 3200000 in
set_option maxRecDepth 100000 in
theorem checkpoint_calls {B : Nat} {w : World} {p q : Nat} {S : St} {W : Wl} {F G GL : Nat → Prop} (h : Both B w p q S W F G) (hi : SInv S) (hup : W.dead = false → S.down = false ∧ S.loose = []) (hturn : W.turn + 1 ≤ 1099511627776) (hside : W.side ≤ 1)
    {vl : Value} {l : List ByteArray} (hl : StrS w vl l GL) (hsum : (framedL l).length ≤ 1099511627776) (hlen : l.length ≤ 1099511627776) :
    Calls Try.prog 38 #[.pointer (some ⟨q, 0, none⟩), vl] w fun e w' => e = .returned (.int .i64 (chgR S W l l ((W.side + 1) % 2) 0).e) ∧ After B w w' p q F G (chgR S W l l ((W.side + 1) % 2) 0) := by
  have H := Aside0.mk h
  have HI := Aside0.mk hi
  have HUP := Aside0.mk hup
  have HL := Aside0.mk hl
  have HLE := Aside0.mk hlen
  have HSU := Aside0.mk hsum
  have HSD := Aside0.mk (show ((W.side : Int) + 1) % 2 = (((W.side + 1) % 2 : Nat) : Int) ∧ ((W.side : Int) + 1).tmod 2 = (((W.side + 1) % 2 : Nat) : Int) by
    refine ⟨by omega, ?_⟩
    rw [Int.tmod_eq_emod_of_nonneg (by omega)]; omega)
  have HS1 := Aside0.mk (show (W.side + 1) % 2 ≤ 1 by omega)
  obtain ⟨vr, g1, g2, _⟩ := h.b
  obtain ⟨A1, c1, rfl, k1, m1⟩ := hl.slice
  have hc2 : w.cell? ⟨q, 2, none⟩ = some (.int .i64 (W.side : Int)) := (blk_cell g1 2).trans rfl
  clear h hi hup hl hlen hsum g1 g2
  go_enter Try.func38, Try.ntmps38
  go_upto_region 3 with fail
  have HC := Aside0.mk hc2
  have HBA := Aside0.mk (show Below w.heap.size w w.drew from below_drew (Below.refl _ _))
  have hw1 : IntKind.i64.wrap ((W.side : Int) + 1) = (W.side : Int) + 1 := by rw [i64_w]; unfold wrap64; omega
  go_region_with (first | (go_at_call 72; refine Calls.mono (clone_calls (HL.out.below HBA.out) HLE.out) ?_; rintro e w7 ⟨v, rfl, ho, hb⟩; have HB7 := Aside0.mk (below_step HBA.out hb); have hc7 := pw_cell_below HB7.out HC.out; have hs := StrS.of_own ho; obtain ⟨A3, c3, rfl⟩ := own_slice ho; have HS7 := Aside0.mk hs; clear ho hb hs) | (go_at_call 69; (first | rw [HSD.out.1] | rw [HSD.out.2]); refine Calls.mono (change_calls (H.out.below HB7.out) HI.out HUP.out hturn (HL.out.below HB7.out) HS7.out (fresh_ok H.out HBA.out.size) HSU.out ((W.side + 1) % 2) 0 HS1.out (by omega)) ?_; rintro e w9 ⟨rfl, hx⟩; have HX := Aside0.mk (After.earlier (R := chgR S W l l ((W.side + 1) % 2) 0) HB7.out HBA.out.size hx); clear hx))
  all_goals (go_wp2; go_ret; exact ⟨rfl, HX.out⟩)
end

/-! ## The log's Open. No condition but that the strip is up, and its highest head in order. -/
section
open Go.RowKit Go.Proofs.YtmgkflkpompchaaW.PrintWords Go.Proofs.YtmgkflkpompchaaW.PrintLast Go.Proofs.YtmgkflkpompchaaW.PrintMore Go.Proofs.Ytmgkflkpompchaa.Strip
set_option linter.unusedVariables false
set_option linter.unusedSimpArgs false

/-- The head of the highest turn so far. -/
def hdStep (c : Int × Int × Int) (b : ByteArray) : Int × Int × Int := if rhB b = true ∧ c.1 < rhT b then (rhT b, rhS b, rhZ b) else c
def hdS (l : List ByteArray) : Int × Int × Int := l.foldl hdStep (0, 0, 0)
theorem hdS_step (l : List ByteArray) (i : Nat) (h : i < l.length) : hdS (l.take (i + 1)) = hdStep (hdS (l.take i)) l[i] := by
  unfold hdS; rw [List.take_add_one, List.getElem?_eq_getElem h, List.foldl_append]; rfl
def HdAt (w : World) (q p : Nat) (c : Int × Int × Int) : Prop := w.heap[q]? = some (.cells #[.pointer (some ⟨p, 0, none⟩), .int .i64 c.1, .int .i64 c.2.1, .int .i64 c.2.2, .int .i64 0, .slice none 0 0, .bool false] 106 (0, 0))

set_option maxHeartbeats 3200000 in
set_option maxRecDepth 100000 in
theorem open_calls {B : Nat} {w : World} {p : Nat} {S : St} {F : Nat → Prop} (h : IsStrip B w p S F) (hF : ∀ k, F k → k < w.heap.size) (hi : SInv S) (hd : S.down = false) (hlo : S.loose = []) (turn side size : Nat) (hhd : hdS (S.safe.take 2) = ((turn : Int), (side : Int), (size : Int))) (hside : side ≤ 1)
    (hsize : size ≤ roomN S.safe.length) (l : List ByteArray) (hb : bytesB S.safe (firstN S.safe.length side) size = framedB l) (hsum : (framedL l).length ≤ 1099511627776) (hsz : ∀ b ∈ l, b.size < 4294967296) :
    Calls Try.prog 32 #[.pointer (some ⟨p, 0, none⟩)] w fun e w' => ∃ q, e = .returned (.tuple #[.pointer (some ⟨q, 0, none⟩), .int .i64 0]) ∧ (∃ G, Both B w' p q S ⟨turn, side, size, l, false⟩ F G ∧ ∀ k, G k → w.heap.size ≤ k) ∧ w.heap.size ≤ q ∧ Below w.heap.size w w' := by
  have H := Aside0.mk h
  have HF := Aside0.mk hF
  have HHD := Aside0.mk hhd
  have hl := hi.len
  have HAT := Aside0.mk (show ∀ i : Nat, i < S.safe.length → atE S (i : Int) = 0 ∧ rdS S (i : Int) = S.safe.getD i ⟨#[]⟩ from fun i hi => by
    have ha : atE S (i : Int) = 0 := by unfold atE; rw [if_neg (by rw [hd]; simp), if_neg (by omega)]
    refine ⟨ha, ?_⟩
    unfold rdS; rw [if_pos ha, hlo]; rfl)
  have HA0 := Aside0.mk (show atE S 0 = 0 ∨ atE S 0 = 1 from by
    unfold atE; rw [if_neg (by rw [hd]; simp)]; split
    · exact .inr rfl
    · exact .inl rfl)
  have HSZ := Aside0.mk hi.ssz
  have HBY := Aside0.mk (fun (w1 : World) (q : Nat) (hb1 : Below w.heap.size w w1) (hq : w1.cell? ⟨q, 0, none⟩ = some (.pointer (some ⟨p, 0, none⟩))) => bytes_calls (h.below hb1) hq side hside hd hlo hi.ssz size hsize)
  rw [hb] at HBY
  have HUF := Aside0.mk (unframed_calls l hsum hsz)
  have hBw : B ≤ w.heap.size := Nat.le_trans (h.ge _ h.own) (Nat.le_of_lt h.lt)
  clear h hF hi hd hlo hhd hb hsum hsz
  go_enter Try.func32, Try.ntmps32
  go_upto_region 2 with fail
  have N0 : Aside0 (HdAt (w.alloc (.cells #[.pointer (some ⟨p, 0, none⟩), .int .i64 0, .int .i64 0, .int .i64 0, .int .i64 0, .slice none 0 0, .bool false] 106)) w.heap.size p (hdS (S.safe.take 0))) := ⟨blk_new w _⟩
  have HB := Aside0.mk (below_alloc (Below.refl _ _) (.cells #[.pointer (some ⟨p, 0, none⟩), .int .i64 0, .int .i64 0, .int .i64 0, .int .i64 0, .slice none 0 0, .bool false] 106) : Below w.heap.size w _)
  generalize w.alloc (.cells #[.pointer (some ⟨p, 0, none⟩), .int .i64 0, .int .i64 0, .int .i64 0, .int .i64 0, .slice none 0 0, .bool false] 106) = w1 at N0 HB ⊢
  generalize hq : w.heap.size = q at N0 ⊢
  have HQL := Aside0.mk (Nat.le_of_eq hq : w.heap.size ≤ q)
  clear hq
  have hmin : min (2 : Int) (S.safe.length : Int) = ((min 2 S.safe.length : Nat) : Int) := by omega
  have hm2 : min 2 S.safe.length ≤ 2 := by omega
  have hmN : min 2 S.safe.length ≤ S.safe.length := by omega
  rcases HA0.out with h0 | h0
  · have HAA := Aside0.mk h0
    clear h0 HA0
    go_upto_region 5 with (first | (go_at_call 45; refine Calls.mono (read_calls (H.out.below HB.out) 0) ?_; rw [HAA.out]; rintro e w2 ⟨rfl, hb⟩; have n1 := Aside0.mk (show HdAt _ q p _ from blk_below N0.out hb); have n2 := Aside0.mk (below_step HB.out hb); clear N0 HB hb; have N0 := n1; have HB := n2; clear n1 n2) | fail)
    go_upto_region 6 with (first | (go_at_call 42; refine Calls.mono (size_calls (H.out.below HB.out)) ?_; rintro e w3 ⟨rfl, rfl⟩) | fail)
    go_loopw [32] (fun v32 w' => ∃ i : Nat, i ≤ min 2 S.safe.length ∧ v32 = .int .i64 i ∧ Aside0 (HdAt w' q p (hdS (S.safe.take i))) ∧ Aside0 (Below w.heap.size w w')) (fun v32 _ => min 2 S.safe.length - (intOf v32).toNat)
    case atStart => exact ⟨0, Nat.zero_le _, rfl, N0, HB⟩
    case round =>
      clear N0 HB
      obtain ⟨i, hi, rfl, N0, HB⟩ := hrel
      by_cases hlt : i < min 2 S.safe.length
      · have hin : i < S.safe.length := by omega
        have HST := Aside0.mk (hdS_step S.safe i hin)
        have HAI := Aside0.mk (HAT.out i hin)
        have HBS := Aside0.mk (HSZ.out _ (List.getElem_mem hin))
        rw [show S.safe.getD i ⟨#[]⟩ = S.safe[i] by rw [List.getD_eq_getElem?_getD, List.getElem?_eq_getElem hin]; rfl] at HAI
        generalize S.safe[i] = bk at HST HAI HBS
        generalize hdS (S.safe.take i) = cur at HST N0
        obtain ⟨ct, cs, cz⟩ := cur
        have hlti : (i : Int) < ((min 2 S.safe.length : Nat) : Int) := by omega
        go_upto_region 12 with (first | (go_at_call 45; refine Calls.mono (read_calls (H.out.below HB.out) _) ?_; rw [HAI.out.1, HAI.out.2]; rintro e w4 ⟨rfl, hb⟩; have n1 := Aside0.mk (show HdAt _ q p _ from blk_below N0.out hb); have n2 := Aside0.mk (below_step HB.out hb); clear N0 HB hb; have N0 := n1; have HB := n2; clear n1 n2) | (go_at_call 65; refine Calls.mono (readHead_calls bk HBS.out _) ?_; rintro e w5 ⟨rfl, hb⟩; have n1 := Aside0.mk (show HdAt _ q p _ from blk_below N0.out hb); have n2 := Aside0.mk (below_step HB.out hb); clear N0 HB hb; have N0 := n1; have HB := n2; clear n1 n2) | fail)
        have NB := Aside0.mk (blk_new w5 (.cells #[.int .i64 (rhT bk), .int .i64 (rhS bk), .int .i64 (rhZ bk)] 104))
        have N6 := Aside0.mk (show HdAt _ q p (ct, cs, cz) from blk_alloc N0.out (.cells #[.int .i64 (rhT bk), .int .i64 (rhS bk), .int .i64 (rhZ bk)] 104))
        have HB6 := Aside0.mk (below_alloc HB.out (.cells #[.int .i64 (rhT bk), .int .i64 (rhS bk), .int .i64 (rhZ bk)] 104))
        clear N0 HB
        generalize w5.alloc (.cells #[.int .i64 (rhT bk), .int .i64 (rhS bk), .int .i64 (rhZ bk)] 104) = w6 at NB N6 HB6 ⊢
        generalize w5.heap.size = gb at NB ⊢
        have c0 : w6.cell? ⟨gb, 0, none⟩ = some (.int .i64 (rhT bk)) := (blk_cell NB.out 0).trans rfl
        have c1 : w6.cell? ⟨gb, 1, none⟩ = some (.int .i64 (rhS bk)) := (blk_cell NB.out 1).trans rfl
        have c2 : w6.cell? ⟨gb, 2, none⟩ = some (.int .i64 (rhZ bk)) := (blk_cell NB.out 2).trans rfl
        have k1 : w6.cell? ⟨q, 1, none⟩ = some (.int .i64 ct) := (blk_cell N6.out 1).trans rfl
        have k2 : w6.cell? ⟨q, 2, none⟩ = some (.int .i64 cs) := (blk_cell N6.out 2).trans rfl
        have k3 : w6.cell? ⟨q, 3, none⟩ = some (.int .i64 cz) := (blk_cell N6.out 3).trans rfl
        have f1 := blk_frozen N6.out 1
        have f2 := blk_frozen N6.out 2
        have f3 := blk_frozen N6.out 3
        have HS := Aside0.mk (show hdS (S.safe.take (i + 1)) = if rhB bk = true ∧ ct < rhT bk then (rhT bk, rhS bk, rhZ bk) else (ct, cs, cz) from HST.out)
        clear HST
        generalize rhB bk = ok at HS ⊢
        generalize rhT bk = bt at HS c0 NB ⊢
        generalize rhS bk = bs at HS c1 NB ⊢
        generalize rhZ bk = bz at HS c2 NB ⊢
        cases ok with
        | false =>
          have HS2 := Aside0.mk (HS.out.trans (if_neg (by simp)))
          go_quiet (fail)
          have N7 := Aside0.mk (show HdAt (w6.drewN nq) q p (hdS (S.safe.take (i + 1))) from by rw [HS2.out]; exact N6.out)
          have HB7 := Aside0.mk (pw_below_drewN HB6.out nq)
          clear c0 c1 c2 k1 k2 k3 f1 f2 f3
          go_wp2
          go_roundw
          case measure => simp [intOf]; omega
          case rel => exact ⟨i + 1, by omega, by go_num, N7, HB7⟩
        | true =>
          by_cases ht : ct < bt
          · have HS2 := Aside0.mk (HS.out.trans (if_pos ⟨rfl, ht⟩))
            go_quiet (fail)
            have NB7 := Aside0.mk (show (w6.drewN nq).heap[gb]? = some (.cells #[.int .i64 bt, .int .i64 bs, .int .i64 bz] 104 (0, 0)) from NB.out)
            have N7 := Aside0.mk (show HdAt (w6.drewN nq) q p (ct, cs, cz) from N6.out)
            have HB7 := Aside0.mk (pw_below_drewN HB6.out nq)
            clear c0 c1 c2 k1 k2 k3 f1 f2 f3 NB N6 HB6
            generalize w6.drewN nq = w7 at NB7 N7 HB7 ⊢
            have c0 : w7.cell? ⟨gb, 0, none⟩ = some (.int .i64 bt) := (blk_cell NB7.out 0).trans rfl
            have c1 : w7.cell? ⟨gb, 1, none⟩ = some (.int .i64 bs) := (blk_cell NB7.out 1).trans rfl
            have c2 : w7.cell? ⟨gb, 2, none⟩ = some (.int .i64 bz) := (blk_cell NB7.out 2).trans rfl
            have k1 : w7.cell? ⟨q, 1, none⟩ = some (.int .i64 ct) := (blk_cell N7.out 1).trans rfl
            have k2 : w7.cell? ⟨q, 2, none⟩ = some (.int .i64 cs) := (blk_cell N7.out 2).trans rfl
            have k3 : w7.cell? ⟨q, 3, none⟩ = some (.int .i64 cz) := (blk_cell N7.out 3).trans rfl
            have f1 := blk_frozen N7.out 1
            have f2 := blk_frozen N7.out 2
            have f3 := blk_frozen N7.out 3
            have N8 := Aside0.mk (show HdAt (((w7.setCell ⟨q, 1, none⟩ (.int .i64 bt)).setCell ⟨q, 2, none⟩ (.int .i64 bs)).setCell ⟨q, 3, none⟩ (.int .i64 bz)) q p (hdS (S.safe.take (i + 1))) from by rw [HS2.out]; exact blk_set (blk_set (blk_set N7.out 1 _) 2 _) 3 _)
            have HB8 := Aside0.mk (show Below w.heap.size w (((w7.setCell ⟨q, 1, none⟩ (.int .i64 bt)).setCell ⟨q, 2, none⟩ (.int .i64 bs)).setCell ⟨q, 3, none⟩ (.int .i64 bz)) from below_set (below_set (below_set HB7.out (HQL.out)) (HQL.out)) (HQL.out))
            go_wp2
            go_roundw
            case measure => simp [intOf]; omega
            case rel => exact ⟨i + 1, by omega, by go_num, N8, HB8⟩
          · have HS2 := Aside0.mk (HS.out.trans (if_neg (fun h => ht h.2)))
            go_quiet (fail)
            have N7 := Aside0.mk (show HdAt (w6.drewN nq) q p (hdS (S.safe.take (i + 1))) from by rw [HS2.out]; exact N6.out)
            have HB7 := Aside0.mk (pw_below_drewN HB6.out nq)
            clear c0 c1 c2 k1 k2 k3 f1 f2 f3
            go_wp2
            go_roundw
            case measure => simp [intOf]; omega
            case rel => exact ⟨i + 1, by omega, by go_num, N7, HB7⟩
      · have hlti : ¬ (i : Int) < ((min 2 S.safe.length : Nat) : Int) := by omega
        have HE := Aside0.mk (show S.safe.take i = S.safe.take 2 by
          rcases Nat.lt_or_ge S.safe.length 2 with h | h
          · rw [List.take_of_length_le (by omega), List.take_of_length_le (by omega)]
          · rw [show i = 2 by omega])
        rw [HE.out, HHD.out] at N0
        have N1 := Aside0.mk (show wr.heap[q]? = some (.cells #[.pointer (some ⟨p, 0, none⟩), .int .i64 (turn : Int), .int .i64 (side : Int), .int .i64 (size : Int), .int .i64 0, .slice none 0 0, .bool false] 106 (0, 0)) from N0.out)
        clear N0 HE
        have hx0 : wr.cell? ⟨q, 0, none⟩ = some (.pointer (some ⟨p, 0, none⟩)) := (blk_cell N1.out 0).trans rfl
        have hx2 : wr.cell? ⟨q, 2, none⟩ = some (.int .i64 (side : Int)) := (blk_cell N1.out 2).trans rfl
        have hx3 : wr.cell? ⟨q, 3, none⟩ = some (.int .i64 (size : Int)) := (blk_cell N1.out 3).trans rfl
        go_upto_region 15 with fail
        go_region_held3 (fun w' => w'.cell? ⟨q, 2, none⟩ = some (.int .i64 (side : Int)) ∧ w'.cell? ⟨q, 3, none⟩ = some (.int .i64 (size : Int))) (first | exact ⟨hx2, hx3⟩ | exact ⟨pw_cell_below HB3.out hx2, pw_cell_below HB3.out hx3⟩) (first | (go_at_call 66; refine Calls.mono (HBY.out _ q (below_drew HB.out) hx0) ?_; rintro e w3 ⟨rfl, hb⟩; have HB3 := Aside0.mk (⟨hb.os, hb.tape, hb.output, hb.size, hb.block⟩ : Below wr.heap.size wr w3); clear hb))
        have N3 := Aside0.mk (blk_below N1.out HB3.out)
        have HBB := Aside0.mk (below_step HB.out HB3.out)
        clear hx0 hx2 hx3 N1 HB
        generalize framedB l = fb at HUF ⊢
        go_upto_region 18 with fail
        go_wp2_with (go_at_call 67; refine Calls.mono (HUF.out _) ?_; rintro e w4 ⟨v, rfl, ho, hb⟩; have HB4 := Aside0.mk (below_step HBB.out hb); have N4 := Aside0.mk (blk_below N3.out hb); obtain ⟨A4, c4, rfl⟩ := own_slice ho; have HO := Aside0.mk (⟨_, blk_lt N3.out, StrS.of_own ho⟩ : ∃ b0, q < b0 ∧ StrS w4 (.slice A4 l.length c4) l (fun k => b0 ≤ k)); clear HBB N3; have k5 : w4.cell? ⟨q, 5, none⟩ = some (.slice none 0 0) := (blk_cell N4.out 5).trans rfl; have f5 := blk_frozen N4.out 5; clear ho hb)
        have N5 := Aside0.mk (show (w4.setCell ⟨q, 5, none⟩ (.slice A4 l.length c4)).heap[q]? = some (.cells #[.pointer (some ⟨p, 0, none⟩), .int .i64 (turn : Int), .int .i64 (side : Int), .int .i64 (size : Int), .int .i64 0, .slice A4 l.length c4, .bool false] 106 (0, 0)) from blk_set N4.out 5 _)
        have HB5 := Aside0.mk (below_set HB4.out HQL.out : Below w.heap.size w (w4.setCell ⟨q, 5, none⟩ (.slice A4 l.length c4)))
        have HO5 := Aside0.mk (show ∃ b0, q < b0 ∧ StrS (w4.setCell ⟨q, 5, none⟩ (.slice A4 l.length c4)) (.slice A4 l.length c4) l (fun k => b0 ≤ k) from by
          obtain ⟨b0, hb0, hs⟩ := HO.out
          exact ⟨b0, hb0, hs.keep ((Strip.Kept.refl (fun k => k = q) w4).set (g := q) _ (.inl rfl)) (fun k hk e => by omega)⟩)
        clear N4 HB4 HO k5 f5
        generalize w4.setCell ⟨q, 5, none⟩ (.slice A4 l.length c4) = w5 at N5 HB5 HO5 ⊢
        have hy3 : w5.cell? ⟨q, 3, none⟩ = some (.int .i64 (size : Int)) := (blk_cell N5.out 3).trans rfl
        have hz3 : (w5.setCell ⟨q, 4, none⟩ (.int .i64 (size : Int))).cell? ⟨q, 3, none⟩ = some (.int .i64 (size : Int)) := (blk_cell (blk_set N5.out 4 _) 3).trans rfl
        go_region_held3 (fun w' => w'.cell? ⟨q, 3, none⟩ = some (.int .i64 (size : Int))) (first | exact hy3 | exact hz3) (first | (go_at_call 68; refine Calls.mono (store_calls q 4 0 _ _ ?a1 ?a2) ?_; (case a1 => exact (blk_cell (blk_drew N5.out) 4).trans rfl); (case a2 => exact blk_frozen (blk_drew N5.out) 4); rintro e wn ⟨rfl, rfl⟩))
        have NF := Aside0.mk (show (w5.setCell ⟨q, 4, none⟩ (.int .i64 (size : Int))).heap[q]? = some (.cells #[.pointer (some ⟨p, 0, none⟩), .int .i64 (turn : Int), .int .i64 (side : Int), .int .i64 (size : Int), .int .i64 (size : Int), .slice A4 l.length c4, .bool false] 106 (0, 0)) from blk_set N5.out 4 _)
        have HBF := Aside0.mk (below_set HB5.out HQL.out : Below w.heap.size w (w5.setCell ⟨q, 4, none⟩ (.int .i64 (size : Int))))
        have HOF := Aside0.mk (show ∃ b0, q < b0 ∧ StrS (w5.setCell ⟨q, 4, none⟩ (.int .i64 (size : Int))) (.slice A4 l.length c4) l (fun k => b0 ≤ k) from by
          obtain ⟨b0, hb0, hs⟩ := HO5.out
          exact ⟨b0, hb0, hs.keep ((Strip.Kept.refl (fun k => k = q) w5).set (g := q) _ (.inl rfl)) (fun k hk e => by omega)⟩)
        have HFIN := Aside0.mk (show ∃ G, Both B (w5.setCell ⟨q, 4, none⟩ (.int .i64 (size : Int))).drew p q S ⟨turn, side, size, l, false⟩ F G ∧ ∀ k, G k → w.heap.size ≤ k from by
          obtain ⟨b0, hb0, hs⟩ := HOF.out
          refine ⟨fun k => (k = q ∨ b0 ≤ k) ∧ k < (w5.setCell ⟨q, 4, none⟩ (.int .i64 (size : Int))).heap.size, ⟨(H.out.below HBF.out : IsStrip B _ p S F), ⟨_, NF.out, hs.mono (fun k h1 h2 => ⟨.inr h2, h1⟩), ⟨.inl rfl, blk_lt NF.out⟩, fun k hk => ?_⟩, fun k hf hg => ?_, fun k hk => Nat.lt_of_lt_of_le (HF.out k hk) HBF.out.size, fun k hk => hk.2⟩, fun k hk => ?_⟩
          · have := HQL.out; rcases hk.1 with rfl | h <;> omega
          · have h1 := HQL.out; have h2 := HF.out k hf; rcases hg.1 with rfl | h <;> omega
          · have h1 := HQL.out; rcases hk.1 with rfl | h <;> omega)
        have HBG := Aside0.mk (show Below w.heap.size w (w5.setCell ⟨q, 4, none⟩ (.int .i64 (size : Int))).drew from ⟨HBF.out.os, HBF.out.tape, HBF.out.output, HBF.out.size, HBF.out.block⟩)
        go_wp2
        go_ret2
        exact ⟨q, rfl, HFIN.out, HQL.out, HBG.out⟩
  · have HAA := Aside0.mk h0
    clear h0 HA0
    go_upto_region 5 with (first | (go_at_call 45; refine Calls.mono (read_calls (H.out.below HB.out) 0) ?_; rw [HAA.out]; rintro e w2 ⟨rfl, hb⟩; have n1 := Aside0.mk (show HdAt _ q p _ from blk_below N0.out hb); have n2 := Aside0.mk (below_step HB.out hb); clear N0 HB hb; have N0 := n1; have HB := n2; clear n1 n2) | fail)
    go_upto_region 6 with (first | (go_at_call 42; refine Calls.mono (size_calls (H.out.below HB.out)) ?_; rintro e w3 ⟨rfl, rfl⟩) | fail)
    go_loopw [32] (fun v32 w' => ∃ i : Nat, i ≤ min 2 S.safe.length ∧ v32 = .int .i64 i ∧ Aside0 (HdAt w' q p (hdS (S.safe.take i))) ∧ Aside0 (Below w.heap.size w w')) (fun v32 _ => min 2 S.safe.length - (intOf v32).toNat)
    case atStart => exact ⟨0, Nat.zero_le _, rfl, N0, HB⟩
    case round =>
      clear N0 HB
      obtain ⟨i, hi, rfl, N0, HB⟩ := hrel
      by_cases hlt : i < min 2 S.safe.length
      · have hin : i < S.safe.length := by omega
        have HST := Aside0.mk (hdS_step S.safe i hin)
        have HAI := Aside0.mk (HAT.out i hin)
        have HBS := Aside0.mk (HSZ.out _ (List.getElem_mem hin))
        rw [show S.safe.getD i ⟨#[]⟩ = S.safe[i] by rw [List.getD_eq_getElem?_getD, List.getElem?_eq_getElem hin]; rfl] at HAI
        generalize S.safe[i] = bk at HST HAI HBS
        generalize hdS (S.safe.take i) = cur at HST N0
        obtain ⟨ct, cs, cz⟩ := cur
        have hlti : (i : Int) < ((min 2 S.safe.length : Nat) : Int) := by omega
        go_upto_region 12 with (first | (go_at_call 45; refine Calls.mono (read_calls (H.out.below HB.out) _) ?_; rw [HAI.out.1, HAI.out.2]; rintro e w4 ⟨rfl, hb⟩; have n1 := Aside0.mk (show HdAt _ q p _ from blk_below N0.out hb); have n2 := Aside0.mk (below_step HB.out hb); clear N0 HB hb; have N0 := n1; have HB := n2; clear n1 n2) | (go_at_call 65; refine Calls.mono (readHead_calls bk HBS.out _) ?_; rintro e w5 ⟨rfl, hb⟩; have n1 := Aside0.mk (show HdAt _ q p _ from blk_below N0.out hb); have n2 := Aside0.mk (below_step HB.out hb); clear N0 HB hb; have N0 := n1; have HB := n2; clear n1 n2) | fail)
        have NB := Aside0.mk (blk_new w5 (.cells #[.int .i64 (rhT bk), .int .i64 (rhS bk), .int .i64 (rhZ bk)] 104))
        have N6 := Aside0.mk (show HdAt _ q p (ct, cs, cz) from blk_alloc N0.out (.cells #[.int .i64 (rhT bk), .int .i64 (rhS bk), .int .i64 (rhZ bk)] 104))
        have HB6 := Aside0.mk (below_alloc HB.out (.cells #[.int .i64 (rhT bk), .int .i64 (rhS bk), .int .i64 (rhZ bk)] 104))
        clear N0 HB
        generalize w5.alloc (.cells #[.int .i64 (rhT bk), .int .i64 (rhS bk), .int .i64 (rhZ bk)] 104) = w6 at NB N6 HB6 ⊢
        generalize w5.heap.size = gb at NB ⊢
        have c0 : w6.cell? ⟨gb, 0, none⟩ = some (.int .i64 (rhT bk)) := (blk_cell NB.out 0).trans rfl
        have c1 : w6.cell? ⟨gb, 1, none⟩ = some (.int .i64 (rhS bk)) := (blk_cell NB.out 1).trans rfl
        have c2 : w6.cell? ⟨gb, 2, none⟩ = some (.int .i64 (rhZ bk)) := (blk_cell NB.out 2).trans rfl
        have k1 : w6.cell? ⟨q, 1, none⟩ = some (.int .i64 ct) := (blk_cell N6.out 1).trans rfl
        have k2 : w6.cell? ⟨q, 2, none⟩ = some (.int .i64 cs) := (blk_cell N6.out 2).trans rfl
        have k3 : w6.cell? ⟨q, 3, none⟩ = some (.int .i64 cz) := (blk_cell N6.out 3).trans rfl
        have f1 := blk_frozen N6.out 1
        have f2 := blk_frozen N6.out 2
        have f3 := blk_frozen N6.out 3
        have HS := Aside0.mk (show hdS (S.safe.take (i + 1)) = if rhB bk = true ∧ ct < rhT bk then (rhT bk, rhS bk, rhZ bk) else (ct, cs, cz) from HST.out)
        clear HST
        generalize rhB bk = ok at HS ⊢
        generalize rhT bk = bt at HS c0 NB ⊢
        generalize rhS bk = bs at HS c1 NB ⊢
        generalize rhZ bk = bz at HS c2 NB ⊢
        cases ok with
        | false =>
          have HS2 := Aside0.mk (HS.out.trans (if_neg (by simp)))
          go_quiet (fail)
          have N7 := Aside0.mk (show HdAt (w6.drewN nq) q p (hdS (S.safe.take (i + 1))) from by rw [HS2.out]; exact N6.out)
          have HB7 := Aside0.mk (pw_below_drewN HB6.out nq)
          clear c0 c1 c2 k1 k2 k3 f1 f2 f3
          go_wp2
          go_roundw
          case measure => simp [intOf]; omega
          case rel => exact ⟨i + 1, by omega, by go_num, N7, HB7⟩
        | true =>
          by_cases ht : ct < bt
          · have HS2 := Aside0.mk (HS.out.trans (if_pos ⟨rfl, ht⟩))
            go_quiet (fail)
            have NB7 := Aside0.mk (show (w6.drewN nq).heap[gb]? = some (.cells #[.int .i64 bt, .int .i64 bs, .int .i64 bz] 104 (0, 0)) from NB.out)
            have N7 := Aside0.mk (show HdAt (w6.drewN nq) q p (ct, cs, cz) from N6.out)
            have HB7 := Aside0.mk (pw_below_drewN HB6.out nq)
            clear c0 c1 c2 k1 k2 k3 f1 f2 f3 NB N6 HB6
            generalize w6.drewN nq = w7 at NB7 N7 HB7 ⊢
            have c0 : w7.cell? ⟨gb, 0, none⟩ = some (.int .i64 bt) := (blk_cell NB7.out 0).trans rfl
            have c1 : w7.cell? ⟨gb, 1, none⟩ = some (.int .i64 bs) := (blk_cell NB7.out 1).trans rfl
            have c2 : w7.cell? ⟨gb, 2, none⟩ = some (.int .i64 bz) := (blk_cell NB7.out 2).trans rfl
            have k1 : w7.cell? ⟨q, 1, none⟩ = some (.int .i64 ct) := (blk_cell N7.out 1).trans rfl
            have k2 : w7.cell? ⟨q, 2, none⟩ = some (.int .i64 cs) := (blk_cell N7.out 2).trans rfl
            have k3 : w7.cell? ⟨q, 3, none⟩ = some (.int .i64 cz) := (blk_cell N7.out 3).trans rfl
            have f1 := blk_frozen N7.out 1
            have f2 := blk_frozen N7.out 2
            have f3 := blk_frozen N7.out 3
            have N8 := Aside0.mk (show HdAt (((w7.setCell ⟨q, 1, none⟩ (.int .i64 bt)).setCell ⟨q, 2, none⟩ (.int .i64 bs)).setCell ⟨q, 3, none⟩ (.int .i64 bz)) q p (hdS (S.safe.take (i + 1))) from by rw [HS2.out]; exact blk_set (blk_set (blk_set N7.out 1 _) 2 _) 3 _)
            have HB8 := Aside0.mk (show Below w.heap.size w (((w7.setCell ⟨q, 1, none⟩ (.int .i64 bt)).setCell ⟨q, 2, none⟩ (.int .i64 bs)).setCell ⟨q, 3, none⟩ (.int .i64 bz)) from below_set (below_set (below_set HB7.out (HQL.out)) (HQL.out)) (HQL.out))
            go_wp2
            go_roundw
            case measure => simp [intOf]; omega
            case rel => exact ⟨i + 1, by omega, by go_num, N8, HB8⟩
          · have HS2 := Aside0.mk (HS.out.trans (if_neg (fun h => ht h.2)))
            go_quiet (fail)
            have N7 := Aside0.mk (show HdAt (w6.drewN nq) q p (hdS (S.safe.take (i + 1))) from by rw [HS2.out]; exact N6.out)
            have HB7 := Aside0.mk (pw_below_drewN HB6.out nq)
            clear c0 c1 c2 k1 k2 k3 f1 f2 f3
            go_wp2
            go_roundw
            case measure => simp [intOf]; omega
            case rel => exact ⟨i + 1, by omega, by go_num, N7, HB7⟩
      · have hlti : ¬ (i : Int) < ((min 2 S.safe.length : Nat) : Int) := by omega
        have HE := Aside0.mk (show S.safe.take i = S.safe.take 2 by
          rcases Nat.lt_or_ge S.safe.length 2 with h | h
          · rw [List.take_of_length_le (by omega), List.take_of_length_le (by omega)]
          · rw [show i = 2 by omega])
        rw [HE.out, HHD.out] at N0
        have N1 := Aside0.mk (show wr.heap[q]? = some (.cells #[.pointer (some ⟨p, 0, none⟩), .int .i64 (turn : Int), .int .i64 (side : Int), .int .i64 (size : Int), .int .i64 0, .slice none 0 0, .bool false] 106 (0, 0)) from N0.out)
        clear N0 HE
        have hx0 : wr.cell? ⟨q, 0, none⟩ = some (.pointer (some ⟨p, 0, none⟩)) := (blk_cell N1.out 0).trans rfl
        have hx2 : wr.cell? ⟨q, 2, none⟩ = some (.int .i64 (side : Int)) := (blk_cell N1.out 2).trans rfl
        have hx3 : wr.cell? ⟨q, 3, none⟩ = some (.int .i64 (size : Int)) := (blk_cell N1.out 3).trans rfl
        go_upto_region 15 with fail
        go_region_held3 (fun w' => w'.cell? ⟨q, 2, none⟩ = some (.int .i64 (side : Int)) ∧ w'.cell? ⟨q, 3, none⟩ = some (.int .i64 (size : Int))) (first | exact ⟨hx2, hx3⟩ | exact ⟨pw_cell_below HB3.out hx2, pw_cell_below HB3.out hx3⟩) (first | (go_at_call 66; refine Calls.mono (HBY.out _ q (below_drew HB.out) hx0) ?_; rintro e w3 ⟨rfl, hb⟩; have HB3 := Aside0.mk (⟨hb.os, hb.tape, hb.output, hb.size, hb.block⟩ : Below wr.heap.size wr w3); clear hb))
        have N3 := Aside0.mk (blk_below N1.out HB3.out)
        have HBB := Aside0.mk (below_step HB.out HB3.out)
        clear hx0 hx2 hx3 N1 HB
        generalize framedB l = fb at HUF ⊢
        go_upto_region 18 with fail
        go_wp2_with (go_at_call 67; refine Calls.mono (HUF.out _) ?_; rintro e w4 ⟨v, rfl, ho, hb⟩; have HB4 := Aside0.mk (below_step HBB.out hb); have N4 := Aside0.mk (blk_below N3.out hb); obtain ⟨A4, c4, rfl⟩ := own_slice ho; have HO := Aside0.mk (⟨_, blk_lt N3.out, StrS.of_own ho⟩ : ∃ b0, q < b0 ∧ StrS w4 (.slice A4 l.length c4) l (fun k => b0 ≤ k)); clear HBB N3; have k5 : w4.cell? ⟨q, 5, none⟩ = some (.slice none 0 0) := (blk_cell N4.out 5).trans rfl; have f5 := blk_frozen N4.out 5; clear ho hb)
        have N5 := Aside0.mk (show (w4.setCell ⟨q, 5, none⟩ (.slice A4 l.length c4)).heap[q]? = some (.cells #[.pointer (some ⟨p, 0, none⟩), .int .i64 (turn : Int), .int .i64 (side : Int), .int .i64 (size : Int), .int .i64 0, .slice A4 l.length c4, .bool false] 106 (0, 0)) from blk_set N4.out 5 _)
        have HB5 := Aside0.mk (below_set HB4.out HQL.out : Below w.heap.size w (w4.setCell ⟨q, 5, none⟩ (.slice A4 l.length c4)))
        have HO5 := Aside0.mk (show ∃ b0, q < b0 ∧ StrS (w4.setCell ⟨q, 5, none⟩ (.slice A4 l.length c4)) (.slice A4 l.length c4) l (fun k => b0 ≤ k) from by
          obtain ⟨b0, hb0, hs⟩ := HO.out
          exact ⟨b0, hb0, hs.keep ((Strip.Kept.refl (fun k => k = q) w4).set (g := q) _ (.inl rfl)) (fun k hk e => by omega)⟩)
        clear N4 HB4 HO k5 f5
        generalize w4.setCell ⟨q, 5, none⟩ (.slice A4 l.length c4) = w5 at N5 HB5 HO5 ⊢
        have hy3 : w5.cell? ⟨q, 3, none⟩ = some (.int .i64 (size : Int)) := (blk_cell N5.out 3).trans rfl
        have hz3 : (w5.setCell ⟨q, 4, none⟩ (.int .i64 (size : Int))).cell? ⟨q, 3, none⟩ = some (.int .i64 (size : Int)) := (blk_cell (blk_set N5.out 4 _) 3).trans rfl
        go_region_held3 (fun w' => w'.cell? ⟨q, 3, none⟩ = some (.int .i64 (size : Int))) (first | exact hy3 | exact hz3) (first | (go_at_call 68; refine Calls.mono (store_calls q 4 0 _ _ ?a1 ?a2) ?_; (case a1 => exact (blk_cell (blk_drew N5.out) 4).trans rfl); (case a2 => exact blk_frozen (blk_drew N5.out) 4); rintro e wn ⟨rfl, rfl⟩))
        have NF := Aside0.mk (show (w5.setCell ⟨q, 4, none⟩ (.int .i64 (size : Int))).heap[q]? = some (.cells #[.pointer (some ⟨p, 0, none⟩), .int .i64 (turn : Int), .int .i64 (side : Int), .int .i64 (size : Int), .int .i64 (size : Int), .slice A4 l.length c4, .bool false] 106 (0, 0)) from blk_set N5.out 4 _)
        have HBF := Aside0.mk (below_set HB5.out HQL.out : Below w.heap.size w (w5.setCell ⟨q, 4, none⟩ (.int .i64 (size : Int))))
        have HOF := Aside0.mk (show ∃ b0, q < b0 ∧ StrS (w5.setCell ⟨q, 4, none⟩ (.int .i64 (size : Int))) (.slice A4 l.length c4) l (fun k => b0 ≤ k) from by
          obtain ⟨b0, hb0, hs⟩ := HO5.out
          exact ⟨b0, hb0, hs.keep ((Strip.Kept.refl (fun k => k = q) w5).set (g := q) _ (.inl rfl)) (fun k hk e => by omega)⟩)
        have HFIN := Aside0.mk (show ∃ G, Both B (w5.setCell ⟨q, 4, none⟩ (.int .i64 (size : Int))).drew p q S ⟨turn, side, size, l, false⟩ F G ∧ ∀ k, G k → w.heap.size ≤ k from by
          obtain ⟨b0, hb0, hs⟩ := HOF.out
          refine ⟨fun k => (k = q ∨ b0 ≤ k) ∧ k < (w5.setCell ⟨q, 4, none⟩ (.int .i64 (size : Int))).heap.size, ⟨(H.out.below HBF.out : IsStrip B _ p S F), ⟨_, NF.out, hs.mono (fun k h1 h2 => ⟨.inr h2, h1⟩), ⟨.inl rfl, blk_lt NF.out⟩, fun k hk => ?_⟩, fun k hf hg => ?_, fun k hk => Nat.lt_of_lt_of_le (HF.out k hk) HBF.out.size, fun k hk => hk.2⟩, fun k hk => ?_⟩
          · have := HQL.out; rcases hk.1 with rfl | h <;> omega
          · have h1 := HQL.out; have h2 := HF.out k hf; rcases hg.1 with rfl | h <;> omega
          · have h1 := HQL.out; rcases hk.1 with rfl | h <;> omega)
        have HBG := Aside0.mk (show Below w.heap.size w (w5.setCell ⟨q, 4, none⟩ (.int .i64 (size : Int))).drew from ⟨HBF.out.os, HBF.out.tape, HBF.out.output, HBF.out.size, HBF.out.block⟩)
        go_wp2
        go_ret2
        exact ⟨q, rfl, HFIN.out, HQL.out, HBG.out⟩
end
end Go.Proofs.Ytmgkflkpompchaa.Wal
