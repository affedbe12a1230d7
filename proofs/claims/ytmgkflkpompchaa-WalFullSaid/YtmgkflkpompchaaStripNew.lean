/- The strip's nil: Read, Write, Sync, Fall; New. -/
import Derived.Test.YtmgkflkpompchaaStripFall
import Derived.Test.YtmgkflkpompchaaStripShelf
import Derived.Deep.OwnRows
namespace Go.Proofs.Ytmgkflkpompchaa.Strip
open Go.RowKit Go.Proofs.YtmgkflkpompchaaW.PrintWords Go.Proofs.YtmgkflkpompchaaW.PrintLast Go.Proofs.YtmgkflkpompchaaW.PrintMore
set_option linter.unusedVariables false
set_option linter.unusedSimpArgs false

set_option maxHeartbeats 400000 in
set_option maxRecDepth 100000 in
theorem read_nil (i : Int) (w : World) : Calls Try.prog 45 #[.pointer none, .int .i64 i] w fun e w' => e = .returned (.tuple #[.string ⟨#[]⟩, .int .i64 2]) ∧ w = w' := by
  go_enter Try.func45, Try.ntmps45
  go_wp2_with fail
  refine Calls.mono (at_nil _ _) ?_
  rintro e w' ⟨rfl, rfl⟩
  go_wp2
  go_ret2
  exact ⟨rfl, rfl⟩
set_option maxHeartbeats 400000 in
set_option maxRecDepth 100000 in
theorem write_nil (i : Int) (b : ByteArray) (w : World) : Calls Try.prog 43 #[.pointer none, .int .i64 i, .string b] w fun e w' => e = .returned (.int .i64 2) ∧ w = w' := by
  go_enter Try.func43, Try.ntmps43
  go_wp2_with fail
  refine Calls.mono (at_nil _ _) ?_
  rintro e w' ⟨rfl, rfl⟩
  go_wp2
  go_ret
  exact ⟨rfl, rfl⟩
set_option maxHeartbeats 400000 in
set_option maxRecDepth 100000 in
theorem sync_nil (w : World) : Calls Try.prog 47 #[.pointer none] w fun e w' => e = .returned (.int .i64 2) ∧ w = w' := by
  go_enter Try.func47, Try.ntmps47
  go_wp2_with fail
  refine Calls.mono (asked_nil _) ?_
  rintro e w' ⟨rfl, rfl⟩
  go_wp2
  go_ret
  exact ⟨rfl, rfl⟩
set_option maxHeartbeats 400000 in
set_option maxRecDepth 100000 in
theorem fall_nil (pl : Value) (hp : ∃ a b c d, pl = .agg #[.int .i64 a, .int .i64 b, .int .i64 c, .int .i64 d]) (w : World) :
    Calls Try.prog 39 #[.pointer none, pl] w fun e w' => e = .returned (.tuple #[]) ∧ Below w.heap.size w w' := by
  obtain ⟨bl, cr, ke, tn, rfl⟩ := hp
  go_enter Try.func39, Try.ntmps39
  go_upto_region 0 with fail
  go_upto_region 1 with ((with_reducible refine gate_dst (N := 3) rfl ?_); refine box_event ?hg (N := 3) ?hd (cs := #[.int .i64 bl, .int .i64 cr, .int .i64 ke, .int .i64 tn]) (t := 42) ?hr ?_; (case hd => rfl); (case hg => rfl); (case hr => first | (go_simp; done) | (go_simp; rfl)); intro gb hg w4 hbox hb; have HB := Aside0.mk hb; clear hb hbox hg)
  go_wp2
  (try simp only [Exit.inBlock, Exit.then]); refine bodyPost_ret (results_none rfl _ _ _) rfl ?_
  exact ⟨rfl, HB.out⟩
theorem infoS : (Try.prog.info? 9).map (fun i => (i.zero, i.size, i.bytes)) = some (some (.string ⟨#[]⟩), 1, 16) := by kernel_rfl
/-- How many blocks there are. -/
def newN (bl : Int) : Nat := (max 0 (min bl 65536)).toNat
theorem newN_le (bl : Int) : newN bl ≤ 65536 := by unfold newN; omega
/-- A block of zeros, as strings.Repeat gives it. -/
def zero32 : ByteArray := ⟨(Lib.repeatL (⟨#[0]⟩ : ByteArray).data.toList 32).toArray⟩
def fresh (L j : Nat) : List ByteArray := List.replicate j zero32 ++ List.replicate (L - j) ⟨#[]⟩
def newS (bl cr : Int) : St := ⟨List.replicate (newN bl) zero32, [], cr, 0, false⟩
theorem fresh_len (L j : Nat) (h : j ≤ L) : (fresh L j).length = L := by simp [fresh]; omega
theorem fresh_zero (L : Nat) : ((fresh L 0).map Value.string).toArray = madeCells #[.string ⟨#[]⟩] L := by
  apply Array.ext
  · simp [fresh, madeCells]
  · intro i h1 h2
    simp [fresh, madeCells, Nat.mod_one]
theorem fresh_at (L j : Nat) (h : j < L) : (((fresh L j).map Value.string).toArray)[j]? = some (.string ⟨#[]⟩) := by
  have : (fresh L j)[j]? = some ⟨#[]⟩ := by
    unfold fresh
    rw [List.getElem?_append_right (by simp), List.length_replicate, Nat.sub_self]
    obtain ⟨n, hn⟩ : ∃ n, L - j = n + 1 := ⟨L - j - 1, by omega⟩
    rw [hn]; rfl
  simp [this]
theorem fresh_set (L j : Nat) (h : j < L) : (fresh L j).set j zero32 = fresh L (j + 1) := by
  unfold fresh
  rw [List.set_append_right _ _ (by simp), List.length_replicate, Nat.sub_self, List.replicate_succ', List.append_assoc]
  congr 1
  obtain ⟨n, hn⟩ : ∃ n, L - j = n + 1 := ⟨L - j - 1, by omega⟩
  rw [hn, show L - (j + 1) = n by omega]
  rfl
theorem fresh_all (L : Nat) : fresh L L = List.replicate L zero32 := by simp [fresh]
set_option maxHeartbeats 1600000 in
set_option maxRecDepth 100000 in
theorem new_calls (bl cr ke tn : Int) (w : World) :
    Calls Try.prog 31 #[.agg #[.int .i64 bl, .int .i64 cr, .int .i64 ke, .int .i64 tn]] w fun e w' => ∃ p F, e = .returned (.pointer (some ⟨p, 0, none⟩)) ∧ IsStrip w.heap.size w' p (newS bl cr) F ∧ Below w.heap.size w w' := by
  go_enter Try.func31, Try.ntmps31
  go_upto_region 0 with fail
  go_upto_region 1 with ((with_reducible refine gate_dst (N := 1) rfl ?_); refine box_event ?hg (N := 1) ?hd (cs := #[.int .i64 bl, .int .i64 cr, .int .i64 ke, .int .i64 tn]) (t := 42) ?hr ?_; (case hd => rfl); (case hg => rfl); (case hr => first | (go_simp; done) | (go_simp; rfl)); intro gb hg w4 hbox hb; have HB := Aside0.mk hb; have BK := Aside0.mk hbox; have GE := Aside0.mk (show w.heap.size ≤ gb by omega); clear hb hbox hg)
  have hc0 : w4.cell? ⟨gb, 0, none⟩ = some (.int .i64 bl) := (blk_cell BK.out 0).trans rfl
  have hc1 : w4.cell? ⟨gb, 1, none⟩ = some (.int .i64 cr) := (blk_cell BK.out 1).trans rfl
  have hmk : ∀ W : World, (Instr.makeSlice 48 (.int .i64 (max 0 (min bl 65536))) (.int .i64 (max 0 (min bl 65536)))).run Try.prog W = .ok (.slice (some ⟨W.heap.size, 0, none⟩) (newN bl) (newN bl)) (W.alloc (.cells (madeCells #[.string ⟨#[]⟩] (newN bl)) 9)) := fun W => by
    have := newN_le bl
    rw [show max 0 (min bl 65536) = ((newN bl : Nat) : Int) by unfold newN; omega]
    exact run_make_row' 48 9 (.string ⟨#[]⟩) 16 Try.underlying48 infoS rfl .i64 .i64 (newN bl) (by omega) (by omega) W
  go_region_held3 (fun w' => w'.cell? ⟨gb, 0, none⟩ = some (.int .i64 bl) ∧ w'.cell? ⟨gb, 1, none⟩ = some (.int .i64 cr)) (first | exact ⟨hc0, hc1⟩ | exact ⟨pw_cell_below (w := w4) (by repeat (first | exact Below.refl _ _ | apply below_drew | apply below_alloc)) hc0, pw_cell_below (w := w4) (by repeat (first | exact Below.refl _ _ | apply below_drew | apply below_alloc)) hc1⟩) (fail)
  clear hmk hc0 hc1
  have N1 := Aside0.mk (show (((w4.alloc (.cells (madeCells #[.string ⟨#[]⟩] (newN bl)) 9)).alloc (.cells #[.slice (some ⟨w4.heap.size, 0, none⟩) (newN bl) (newN bl), .slice none 0 0, .int .i64 cr, .int .i64 0, .bool false] 101)).drew).heap[w4.heap.size + 1]? = some (.cells #[.slice (some ⟨w4.heap.size, 0, none⟩) (newN bl) (newN bl), .slice none 0 0, .int .i64 cr, .int .i64 0, .bool false] 101 (0, 0)) from by
    have := blk_new (w4.alloc (.cells (madeCells #[.string ⟨#[]⟩] (newN bl)) 9)) (.cells #[.slice (some ⟨w4.heap.size, 0, none⟩) (newN bl) (newN bl), .slice none 0 0, .int .i64 cr, .int .i64 0, .bool false] 101)
    rw [show (w4.alloc (.cells (madeCells #[.string ⟨#[]⟩] (newN bl)) 9)).heap.size = w4.heap.size + 1 by simp] at this
    exact this)
  have N2 := Aside0.mk (show (((w4.alloc (.cells (madeCells #[.string ⟨#[]⟩] (newN bl)) 9)).alloc (.cells #[.slice (some ⟨w4.heap.size, 0, none⟩) (newN bl) (newN bl), .slice none 0 0, .int .i64 cr, .int .i64 0, .bool false] 101)).drew).heap[w4.heap.size]? = some (.cells ((fresh (newN bl) 0).map Value.string).toArray 9 (0, 0)) from by
    rw [fresh_zero]; exact blk_alloc (blk_new w4 _) _)
  have N3 := Aside0.mk (show Below w.heap.size w (((w4.alloc (.cells (madeCells #[.string ⟨#[]⟩] (newN bl)) 9)).alloc (.cells #[.slice (some ⟨w4.heap.size, 0, none⟩) (newN bl) (newN bl), .slice none 0 0, .int .i64 cr, .int .i64 0, .bool false] 101)).drew) from below_drew (below_alloc (below_alloc HB.out _) _))
  have hsz := HB.out.size
  have hL := newN_le bl
  have HR := Aside0.mk (show newS bl cr = newS bl cr from rfl)
  generalize (((w4.alloc (.cells (madeCells #[.string ⟨#[]⟩] (newN bl)) 9)).alloc (.cells #[.slice (some ⟨w4.heap.size, 0, none⟩) (newN bl) (newN bl), .slice none 0 0, .int .i64 cr, .int .i64 0, .bool false] 101)).drew) = w5 at N1 N2 N3 ⊢
  have hgp : w4.heap.size ≠ w4.heap.size + 1 := by omega
  have hpb : w.heap.size ≤ w4.heap.size + 1 := by omega
  generalize w4.heap.size + 1 = p at N1 hgp hpb ⊢
  generalize w4.heap.size = gs at N1 N2 hgp hsz ⊢
  generalize hLL : newN bl = L at N1 N2 hL ⊢
  have hcp : w5.cell? ⟨p, 0, none⟩ = some (.slice (some ⟨gs, 0, none⟩) L L) := (blk_cell N1.out 0).trans rfl
  clear HB BK GE HR
  go_upto_region 3 with fail
  clear hcp
  go_loopw [4, 19] (fun v4 v19 w' => ∃ j : Nat, j ≤ L ∧ v19 = .int .i64 j ∧ Aside0 (w'.heap[p]? = some (.cells #[.slice (some ⟨gs, 0, none⟩) L L, .slice none 0 0, .int .i64 cr, .int .i64 0, .bool false] 101 (0, 0))) ∧
    Aside0 (w'.heap[gs]? = some (.cells ((fresh L j).map Value.string).toArray 9 (0, 0))) ∧ Aside0 (Below w.heap.size w w')) (fun _ v19 _ => L - (intOf v19).toNat)
  case atStart => exact ⟨0, Nat.zero_le _, rfl, N1, N2, N3⟩
  case round =>
    clear N1 N2 N3
    obtain ⟨j, hj, rfl, N1, N2, N3⟩ := hrel
    by_cases hlt : j < L
    · have hcp : wr.cell? ⟨p, 0, none⟩ = some (.slice (some ⟨gs, 0, none⟩) L L) := (blk_cell N1.out 0).trans rfl
      have hgj : wr.cell? ⟨gs, j, none⟩ = some (.string ⟨#[]⟩) := (blk_cell N2.out j).trans (fresh_at L j hlt)
      have hfj : wr.frozen? ⟨gs, j, none⟩ = false := blk_frozen N2.out j
      have hy0 : (0 : Int) ≤ (j : Int) := by omega
      have hy1 : (j : Int) < (L : Int) := by omega
      go_upto_region 5 with fail
      go_region_with (go_at_call 64; refine Calls.mono (Try.strings_Repeat ⟨#[0]⟩ 32 _ (by decide) (by decide)) ?_; rintro e wn ⟨rfl, hb⟩; have hcp2 := (hb.cell (by first | exact World.block_lt_of_cell? wr _ hcp)).trans hcp; have hgj2 := (hb.cell (by first | exact World.block_lt_of_cell? wr _ hgj)).trans hgj; have hfj2 := blk_frozen (blk_below (by first | exact N2.out | exact blk_drew N2.out) hb) j; have HBB := Aside0.mk hb; clear hb)
      all_goals (
        rw [show (⟨(Lib.repeatL [0] 32).toArray⟩ : ByteArray) = zero32 from rfl]
        have HX : Below wr.heap.size wr wn := ⟨HBB.out.os, HBB.out.tape, HBB.out.output, HBB.out.size, HBB.out.block⟩
        have M1 := Aside0.mk (show (wn.setCell ⟨gs, j, none⟩ (.string zero32)).heap[p]? = _ from blk_far (blk_below N1.out HX) hgp.symm _)
        have M2 := Aside0.mk (show (wn.setCell ⟨gs, j, none⟩ (.string zero32)).heap[gs]? = some (.cells ((fresh L (j + 1)).map Value.string).toArray 9 (0, 0)) from by rw [← fresh_set L j hlt]; exact blk_put (blk_below N2.out HX) j _ (set_map _ _ _))
        have M3 := Aside0.mk (show Below w.heap.size w (wn.setCell ⟨gs, j, none⟩ (.string zero32)) from below_set (below_step N3.out HX) hsz)
        clear N1 N2 N3 HX HBB hcp2 hgj2 hfj2 hcp hgj hfj
        generalize zero32 = zz at M1 M2 M3 ⊢
        go_wp2
        go_roundw
        case measure => simp [intOf]; omega
        case rel => exact ⟨j + 1, by omega, by go_num, M1, M2, M3⟩)
    · obtain rfl : j = L := by omega
      go_wp2
      go_ret
      refine ⟨p, fun k => k = p ∨ k = gs, rfl, ⟨gs, .slice none 0 0, ?_, ?_, own_nil _ _ _ _, .inl rfl, .inr rfl, fun k hk => by simp [Value.ownBlock] at hk, ?_, ?_⟩, N3.out⟩
      · simp only [newS, List.length_replicate, hLL]; exact N1.out
      · simp only [newS, hLL]; rw [← fresh_all]; exact N2.out
      · rintro k (rfl | rfl)
        · exact hpb
        · exact hsz
      · simp only [newS, List.length_replicate, hLL]; exact hL
end Go.Proofs.Ytmgkflkpompchaa.Strip
