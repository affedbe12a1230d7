/- The reference's strip (brookref16): NewStrip. No condition. -/
import Derived.Test.YtmgkflkpompchaaStripRef4
import Derived.Test.YtmgkflkpompchaaStripAwake
namespace Go.Proofs.Ytmgkflkpompchaa.Strip
open Go.RowKit Go.Proofs.YtmgkflkpompchaaW.PrintWords Go.Proofs.YtmgkflkpompchaaW.PrintLast Go.Proofs.YtmgkflkpompchaaW.PrintMore
set_option linter.unusedVariables false
set_option linter.unusedSimpArgs false

set_option maxHeartbeats 1600000 in
set_option maxRecDepth 100000 in
theorem rnew_calls (bl cr ke tn : Int) (w : World) :
    Calls Try.prog 49 #[.agg #[.int .i64 bl, .int .i64 cr, .int .i64 ke, .int .i64 tn]] w fun e w' => ∃ p F, e = .returned (.pointer (some ⟨p, 0, none⟩)) ∧ IsRf w.heap.size w' p (newS bl cr) F ∧ Below w.heap.size w w' := by
  have hlf : left (newS bl cr) = max 0 cr := by show max 0 (cr - 0) = _; rw [Int.sub_zero]
  have HLF := Aside0.mk hlf
  clear hlf
  go_enter Try.func49, Try.ntmps49
  go_upto_region 0 with fail
  go_upto_region 1 with ((with_reducible refine gate_dst (N := 1) rfl ?_); refine box_event ?hg (N := 1) ?hd (cs := #[.int .i64 bl, .int .i64 cr, .int .i64 ke, .int .i64 tn]) (t := 42) ?hr ?_; (case hd => rfl); (case hg => rfl); (case hr => first | (go_simp; done) | (go_simp; rfl)); intro gb hg w4 hbox hb; have HB := Aside0.mk hb; have BK := Aside0.mk hbox; have GE := Aside0.mk (show w.heap.size ≤ gb by omega); clear hb hbox hg)
  have hc0 : w4.cell? ⟨gb, 0, none⟩ = some (.int .i64 bl) := (blk_cell BK.out 0).trans rfl
  have hc1 : w4.cell? ⟨gb, 1, none⟩ = some (.int .i64 cr) := (blk_cell BK.out 1).trans rfl
  go_upto_region 2 with fail
  clear hc0 hc1
  have N0 := Aside0.mk (blk_new w4 (.cells #[.slice none 0 0, .slice none 0 0, .int .i64 (max 0 cr), .bool false] 77))
  have N1 := Aside0.mk (blk_alloc BK.out (.cells #[.slice none 0 0, .slice none 0 0, .int .i64 (max 0 cr), .bool false] 77))
  have N2 := Aside0.mk (below_alloc HB.out (.cells #[.slice none 0 0, .slice none 0 0, .int .i64 (max 0 cr), .bool false] 77))
  have GP := HB.out.size
  generalize hww : w4.alloc (.cells #[.slice none 0 0, .slice none 0 0, .int .i64 (max 0 cr), .bool false] 77) = w5 at N0 N1 N2 ⊢
  clear hww
  generalize w4.heap.size = p at N0 GP ⊢
  clear HB BK GE
  have hmk := made32 w5
  have hcv := conv32 w5
  go_upto_region 4 with fail
  clear hmk hcv
  have M0 := Aside0.mk (blk_alloc N0.out (.cells (madeCells #[.int .u8 0] 32) 5))
  have M1 := Aside0.mk (blk_alloc N1.out (.cells (madeCells #[.int .u8 0] 32) 5))
  have M2 := Aside0.mk (below_alloc N2.out (.cells (madeCells #[.int .u8 0] 32) 5))
  generalize w5.alloc (.cells (madeCells #[.int .u8 0] 32) 5) = w6 at M0 M1 M2 ⊢
  clear N0 N1 N2
  have hL := newN_le bl
  have HN := Aside0.mk (show ∀ j : Nat, ((j : Int) < min bl 65536 ↔ j < newN bl) from fun j => by unfold newN; omega)
  go_loopw [5] (fun v5 w' => ∃ (j : Nat) (vs : Value), j ≤ newN bl ∧ v5 = .int .i64 j ∧ Aside0 (w'.heap[p]? = some (.cells #[vs, .slice none 0 0, .int .i64 (max 0 cr), .bool false] 77 (0, 0))) ∧
    Aside0 (w'.ownsRow w.heap.size 9 1 vs (List.replicate j zero32).length (encs Value.string (List.replicate j zero32))) ∧ Aside0 (w'.heap[gb]? = some (.cells #[.int .i64 bl, .int .i64 cr, .int .i64 ke, .int .i64 tn] 42 (0, 0))) ∧ Aside0 (Below w.heap.size w w')) (fun v5 _ => newN bl - (intOf v5).toNat)
  case atStart => exact ⟨0, _, Nat.zero_le _, rfl, M0, ⟨own_nil _ _ _ _⟩, M1, M2⟩
  case round =>
    clear M0 M1 M2
    obtain ⟨j, vs, hj, rfl, M0, MR, M1, M2⟩ := hrel
    have hc0 : wr.cell? ⟨gb, 0, none⟩ = some (.int .i64 bl) := (blk_cell M1.out 0).trans rfl
    by_cases hlt : j < newN bl
    · have hlti : (j : Int) < min bl 65536 := (HN.out j).2 hlt
      obtain ⟨A, c, rfl⟩ := own_slice MR.out
      have hx0 : wr.cell? ⟨p, 0, none⟩ = some (.slice A (List.replicate j zero32).length c) := (blk_cell M0.out 0).trans rfl
      have hBw := M2.out.size
      have HRep := Aside0.mk (show List.replicate j zero32 ++ [zero32] = List.replicate (j + 1) zero32 from List.replicate_succ'.symm)
      have HLen := Aside0.mk (show (List.replicate j zero32).length = j by simp)
      generalize List.replicate j zero32 = l at M0 MR HRep HLen hx0
      generalize zero32 = zz at HRep ⊢
      go_wp2_with (first | ((with_reducible refine gate_builtin (b := .append) (xs := #[.tmp 24, .tmp 26]) rfl ?_); at_builtin; refine print_append_of (w0 := w) Value.string w.heap.size rfl (.tmp 24) (.tmp 26) 48 9 (.string ⟨#[]⟩) 16 rfl Try.underlying48 infoS rfl (by decide) _ l zz rfl rfl rfl MR.out M2.out hBw (by have := HLen.out; omega) ?_; intro v1 w3 q1 q4 q2 q3; obtain ⟨A1, c1, rfl⟩ := own_slice q1; have PP := Aside0.mk (And.intro q1 q4); have e0 := blk_grown M0.out q2 (own_ne MR.out M0.out (by decide)); have e1 := blk_grown M1.out q2 (own_ne MR.out M1.out (by decide)); have E0 := Aside0.mk e0; have E1 := Aside0.mk e1; have hd1 : w3.cell? ⟨p, 0, none⟩ = some (.slice A l.length c) := (blk_cell e0 0).trans rfl; have hf1 : w3.frozen? ⟨p, 0, none⟩ = false := blk_frozen e0 0; clear e0 e1 q1 q2 q3 q4 hx0 hBw))
      clear hd1 hf1 hc0 hlti
      rw [show (l ++ [zz]).length = l.length + 1 by simp] at PP
      rw [show l.length + 1 = (List.replicate (j + 1) zz).length by rw [← HRep.out]; simp] at PP ⊢
      rw [HRep.out] at PP
      have R0 := Aside0.mk (show (w3.setCell ⟨p, 0, none⟩ (.slice A1 (List.replicate (j + 1) zz).length c1)).heap[p]? = some (.cells #[.slice A1 (List.replicate (j + 1) zz).length c1, .slice none 0 0, .int .i64 (max 0 cr), .bool false] 77 (0, 0)) from blk_set E0.out 0 _)
      have R1 := Aside0.mk (show (w3.setCell ⟨p, 0, none⟩ (.slice A1 (List.replicate (j + 1) zz).length c1)).heap[gb]? = _ from blk_far E1.out (show gb ≠ p from blk_ne E1.out E0.out (by decide)) _)
      have R2 := Aside0.mk (own_setCell (p := ⟨p, 0, none⟩) PP.out.1 (own_ne PP.out.1 E0.out (by decide)) (.slice A1 (List.replicate (j + 1) zz).length c1))
      have R3 := Aside0.mk (show Below w.heap.size w (w3.setCell ⟨p, 0, none⟩ (.slice A1 (List.replicate (j + 1) zz).length c1)) from below_set PP.out.2 GP)
      go_roundw
      case measure => simp [intOf]; omega
      case rel => exact ⟨j + 1, _, by omega, by go_num, R0, R2, R1, R3⟩
    · have hlti : ¬ (j : Int) < min bl 65536 := fun h => hlt ((HN.out j).1 h)
      obtain rfl : j = newN bl := by omega
      go_wp2
      go_ret
      refine ⟨p, rfl, ⟨fun k => k = p ∨ vs.ownBlock = some k, ⟨vs, .slice none 0 0, ?_, ?_, own_nil _ _ _ _, .inl rfl, fun k hk => .inr hk, fun k hk => by simp [Value.ownBlock] at hk, ?_⟩⟩, M2.out⟩
      · rw [HLF.out]; exact M0.out
      · exact MR.out
      · rintro k (rfl | hk)
        · exact GP
        · exact own_base MR.out k hk
end Go.Proofs.Ytmgkflkpompchaa.Strip
