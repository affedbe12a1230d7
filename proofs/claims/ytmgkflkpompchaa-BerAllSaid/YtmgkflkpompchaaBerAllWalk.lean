/- brooklaw1.BerAll: the call returns true, whatever two tlvs the memory holds; nothing that was there is changed. No condition. -/
import Derived.Test.YtmgkflkpompchaaBerAllPure
import Derived.Test.YtmgkflkpompchaaRefPut
import Derived.Test.YtmgkflkpompchaaBerAwake
namespace Go.Proofs.Ytmgkflkpompchaa.BerAll
open Go.RowKit Go.Proofs.YtmgkflkpompchaaW.PrintWords Go.Proofs.YtmgkflkpompchaaW.PrintLast Go.Proofs.YtmgkflkpompchaaW.PrintMore
open Go.Proofs.Ytmgkflkpompchaa.PBerAll Go.Proofs.Ytmgkflkpompchaa.Enc Go.Proofs.Ytmgkflkpompchaa.BerSame Go.Proofs.Ytmgkflkpompchaa.BerAllPure
set_option linter.unusedVariables false
set_option linter.unusedSimpArgs false

set_option maxHeartbeats 8000000 in
set_option maxRecDepth 100000 in
theorem great1 (x y : S32) (A B : Option Addr) (c d : Nat) (w : World) (hc : x.f2.length ≤ c) (hd : y.f2.length ≤ d) (hx : Kd.C k32 w A x.f2.length x.f2) (hy : Kd.C k32 w B y.f2.length y.f2) (k : Nat) (hg : brooklaw1_Great.f k x.f0 x.f1 x.f2 = some true) :
    Calls Try.prog 4 #[.agg #[.int .i64 x.f0, .string x.f1, .slice A x.f2.length c], .agg #[.int .i64 y.f0, .string y.f1, .slice B y.f2.length d]] w fun e w' => e = .returned (.bool true) ∧ Below w.heap.size w w' := by
  have hu32 := Try.underlying32
  have HX := Aside0.mk hx
  have HY := Aside0.mk hy
  have HC := Aside0.mk hc
  have HD := Aside0.mk hd
  have HG := Aside0.mk hg
  clear hx hy hc hd hg
  go_enter Try.func4, Try.ntmps4
  go_upto_region 1 with (first | ((with_reducible refine gate_dst (N := 2) rfl ?_); refine box_event ?hg1 (N := 2) ?hd1 (cs := #[.int .i64 x.f0, .string x.f1, .slice A x.f2.length c]) (t := 32) ?hr1 ?_; (case hd1 => rfl); (case hg1 => rfl); (case hr1 => first | (go_simp; done) | (go_simp; rfl)); intro gb1 hg w4 hbox hb; have HB := Aside0.mk hb; have BK1 := Aside0.mk hbox; clear hb hbox hg) | ((with_reducible refine gate_dst (N := 3) rfl ?_); refine box_event ?hg2 (N := 3) ?hd2 (cs := #[.int .i64 y.f0, .string y.f1, .slice B y.f2.length d]) (t := 32) ?hr2 ?_; (case hd2 => rfl); (case hg2 => rfl); (case hr2 => first | (go_simp; done) | (go_simp; rfl)); intro gb2 hg w5 hbox hb; have n1 := Aside0.mk (below_step HB.out hb); have n2 := Aside0.mk (blk_below BK1.out hb); have BK2 := Aside0.mk hbox; clear HB BK1 hb hbox hg; have HB := n1; have BK1 := n2; clear n1 n2))
  have hcx0 : w5.cell? ⟨gb1, 0, none⟩ = some (.int .i64 x.f0) := (blk_cell BK1.out 0).trans rfl
  have hcx1 : w5.cell? ⟨gb1, 1, none⟩ = some (.string x.f1) := (blk_cell BK1.out 1).trans rfl
  have hcx2 : w5.cell? ⟨gb1, 2, none⟩ = some (.slice A x.f2.length c) := (blk_cell BK1.out 2).trans rfl
  have hcy0 : w5.cell? ⟨gb2, 0, none⟩ = some (.int .i64 y.f0) := (blk_cell BK2.out 0).trans rfl
  have hcy1 : w5.cell? ⟨gb2, 1, none⟩ = some (.string y.f1) := (blk_cell BK2.out 1).trans rfl
  have hcy2 : w5.cell? ⟨gb2, 2, none⟩ = some (.slice B y.f2.length d) := (blk_cell BK2.out 2).trans rfl
  go_wp2_with fail
  refine Calls.mono (brooklaw1_Great.calls k x.f0 x.f1 A c x.f2 true _ (Kd.C_below HX.out HB.out) HC.out HG.out) ?_
  rintro e w6 ⟨rfl, hb⟩
  have n1 := Aside0.mk (below_step HB.out hb)
  have n2 := Aside0.mk (blk_below BK1.out hb)
  have n3 := Aside0.mk (blk_below BK2.out hb)
  clear HB BK1 BK2 hb
  have HB := n1; have BK1 := n2; have BK2 := n3
  clear n1 n2 n3
  clear hcx0 hcx1 hcx2 hcy0 hcy1 hcy2
  go_wp2_with fail
  refine Calls.mono (BerAwake.awake_calls _) ?_
  rintro e wz ⟨rfl, hb⟩
  have HBz := Aside0.mk (below_step HB.out hb)
  clear hb
  go_wp2
  go_ret
  exact ⟨rfl, HBz.out⟩

set_option maxHeartbeats 8000000 in
set_option maxRecDepth 100000 in
theorem great2 (x y : S32) (A B : Option Addr) (c d : Nat) (w : World) (hc : x.f2.length ≤ c) (hd : y.f2.length ≤ d) (hx : Kd.C k32 w A x.f2.length x.f2) (hy : Kd.C k32 w B y.f2.length y.f2) (k l : Nat) (hg : brooklaw1_Great.f k x.f0 x.f1 x.f2 = some false ∧ brooklaw1_Great.f l y.f0 y.f1 y.f2 = some true) :
    Calls Try.prog 4 #[.agg #[.int .i64 x.f0, .string x.f1, .slice A x.f2.length c], .agg #[.int .i64 y.f0, .string y.f1, .slice B y.f2.length d]] w fun e w' => e = .returned (.bool true) ∧ Below w.heap.size w w' := by
  have hu32 := Try.underlying32
  have HX := Aside0.mk hx
  have HY := Aside0.mk hy
  have HC := Aside0.mk hc
  have HD := Aside0.mk hd
  have HG := Aside0.mk hg
  clear hx hy hc hd hg
  go_enter Try.func4, Try.ntmps4
  go_upto_region 1 with (first | ((with_reducible refine gate_dst (N := 2) rfl ?_); refine box_event ?hg1 (N := 2) ?hd1 (cs := #[.int .i64 x.f0, .string x.f1, .slice A x.f2.length c]) (t := 32) ?hr1 ?_; (case hd1 => rfl); (case hg1 => rfl); (case hr1 => first | (go_simp; done) | (go_simp; rfl)); intro gb1 hg w4 hbox hb; have HB := Aside0.mk hb; have BK1 := Aside0.mk hbox; clear hb hbox hg) | ((with_reducible refine gate_dst (N := 3) rfl ?_); refine box_event ?hg2 (N := 3) ?hd2 (cs := #[.int .i64 y.f0, .string y.f1, .slice B y.f2.length d]) (t := 32) ?hr2 ?_; (case hd2 => rfl); (case hg2 => rfl); (case hr2 => first | (go_simp; done) | (go_simp; rfl)); intro gb2 hg w5 hbox hb; have n1 := Aside0.mk (below_step HB.out hb); have n2 := Aside0.mk (blk_below BK1.out hb); have BK2 := Aside0.mk hbox; clear HB BK1 hb hbox hg; have HB := n1; have BK1 := n2; clear n1 n2))
  have hcx0 : w5.cell? ⟨gb1, 0, none⟩ = some (.int .i64 x.f0) := (blk_cell BK1.out 0).trans rfl
  have hcx1 : w5.cell? ⟨gb1, 1, none⟩ = some (.string x.f1) := (blk_cell BK1.out 1).trans rfl
  have hcx2 : w5.cell? ⟨gb1, 2, none⟩ = some (.slice A x.f2.length c) := (blk_cell BK1.out 2).trans rfl
  have hcy0 : w5.cell? ⟨gb2, 0, none⟩ = some (.int .i64 y.f0) := (blk_cell BK2.out 0).trans rfl
  have hcy1 : w5.cell? ⟨gb2, 1, none⟩ = some (.string y.f1) := (blk_cell BK2.out 1).trans rfl
  have hcy2 : w5.cell? ⟨gb2, 2, none⟩ = some (.slice B y.f2.length d) := (blk_cell BK2.out 2).trans rfl
  go_wp2_with fail
  refine Calls.mono (brooklaw1_Great.calls k x.f0 x.f1 A c x.f2 false _ (Kd.C_below HX.out HB.out) HC.out HG.out.1) ?_
  rintro e w6 ⟨rfl, hb⟩
  have n1 := Aside0.mk (below_step HB.out hb)
  have n2 := Aside0.mk (blk_below BK1.out hb)
  have n3 := Aside0.mk (blk_below BK2.out hb)
  clear HB BK1 BK2 hb
  have HB := n1; have BK1 := n2; have BK2 := n3
  clear n1 n2 n3
  clear hcx0 hcx1 hcx2 hcy0 hcy1 hcy2
  have hcx0 : w6.cell? ⟨gb1, 0, none⟩ = some (.int .i64 x.f0) := (blk_cell BK1.out 0).trans rfl
  have hcx1 : w6.cell? ⟨gb1, 1, none⟩ = some (.string x.f1) := (blk_cell BK1.out 1).trans rfl
  have hcx2 : w6.cell? ⟨gb1, 2, none⟩ = some (.slice A x.f2.length c) := (blk_cell BK1.out 2).trans rfl
  have hcy0 : w6.cell? ⟨gb2, 0, none⟩ = some (.int .i64 y.f0) := (blk_cell BK2.out 0).trans rfl
  have hcy1 : w6.cell? ⟨gb2, 1, none⟩ = some (.string y.f1) := (blk_cell BK2.out 1).trans rfl
  have hcy2 : w6.cell? ⟨gb2, 2, none⟩ = some (.slice B y.f2.length d) := (blk_cell BK2.out 2).trans rfl
  go_wp2_with fail
  refine Calls.mono (brooklaw1_Great.calls l y.f0 y.f1 B d y.f2 true _ (Kd.C_below HY.out HB.out) HD.out HG.out.2) ?_
  rintro e w7 ⟨rfl, hb⟩
  have n1 := Aside0.mk (below_step HB.out hb)
  have n2 := Aside0.mk (blk_below BK1.out hb)
  have n3 := Aside0.mk (blk_below BK2.out hb)
  clear HB BK1 BK2 hb
  have HB := n1; have BK1 := n2; have BK2 := n3
  clear n1 n2 n3
  clear hcx0 hcx1 hcx2 hcy0 hcy1 hcy2
  go_wp2_with fail
  refine Calls.mono (BerAwake.awake_calls _) ?_
  rintro e wz ⟨rfl, hb⟩
  have HBz := Aside0.mk (below_step HB.out hb)
  clear hb
  go_wp2
  go_ret
  exact ⟨rfl, HBz.out⟩

set_option maxHeartbeats 8000000 in
set_option maxRecDepth 100000 in
theorem all_yes (x y : S32) (A B : Option Addr) (c d : Nat) (w : World) (hc : x.f2.length ≤ c) (hd : y.f2.length ≤ d) (hx : Kd.C k32 w A x.f2.length x.f2) (hy : Kd.C k32 w B y.f2.length y.f2) (k l : Nat) (hg : brooklaw1_Great.f k x.f0 x.f1 x.f2 = some false ∧ brooklaw1_Great.f l y.f0 y.f1 y.f2 = some false ∧ wideT x ∧ ∃ n d, szT x = some (n, d)) :
    Calls Try.prog 4 #[.agg #[.int .i64 x.f0, .string x.f1, .slice A x.f2.length c], .agg #[.int .i64 y.f0, .string y.f1, .slice B y.f2.length d]] w fun e w' => e = .returned (.bool true) ∧ Below w.heap.size w w' := by
  have hu32 := Try.underlying32
  have HX := Aside0.mk hx
  have HY := Aside0.mk hy
  have HC := Aside0.mk hc
  have HD := Aside0.mk hd
  have HG := Aside0.mk hg
  clear hx hy hc hd hg
  go_enter Try.func4, Try.ntmps4
  go_upto_region 1 with (first | ((with_reducible refine gate_dst (N := 2) rfl ?_); refine box_event ?hg1 (N := 2) ?hd1 (cs := #[.int .i64 x.f0, .string x.f1, .slice A x.f2.length c]) (t := 32) ?hr1 ?_; (case hd1 => rfl); (case hg1 => rfl); (case hr1 => first | (go_simp; done) | (go_simp; rfl)); intro gb1 hg w4 hbox hb; have HB := Aside0.mk hb; have BK1 := Aside0.mk hbox; clear hb hbox hg) | ((with_reducible refine gate_dst (N := 3) rfl ?_); refine box_event ?hg2 (N := 3) ?hd2 (cs := #[.int .i64 y.f0, .string y.f1, .slice B y.f2.length d]) (t := 32) ?hr2 ?_; (case hd2 => rfl); (case hg2 => rfl); (case hr2 => first | (go_simp; done) | (go_simp; rfl)); intro gb2 hg w5 hbox hb; have n1 := Aside0.mk (below_step HB.out hb); have n2 := Aside0.mk (blk_below BK1.out hb); have BK2 := Aside0.mk hbox; clear HB BK1 hb hbox hg; have HB := n1; have BK1 := n2; clear n1 n2))
  have hcx0 : w5.cell? ⟨gb1, 0, none⟩ = some (.int .i64 x.f0) := (blk_cell BK1.out 0).trans rfl
  have hcx1 : w5.cell? ⟨gb1, 1, none⟩ = some (.string x.f1) := (blk_cell BK1.out 1).trans rfl
  have hcx2 : w5.cell? ⟨gb1, 2, none⟩ = some (.slice A x.f2.length c) := (blk_cell BK1.out 2).trans rfl
  have hcy0 : w5.cell? ⟨gb2, 0, none⟩ = some (.int .i64 y.f0) := (blk_cell BK2.out 0).trans rfl
  have hcy1 : w5.cell? ⟨gb2, 1, none⟩ = some (.string y.f1) := (blk_cell BK2.out 1).trans rfl
  have hcy2 : w5.cell? ⟨gb2, 2, none⟩ = some (.slice B y.f2.length d) := (blk_cell BK2.out 2).trans rfl
  go_wp2_with fail
  refine Calls.mono (brooklaw1_Great.calls k x.f0 x.f1 A c x.f2 false _ (Kd.C_below HX.out HB.out) HC.out HG.out.1) ?_
  rintro e w6 ⟨rfl, hb⟩
  have n1 := Aside0.mk (below_step HB.out hb)
  have n2 := Aside0.mk (blk_below BK1.out hb)
  have n3 := Aside0.mk (blk_below BK2.out hb)
  clear HB BK1 BK2 hb
  have HB := n1; have BK1 := n2; have BK2 := n3
  clear n1 n2 n3
  clear hcx0 hcx1 hcx2 hcy0 hcy1 hcy2
  have hcx0 : w6.cell? ⟨gb1, 0, none⟩ = some (.int .i64 x.f0) := (blk_cell BK1.out 0).trans rfl
  have hcx1 : w6.cell? ⟨gb1, 1, none⟩ = some (.string x.f1) := (blk_cell BK1.out 1).trans rfl
  have hcx2 : w6.cell? ⟨gb1, 2, none⟩ = some (.slice A x.f2.length c) := (blk_cell BK1.out 2).trans rfl
  have hcy0 : w6.cell? ⟨gb2, 0, none⟩ = some (.int .i64 y.f0) := (blk_cell BK2.out 0).trans rfl
  have hcy1 : w6.cell? ⟨gb2, 1, none⟩ = some (.string y.f1) := (blk_cell BK2.out 1).trans rfl
  have hcy2 : w6.cell? ⟨gb2, 2, none⟩ = some (.slice B y.f2.length d) := (blk_cell BK2.out 2).trans rfl
  go_wp2_with fail
  refine Calls.mono (brooklaw1_Great.calls l y.f0 y.f1 B d y.f2 false _ (Kd.C_below HY.out HB.out) HD.out HG.out.2.1) ?_
  rintro e w7 ⟨rfl, hb⟩
  have n1 := Aside0.mk (below_step HB.out hb)
  have n2 := Aside0.mk (blk_below BK1.out hb)
  have n3 := Aside0.mk (blk_below BK2.out hb)
  clear HB BK1 BK2 hb
  have HB := n1; have BK1 := n2; have BK2 := n3
  clear n1 n2 n3
  clear hcx0 hcx1 hcx2 hcy0 hcy1 hcy2
  have hcx0 : w7.cell? ⟨gb1, 0, none⟩ = some (.int .i64 x.f0) := (blk_cell BK1.out 0).trans rfl
  have hcx1 : w7.cell? ⟨gb1, 1, none⟩ = some (.string x.f1) := (blk_cell BK1.out 1).trans rfl
  have hcx2 : w7.cell? ⟨gb1, 2, none⟩ = some (.slice A x.f2.length c) := (blk_cell BK1.out 2).trans rfl
  have hcy0 : w7.cell? ⟨gb2, 0, none⟩ = some (.int .i64 y.f0) := (blk_cell BK2.out 0).trans rfl
  have hcy1 : w7.cell? ⟨gb2, 1, none⟩ = some (.string y.f1) := (blk_cell BK2.out 1).trans rfl
  have hcy2 : w7.cell? ⟨gb2, 2, none⟩ = some (.slice B y.f2.length d) := (blk_cell BK2.out 2).trans rfl
  have HW : Aside0 (wideT x) := ⟨HG.out.2.2.1⟩
  have HM : Aside0 (∃ k, ber_May.f k x.f0 x.f1 x.f2 = some true) := ⟨by obtain ⟨n, d, h⟩ := HG.out.2.2.2; have := may_ev x HG.out.2.2.1; rw [h] at this; exact this⟩
  obtain ⟨km, hkm⟩ := HM.out
  have HKM := Aside0.mk hkm
  clear hkm
  obtain ⟨ks, hks⟩ := same_ev x y HW.out
  have HKS := Aside0.mk hks
  clear hks
  have HS1 := Aside0.mk (show (szT x).isSome = true by obtain ⟨n, d, h⟩ := HG.out.2.2.2; rw [h]; rfl)
  go_wp2
  go_region_held3 (fun w' => w'.cell? ⟨gb1, 0, none⟩ = some (.int .i64 x.f0) ∧ w'.cell? ⟨gb1, 1, none⟩ = some (.string x.f1) ∧ w'.cell? ⟨gb1, 2, none⟩ = some (.slice A x.f2.length c) ∧ w'.cell? ⟨gb2, 0, none⟩ = some (.int .i64 y.f0) ∧ w'.cell? ⟨gb2, 1, none⟩ = some (.string y.f1) ∧ w'.cell? ⟨gb2, 2, none⟩ = some (.slice B y.f2.length d)) (exact ⟨(blk_cell BK1.out 0).trans rfl, (blk_cell BK1.out 1).trans rfl, (blk_cell BK1.out 2).trans rfl, (blk_cell BK2.out 0).trans rfl, (blk_cell BK2.out 1).trans rfl, (blk_cell BK2.out 2).trans rfl⟩)
    (first | (go_at_call 24; refine Calls.mono (ber_May.calls km x.f0 x.f1 A c x.f2 _ _ (by first | exact Kd.C_below HX.out HB.out | exact Kd.C_drew (Kd.C_below HX.out HB.out)) HC.out HKM.out) ?_; rintro e wn ⟨rfl, hb⟩; have n1 := Aside0.mk (below_step (by first | exact HB.out | exact below_drew HB.out) hb); have n2 := Aside0.mk (blk_below (by first | exact BK1.out | exact blk_drew BK1.out) hb); have n3 := Aside0.mk (blk_below (by first | exact BK2.out | exact blk_drew BK2.out) hb); clear HB BK1 BK2 hb; have HB := n1; have BK1 := n2; have BK2 := n3; clear n1 n2 n3) | (go_at_call 25; refine Calls.mono (RefPut.May_calls x A c _ HW.out HC.out (by first | exact Kd.C_below HX.out HB.out | exact Kd.C_drew (Kd.C_below HX.out HB.out))) ?_; rw [HS1.out]; rintro e wn ⟨rfl, hb⟩; have n1 := Aside0.mk (below_step (by first | exact HB.out | exact below_drew HB.out) hb); have n2 := Aside0.mk (blk_below (by first | exact BK1.out | exact blk_drew BK1.out) hb); have n3 := Aside0.mk (blk_below (by first | exact BK2.out | exact blk_drew BK2.out) hb); clear HB BK1 BK2 hb; have HB := n1; have BK1 := n2; have BK2 := n3; clear n1 n2 n3) | (go_at_call 26; refine Calls.mono (BerPut.Put_yes km x A c _ (by first | exact Kd.C_below HX.out HB.out | exact Kd.C_drew (Kd.C_below HX.out HB.out)) HC.out HKM.out (by obtain ⟨n, d, h⟩ := HG.out.2.2.2; have := encT_small x n d h; omega)) ?_; rintro e wn ⟨rfl, hb⟩; have n1 := Aside0.mk (below_step (by first | exact HB.out | exact below_drew HB.out) hb); have n2 := Aside0.mk (blk_below (by first | exact BK1.out | exact blk_drew BK1.out) hb); have n3 := Aside0.mk (blk_below (by first | exact BK2.out | exact blk_drew BK2.out) hb); clear HB BK1 BK2 hb; have HB := n1; have BK1 := n2; have BK2 := n3; clear n1 n2 n3) | (go_at_call 27; refine Calls.mono (RefPut.PutTlv_yes x A c _ HW.out HC.out (by first | exact Kd.C_below HX.out HB.out | exact Kd.C_drew (Kd.C_below HX.out HB.out)) HG.out.2.2.2) ?_; rintro e wn ⟨rfl, hb⟩; have n1 := Aside0.mk (below_step (by first | exact HB.out | exact below_drew HB.out) hb); have n2 := Aside0.mk (blk_below (by first | exact BK1.out | exact blk_drew BK1.out) hb); have n3 := Aside0.mk (blk_below (by first | exact BK2.out | exact blk_drew BK2.out) hb); clear HB BK1 BK2 hb; have HB := n1; have BK1 := n2; have BK2 := n3; clear n1 n2 n3) | (go_at_call 28; refine Calls.mono (same_said _ _ _ _ _ _ _ ?q1 ?q2 ?q3 ?q4) ?_; (case q1 => exact HC.out); (case q2 => first | exact HD.out | exact HC.out); (case q3 => first | exact Kd.C_below HX.out HB.out | exact Kd.C_drew (Kd.C_below HX.out HB.out)); (case q4 => first | exact Kd.C_below HY.out HB.out | exact Kd.C_below HX.out HB.out | exact Kd.C_drew (Kd.C_below HY.out HB.out)); (try rw [sameT_refl]); rintro e wn ⟨rfl, hb⟩; have n1 := Aside0.mk (below_step (by first | exact HB.out | exact below_drew HB.out) hb); have n2 := Aside0.mk (blk_below (by first | exact BK1.out | exact blk_drew BK1.out) hb); have n3 := Aside0.mk (blk_below (by first | exact BK2.out | exact blk_drew BK2.out) hb); clear HB BK1 BK2 hb; have HB := n1; have BK1 := n2; have BK2 := n3; clear n1 n2 n3) | (go_at_call 29; refine Calls.mono (brookref1_SameTlv.calls ks x.f0 x.f1 A c x.f2 y.f0 y.f1 B d y.f2 _ _ (by first | exact Kd.C_below HX.out HB.out | exact Kd.C_drew (Kd.C_below HX.out HB.out)) HC.out (by first | exact Kd.C_below HY.out HB.out | exact Kd.C_drew (Kd.C_below HY.out HB.out)) HD.out HKS.out) ?_; rintro e wn ⟨rfl, hb⟩; have n1 := Aside0.mk (below_step (by first | exact HB.out | exact below_drew HB.out) hb); have n2 := Aside0.mk (blk_below (by first | exact BK1.out | exact blk_drew BK1.out) hb); have n3 := Aside0.mk (blk_below (by first | exact BK2.out | exact blk_drew BK2.out) hb); clear HB BK1 BK2 hb; have HB := n1; have BK1 := n2; have BK2 := n3; clear n1 n2 n3) | (go_at_call 18; refine Calls.mono (BerAwake.awake_calls _) ?_; rintro e wn ⟨rfl, hb⟩; have n1 := Aside0.mk (below_step (by first | exact HB.out | exact below_drew HB.out) hb); have n2 := Aside0.mk (blk_below (by first | exact BK1.out | exact blk_drew BK1.out) hb); have n3 := Aside0.mk (blk_below (by first | exact BK2.out | exact blk_drew BK2.out) hb); clear HB BK1 BK2 hb; have HB := n1; have BK1 := n2; have BK2 := n3; clear n1 n2 n3))
  go_wp2
  go_ret
  exact ⟨rfl, HB.out⟩

set_option maxHeartbeats 8000000 in
set_option maxRecDepth 100000 in
theorem all_no (x y : S32) (A B : Option Addr) (c d : Nat) (w : World) (hc : x.f2.length ≤ c) (hd : y.f2.length ≤ d) (hx : Kd.C k32 w A x.f2.length x.f2) (hy : Kd.C k32 w B y.f2.length y.f2) (k l : Nat) (hg : brooklaw1_Great.f k x.f0 x.f1 x.f2 = some false ∧ brooklaw1_Great.f l y.f0 y.f1 y.f2 = some false ∧ wideT x ∧ szT x = none) :
    Calls Try.prog 4 #[.agg #[.int .i64 x.f0, .string x.f1, .slice A x.f2.length c], .agg #[.int .i64 y.f0, .string y.f1, .slice B y.f2.length d]] w fun e w' => e = .returned (.bool true) ∧ Below w.heap.size w w' := by
  have hu32 := Try.underlying32
  have HX := Aside0.mk hx
  have HY := Aside0.mk hy
  have HC := Aside0.mk hc
  have HD := Aside0.mk hd
  have HG := Aside0.mk hg
  clear hx hy hc hd hg
  go_enter Try.func4, Try.ntmps4
  go_upto_region 1 with (first | ((with_reducible refine gate_dst (N := 2) rfl ?_); refine box_event ?hg1 (N := 2) ?hd1 (cs := #[.int .i64 x.f0, .string x.f1, .slice A x.f2.length c]) (t := 32) ?hr1 ?_; (case hd1 => rfl); (case hg1 => rfl); (case hr1 => first | (go_simp; done) | (go_simp; rfl)); intro gb1 hg w4 hbox hb; have HB := Aside0.mk hb; have BK1 := Aside0.mk hbox; clear hb hbox hg) | ((with_reducible refine gate_dst (N := 3) rfl ?_); refine box_event ?hg2 (N := 3) ?hd2 (cs := #[.int .i64 y.f0, .string y.f1, .slice B y.f2.length d]) (t := 32) ?hr2 ?_; (case hd2 => rfl); (case hg2 => rfl); (case hr2 => first | (go_simp; done) | (go_simp; rfl)); intro gb2 hg w5 hbox hb; have n1 := Aside0.mk (below_step HB.out hb); have n2 := Aside0.mk (blk_below BK1.out hb); have BK2 := Aside0.mk hbox; clear HB BK1 hb hbox hg; have HB := n1; have BK1 := n2; clear n1 n2))
  have hcx0 : w5.cell? ⟨gb1, 0, none⟩ = some (.int .i64 x.f0) := (blk_cell BK1.out 0).trans rfl
  have hcx1 : w5.cell? ⟨gb1, 1, none⟩ = some (.string x.f1) := (blk_cell BK1.out 1).trans rfl
  have hcx2 : w5.cell? ⟨gb1, 2, none⟩ = some (.slice A x.f2.length c) := (blk_cell BK1.out 2).trans rfl
  have hcy0 : w5.cell? ⟨gb2, 0, none⟩ = some (.int .i64 y.f0) := (blk_cell BK2.out 0).trans rfl
  have hcy1 : w5.cell? ⟨gb2, 1, none⟩ = some (.string y.f1) := (blk_cell BK2.out 1).trans rfl
  have hcy2 : w5.cell? ⟨gb2, 2, none⟩ = some (.slice B y.f2.length d) := (blk_cell BK2.out 2).trans rfl
  go_wp2_with fail
  refine Calls.mono (brooklaw1_Great.calls k x.f0 x.f1 A c x.f2 false _ (Kd.C_below HX.out HB.out) HC.out HG.out.1) ?_
  rintro e w6 ⟨rfl, hb⟩
  have n1 := Aside0.mk (below_step HB.out hb)
  have n2 := Aside0.mk (blk_below BK1.out hb)
  have n3 := Aside0.mk (blk_below BK2.out hb)
  clear HB BK1 BK2 hb
  have HB := n1; have BK1 := n2; have BK2 := n3
  clear n1 n2 n3
  clear hcx0 hcx1 hcx2 hcy0 hcy1 hcy2
  have hcx0 : w6.cell? ⟨gb1, 0, none⟩ = some (.int .i64 x.f0) := (blk_cell BK1.out 0).trans rfl
  have hcx1 : w6.cell? ⟨gb1, 1, none⟩ = some (.string x.f1) := (blk_cell BK1.out 1).trans rfl
  have hcx2 : w6.cell? ⟨gb1, 2, none⟩ = some (.slice A x.f2.length c) := (blk_cell BK1.out 2).trans rfl
  have hcy0 : w6.cell? ⟨gb2, 0, none⟩ = some (.int .i64 y.f0) := (blk_cell BK2.out 0).trans rfl
  have hcy1 : w6.cell? ⟨gb2, 1, none⟩ = some (.string y.f1) := (blk_cell BK2.out 1).trans rfl
  have hcy2 : w6.cell? ⟨gb2, 2, none⟩ = some (.slice B y.f2.length d) := (blk_cell BK2.out 2).trans rfl
  go_wp2_with fail
  refine Calls.mono (brooklaw1_Great.calls l y.f0 y.f1 B d y.f2 false _ (Kd.C_below HY.out HB.out) HD.out HG.out.2.1) ?_
  rintro e w7 ⟨rfl, hb⟩
  have n1 := Aside0.mk (below_step HB.out hb)
  have n2 := Aside0.mk (blk_below BK1.out hb)
  have n3 := Aside0.mk (blk_below BK2.out hb)
  clear HB BK1 BK2 hb
  have HB := n1; have BK1 := n2; have BK2 := n3
  clear n1 n2 n3
  clear hcx0 hcx1 hcx2 hcy0 hcy1 hcy2
  have hcx0 : w7.cell? ⟨gb1, 0, none⟩ = some (.int .i64 x.f0) := (blk_cell BK1.out 0).trans rfl
  have hcx1 : w7.cell? ⟨gb1, 1, none⟩ = some (.string x.f1) := (blk_cell BK1.out 1).trans rfl
  have hcx2 : w7.cell? ⟨gb1, 2, none⟩ = some (.slice A x.f2.length c) := (blk_cell BK1.out 2).trans rfl
  have hcy0 : w7.cell? ⟨gb2, 0, none⟩ = some (.int .i64 y.f0) := (blk_cell BK2.out 0).trans rfl
  have hcy1 : w7.cell? ⟨gb2, 1, none⟩ = some (.string y.f1) := (blk_cell BK2.out 1).trans rfl
  have hcy2 : w7.cell? ⟨gb2, 2, none⟩ = some (.slice B y.f2.length d) := (blk_cell BK2.out 2).trans rfl
  have HW : Aside0 (wideT x) := ⟨HG.out.2.2.1⟩
  have HM : Aside0 (∃ k, ber_May.f k x.f0 x.f1 x.f2 = some false) := ⟨by have h := HG.out.2.2.2; have := may_ev x HG.out.2.2.1; rw [h] at this; exact this⟩
  obtain ⟨km, hkm⟩ := HM.out
  have HKM := Aside0.mk hkm
  clear hkm
  obtain ⟨ks, hks⟩ := same_ev x y HW.out
  have HKS := Aside0.mk hks
  clear hks
  have HS1 := Aside0.mk (show (szT x).isSome = false by rw [HG.out.2.2.2]; rfl)
  go_wp2
  go_region_held3 (fun w' => w'.cell? ⟨gb1, 0, none⟩ = some (.int .i64 x.f0) ∧ w'.cell? ⟨gb1, 1, none⟩ = some (.string x.f1) ∧ w'.cell? ⟨gb1, 2, none⟩ = some (.slice A x.f2.length c) ∧ w'.cell? ⟨gb2, 0, none⟩ = some (.int .i64 y.f0) ∧ w'.cell? ⟨gb2, 1, none⟩ = some (.string y.f1) ∧ w'.cell? ⟨gb2, 2, none⟩ = some (.slice B y.f2.length d)) (exact ⟨(blk_cell BK1.out 0).trans rfl, (blk_cell BK1.out 1).trans rfl, (blk_cell BK1.out 2).trans rfl, (blk_cell BK2.out 0).trans rfl, (blk_cell BK2.out 1).trans rfl, (blk_cell BK2.out 2).trans rfl⟩)
    (first | (go_at_call 24; refine Calls.mono (ber_May.calls km x.f0 x.f1 A c x.f2 _ _ (by first | exact Kd.C_below HX.out HB.out | exact Kd.C_drew (Kd.C_below HX.out HB.out)) HC.out HKM.out) ?_; rintro e wn ⟨rfl, hb⟩; have n1 := Aside0.mk (below_step (by first | exact HB.out | exact below_drew HB.out) hb); have n2 := Aside0.mk (blk_below (by first | exact BK1.out | exact blk_drew BK1.out) hb); have n3 := Aside0.mk (blk_below (by first | exact BK2.out | exact blk_drew BK2.out) hb); clear HB BK1 BK2 hb; have HB := n1; have BK1 := n2; have BK2 := n3; clear n1 n2 n3) | (go_at_call 25; refine Calls.mono (RefPut.May_calls x A c _ HW.out HC.out (by first | exact Kd.C_below HX.out HB.out | exact Kd.C_drew (Kd.C_below HX.out HB.out))) ?_; rw [HS1.out]; rintro e wn ⟨rfl, hb⟩; have n1 := Aside0.mk (below_step (by first | exact HB.out | exact below_drew HB.out) hb); have n2 := Aside0.mk (blk_below (by first | exact BK1.out | exact blk_drew BK1.out) hb); have n3 := Aside0.mk (blk_below (by first | exact BK2.out | exact blk_drew BK2.out) hb); clear HB BK1 BK2 hb; have HB := n1; have BK1 := n2; have BK2 := n3; clear n1 n2 n3) | (go_at_call 26; refine Calls.mono (BerPut.Put_no km x A c _ (by first | exact Kd.C_below HX.out HB.out | exact Kd.C_drew (Kd.C_below HX.out HB.out)) HC.out HKM.out) ?_; rintro e wn ⟨rfl, hb⟩; have n1 := Aside0.mk (below_step (by first | exact HB.out | exact below_drew HB.out) hb); have n2 := Aside0.mk (blk_below (by first | exact BK1.out | exact blk_drew BK1.out) hb); have n3 := Aside0.mk (blk_below (by first | exact BK2.out | exact blk_drew BK2.out) hb); clear HB BK1 BK2 hb; have HB := n1; have BK1 := n2; have BK2 := n3; clear n1 n2 n3) | (go_at_call 27; refine Calls.mono (RefPut.PutTlv_no x A c _ HW.out HC.out (by first | exact Kd.C_below HX.out HB.out | exact Kd.C_drew (Kd.C_below HX.out HB.out)) HG.out.2.2.2) ?_; rintro e wn ⟨rfl, hb⟩; have n1 := Aside0.mk (below_step (by first | exact HB.out | exact below_drew HB.out) hb); have n2 := Aside0.mk (blk_below (by first | exact BK1.out | exact blk_drew BK1.out) hb); have n3 := Aside0.mk (blk_below (by first | exact BK2.out | exact blk_drew BK2.out) hb); clear HB BK1 BK2 hb; have HB := n1; have BK1 := n2; have BK2 := n3; clear n1 n2 n3) | (go_at_call 28; refine Calls.mono (same_said _ _ _ _ _ _ _ ?q1 ?q2 ?q3 ?q4) ?_; (case q1 => exact HC.out); (case q2 => first | exact HD.out | exact HC.out); (case q3 => first | exact Kd.C_below HX.out HB.out | exact Kd.C_drew (Kd.C_below HX.out HB.out)); (case q4 => first | exact Kd.C_below HY.out HB.out | exact Kd.C_below HX.out HB.out | exact Kd.C_drew (Kd.C_below HY.out HB.out)); (try rw [sameT_refl]); rintro e wn ⟨rfl, hb⟩; have n1 := Aside0.mk (below_step (by first | exact HB.out | exact below_drew HB.out) hb); have n2 := Aside0.mk (blk_below (by first | exact BK1.out | exact blk_drew BK1.out) hb); have n3 := Aside0.mk (blk_below (by first | exact BK2.out | exact blk_drew BK2.out) hb); clear HB BK1 BK2 hb; have HB := n1; have BK1 := n2; have BK2 := n3; clear n1 n2 n3) | (go_at_call 29; refine Calls.mono (brookref1_SameTlv.calls ks x.f0 x.f1 A c x.f2 y.f0 y.f1 B d y.f2 _ _ (by first | exact Kd.C_below HX.out HB.out | exact Kd.C_drew (Kd.C_below HX.out HB.out)) HC.out (by first | exact Kd.C_below HY.out HB.out | exact Kd.C_drew (Kd.C_below HY.out HB.out)) HD.out HKS.out) ?_; rintro e wn ⟨rfl, hb⟩; have n1 := Aside0.mk (below_step (by first | exact HB.out | exact below_drew HB.out) hb); have n2 := Aside0.mk (blk_below (by first | exact BK1.out | exact blk_drew BK1.out) hb); have n3 := Aside0.mk (blk_below (by first | exact BK2.out | exact blk_drew BK2.out) hb); clear HB BK1 BK2 hb; have HB := n1; have BK1 := n2; have BK2 := n3; clear n1 n2 n3) | (go_at_call 18; refine Calls.mono (BerAwake.awake_calls _) ?_; rintro e wn ⟨rfl, hb⟩; have n1 := Aside0.mk (below_step (by first | exact HB.out | exact below_drew HB.out) hb); have n2 := Aside0.mk (blk_below (by first | exact BK1.out | exact blk_drew BK1.out) hb); have n3 := Aside0.mk (blk_below (by first | exact BK2.out | exact blk_drew BK2.out) hb); clear HB BK1 BK2 hb; have HB := n1; have BK1 := n2; have BK2 := n3; clear n1 n2 n3))
  go_wp2
  go_ret
  exact ⟨rfl, HB.out⟩

theorem all (x y : S32) (A B : Option Addr) (c d : Nat) (w : World) (hc : x.f2.length ≤ c) (hd : y.f2.length ≤ d) (hx : Kd.C k32 w A x.f2.length x.f2) (hy : Kd.C k32 w B y.f2.length y.f2) :
    Calls Try.prog 4 #[.agg #[.int .i64 x.f0, .string x.f1, .slice A x.f2.length c], .agg #[.int .i64 y.f0, .string y.f1, .slice B y.f2.length d]] w fun e w' => e = .returned (.bool true) ∧ Below w.heap.size w w' := by
  obtain ⟨g, ⟨k, hk⟩, hg⟩ := great_ev x
  obtain ⟨g', ⟨l, hl⟩, hg'⟩ := great_ev y
  cases g
  · cases g'
    · cases hs : szT x with
      | none => exact all_no x y A B c d w hc hd hx hy k l ⟨hk, hl, hg rfl, hs⟩
      | some nd => exact all_yes x y A B c d w hc hd hx hy k l ⟨hk, hl, hg rfl, nd.1, nd.2, hs⟩
    · exact great2 x y A B c d w hc hd hx hy k l ⟨hk, hl⟩
  · exact great1 x y A B c d w hc hd hx hy k hk
end Go.Proofs.Ytmgkflkpompchaa.BerAll
