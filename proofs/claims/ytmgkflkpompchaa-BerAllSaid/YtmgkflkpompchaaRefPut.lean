/- brookref1.MayTlv, put, PutTlv: called with any tlv that the memory holds and that is not too wide they tell whether it may be, and its bytes. -/
import Derived.Test.YtmgkflkpompchaaRefSize
namespace Go.Proofs.Ytmgkflkpompchaa.RefPut
open Go.RowKit Go.Proofs.YtmgkflkpompchaaW.PrintWords Go.Proofs.YtmgkflkpompchaaW.PrintLast Go.Proofs.YtmgkflkpompchaaW.PrintMore
open Go.Proofs.Ytmgkflkpompchaa.PBerAll Go.Proofs.Ytmgkflkpompchaa.Mem Go.Proofs.Ytmgkflkpompchaa.Enc Go.Proofs.Ytmgkflkpompchaa.RefSize
set_option linter.unusedVariables false
set_option linter.unusedSimpArgs false

set_option maxHeartbeats 1000000 in
set_option maxRecDepth 100000 in
theorem May_calls (x : S32) (A : Option Addr) (c : Nat) (w : World) (hw : wideT x) (hc : x.f2.length ≤ c) (hr : Kd.C k32 w A x.f2.length x.f2) :
    Calls Try.prog 25 #[.agg #[.int .i64 x.f0, .string x.f1, .slice A x.f2.length c]] w fun e w' => e = .returned (.bool (szT x).isSome) ∧ Below w.heap.size w w' := by
  have hu32 := Try.underlying32
  have HR := Aside0.mk hr
  have HC := Aside0.mk hc
  have HW := Aside0.mk hw
  clear hr hc hw
  go_enter Try.func25, Try.ntmps25
  go_upto_region 1 with ((with_reducible refine gate_dst (N := 1) rfl ?_); refine box_event ?hg (N := 1) ?hd (cs := #[.int .i64 x.f0, .string x.f1, .slice A x.f2.length c]) (t := 32) ?hr ?_; (case hd => rfl); (case hg => rfl); (case hr => first | (go_simp; done) | (go_simp; rfl)); intro gb hg w4 hbox hb; have HB := Aside0.mk hb; have BK := Aside0.mk hbox; clear hb hbox hg)
  have hcz0 : w4.cell? ⟨gb, 0, none⟩ = some (.int .i64 x.f0) := (blk_cell BK.out 0).trans rfl
  have hcz1 : w4.cell? ⟨gb, 1, none⟩ = some (.string x.f1) := (blk_cell BK.out 1).trans rfl
  have hcz2 : w4.cell? ⟨gb, 2, none⟩ = some (.slice A x.f2.length c) := (blk_cell BK.out 2).trans rfl
  go_wp2_with fail
  refine Calls.mono (size_said x A c _ HW.out HC.out (Kd.C_below HR.out HB.out)) ?_
  rintro e w5 ⟨rfl, hb5⟩
  have HB5 := Aside0.mk (below_step HB.out hb5)
  clear hb5 HB BK hcz0 hcz1 hcz2
  cases hsz : szT x with
  | none =>
    have HF := Aside0.mk hsz
    clear hsz
    simp only [szR]
    go_wp2
    go_ret
    exact ⟨by rw [HF.out]; rfl, HB5.out⟩
  | some nd =>
    obtain ⟨n, d⟩ := nd
    have HF := Aside0.mk hsz
    clear hsz
    simp only [szR]
    go_wp2
    go_ret
    exact ⟨by rw [HF.out]; rfl, HB5.out⟩

/-- A row of bytes of one's own, as append makes it. -/
def ORow (w : World) (base : Nat) (v : Value) (xs : List Int) : Prop := w.ownsRow base 5 1 v xs.length (nums .u8 xs)
theorem info5 : (Try.prog.info? 5).map (fun i => (i.zero, i.size, i.bytes)) = some (some (.int .u8 0), 1, 1) := by kernel_rfl

/-- Behind some appends that began at the row b in the world w. -/
structure OSt (w0 w W : World) (b v : Value) (xs : List Int) : Prop where
  row : ORow W w0.heap.size v xs
  bel : Below w0.heap.size w0 W
  grown : w.grownBy W b.ownBlock
  own : v.ownBlock = b.ownBlock ∨ ∃ k, v.ownBlock = some k ∧ w.heap.size ≤ k
theorem OSt.start {w0 w : World} {b : Value} {xs : List Int} (h : ORow w w0.heap.size b xs) (hB : Below w0.heap.size w0 w) : OSt w0 w w b b xs := ⟨h, hB, World.grownBy.refl _ _, .inl rfl⟩
theorem OSt.step {w0 w W w1 : World} {b v v1 : Value} {xs ys : List Int} (h : OSt w0 w W b v xs) (hr : ORow w1 w0.heap.size v1 ys) (hB : Below w0.heap.size w0 w1) (hg : W.grownBy w1 v.ownBlock)
    (ha : v1.ownBlock = v.ownBlock ∨ ∃ k, v1.ownBlock = some k ∧ W.heap.size ≤ k) : OSt w0 w w1 b v1 ys := by
  refine ⟨hr, hB, ⟨hg.os.trans h.grown.os, hg.tape.trans h.grown.tape, hg.output.trans h.grown.output, Nat.le_trans h.grown.size hg.size, fun k hk hne => ?_⟩, ?_⟩
  · refine (hg.block k (Nat.lt_of_lt_of_le hk h.grown.size) ?_).trans (h.grown.block k hk hne)
    rcases h.own with h1 | ⟨k', h1, h2⟩
    · rw [h1]; exact hne
    · rw [h1]; intro e; injection e with e; omega
  · rcases ha with h1 | ⟨k', h1, h2⟩
    · rw [h1]; exact h.own
    · exact .inr ⟨k', h1, Nat.le_trans h.grown.size h2⟩
theorem OSt.below {w0 w W w1 : World} {b v : Value} {xs : List Int} (h : OSt w0 w W b v xs) (hb : Below W.heap.size W w1) : OSt w0 w w1 b v xs :=
  h.step (pw_own_below h.row hb) (below_then h.bel h.bel.size hb) (grown_of_below hb _) (.inl rfl)

section
variable {ops : Array Oper} {rest : List Oper} {o : Oper} {a : Act} {Q : Exit → Act → World → Prop}
theorem run_str (W : World) (base : Nat) (ty : TypeId) (v : Value) (xs : List Int) (HO : ORow W base v xs) (s : ByteArray) (hbase : base ≤ W.heap.size) (hl : xs.length + s.size ≤ 140737488355328) :
    ∃ v1 w1, (Builtin.append_ #[50, 9] ty #[v, .string s]).run Try.prog W = .ok v1 w1 ∧ ORow w1 base v1 (xs ++ bytesOf s) ∧ W.grownBy w1 v.ownBlock ∧ (v1.ownBlock = v.ownBlock ∨ ∃ k, v1.ownBlock = some k ∧ W.heap.size ≤ k) := by
  obtain ⟨i0, hi, hzz⟩ := Option.map_eq_some_iff.1 info5
  simp only [Prod.mk.injEq] at hzz
  obtain ⟨hz0, hz1, hz2⟩ := hzz
  have e1 : Lib.strCells s = nums .u8 (bytesOf s) := by simp [Lib.strCells, nums, bytesOf]
  obtain ⟨v1, w1, hr, h2, h3, h4⟩ := Lib.run_append_own_string (P := Try.prog) W base 50 9 ty 5 i0 Try.underlying50 Try.underlying9 hi hz0 hz1 hz2 v xs.length (nums .u8 xs) HO s (by simp only [maxLen]; omega) hl hbase
  refine ⟨v1, w1, hr, by rw [e1, ← nums_append] at h2; unfold ORow; rw [List.length_append, bytesOf_length]; exact h2, h3, ?_⟩
  rcases HO.2 with ⟨hv, h0⟩ | ⟨g, cap, cur, hv, hb, hh, hn, hm, hs, ht⟩
  · have hx : xs = [] := List.eq_nil_of_length_eq_zero h0
    subst hv hx
    obtain ⟨v2, w2, hr2, h5, _⟩ := Lib.run_append_own_string (P := Try.prog) W W.heap.size 50 9 ty 5 i0 Try.underlying50 Try.underlying9 hi hz0 hz1 hz2 (.slice none 0 0) 0 [] ⟨by simp, .inl ⟨rfl, rfl⟩⟩ s (by simp only [maxLen]; simp at hl; omega) (by simpa using hl) (Nat.le_refl _)
    rw [hr] at hr2
    injection hr2 with hr2 _
    subst hr2
    cases hk : v1.ownBlock with
    | none => exact .inl rfl
    | some k => exact .inr ⟨k, rfl, own_base h5 k hk⟩
  · subst hv
    by_cases hroom : xs.length + s.size ≤ cap
    · have := Lib.run_append_room_string (P := Try.prog) W 50 9 ty 5 i0 Try.underlying50 Try.underlying9 hi hz1 g xs.length cap cur hh s hroom (by omega)
      rw [hr] at this
      injection this with this _
      rw [this]
      exact .inl rfl
    · have hcell : ∀ j u, (nums .u8 xs)[j]? = some u → W.cell? ((⟨g, 0, none⟩ : Addr).add j) = some u := fun j u hj => HO.cells (g := g) rfl j u hj
      have := Lib.run_append_grow_string (P := Try.prog) W 50 9 ty 5 i0 (.int .u8 0) Try.underlying50 Try.underlying9 hi hz0 ⟨g, 0, none⟩ xs.length cap (nums .u8 xs) (by rw [nums_length, hz1]; omega) hcell s (by omega) (by omega) (by rw [hz2]; have := nextslicecap_le (need := xs.length + s.size) (old := cap) (by omega); omega)
      rw [hr] at this
      injection this with this _
      rw [this]
      exact .inr ⟨_, rfl, Nat.le_refl _⟩
theorem app_str {w0 w W : World} {b : Value} (hgd : o.guard = none) (sl x : Operand)
    (ho : o.op = .call { callee := .builtin .append, args := #[sl, x], argTypes := #[50, 9] })
    (v : Value) (xs : List Int) (hs : a.eval sl = v) (HO : OSt w0 w W b v xs) (s : ByteArray) (hx : a.eval x = .string s) (hl : xs.length + s.size ≤ 140737488355328)
    (h : ∀ v1 w1, OSt w0 w w1 b v1 (xs ++ bytesOf s) → W.grownBy w1 v.ownBlock → wpList Try.prog ops Q rest (a.put o.dst v1) w1) : wpList Try.prog ops Q (o :: rest) a W := by
  obtain ⟨v1, w1, hr, h1, h2, h3⟩ := run_str W w0.heap.size o.type v xs HO.row s HO.bel.size hl
  refine wpList_plain hgd fun K hK => ?_
  unfold Oper.wp execOp
  simp only [ho, resolve, invoke, builtin, Sem.run_bind, Sem.run_pure, Result.andThen_ok, List.map_toArray, List.map_cons, List.map_nil, hs, hx, hr]
  exact hK _ _ (h v1 w1 (HO.step h1 (HO.bel.grown h2 HO.bel.size (own_base HO.row)) h2 h3) h2)
theorem app_num {w0 w W : World} {b : Value} (hgd : o.guard = none) (s x : Operand)
    (ho : o.op = .call { callee := .builtin .append, args := #[s, x], argTypes := #[50, 50] })
    (v : Value) (xs : List Int) (y : Int) (hs : a.eval s = v) (hx : a.eval x = .slice (some ⟨W.heap.size, 0, none⟩) 1 1)
    (HO : OSt w0 w W b v xs) (hl : xs.length + 1 ≤ 140737488355328)
    (h : ∀ v1 w1, OSt w0 w w1 b v1 (xs ++ [y]) → W.grownBy w1 v.ownBlock → wpList Try.prog ops Q rest (a.put o.dst v1) w1) :
    wpList Try.prog ops Q (o :: rest) a (W.alloc (.cells #[.int .u8 y] 5)) :=
  print_append_num (w0 := w0) w0.heap.size hgd s x 50 5 .u8 1 ho Try.underlying50 info5 (by omega) v xs y hs hx HO.row HO.bel HO.bel.size (by omega) fun v1 w1 h1 h2 h3 h4 => h v1 w1 (HO.step h1 h2 h3 h4) h3
end

/-- What the reference's put asks of a tlv, and leaves. -/
def PutSaid (x : S32) : Prop := ∀ (A : Option Addr) (c : Nat) (b : Value) (xs : List Int) (w0 w : World), wideT x → (∃ n d, szT x = some (n, d)) → Below w0.heap.size w0 w → x.f2.length ≤ c → Kd.C k32 w0 A x.f2.length x.f2 → ORow w w0.heap.size b xs →
    xs.length + (encT x).length ≤ 1099511627776 →
    Calls Try.prog 62 #[b, .agg #[.int .i64 x.f0, .string x.f1, .slice A x.f2.length c]] w fun e w' =>
      ∃ v', e = .returned v' ∧ OSt w0 w w' b v' (xs ++ encT x)

set_option maxHeartbeats 4000000 in
set_option maxRecDepth 100000 in
theorem put_walk (t : Int) (s : ByteArray) (l : List S32) (hsub : ∀ y, y ∈ l → PutSaid y) : PutSaid ⟨t, s, l⟩ := by
  intro A c b xs w0 w hw hsz hB hc hr hb hlen
  obtain ⟨N, D, hsz⟩ := hsz
  dsimp only at hc hr ⊢
  have hu32 := Try.underlying32
  have hlm : l.length ≤ 9223372036854775807 := Kd.C_max hr
  have HB0 := Aside0.mk hB
  have HBR := Aside0.mk hb
  have HR := Aside0.mk hr
  have HC := Aside0.mk hc
  have HL := Aside0.mk hlen
  have HSUB := Aside0.mk hsub
  have HW := Aside0.mk hw
  have HT := Aside0.mk (show encT ⟨t, s, l⟩ = t % 256 :: (lenB N ++ (bytesOf s ++ encL l)) by rw [encT_eq, ← szT_enc _ N D hsz])
  have hN := szT_le _ N D hsz
  have HE := Aside0.mk (szT_enc _ N D hsz)
  have HSS := Aside0.mk (szT_sub _ N D hsz)
  have HSZ := Aside0.mk hsz
  have HX := Aside0.mk (show xs.length + N + 10 ≤ 2199023255552 by have := HL.out; omega)
  have hss : s.size ≤ N := by have := HE.out; dsimp only at this; omega
  clear hB hb hr hc hlen hsub hw hsz
  go_enter Try.func62, Try.ntmps62
  go_upto_region 1 with ((with_reducible refine gate_dst (N := 3) rfl ?_); refine box_event ?hg (N := 3) ?hd (cs := #[.int .i64 t, .string s, .slice A l.length c]) (t := 32) ?hr ?_; (case hd => rfl); (case hg => rfl); (case hr => first | (go_simp; done) | (go_simp; rfl)); intro gb hg w4 hbox hb; have BK := Aside0.mk hbox; have HO := Aside0.mk ((OSt.start HBR.out HB0.out).below hb); clear hb hbox hg)
  have hcz0 : w4.cell? ⟨gb, 0, none⟩ = some (.int .i64 t) := (blk_cell BK.out 0).trans rfl
  have hcz1 : w4.cell? ⟨gb, 1, none⟩ = some (.string s) := (blk_cell BK.out 1).trans rfl
  have hcz2 : w4.cell? ⟨gb, 2, none⟩ = some (.slice A l.length c) := (blk_cell BK.out 2).trans rfl
  go_wp2_with fail
  refine Calls.mono (size_said ⟨t, s, l⟩ A c _ HW.out HC.out (Kd.C_below HR.out HO.out.bel)) ?_
  rw [HSZ.out]
  rintro e w5 ⟨rfl, hb5⟩
  have BK5 := Aside0.mk (blk_below BK.out hb5)
  have HO5 := Aside0.mk (HO.out.below hb5)
  clear hb5 BK HO hcz0 hcz1 hcz2
  have hcz0 : w5.cell? ⟨gb, 0, none⟩ = some (.int .i64 t) := (blk_cell BK5.out 0).trans rfl
  simp only [szR]
  go_wp2_with (first | ((with_reducible refine gate_builtin (b := .append) (xs := #[.tmp 13, .tmp 17]) rfl ?_); at_builtin; refine app_num (w0 := w0) (w := w) (b := b) rfl (.tmp 13) (.tmp 17) rfl _ xs (t % 256) rfl rfl HO5.out (by have := HX.out; omega) ?_; intro v6 w6 h1 h2; have HO := Aside0.mk h1; have BK := Aside0.mk (blk_grown BK5.out h2 (own_ne HO5.out.row BK5.out (by decide))); clear h1 h2 HO5 BK5))
  obtain ⟨kf, hkf⟩ := reflen_f N hN
  have HKF := Aside0.mk hkf
  clear hkf
  refine Calls.mono (brookref1_length.calls kf (N : Int) _ _ HKF.out) ?_
  rintro e8 w8 ⟨rfl, hb8⟩
  have BK8 := Aside0.mk (blk_below BK.out hb8)
  have HO8 := Aside0.mk (HO.out.below hb8)
  clear hb8 HO BK hcz0
  have HLB := Aside0.mk (bytesOf_nums (lenB N) (lenB_bytes N))
  obtain ⟨lb1, lb2⟩ := lenB_len N hN
  have HLS := Aside0.mk (strOfNums_size (lenB N))
  generalize strOfNums (lenB N) = sk at HLB HLS
  have hsk : sk.size ≤ 8 := by rw [HLS.out]; omega
  go_upto_region 4 with ((with_reducible refine gate_builtin (b := .append) (xs := #[.tmp 19, .tmp 21]) rfl ?_); at_builtin; refine app_str (w0 := w0) (w := w) (b := b) rfl (.tmp 19) (.tmp 21) rfl _ (xs ++ [t % 256]) rfl HO8.out sk rfl (by have := HX.out; simp only [List.length_append, List.length_singleton]; omega) ?_; intro v9 w9 h1 h2; have HO := Aside0.mk h1; have BK := Aside0.mk (blk_grown BK8.out h2 (own_ne HO8.out.row BK8.out (by decide))); clear h1 h2 HO8 BK8)
  have hcz1 : w9.cell? ⟨gb, 1, none⟩ = some (.string s) := (blk_cell BK.out 1).trans rfl
  go_wp2_with ((with_reducible refine gate_builtin (b := .append) (xs := #[.tmp 23, .tmp 25]) rfl ?_); at_builtin; refine app_str (w0 := w0) (w := w) (b := b) rfl (.tmp 23) (.tmp 25) rfl _ (xs ++ [t % 256] ++ bytesOf sk) rfl HO.out s rfl (by have := HX.out; have := bytesOf_length sk; simp only [List.length_append, List.length_singleton]; omega) ?_; intro va wa h1 h2; have HOa := Aside0.mk h1; have BKa := Aside0.mk (blk_grown BK.out h2 (own_ne HO.out.row BK.out (by decide))); clear h1 h2 HO BK)
  clear hcz1
  rw [HLB.out] at HOa
  go_loopw [0, 7] (fun v0 v7 w' => ∃ j : Nat, j ≤ l.length ∧ v7 = .int .i64 j ∧ Aside0 (OSt w0 w w' b v0 (xs ++ [t % 256] ++ lenB N ++ bytesOf s ++ encL (l.take j))) ∧ Aside0 (w'.heap[gb]? = some (.cells #[.int .i64 t, .string s, .slice A l.length c] 32 (0, 0)))) (fun _ v7 _ => l.length - (intOf v7).toNat)
  case atStart => exact ⟨0, Nat.zero_le _, rfl, ⟨by simpa [encL] using HOa.out⟩, BKa⟩
  case round =>
    obtain ⟨j, hj, rfl, HO, BK⟩ := hrel
    have hcz2 : wr.cell? ⟨gb, 2, none⟩ = some (.slice A l.length c) := (blk_cell BK.out 2).trans rfl
    by_cases hlt : j < l.length
    · obtain ⟨ad, A2, c2, e2, hx0, hx1, hx2, hl2, hi2⟩ := at_T32 HR.out (j : Int) (by omega) (by omega)
      cases e2
      rw [show rd_T32 l (j : Int) = l[j] from by simp [rd_T32, List.getD_eq_getElem?_getD, List.getElem?_eq_getElem hlt]] at hx0 hx1 hx2 hl2 hi2
      have HY := Aside0.mk (List.getElem_mem hlt)
      have HTK := Aside0.mk (encL_take_len l j hlt)
      have HLE := Aside0.mk (encL_at l j hlt)
      generalize l[j] = y at hx0 hx1 hx2 hl2 hi2 HY HTK HLE
      simp only [Int.toNat_natCast] at hx0 hx1 hx2
      replace hx0 := (HO.out.bel.cell (World.block_lt_of_cell? w0 _ hx0)).trans hx0
      replace hx1 := (HO.out.bel.cell (World.block_lt_of_cell? w0 _ hx1)).trans hx1
      replace hx2 := (HO.out.bel.cell (World.block_lt_of_cell? w0 _ hx2)).trans hx2
      have HI2 := Aside0.mk hi2
      have HL2 := Aside0.mk hl2
      clear hi2 hl2
      go_wp2_with fail
      refine Calls.mono (HSUB.out y HY.out A2 c2 u0 (xs ++ [t % 256] ++ lenB N ++ bytesOf s ++ encL (l.take j)) w0 _ (wideL_mem _ (by have := HW.out; simp only [wideT] at this; exact this.2.2) y HY.out) (HSS.out y HY.out) HO.out.bel HL2.out HI2.out HO.out.row (by
        have h1 := HLE.out; have h3 := HL.out; have h6 := congrArg List.length HT.out
        simp only [List.length_append, List.length_cons] at h6
        simp only [List.length_append, List.length_singleton]; omega)) ?_
      rintro e w7 ⟨v7, rfl, h7⟩
      have n1 := Aside0.mk (HO.out.step h7.row h7.bel h7.grown h7.own)
      have n2 := Aside0.mk (blk_grown BK.out h7.grown (own_ne HO.out.row BK.out (by decide)))
      clear h7 hx0 hx1 hx2 hcz2 HO BK
      have HO := n1; have BK := n2
      clear n1 n2
      go_wp2
      go_roundw
      case measure => simp [intOf]; omega
      case rel => exact ⟨j + 1, by omega, by go_num, ⟨by rw [HTK.out, ← List.append_assoc]; exact HO.out⟩, BK⟩
    · obtain rfl : j = l.length := by omega
      rw [List.take_length] at HO
      go_wp2
      go_ret
      exact ⟨_, rfl, by rw [HT.out]; simpa using HO.out⟩

theorem put_all : ∀ n (x : S32), SizeOf.sizeOf x < n → PutSaid x
  | 0, x, h => by omega
  | n + 1, ⟨t, s, l⟩, h => put_walk t s l (fun y hy => put_all n y (by
    have := List.sizeOf_lt_of_mem hy
    simp at h
    omega))
theorem put_said (x : S32) : PutSaid x := put_all _ x (Nat.lt_succ_self _)

set_option maxHeartbeats 1000000 in
set_option maxRecDepth 100000 in
theorem PutTlv_yes (x : S32) (A : Option Addr) (c : Nat) (w : World) (hw : wideT x) (hc : x.f2.length ≤ c) (hr : Kd.C k32 w A x.f2.length x.f2) (hs : ∃ n d, szT x = some (n, d)) :
    Calls Try.prog 27 #[.agg #[.int .i64 x.f0, .string x.f1, .slice A x.f2.length c]] w fun e w' => e = .returned (.string (strOfNums (encT x))) ∧ Below w.heap.size w w' := by
  have hu32 := Try.underlying32
  have HR := Aside0.mk hr
  have HC := Aside0.mk hc
  have HW := Aside0.mk hw
  have HS := Aside0.mk hs
  clear hr hc hw hs
  go_enter Try.func27, Try.ntmps27
  go_upto_region 1 with ((with_reducible refine gate_dst (N := 1) rfl ?_); refine box_event ?hg (N := 1) ?hd (cs := #[.int .i64 x.f0, .string x.f1, .slice A x.f2.length c]) (t := 32) ?hr ?_; (case hd => rfl); (case hg => rfl); (case hr => first | (go_simp; done) | (go_simp; rfl)); intro gb hg w4 hbox hb; have HB := Aside0.mk hb; have BK := Aside0.mk hbox; clear hb hbox hg)
  have hcz0 : w4.cell? ⟨gb, 0, none⟩ = some (.int .i64 x.f0) := (blk_cell BK.out 0).trans rfl
  have hcz1 : w4.cell? ⟨gb, 1, none⟩ = some (.string x.f1) := (blk_cell BK.out 1).trans rfl
  have hcz2 : w4.cell? ⟨gb, 2, none⟩ = some (.slice A x.f2.length c) := (blk_cell BK.out 2).trans rfl
  go_wp2_with fail
  refine Calls.mono (May_calls x A c _ HW.out HC.out (Kd.C_below HR.out HB.out)) ?_
  rw [show (szT x).isSome = true by obtain ⟨n, d, h⟩ := HS.out; rw [h]; rfl]
  rintro e w5 ⟨rfl, hb5⟩
  have n1 := Aside0.mk (below_step HB.out hb5)
  have n2 := Aside0.mk (blk_below BK.out hb5)
  clear hcz0 hcz1 hcz2 HB BK hb5
  have HB := n1; have BK := n2
  clear n1 n2
  have hcz0 : w5.cell? ⟨gb, 0, none⟩ = some (.int .i64 x.f0) := (blk_cell BK.out 0).trans rfl
  have hcz1 : w5.cell? ⟨gb, 1, none⟩ = some (.string x.f1) := (blk_cell BK.out 1).trans rfl
  have hcz2 : w5.cell? ⟨gb, 2, none⟩ = some (.slice A x.f2.length c) := (blk_cell BK.out 2).trans rfl
  go_wp2_with fail
  refine Calls.mono (put_said x A c (.slice none 0 0) [] w _ HW.out HS.out HB.out HC.out HR.out (own_nil _ _ _ _) (by obtain ⟨n, d, h⟩ := HS.out; have := encT_small x n d h; simp; omega)) ?_
  rintro e w6 ⟨v6, rfl, h6⟩
  have HB6 := Aside0.mk h6.bel
  have hcv := own_string (P := Try.prog) Try.underlying50 Try.underlying5 Try.underlying9 h6.row
  rw [List.nil_append] at hcv
  clear h6 hcz0 hcz1 hcz2 HB BK
  go_wp2
  go_ret
  exact ⟨rfl, HB6.out⟩
set_option maxHeartbeats 1000000 in
set_option maxRecDepth 100000 in
theorem PutTlv_no (x : S32) (A : Option Addr) (c : Nat) (w : World) (hw : wideT x) (hc : x.f2.length ≤ c) (hr : Kd.C k32 w A x.f2.length x.f2) (hs : szT x = none) :
    Calls Try.prog 27 #[.agg #[.int .i64 x.f0, .string x.f1, .slice A x.f2.length c]] w fun e w' => e = .returned (.string ⟨#[]⟩) ∧ Below w.heap.size w w' := by
  have hu32 := Try.underlying32
  have HR := Aside0.mk hr
  have HC := Aside0.mk hc
  have HW := Aside0.mk hw
  have HS := Aside0.mk hs
  clear hr hc hw hs
  go_enter Try.func27, Try.ntmps27
  go_upto_region 1 with ((with_reducible refine gate_dst (N := 1) rfl ?_); refine box_event ?hg (N := 1) ?hd (cs := #[.int .i64 x.f0, .string x.f1, .slice A x.f2.length c]) (t := 32) ?hr ?_; (case hd => rfl); (case hg => rfl); (case hr => first | (go_simp; done) | (go_simp; rfl)); intro gb hg w4 hbox hb; have HB := Aside0.mk hb; have BK := Aside0.mk hbox; clear hb hbox hg)
  have hcz0 : w4.cell? ⟨gb, 0, none⟩ = some (.int .i64 x.f0) := (blk_cell BK.out 0).trans rfl
  have hcz1 : w4.cell? ⟨gb, 1, none⟩ = some (.string x.f1) := (blk_cell BK.out 1).trans rfl
  have hcz2 : w4.cell? ⟨gb, 2, none⟩ = some (.slice A x.f2.length c) := (blk_cell BK.out 2).trans rfl
  go_wp2_with fail
  refine Calls.mono (May_calls x A c _ HW.out HC.out (Kd.C_below HR.out HB.out)) ?_
  rw [HS.out]
  rintro e w5 ⟨rfl, hb5⟩
  have n1 := Aside0.mk (below_step HB.out hb5)
  have n2 := Aside0.mk (blk_below BK.out hb5)
  clear hcz0 hcz1 hcz2 HB BK hb5
  have HB := n1; have BK := n2
  clear n1 n2
  simp only [Option.isSome]
  go_wp2
  go_ret
  exact ⟨rfl, HB.out⟩

end Go.Proofs.Ytmgkflkpompchaa.RefPut
