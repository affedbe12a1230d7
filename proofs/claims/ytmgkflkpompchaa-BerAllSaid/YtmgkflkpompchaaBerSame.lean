/- ber.Same: called with any two tlvs that the memory holds it tells whether they are alike; nothing that was there is changed. No condition. -/
import Derived.Test.YtmgkflkpompchaaMem
import Derived.Test.YtmgkflkpompchaaEnc
namespace Go.Proofs.Ytmgkflkpompchaa.BerSame
open Go.RowKit Go.Proofs.YtmgkflkpompchaaW.PrintWords Go.Proofs.YtmgkflkpompchaaW.PrintLast Go.Proofs.YtmgkflkpompchaaW.PrintMore
open Go.Proofs.Ytmgkflkpompchaa.PBerAll Go.Proofs.Ytmgkflkpompchaa.Mem Go.Proofs.Ytmgkflkpompchaa.Enc
set_option linter.unusedVariables false
set_option linter.unusedSimpArgs false

mutual
/-- Are two alike? -/
def sameT : S32 → S32 → Bool
  | ⟨t, s, l⟩, ⟨t', s', l'⟩ => t == t' && s.toList == s'.toList && sameL l l'
def sameL : List S32 → List S32 → Bool
  | [], [] => true
  | x :: r, y :: q => sameT x y && sameL r q
  | _, _ => false
end
theorem sameL_len : ∀ (l m : List S32), l.length ≠ m.length → sameL l m = false
  | [], [], h => absurd rfl h
  | [], y :: q, _ => by simp [sameL]
  | x :: r, [], _ => by simp [sameL]
  | x :: r, y :: q, h => by simp [sameL, sameL_len r q (by simpa using h)]
theorem sameL_all : ∀ (l m : List S32) (h : l.length = m.length), (∀ i (hi : i < l.length), sameT l[i] (m[i]'(h ▸ hi)) = true) → sameL l m = true
  | [], [], _, _ => by simp [sameL]
  | [], y :: q, h, _ => by simp at h
  | x :: r, [], h, _ => by simp at h
  | x :: r, y :: q, h, ha => by
    have h0 := ha 0 (by simp)
    have h1 := sameL_all r q (by simpa using h) (fun i hi => by have := ha (i + 1) (by simpa using hi); simpa using this)
    simp only [List.getElem_cons_zero] at h0
    simp [sameL, h0, h1]
theorem sameL_not : ∀ (l m : List S32) (i : Nat) (hi : i < l.length) (hj : i < m.length), sameT l[i] m[i] = false → sameL l m = false
  | [], m, i, hi, hj, _ => by simp at hi
  | x :: r, [], i, hi, hj, _ => by simp at hj
  | x :: r, y :: q, 0, hi, hj, h => by simp only [List.getElem_cons_zero] at h; simp [sameL, h]
  | x :: r, y :: q, i + 1, hi, hj, h => by
    simp only [List.getElem_cons_succ] at h
    simp [sameL, sameL_not r q i (by simpa using hi) (by simpa using hj) h]

def SameSaid (x y : S32) : Prop := ∀ (A B : Option Addr) (c d : Nat) (w : World), x.f2.length ≤ c → y.f2.length ≤ d → Kd.C k32 w A x.f2.length x.f2 → Kd.C k32 w B y.f2.length y.f2 →
    Calls Try.prog 28 #[.agg #[.int .i64 x.f0, .string x.f1, .slice A x.f2.length c], .agg #[.int .i64 y.f0, .string y.f1, .slice B y.f2.length d]] w fun e w' =>
      e = .returned (.bool (sameT x y)) ∧ Below w.heap.size w w'

set_option maxHeartbeats 4000000 in
set_option maxRecDepth 100000 in
theorem eqf_walk (l m : List S32) (hsub : ∀ x, x ∈ l → ∀ y, SameSaid x y) (A B : Option Addr) (c d : Nat) (w : World) (hc : l.length ≤ c) (hd : m.length ≤ d) (hl : Kd.C k32 w A l.length l) (hm : Kd.C k32 w B m.length m) :
    Calls Try.prog 63 #[.slice A l.length c, .slice B m.length d, .func (.func 28) #[] #[]] w fun e w' => e = .returned (.bool (sameL l m)) ∧ Below w.heap.size w w' := by
  have hu32 := Try.underlying32
  have hlm : l.length ≤ 9223372036854775807 := Kd.C_max hl
  have hmm : m.length ≤ 9223372036854775807 := Kd.C_max hm
  have HL := Aside0.mk hl
  have HM := Aside0.mk hm
  have HC := Aside0.mk hc
  have HD := Aside0.mk hd
  have HSUB := Aside0.mk hsub
  clear hl hm hc hd hsub
  by_cases hlen : l.length = m.length
  · have c1 : ((l.length : Int) != (m.length : Int)) = false := by simp [hlen]
    have HLEN := Aside0.mk hlen
    clear hlen
    go_enter Try.func63, Try.ntmps63
    go_wp2
    go_loopw [17] (fun v17 w' => ∃ j : Nat, j ≤ l.length ∧ v17 = .int .i64 j ∧ Aside0 (∀ i (hi : i < j) (h1 : i < l.length) (h2 : i < m.length), sameT l[i] m[i] = true) ∧ Aside0 (Below w.heap.size w w')) (fun v17 _ => l.length - (intOf v17).toNat)
    case atStart => exact ⟨0, Nat.zero_le _, rfl, ⟨fun i hi => by omega⟩, ⟨Below.refl _ _⟩⟩
    case round =>
      obtain ⟨j, hj, rfl, HA, HB⟩ := hrel
      by_cases hlt : j < l.length
      · have hltm : j < m.length := by have := HLEN.out; omega
        obtain ⟨ad, A2, c2, e2, hx0, hx1, hx2, hl2, hi2⟩ := at_T32 HL.out (j : Int) (by omega) (by omega)
        cases e2
        obtain ⟨bd, B2, d2, e2, hy0, hy1, hy2, hm2, hj2⟩ := at_T32 HM.out (j : Int) (by omega) (by omega)
        cases e2
        rw [show rd_T32 l (j : Int) = l[j] from by simp [rd_T32, List.getD_eq_getElem?_getD, List.getElem?_eq_getElem hlt]] at hx0 hx1 hx2 hl2 hi2
        rw [show rd_T32 m (j : Int) = m[j] from by simp [rd_T32, List.getD_eq_getElem?_getD, List.getElem?_eq_getElem hltm]] at hy0 hy1 hy2 hm2 hj2
        have HX := Aside0.mk (List.getElem_mem hlt)
        have HT := Aside0.mk (show ∀ b, sameT l[j] m[j] = b → (b = true → ∀ i (hi : i < j + 1) (h1 : i < l.length) (h2 : i < m.length), sameT l[i] m[i] = true) ∧ (b = false → sameL l m = false) from fun b hb => ⟨fun h i hi h1 h2 => by
            rcases Nat.lt_or_ge i j with h3 | h3
            · exact HA.out i h3 h1 h2
            · obtain rfl : i = j := by omega
              rw [hb, h], fun h => sameL_not l m j hlt hltm (hb.trans h)⟩)
        generalize l[j] = x at hx0 hx1 hx2 hl2 hi2 HX HT
        generalize m[j] = y at hy0 hy1 hy2 hm2 hj2 HT
        simp only [Int.toNat_natCast] at hx0 hx1 hx2 hy0 hy1 hy2
        replace hx0 := (HB.out.cell (World.block_lt_of_cell? w _ hx0)).trans hx0
        replace hx1 := (HB.out.cell (World.block_lt_of_cell? w _ hx1)).trans hx1
        replace hx2 := (HB.out.cell (World.block_lt_of_cell? w _ hx2)).trans hx2
        replace hy0 := (HB.out.cell (World.block_lt_of_cell? w _ hy0)).trans hy0
        replace hy1 := (HB.out.cell (World.block_lt_of_cell? w _ hy1)).trans hy1
        replace hy2 := (HB.out.cell (World.block_lt_of_cell? w _ hy2)).trans hy2
        have gy0 := fun O => (World.cell?_alloc_lt wr O _ (World.block_lt_of_cell? wr _ hy0)).trans hy0
        have gy1 := fun O => (World.cell?_alloc_lt wr O _ (World.block_lt_of_cell? wr _ hy1)).trans hy1
        have gy2 := fun O => (World.cell?_alloc_lt wr O _ (World.block_lt_of_cell? wr _ hy2)).trans hy2
        clear hy0 hy1 hy2
        have HI2 := Aside0.mk hi2
        have HJ2 := Aside0.mk hj2
        have HL2 := Aside0.mk hl2
        have HM2 := Aside0.mk hm2
        clear hi2 hj2 hl2 hm2
        go_wp2_with fail
        refine Calls.mono (HSUB.out x HX.out y A2 B2 c2 d2 _ HL2.out HM2.out (Kd.C_below HI2.out (below_alloc (below_alloc HB.out _) _)) (Kd.C_below HJ2.out (below_alloc (below_alloc HB.out _) _))) ?_
        rintro e w7 ⟨rfl, hb7⟩
        have HB7 := Aside0.mk (below_step (below_alloc (below_alloc HB.out _) _) hb7)
        clear hb7 gy0 gy1 gy2 hx0 hx1 hx2 HB
        have HT' := Aside0.mk (HT.out _ rfl)
        clear HT
        by_cases hs : sameT x y = true
        · rw [hs] at HT' ⊢
          have HA' := Aside0.mk (HT'.out.1 rfl)
          clear HT'
          go_wp2
          go_roundw
          case measure => simp [intOf]; omega
          case rel => exact ⟨j + 1, by omega, by go_num, HA', HB7⟩
        · have hs' : sameT x y = false := by simpa using hs
          clear hs
          rw [hs'] at HT' ⊢
          have HF := Aside0.mk (HT'.out.2 rfl)
          clear HT' hs'
          go_wp2
          go_ret
          exact ⟨by rw [HF.out]; rfl, HB7.out⟩
      · obtain rfl : j = l.length := by omega
        have HF := Aside0.mk (sameL_all l m HLEN.out (fun i hi => HA.out i hi hi (by have := HLEN.out; omega)))
        go_wp2
        go_ret
        exact ⟨by rw [HF.out]; rfl, HB.out⟩
  · have c1 : ((l.length : Int) != (m.length : Int)) = true := by simp; omega
    rw [sameL_len l m hlen]
    clear hlen
    go_enter Try.func63, Try.ntmps63
    go_wp2
    go_ret
    exact ⟨rfl, Below.refl _ _⟩

set_option maxHeartbeats 4000000 in
set_option maxRecDepth 100000 in
theorem same_walk (x y : S32) (hsub : ∀ z, z ∈ x.f2 → ∀ y, SameSaid z y) : SameSaid x y := by
  intro A B c d w hc hd hl hm
  have hu32 := Try.underlying32
  have HL := Aside0.mk hl
  have HM := Aside0.mk hm
  have HC := Aside0.mk hc
  have HD := Aside0.mk hd
  have HSUB := Aside0.mk hsub
  clear hl hm hc hd hsub
  have HR := Aside0.mk (show sameT x y = (x.f0 == y.f0 && x.f1.toList == y.f1.toList && sameL x.f2 y.f2) from by cases x; cases y; simp [sameT])
  go_enter Try.func28, Try.ntmps28
  go_upto_region 1 with (first | ((with_reducible refine gate_dst (N := 2) rfl ?_); refine box_event ?hg1 (N := 2) ?hd1 (cs := #[.int .i64 x.f0, .string x.f1, .slice A x.f2.length c]) (t := 32) ?hr1 ?_; (case hd1 => rfl); (case hg1 => rfl); (case hr1 => first | (go_simp; done) | (go_simp; rfl)); intro gb1 hg w4 hbox hb; have HB := Aside0.mk hb; have BK1 := Aside0.mk hbox; clear hb hbox hg) | ((with_reducible refine gate_dst (N := 3) rfl ?_); refine box_event ?hg2 (N := 3) ?hd2 (cs := #[.int .i64 y.f0, .string y.f1, .slice B y.f2.length d]) (t := 32) ?hr2 ?_; (case hd2 => rfl); (case hg2 => rfl); (case hr2 => first | (go_simp; done) | (go_simp; rfl)); intro gb2 hg w5 hbox hb; have n1 := Aside0.mk (below_step HB.out hb); have n2 := Aside0.mk (blk_below BK1.out hb); have BK2 := Aside0.mk hbox; clear HB BK1 hb hbox hg; have HB := n1; have BK1 := n2; clear n1 n2))
  have hcx0 : w5.cell? ⟨gb1, 0, none⟩ = some (.int .i64 x.f0) := (blk_cell BK1.out 0).trans rfl
  have hcx1 : w5.cell? ⟨gb1, 1, none⟩ = some (.string x.f1) := (blk_cell BK1.out 1).trans rfl
  have hcx2 : w5.cell? ⟨gb1, 2, none⟩ = some (.slice A x.f2.length c) := (blk_cell BK1.out 2).trans rfl
  have hcy0 : w5.cell? ⟨gb2, 0, none⟩ = some (.int .i64 y.f0) := (blk_cell BK2.out 0).trans rfl
  have hcy1 : w5.cell? ⟨gb2, 1, none⟩ = some (.string y.f1) := (blk_cell BK2.out 1).trans rfl
  have hcy2 : w5.cell? ⟨gb2, 2, none⟩ = some (.slice B y.f2.length d) := (blk_cell BK2.out 2).trans rfl
  cases ht : x.f0 == y.f0
  · rw [ht] at HR
    go_wp2
    go_ret
    exact ⟨by rw [HR.out]; rfl, HB.out⟩
  · cases hs : x.f1.toList == y.f1.toList
    · rw [ht, hs] at HR
      go_wp2
      go_ret
      exact ⟨by rw [HR.out]; rfl, HB.out⟩
    · rw [ht, hs] at HR
      go_wp2_with fail
      refine Calls.mono (eqf_walk x.f2 y.f2 HSUB.out A B c d _ HC.out HD.out (Kd.C_below HL.out HB.out) (Kd.C_below HM.out HB.out)) ?_
      rintro e w7 ⟨rfl, hb7⟩
      have HB7 := Aside0.mk (below_step HB.out hb7)
      clear hb7 hcx0 hcx1 hcx2 hcy0 hcy1 hcy2 HB BK1 BK2
      have HR' := Aside0.mk (show sameT x y = sameL x.f2 y.f2 by rw [HR.out]; simp)
      clear HR
      go_wp2
      go_ret
      exact ⟨by rw [HR'.out]; rfl, HB7.out⟩

theorem same_all : ∀ n (x : S32), SizeOf.sizeOf x < n → ∀ y, SameSaid x y
  | 0, x, h, y => by omega
  | n + 1, ⟨t, s, l⟩, h, y => same_walk ⟨t, s, l⟩ y (fun z hz => same_all n z (by
    have := List.sizeOf_lt_of_mem hz
    simp at h
    dsimp only at this
    omega))
theorem same_said (x y : S32) : SameSaid x y := same_all _ x (Nat.lt_succ_self _) y

end Go.Proofs.Ytmgkflkpompchaa.BerSame
