/- brooklaw1.BerInts: the call returns true, whatever the number and the shift; nothing that was there is changed. No condition. -/
import Derived.Test.YtmgkflkpompchaaNumInts
import Derived.Test.YtmgkflkpompchaaBerAwake
import Derived.Test.YtmgkflkpompchaaBerSame
namespace Go.Proofs.Ytmgkflkpompchaa.BerInts
open Go.RowKit Go.Proofs.YtmgkflkpompchaaW.PrintWords Go.Proofs.YtmgkflkpompchaaW.PrintLast Go.Proofs.YtmgkflkpompchaaW.PrintMore
open Go.Proofs.Ytmgkflkpompchaa.PBerNumbers Go.Proofs.Ytmgkflkpompchaa.Num Go.Proofs.Ytmgkflkpompchaa.NumInts
set_option linter.unusedVariables false
set_option linter.unusedSimpArgs false

/-- The tlv of a number. -/
def leaf (t : ByteArray) : PBerAll.S32 := ⟨2, t, []⟩
theorem same_leaf (t : ByteArray) : BerSame.sameT (leaf t) (leaf t) = true := by simp [leaf, BerSame.sameT, BerSame.sameL]

set_option maxHeartbeats 4000000 in
set_option maxRecDepth 100000 in
theorem walk_pos (n b k : Int) (hkb : k = n / 2 ^ (b % 64).toNat) (w : World) (h1 : -9223372036854775808 ≤ n) (h2 : n < 9223372036854775808) (h3 : 0 ≤ b) (h4 : b ≤ 255) (k1 : -9223372036854775808 ≤ k) (k2 : k < 9223372036854775808) (k0 : 0 ≤ k) : Calls Try.prog 5 #[.int .i64 n, .int .u8 b] w fun e w' => e = .returned (.bool true) ∧ Below w.heap.size w w' := by
  have HK := Aside0.mk hkb
  clear hkb
  have H1 := Aside0.mk (int_f 1000 k k1 k2 (by omega))
  have H2 := Aside0.mk (readint_f 1000 (encI k) (by have := encI_size k; omega) (by omega))
  rw [RI_enc k k1 k2] at H2
  obtain ⟨v, hv⟩ := pad_not k 0 (by omega) k1 k2 ⟨#[0]⟩ rfl
  have H3 := Aside0.mk (readint_f 1000 (⟨#[0]⟩ ++ encI k) (by have := encI_size k; rw [ByteArray.size_append]; show 1 + _ ≤ _; omega) (by omega))
  rw [hv] at H3
  obtain ⟨y, less, hy⟩ : ∃ y less, RI ((encI k).extract 1 (encI k).size) = (y, less) := ⟨_, _, rfl⟩
  have H4 := Aside0.mk (readint_f 1000 ((encI k).extract 1 (encI k).size) (by have := encI_size k; rw [ByteArray.size_extract]; omega) (by omega))
  rw [hy] at H4
  have H5 := Aside0.mk (tail_not k y less hy)
  have H6 := Aside0.mk (readint_f 1000 ⟨#[]⟩ (by show 0 ≤ 100; omega) (by omega))
  rw [RI_empty] at H6
  have H7 := Aside0.mk (fits_of k k1 k2)
  clear hy hv
  obtain ⟨s1, s8⟩ := encI_size k
  generalize encI k = t at H1 H2 H3 H4 H7 s1 s8
  have hne : t.toList.isEmpty = false := by
    cases h : t.toList with
    | nil => have := (toList_nil t).1 h; omega
    | cons => rfl
  go_enter Try.func5, Try.ntmps5
  go_wp2_with fail
  rw [← HK.out]
  refine Calls.mono (ber_Int.calls 1000 k t _ H1.out) ?_
  rintro e w5 ⟨rfl, hb5⟩
  have HB := Aside0.mk hb5
  clear hb5
  go_wp2_with fail
  refine Calls.mono (ber_ReadInt.calls 1000 t k true _ H2.out) ?_
  rintro e w6 ⟨rfl, hb6⟩
  have HB6 := Aside0.mk (below_step HB.out hb6)
  clear hb6 HB
  go_wp2_with fail
  refine Calls.mono (ber_ReadInt.calls 1000 _ v false _ ?hh) ?_
  case hh => exact H3.out
  rintro e w7 ⟨rfl, hb7⟩
  have HB7 := Aside0.mk (below_step HB6.out hb7)
  clear hb7 HB6
  go_wp2_with fail
  refine Calls.mono (ber_ReadInt.calls 1000 _ y less _ ?hi) ?_
  case hi => exact H4.out
  rintro e w8 ⟨rfl, hb8⟩
  have HB8 := Aside0.mk (below_step HB7.out hb8)
  clear hb8 HB7
  go_wp2_with fail
  refine Calls.mono (ber_ReadInt.calls 1000 _ 0 false _ ?hj) ?_
  case hj => exact H6.out
  rintro e w9 ⟨rfl, hb9⟩
  have HB9 := Aside0.mk (below_step HB8.out hb9)
  clear hb9 HB8
  by_cases hs8 : t.size = 8
  · have hs8' : ((t.size : Int) == 8) = true := by simp [hs8]
    cases less with
    | true =>
      have hyk : (y == k) = false := by have := H5.out rfl; simpa using this
      have hyk' : (y != k) = true := by have := H5.out rfl; simpa using this
      go_wp2_with fail
      refine Calls.mono (ber_Int.calls 1000 k t _ H1.out) ?_
      rintro e wa ⟨rfl, hba⟩
      have HBa := Aside0.mk (below_step HB9.out hba)
      clear hba HB9
      go_wp2_with fail
      refine Calls.mono (BerSame.same_said (leaf t) (leaf t) none none 0 0 _ (Nat.le_refl _) (Nat.le_refl _) (Kd.C_nil _ _) (Kd.C_nil _ _)) ?_
      rw [same_leaf]
      rintro e wb ⟨rfl, hbb⟩
      have HBb := Aside0.mk (below_step HBa.out hbb)
      clear hbb HBa
      go_wp2_with fail
      refine Calls.mono (BerAwake.awake_calls _) ?_
      rintro e wc ⟨rfl, hbc⟩
      have HBc := Aside0.mk (below_step HBb.out hbc)
      clear hbc HBb
      go_wp2
      go_ret
      exact ⟨rfl, HBc.out⟩
    | false =>
      go_wp2_with fail
      refine Calls.mono (ber_Int.calls 1000 k t _ H1.out) ?_
      rintro e wa ⟨rfl, hba⟩
      have HBa := Aside0.mk (below_step HB9.out hba)
      clear hba HB9
      go_wp2_with fail
      refine Calls.mono (BerSame.same_said (leaf t) (leaf t) none none 0 0 _ (Nat.le_refl _) (Nat.le_refl _) (Kd.C_nil _ _) (Kd.C_nil _ _)) ?_
      rw [same_leaf]
      rintro e wb ⟨rfl, hbb⟩
      have HBb := Aside0.mk (below_step HBa.out hbb)
      clear hbb HBa
      go_wp2_with fail
      refine Calls.mono (BerAwake.awake_calls _) ?_
      rintro e wc ⟨rfl, hbc⟩
      have HBc := Aside0.mk (below_step HBb.out hbc)
      clear hbc HBb
      go_wp2
      go_ret
      exact ⟨rfl, HBc.out⟩
  · have hs8' : ((t.size : Int) == 8) = false := by simp; omega
    have hsl : t.size ≤ 7 := by omega
    obtain ⟨g1, g2⟩ := fits_walk hsl H7.out
    cases less with
    | true =>
      have hyk : (y == k) = false := by have := H5.out rfl; simpa using this
      have hyk' : (y != k) = true := by have := H5.out rfl; simpa using this
      go_wp2_with fail
      refine Calls.mono (ber_Int.calls 1000 k t _ H1.out) ?_
      rintro e wa ⟨rfl, hba⟩
      have HBa := Aside0.mk (below_step HB9.out hba)
      clear hba HB9
      go_wp2_with fail
      refine Calls.mono (BerSame.same_said (leaf t) (leaf t) none none 0 0 _ (Nat.le_refl _) (Nat.le_refl _) (Kd.C_nil _ _) (Kd.C_nil _ _)) ?_
      rw [same_leaf]
      rintro e wb ⟨rfl, hbb⟩
      have HBb := Aside0.mk (below_step HBa.out hbb)
      clear hbb HBa
      go_wp2_with fail
      refine Calls.mono (BerAwake.awake_calls _) ?_
      rintro e wc ⟨rfl, hbc⟩
      have HBc := Aside0.mk (below_step HBb.out hbc)
      clear hbc HBb
      go_wp2
      go_ret
      exact ⟨rfl, HBc.out⟩
    | false =>
      go_wp2_with fail
      refine Calls.mono (ber_Int.calls 1000 k t _ H1.out) ?_
      rintro e wa ⟨rfl, hba⟩
      have HBa := Aside0.mk (below_step HB9.out hba)
      clear hba HB9
      go_wp2_with fail
      refine Calls.mono (BerSame.same_said (leaf t) (leaf t) none none 0 0 _ (Nat.le_refl _) (Nat.le_refl _) (Kd.C_nil _ _) (Kd.C_nil _ _)) ?_
      rw [same_leaf]
      rintro e wb ⟨rfl, hbb⟩
      have HBb := Aside0.mk (below_step HBa.out hbb)
      clear hbb HBa
      go_wp2_with fail
      refine Calls.mono (BerAwake.awake_calls _) ?_
      rintro e wc ⟨rfl, hbc⟩
      have HBc := Aside0.mk (below_step HBb.out hbc)
      clear hbc HBb
      go_wp2
      go_ret
      exact ⟨rfl, HBc.out⟩


set_option maxHeartbeats 4000000 in
set_option maxRecDepth 100000 in
theorem walk_neg (n b k : Int) (hkb : k = n / 2 ^ (b % 64).toNat) (w : World) (h1 : -9223372036854775808 ≤ n) (h2 : n < 9223372036854775808) (h3 : 0 ≤ b) (h4 : b ≤ 255) (k1 : -9223372036854775808 ≤ k) (k2 : k < 9223372036854775808) (k0 : k < 0) : Calls Try.prog 5 #[.int .i64 n, .int .u8 b] w fun e w' => e = .returned (.bool true) ∧ Below w.heap.size w w' := by
  have HK := Aside0.mk hkb
  clear hkb
  have H1 := Aside0.mk (int_f 1000 k k1 k2 (by omega))
  have H2 := Aside0.mk (readint_f 1000 (encI k) (by have := encI_size k; omega) (by omega))
  rw [RI_enc k k1 k2] at H2
  obtain ⟨v, hv⟩ := pad_not k 255 (by omega) k1 k2 ⟨#[255]⟩ rfl
  have H3 := Aside0.mk (readint_f 1000 (⟨#[255]⟩ ++ encI k) (by have := encI_size k; rw [ByteArray.size_append]; show 1 + _ ≤ _; omega) (by omega))
  rw [hv] at H3
  obtain ⟨y, less, hy⟩ : ∃ y less, RI ((encI k).extract 1 (encI k).size) = (y, less) := ⟨_, _, rfl⟩
  have H4 := Aside0.mk (readint_f 1000 ((encI k).extract 1 (encI k).size) (by have := encI_size k; rw [ByteArray.size_extract]; omega) (by omega))
  rw [hy] at H4
  have H5 := Aside0.mk (tail_not k y less hy)
  have H6 := Aside0.mk (readint_f 1000 ⟨#[]⟩ (by show 0 ≤ 100; omega) (by omega))
  rw [RI_empty] at H6
  have H7 := Aside0.mk (fits_of k k1 k2)
  clear hy hv
  obtain ⟨s1, s8⟩ := encI_size k
  generalize encI k = t at H1 H2 H3 H4 H7 s1 s8
  have hne : t.toList.isEmpty = false := by
    cases h : t.toList with
    | nil => have := (toList_nil t).1 h; omega
    | cons => rfl
  go_enter Try.func5, Try.ntmps5
  go_wp2_with fail
  rw [← HK.out]
  refine Calls.mono (ber_Int.calls 1000 k t _ H1.out) ?_
  rintro e w5 ⟨rfl, hb5⟩
  have HB := Aside0.mk hb5
  clear hb5
  go_wp2_with fail
  refine Calls.mono (ber_ReadInt.calls 1000 t k true _ H2.out) ?_
  rintro e w6 ⟨rfl, hb6⟩
  have HB6 := Aside0.mk (below_step HB.out hb6)
  clear hb6 HB
  go_wp2_with fail
  refine Calls.mono (ber_ReadInt.calls 1000 _ v false _ ?hh) ?_
  case hh => exact H3.out
  rintro e w7 ⟨rfl, hb7⟩
  have HB7 := Aside0.mk (below_step HB6.out hb7)
  clear hb7 HB6
  go_wp2_with fail
  refine Calls.mono (ber_ReadInt.calls 1000 _ y less _ ?hi) ?_
  case hi => exact H4.out
  rintro e w8 ⟨rfl, hb8⟩
  have HB8 := Aside0.mk (below_step HB7.out hb8)
  clear hb8 HB7
  go_wp2_with fail
  refine Calls.mono (ber_ReadInt.calls 1000 _ 0 false _ ?hj) ?_
  case hj => exact H6.out
  rintro e w9 ⟨rfl, hb9⟩
  have HB9 := Aside0.mk (below_step HB8.out hb9)
  clear hb9 HB8
  by_cases hs8 : t.size = 8
  · have hs8' : ((t.size : Int) == 8) = true := by simp [hs8]
    cases less with
    | true =>
      have hyk : (y == k) = false := by have := H5.out rfl; simpa using this
      have hyk' : (y != k) = true := by have := H5.out rfl; simpa using this
      go_wp2_with fail
      refine Calls.mono (ber_Int.calls 1000 k t _ H1.out) ?_
      rintro e wa ⟨rfl, hba⟩
      have HBa := Aside0.mk (below_step HB9.out hba)
      clear hba HB9
      go_wp2_with fail
      refine Calls.mono (BerSame.same_said (leaf t) (leaf t) none none 0 0 _ (Nat.le_refl _) (Nat.le_refl _) (Kd.C_nil _ _) (Kd.C_nil _ _)) ?_
      rw [same_leaf]
      rintro e wb ⟨rfl, hbb⟩
      have HBb := Aside0.mk (below_step HBa.out hbb)
      clear hbb HBa
      go_wp2_with fail
      refine Calls.mono (BerAwake.awake_calls _) ?_
      rintro e wc ⟨rfl, hbc⟩
      have HBc := Aside0.mk (below_step HBb.out hbc)
      clear hbc HBb
      go_wp2
      go_ret
      exact ⟨rfl, HBc.out⟩
    | false =>
      go_wp2_with fail
      refine Calls.mono (ber_Int.calls 1000 k t _ H1.out) ?_
      rintro e wa ⟨rfl, hba⟩
      have HBa := Aside0.mk (below_step HB9.out hba)
      clear hba HB9
      go_wp2_with fail
      refine Calls.mono (BerSame.same_said (leaf t) (leaf t) none none 0 0 _ (Nat.le_refl _) (Nat.le_refl _) (Kd.C_nil _ _) (Kd.C_nil _ _)) ?_
      rw [same_leaf]
      rintro e wb ⟨rfl, hbb⟩
      have HBb := Aside0.mk (below_step HBa.out hbb)
      clear hbb HBa
      go_wp2_with fail
      refine Calls.mono (BerAwake.awake_calls _) ?_
      rintro e wc ⟨rfl, hbc⟩
      have HBc := Aside0.mk (below_step HBb.out hbc)
      clear hbc HBb
      go_wp2
      go_ret
      exact ⟨rfl, HBc.out⟩
  · have hs8' : ((t.size : Int) == 8) = false := by simp; omega
    have hsl : t.size ≤ 7 := by omega
    obtain ⟨g1, g2⟩ := fits_walk hsl H7.out
    cases less with
    | true =>
      have hyk : (y == k) = false := by have := H5.out rfl; simpa using this
      have hyk' : (y != k) = true := by have := H5.out rfl; simpa using this
      go_wp2_with fail
      refine Calls.mono (ber_Int.calls 1000 k t _ H1.out) ?_
      rintro e wa ⟨rfl, hba⟩
      have HBa := Aside0.mk (below_step HB9.out hba)
      clear hba HB9
      go_wp2_with fail
      refine Calls.mono (BerSame.same_said (leaf t) (leaf t) none none 0 0 _ (Nat.le_refl _) (Nat.le_refl _) (Kd.C_nil _ _) (Kd.C_nil _ _)) ?_
      rw [same_leaf]
      rintro e wb ⟨rfl, hbb⟩
      have HBb := Aside0.mk (below_step HBa.out hbb)
      clear hbb HBa
      go_wp2_with fail
      refine Calls.mono (BerAwake.awake_calls _) ?_
      rintro e wc ⟨rfl, hbc⟩
      have HBc := Aside0.mk (below_step HBb.out hbc)
      clear hbc HBb
      go_wp2
      go_ret
      exact ⟨rfl, HBc.out⟩
    | false =>
      go_wp2_with fail
      refine Calls.mono (ber_Int.calls 1000 k t _ H1.out) ?_
      rintro e wa ⟨rfl, hba⟩
      have HBa := Aside0.mk (below_step HB9.out hba)
      clear hba HB9
      go_wp2_with fail
      refine Calls.mono (BerSame.same_said (leaf t) (leaf t) none none 0 0 _ (Nat.le_refl _) (Nat.le_refl _) (Kd.C_nil _ _) (Kd.C_nil _ _)) ?_
      rw [same_leaf]
      rintro e wb ⟨rfl, hbb⟩
      have HBb := Aside0.mk (below_step HBa.out hbb)
      clear hbb HBa
      go_wp2_with fail
      refine Calls.mono (BerAwake.awake_calls _) ?_
      rintro e wc ⟨rfl, hbc⟩
      have HBc := Aside0.mk (below_step HBb.out hbc)
      clear hbc HBb
      go_wp2
      go_ret
      exact ⟨rfl, HBc.out⟩


theorem walk (n : Int) (hn : (Lit.int .i64 n).wf = true) (b : Int) (hb : (Lit.int .u8 b).wf = true) (w : World) : Calls Try.prog 5 #[.int .i64 n, .int .u8 b] w fun e w' => e = .returned (.bool true) ∧ Below w.heap.size w w' := by
  have h : -9223372036854775808 ≤ n ∧ n < 9223372036854775808 := by
    simp [Lit.wf, IntKind.min, IntKind.max, IntKind.bits, IntKind.signed] at hn
    omega
  have g : 0 ≤ b ∧ b ≤ 255 := by
    simp [Lit.wf, IntKind.min, IntKind.max, IntKind.bits, IntKind.signed] at hb
    omega
  have hp : 0 < (2 : Int) ^ (b % 64).toNat := Int.pow_pos (by decide)
  obtain ⟨k, hk⟩ : ∃ k, k = n / 2 ^ (b % 64).toNat := ⟨_, rfl⟩
  have k1 : -9223372036854775808 ≤ k := by
    rw [hk]
    generalize (2 : Int) ^ (b % 64).toNat = p at hp
    exact Int.le_ediv_of_mul_le hp (by omega)
  have k2 : k < 9223372036854775808 := by
    rw [hk]
    generalize (2 : Int) ^ (b % 64).toNat = p at hp
    exact Int.ediv_lt_of_lt_mul hp (by omega)
  by_cases k0 : 0 ≤ k
  · exact walk_pos n b k hk w h.1 h.2 g.1 g.2 k1 k2 k0
  · exact walk_neg n b k hk w h.1 h.2 g.1 g.2 k1 k2 (by omega)
end Go.Proofs.Ytmgkflkpompchaa.BerInts
