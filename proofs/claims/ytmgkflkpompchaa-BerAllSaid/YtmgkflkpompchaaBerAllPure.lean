/- What many, ber.length and the reference's SameTlv come to: plain laws. No condition. -/
import Derived.Test.YtmgkflkpompchaaPBerAllx3
import Derived.Test.YtmgkflkpompchaaPBerAllx5
import Derived.Test.YtmgkflkpompchaaEncSize
import Derived.Test.YtmgkflkpompchaaBerSame
namespace Go.Proofs.Ytmgkflkpompchaa.BerAllPure
open Go.RowKit Go.Proofs.YtmgkflkpompchaaW.PrintWords Go.Proofs.YtmgkflkpompchaaW.PrintLast Go.Proofs.YtmgkflkpompchaaW.PrintMore
open Go.Proofs.Ytmgkflkpompchaa.PBerAll Go.Proofs.Ytmgkflkpompchaa.Enc Go.Proofs.Ytmgkflkpompchaa.BerSame
set_option linter.unusedVariables false
set_option linter.unusedSimpArgs false

theorem rd_at (l : List S32) (j : Nat) (h : j < l.length) : rd_T32 l (j : Int) = l[j] := by simp [rd_T32, List.getD_eq_getElem?_getD, List.getElem?_eq_getElem h]

/-! ### many -/
def ManySaid (x : S32) : Prop := ∀ d : Nat, d ≤ 21 → ∃ r : Nat, Ev (fun k => brooklaw1_many.f k x.f0 x.f1 x.f2 (d : Int)) (r : Int) ∧ 1 ≤ r ∧ r ≤ 1000 * (22 - d) ∧ (r ≤ 300 → wideT x)
theorem many_loop (t : Int) (s : ByteArray) (l : List S32) (hsub : ∀ y, y ∈ l → ManySaid y) (hl : l.length ≤ 100) (d : Nat) (hd : d ≤ 20) : ∀ (b i n : Nat), l.length - i = b → i ≤ l.length → 1 ≤ n → n ≤ 1000 * (22 - d) →
    ∃ r : Nat, Ev (fun k => brooklaw1_many.l0 k (d : Int) (n : Int) (i : Int) t s l) (r : Int) ∧ n ≤ r ∧ r ≤ 1000 * (22 - d) ∧ (r ≤ 300 → wideL (l.drop i))
  | 0, i, n, h1, h2, h3, h4 => by
    refine ⟨n, Ev.step (f := fun _ => some (n : Int)) (fun k => ?_) (Ev.now _), Nat.le_refl _, h4, fun _ => ?_⟩
    · show brooklaw1_many.l0 (k + 1) _ _ _ _ _ _ = _
      rw [brooklaw1_many.l0, if_neg (by omega)]
    · rw [List.drop_of_length_le (by omega)]
      simp only [wideL]
  | b + 1, i, n, h1, h2, h3, h4 => by
    have hi : i < l.length := by omega
    by_cases hn : n < 1000
    · obtain ⟨r1, e1, a1, b1, c1⟩ := hsub l[i] (List.getElem_mem hi) (d + 1) (by omega)
      obtain ⟨r, e2, a2, b2, c2⟩ := many_loop t s l hsub hl d hd b (i + 1) (n + r1) (by omega) (by omega) (by omega) (by omega)
      refine ⟨r, Ev.step (f := fun k => (brooklaw1_many.f k l[i].f0 l[i].f1 l[i].f2 ((d + 1 : Nat) : Int)).bind fun q => brooklaw1_many.l0 k (d : Int) (wrap64 ((n : Int) + q)) ((i + 1 : Nat) : Int) t s l) (fun k => ?_) (Ev.bind e1 ?_), by omega, b2, fun h => ?_⟩
      · show brooklaw1_many.l0 (k + 1) _ _ _ _ _ _ = _
        rw [brooklaw1_many.l0, if_pos (by omega), if_pos (by omega), if_pos (by omega), rd_at l i hi]
        have w1 : wrap64 ((d : Int) + 1) = ((d + 1 : Nat) : Int) := by unfold wrap64; omega
        have w2 : wrap64 ((i : Int) + 1) = ((i + 1 : Nat) : Int) := by unfold wrap64; omega
        rw [w1, w2]
      · have w3 : wrap64 ((n : Int) + (r1 : Int)) = ((n + r1 : Nat) : Int) := by unfold wrap64; omega
        show Ev (fun k => brooklaw1_many.l0 k (d : Int) (wrap64 ((n : Int) + (r1 : Int))) ((i + 1 : Nat) : Int) t s l) _
        rw [w3]
        exact e2
      · rw [List.drop_eq_getElem_cons hi]
        simp only [wideL]
        exact ⟨c1 (by omega), c2 h⟩
    · refine ⟨n, Ev.step (f := fun _ => some (n : Int)) (fun k => ?_) (Ev.now _), Nat.le_refl _, h4, fun h => by omega⟩
      show brooklaw1_many.l0 (k + 1) _ _ _ _ _ _ = _
      rw [brooklaw1_many.l0, if_pos (by omega), if_neg (by omega)]
theorem many_walk (t : Int) (s : ByteArray) (l : List S32) (hsub : ∀ y, y ∈ l → ManySaid y) : ManySaid ⟨t, s, l⟩ := by
  intro d hd
  dsimp only
  have stop : ∀ c : Bool, c = true → Ev (fun k => brooklaw1_many.j0 k (d : Int) c t s l) ((1000 : Nat) : Int) := fun c hc => Ev.step (f := fun _ => some ((1000 : Nat) : Int)) (fun k => by
    show brooklaw1_many.j0 (k + 1) _ _ _ _ _ = _
    rw [brooklaw1_many.j0, if_pos hc]; rfl) (Ev.now _)
  by_cases h1 : 20 < d
  · refine ⟨1000, Ev.step (f := fun k => brooklaw1_many.j0 k (d : Int) true t s l) (fun k => ?_) (stop true rfl), by omega, by omega, fun h => by omega⟩
    show brooklaw1_many.f (k + 1) _ _ _ _ = _
    rw [brooklaw1_many.f, if_pos (by omega)]
  by_cases h2 : 100 < l.length
  · refine ⟨1000, Ev.step (f := fun k => brooklaw1_many.j0 k (d : Int) true t s l) (fun k => ?_) (stop true rfl), by omega, by omega, fun h => by omega⟩
    show brooklaw1_many.f (k + 1) _ _ _ _ = _
    rw [brooklaw1_many.f, if_neg (by omega), if_pos (by omega)]
  by_cases h3 : 700 < s.size
  · refine ⟨1000, Ev.step (f := fun k => brooklaw1_many.j0 k (d : Int) (decide ((s.size : Int) > 700)) t s l) (fun k => ?_) (stop _ (by simp; omega)), by omega, by omega, fun h => by omega⟩
    show brooklaw1_many.f (k + 1) _ _ _ _ = _
    rw [brooklaw1_many.f, if_neg (by omega), if_neg (by omega)]
  · obtain ⟨r, e, a, b, c⟩ := many_loop t s l hsub (by omega) d (by omega) l.length 0 1 (by omega) (by omega) (by omega) (by omega)
    refine ⟨r, Ev.step (f := fun k => brooklaw1_many.j0 k (d : Int) (decide ((s.size : Int) > 700)) t s l) (fun k => ?_) (Ev.step (f := fun k => brooklaw1_many.l0 k (d : Int) 1 0 t s l) (fun k => ?_) e), a, b, fun h => ?_⟩
    · show brooklaw1_many.f (k + 1) _ _ _ _ = _
      rw [brooklaw1_many.f, if_neg (by omega), if_neg (by omega)]
    · show brooklaw1_many.j0 (k + 1) _ _ _ _ _ = _
      rw [brooklaw1_many.j0, if_neg (by simp; omega)]
    · simp only [wideT]
      exact ⟨by omega, by omega, by simpa using c h⟩
theorem many_all : ∀ n (x : S32), SizeOf.sizeOf x < n → ManySaid x
  | 0, x, h => by omega
  | n + 1, ⟨t, s, l⟩, h => many_walk t s l (fun y hy => many_all n y (by
    have := List.sizeOf_lt_of_mem hy
    simp at h
    omega))
/-- Great: it tells, and what is not is not too wide. -/
theorem great_ev (x : S32) : ∃ g : Bool, (∃ k, brooklaw1_Great.f k x.f0 x.f1 x.f2 = some g) ∧ (g = false → wideT x) := by
  obtain ⟨r, e, a, b, c⟩ := many_all _ x (Nat.lt_succ_self _) 0 (by omega)
  refine ⟨decide ((r : Int) > 300), ?_, fun h => c (by simp at h; omega)⟩
  obtain ⟨k, hk⟩ := Ev.rounds e
  refine ⟨k, ?_⟩
  unfold brooklaw1_Great.f
  rw [show ((0 : Nat) : Int) = 0 from rfl] at hk
  rw [hk]
  rfl

/-! ### ber.length -/
theorem szL_mono : ∀ (l : List S32) (n d m e : Nat), szL l n d = some (m, e) → n ≤ m ∧ d ≤ e
  | [], n, d, m, e, h => by simp only [szL] at h; injection h with h; injection h with h1 h2; omega
  | x :: r, n, d, m, e, h => by
    simp only [szL] at h
    split at h
    · cases h
    · split at h
      · cases h
      · have := szL_mono r _ _ m e h
        omega
/-- So deep at most. -/
def within (D : Int) : Option (Nat × Nat) → Int
  | none => -1
  | some (m, e) => if m ≤ 1048576 ∧ (e : Int) ≤ D then (m : Int) else -1
def LenSaid (x : S32) : Prop := wideT x → ∀ D : Int, 0 ≤ D → D ≤ 12 → Ev (fun k => ber_length.f k x.f0 x.f1 x.f2 D) (within D (szT x))
theorem whole_ev (n : Nat) (h : n ≤ 1048576) : Ev (fun k => ber_whole.f k (n : Int)) (((1 + (lenB n).length + n : Nat)) : Int) := by
  refine Ev.of (fun k => ber_whole.mono _ k) (k := 7) ?_
  unfold ber_whole.f lenB
  by_cases h1 : n < 128
  · rw [if_pos (by omega), if_pos h1]
    congr 1
    unfold wrap64
    simp
    omega
  · have := sizeN_le n (by omega)
    rw [if_neg (by omega), if_neg h1, size_f n (by omega), Option.bind_some]
    congr 1
    rw [List.length_cons, topB_len]
    unfold wrap64
    omega
/-- What a round of ber.length does behind the call. -/
def stepF (D : Int) (n : Int) (l : List S32) (i : Int) (k : Nat) (t117 : Int) : Option Int := if t117 < 0 then (some (-1)) else ((ber_whole.f k t117).bind fun t118 => (if (wrap64 (n + t118)) > 1048576 then (some (-1)) else (ber_length.l0 k D (wrap64 (n + t118)) l (l.length : Int) i)))
theorem stepF_neg (D : Int) (n : Int) (l : List S32) (i : Int) : Ev (fun k => stepF D n l i k (-1)) (-1) :=
  Ev.congr (f := fun _ => some (-1)) (fun k => by unfold stepF; rw [if_pos (by omega)]) (Ev.now _)
theorem stepF_pos (D : Int) (n : Int) (l : List S32) (i : Int) (q v : Int) (m : Nat) (hq : q = (m : Int)) (a : Int) (hw : Ev (fun k => ber_whole.f k q) a) (h : Ev (fun k => if (wrap64 (n + a)) > 1048576 then (some (-1)) else (ber_length.l0 k D (wrap64 (n + a)) l (l.length : Int) i)) v) : Ev (fun k => stepF D n l i k q) v :=
  Ev.congr (f := fun k => (ber_whole.f k q).bind fun t118 => (if (wrap64 (n + t118)) > 1048576 then (some (-1)) else (ber_length.l0 k D (wrap64 (n + t118)) l (l.length : Int) i))) (fun k => by unfold stepF; rw [if_neg (by omega)]) (Ev.bind hw h)
theorem len_loop (t : Int) (s : ByteArray) (l : List S32) (hsub : ∀ y, y ∈ l → LenSaid y) (hl : l.length ≤ 100) (hw : wideL l) (D : Int) (hD0 : 0 < l.length → 1 ≤ D) (hD : D ≤ 12) : ∀ (b i n d : Nat), l.length - i = b → i ≤ l.length → n ≤ 1048576 → (d : Int) ≤ D →
    Ev (fun k => ber_length.l0 k D (n : Int) l (l.length : Int) (i : Int)) (within D (szL (l.drop i) n d))
  | 0, i, n, d, h1, h2, h3, h4 => by
    refine Ev.step (f := fun _ => some (n : Int)) (fun k => ?_) ?_
    · show ber_length.l0 (k + 1) _ _ _ _ _ = _
      rw [ber_length.l0, if_neg (by omega), if_neg (by omega)]
    · rw [List.drop_of_length_le (by omega)]
      simp only [szL, within]
      rw [if_pos ⟨h3, h4⟩]
      exact Ev.now _
  | b + 1, i, n, d, h1, h2, h3, h4 => by
    have hi : i < l.length := by omega
    have hD1 : 1 ≤ D := hD0 (by omega)
    have e1 := hsub l[i] (List.getElem_mem hi) (wideL_mem l hw _ (List.getElem_mem hi)) (D - 1) (by omega) (by omega)
    obtain ⟨r, hr⟩ : ∃ r, r = within (D - 1) (szT l[i]) := ⟨_, rfl⟩
    rw [← hr] at e1
    have HRr := Aside0.mk hr
    clear hr
    have w1 : wrap64 (D - 1) = D - 1 := by unfold wrap64; omega
    have w2 : wrap64 ((i : Int) + 1) = ((i + 1 : Nat) : Int) := by unfold wrap64; omega
    refine Ev.step (f := fun k => (ber_length.f k l[i].f0 l[i].f1 l[i].f2 (D - 1)).bind (stepF D n l ((i + 1 : Nat) : Int) k)) (fun k => ?_) (Ev.bind e1 ?_)
    · show ber_length.l0 (k + 1) _ _ _ _ _ = _
      rw [ber_length.l0, if_pos (by omega), if_pos (by omega), if_pos (by omega), rd_at l i hi, w1, w2]
      rfl
    · rw [List.drop_eq_getElem_cons hi]
      simp only [szL]
      have hr := HRr.out
      clear HRr
      generalize l[i] = y at hr
      cases hy : szT y with
      | none =>
        rw [hy] at hr
        have hr' : r = -1 := hr
        clear hr
        subst hr'
        rw [show within D none = -1 from rfl]
        exact stepF_neg _ _ _ _
      | some ke =>
        obtain ⟨k, e⟩ := ke
        have hk := szT_le y k e hy
        rw [hy] at hr
        have HRr := Aside0.mk hr
        clear hr
        have h12 : (e : Int) ≤ D - 1 → ¬ 12 ≤ e := by omega
        have hlow : ∀ v : Int, v = within D (if 12 ≤ e then none else szL (l.drop (i + 1)) (n + 1 + (lenB k).length + k) (max d (e + 1))) → (1048576 < n + 1 + (lenB k).length + k ∨ ¬ (e : Int) ≤ D - 1) → v = -1 := by
          intro v hv hb
          rw [hv]
          split
          · rfl
          · cases h : szL (l.drop (i + 1)) (n + 1 + (lenB k).length + k) (max d (e + 1)) with
            | none => rfl
            | some me =>
              obtain ⟨m, e'⟩ := me
              have := szL_mono _ _ _ m e' h
              show (if m ≤ 1048576 ∧ (e' : Int) ≤ D then (m : Int) else -1) = -1
              rw [if_neg (by omega)]
        obtain ⟨v, hv⟩ : ∃ v, v = within D (if 12 ≤ e then none else szL (l.drop (i + 1)) (n + 1 + (lenB k).length + k) (max d (e + 1))) := ⟨_, rfl⟩
        rw [← hv]
        have HV := Aside0.mk hv
        have HLOW := Aside0.mk hlow
        clear hv hlow hy
        by_cases hdeep : (e : Int) ≤ D - 1
        · have hr' : r = (k : Int) := by rw [HRr.out]; exact if_pos ⟨hk, hdeep⟩
          subst hr'
          have h12' := h12 hdeep
          refine stepF_pos _ _ _ _ (k : Int) v k rfl _ (whole_ev k hk) ?_
          obtain ⟨lb1, lb2⟩ := lenB_len k hk
          clear e1 HRr h12
          generalize hq : (lenB k).length = q at lb1 lb2
          have w3 : wrap64 ((n : Int) + ((1 + q + k : Nat) : Int)) = ((n + 1 + q + k : Nat) : Int) := by unfold wrap64; omega
          rw [hq] at HV HLOW
          rw [w3]
          clear w3
          by_cases hbig : 1048576 < n + 1 + q + k
          · have hb2 : ((n + 1 + q + k : Nat) : Int) > 1048576 := by omega
            rw [HLOW.out v HV.out (.inl hbig)]
            exact Ev.congr (f := fun _ => some (-1)) (fun _ => if_pos hb2) (Ev.now _)
          · have hb2 : ¬ ((n + 1 + q + k : Nat) : Int) > 1048576 := by omega
            have hm : ((max d (e + 1) : Nat) : Int) ≤ D := by omega
            rw [HV.out, if_neg h12']
            refine Ev.congr (f := fun r => ber_length.l0 r D ((n + 1 + q + k : Nat) : Int) l (l.length : Int) ((i + 1 : Nat) : Int)) (fun _ => if_neg hb2) ?_
            exact len_loop t s l hsub hl hw D hD0 hD b (i + 1) (n + 1 + q + k) (max d (e + 1)) (by omega) (by omega) (by omega) hm
        · have hr' : r = -1 := by rw [HRr.out]; exact if_neg (fun h => hdeep h.2)
          clear HRr
          subst hr'
          rw [HLOW.out v HV.out (.inr hdeep)]
          exact stepF_neg _ _ _ _

theorem len_walk (t : Int) (s : ByteArray) (l : List S32) (hsub : ∀ y, y ∈ l → LenSaid y) : LenSaid ⟨t, s, l⟩ := by
  intro hw D hD0 hD
  simp only [wideT] at hw
  obtain ⟨hl, hs, hwl⟩ := hw
  dsimp only
  have stop : ∀ c : Bool, c = true → Ev (fun k => ber_length.j0 k D c t s l) (-1) := fun c hc => Ev.step (f := fun _ => some (-1)) (fun k => by
    show ber_length.j0 (k + 1) _ _ _ _ _ = _
    rw [ber_length.j0, if_pos hc]) (Ev.now _)
  have stop1 : ∀ (x5 : Int) (c : Bool), c = true → Ev (fun k => ber_length.j1 k D x5 c t s l) (-1) := fun x5 c hc => Ev.step (f := fun _ => some (-1)) (fun k => by
    show ber_length.j1 (k + 1) _ _ _ _ _ _ = _
    rw [ber_length.j1, if_pos hc]) (Ev.now _)
  have bad : badB t s l = true → within D (szT ⟨t, s, l⟩) = -1 := fun h => by simp only [szT]; rw [if_pos h]; rfl
  by_cases h1 : t < 0
  · rw [bad (by simp [badB, h1])]
    refine Ev.step (f := fun k => ber_length.j0 k D true t s l) (fun k => ?_) (stop true rfl)
    show ber_length.f (k + 1) _ _ _ _ = _
    rw [ber_length.f, if_pos h1]
  by_cases h2 : t > 255
  · rw [bad (by simp [badB]; omega)]
    refine Ev.step (f := fun k => ber_length.j0 k D true t s l) (fun k => ?_) (stop true rfl)
    show ber_length.f (k + 1) _ _ _ _ = _
    rw [ber_length.f, if_neg h1, if_pos h2]
  refine Ev.step (f := fun k => ber_length.j0 k D ((Go.bits .and .i64 t 31) == 31) t s l) (fun k => ?_) ?_
  · show ber_length.f (k + 1) _ _ _ _ = _
    rw [ber_length.f, if_neg h1, if_neg h2]
  by_cases h3 : ((Go.bits .and .i64 t 31) == 31) = true
  · rw [bad (by simp [badB, h3])]
    exact stop _ h3
  by_cases h4 : Go.bits .and .i64 t 32 = 0
  · refine Ev.step (f := fun k => ber_length.j1 k D (s.size : Int) (decide ((l.length : Int) > 0)) t s l) (fun k => ?_) ?_
    · show ber_length.j0 (k + 1) _ _ _ _ _ = _
      rw [ber_length.j0, if_neg h3, if_pos h4]
    by_cases h5 : 0 < l.length
    · rw [bad (by simp [badB, h4, h5])]
      exact stop1 _ _ (by simp; omega)
    · have hln : l = [] := List.eq_nil_of_length_eq_zero (by omega)
      have hb : badB t s l = false := by simp [badB, h4, h5]; exact ⟨⟨by omega, by omega⟩, by simpa using h3⟩
      refine Ev.step (f := fun k => ber_length.j2 k D (s.size : Int) t s l) (fun k => ?_) ?_
      · show ber_length.j1 (k + 1) _ _ _ _ _ _ = _
        rw [ber_length.j1, if_neg (by simp; omega), if_pos h4]
      refine Ev.step (f := fun k => ber_length.l0 k D (s.size : Int) l (l.length : Int) 0) (fun k => ?_) ?_
      · show ber_length.j2 (k + 1) _ _ _ _ _ = _
        rw [ber_length.j2]
      have hsz : szT ⟨t, s, l⟩ = some (s.size, 0) := by
        simp only [szT]
        rw [if_neg (by simp [hb]), hln]
        simp only [szL, deep0]
        rw [if_neg (by omega), if_pos h4]
      rw [hsz]
      have := len_loop t s l hsub hl hwl D (by omega) hD l.length 0 s.size 0 (by omega) (by omega) (by omega) (by omega)
      rw [hln] at this ⊢
      simpa [szL] using this
  · refine Ev.step (f := fun k => ber_length.j1 k D (s.size : Int) false t s l) (fun k => ?_) ?_
    · show ber_length.j0 (k + 1) _ _ _ _ _ = _
      rw [ber_length.j0, if_neg h3, if_neg h4]
    by_cases h5 : 0 < s.size
    · have hne : s.toList ≠ [] := by
        intro e
        have := data_length s
        rw [← ByteArray.toList_eq, e] at this
        simp at this
        omega
      rw [bad (by simp [badB, h4, hne])]
      refine Ev.step (f := fun _ => some (-1)) (fun k => ?_) (Ev.now _)
      show ber_length.j1 (k + 1) _ _ _ _ _ _ = _
      rw [ber_length.j1, if_neg (by simp), if_neg h4, if_pos (by omega)]
    · have hse : s.toList = [] := by
        rw [ByteArray.toList_eq]
        exact List.eq_nil_of_length_eq_zero (by rw [data_length]; omega)
      have hb : badB t s l = false := by simp [badB, h4, hse]; exact ⟨⟨by omega, by omega⟩, by simpa using h3⟩
      have hs0 : s.size = 0 := by omega
      have hsz : szT ⟨t, s, l⟩ = match szL l s.size 1 with | none => none | some (n, d) => if 1048576 < n then none else some (n, d) := by
        simp only [szT]
        rw [if_neg (by simp [hb])]
        simp only [deep0]
        rw [if_neg h4]
        cases szL l s.size 1 <;> rfl
      by_cases hD1 : D < 1
      · have hw' : within D (szT ⟨t, s, l⟩) = -1 := by
          rw [hsz]
          cases h : szL l s.size 1 with
          | none => rfl
          | some me =>
            obtain ⟨m, e⟩ := me
            have := szL_mono _ _ _ m e h
            show within D (if 1048576 < m then none else some (m, e)) = -1
            split
            · rfl
            · exact if_neg (by omega)
        rw [hw']
        refine Ev.step (f := fun _ => some (-1)) (fun k => ?_) (Ev.now _)
        show ber_length.j1 (k + 1) _ _ _ _ _ _ = _
        rw [ber_length.j1, if_neg (by simp), if_neg h4, if_neg (by omega), if_pos hD1]
      · have hw' : within D (szT ⟨t, s, l⟩) = within D (szL l s.size 1) := by
          rw [hsz]
          cases h : szL l s.size 1 with
          | none => rfl
          | some me =>
            obtain ⟨m, e⟩ := me
            show within D (if 1048576 < m then none else some (m, e)) = within D (some (m, e))
            split
            · exact (if_neg (by omega)).symm
            · rfl
        rw [hw']
        refine Ev.step (f := fun k => ber_length.j2 k D (s.size : Int) t s l) (fun k => ?_) ?_
        · show ber_length.j1 (k + 1) _ _ _ _ _ _ = _
          rw [ber_length.j1, if_neg (by simp), if_neg h4, if_neg (by omega), if_neg hD1]
        refine Ev.step (f := fun k => ber_length.l0 k D (s.size : Int) l (l.length : Int) 0) (fun k => ?_) ?_
        · show ber_length.j2 (k + 1) _ _ _ _ _ = _
          rw [ber_length.j2]
        have := len_loop t s l hsub hl hwl D (by omega) hD l.length 0 s.size 1 (by omega) (by omega) (by omega) (by omega)
        simpa using this
theorem len_all : ∀ n (x : S32), SizeOf.sizeOf x < n → LenSaid x
  | 0, x, h => by omega
  | n + 1, ⟨t, s, l⟩, h => len_walk t s l (fun y hy => len_all n y (by
    have := List.sizeOf_lt_of_mem hy
    simp at h
    omega))
/-- May: it tells what the reference's size tells. -/
theorem may_ev (x : S32) (hw : wideT x) : ∃ k, ber_May.f k x.f0 x.f1 x.f2 = some (szT x).isSome := by
  obtain ⟨k, hk⟩ := Ev.rounds (len_all _ x (Nat.lt_succ_self _) hw 12 (by omega) (by omega))
  refine ⟨k, ?_⟩
  unfold ber_May.f
  rw [hk, Option.bind_some]
  cases h : szT x with
  | none => rfl
  | some me =>
    obtain ⟨m, e⟩ := me
    have h1 := szT_le x m e h
    have h2 := szT_deep x m e h
    have : within 12 (some (m, e)) = (m : Int) := if_pos ⟨h1, by omega⟩
    rw [this]
    simp

/-! ### SameTlv -/
def SameEv (x : S32) : Prop := ∀ y : S32, wideT x → Ev (fun k => brookref1_SameTlv.f k x.f0 x.f1 x.f2 y.f0 y.f1 y.f2) (sameT x y)
theorem same_loop (t t' : Int) (s s' : ByteArray) (l m : List S32) (hsub : ∀ x, x ∈ l → SameEv x) (hl : l.length ≤ 100) (hw : wideL l) (hlm : l.length = m.length) : ∀ (b i : Nat), l.length - i = b → i ≤ l.length →
    Ev (fun k => brookref1_SameTlv.l0 k (i : Int) t s l t' s' m) (sameL (l.drop i) (m.drop i))
  | 0, i, h1, h2 => by
    rw [List.drop_of_length_le (by omega), List.drop_of_length_le (by omega)]
    refine Ev.step (f := fun _ => some true) (fun k => ?_) (Ev.now _)
    show brookref1_SameTlv.l0 (k + 1) _ _ _ _ _ _ _ = _
    rw [brookref1_SameTlv.l0, if_neg (by omega)]
  | b + 1, i, h1, h2 => by
    have hi : i < l.length := by omega
    have hj : i < m.length := by omega
    have w2 : wrap64 ((i : Int) + 1) = ((i + 1 : Nat) : Int) := by unfold wrap64; omega
    have ih := same_loop t t' s s' l m hsub hl hw hlm b (i + 1) (by omega) (by omega)
    rw [List.drop_eq_getElem_cons hi, List.drop_eq_getElem_cons hj]
    simp only [sameL]
    refine Ev.step (f := fun k => (brookref1_SameTlv.f k l[i].f0 l[i].f1 l[i].f2 m[i].f0 m[i].f1 m[i].f2).bind fun r => if r = true then brookref1_SameTlv.l0 k ((i + 1 : Nat) : Int) t s l t' s' m else some false) (fun k => ?_) (Ev.bind (hsub l[i] (List.getElem_mem hi) m[i] (wideL_mem l hw _ (List.getElem_mem hi))) ?_)
    · show brookref1_SameTlv.l0 (k + 1) _ _ _ _ _ _ _ = _
      rw [brookref1_SameTlv.l0, if_pos (by omega), if_pos (by omega), if_pos (by omega), rd_at l i hi, rd_at m i hj, w2]
    · cases sameT l[i] m[i]
      · exact Ev.congr (f := fun _ => some false) (fun k => if_neg (by decide)) (Ev.now _)
      · exact Ev.congr (f := fun k => brookref1_SameTlv.l0 k ((i + 1 : Nat) : Int) t s l t' s' m) (fun k => if_pos rfl) ih
theorem same_walk' (t : Int) (s : ByteArray) (l : List S32) (hsub : ∀ x, x ∈ l → SameEv x) : SameEv ⟨t, s, l⟩ := by
  intro y hw
  obtain ⟨t', s', m⟩ := y
  simp only [wideT] at hw
  obtain ⟨hl, hs, hwl⟩ := hw
  dsimp only
  have stop : ∀ c : Bool, c = true → Ev (fun k => brookref1_SameTlv.j0 k c t s l t' s' m) false := fun c hc => Ev.step (f := fun _ => some false) (fun k => by
    show brookref1_SameTlv.j0 (k + 1) _ _ _ _ _ _ _ = _
    rw [brookref1_SameTlv.j0, if_pos hc]) (Ev.now _)
  by_cases h1 : t = t'
  · by_cases h2 : s.toList = s'.toList
    · have hr : sameT ⟨t, s, l⟩ ⟨t', s', m⟩ = sameL l m := by simp [sameT, h1, h2]
      rw [hr]
      refine Ev.step (f := fun k => brookref1_SameTlv.j0 k ((l.length : Int) != (m.length : Int)) t s l t' s' m) (fun k => ?_) ?_
      · show brookref1_SameTlv.f (k + 1) _ _ _ _ _ _ = _
        rw [brookref1_SameTlv.f, if_pos h1, if_pos h2]
      by_cases h3 : l.length = m.length
      · refine Ev.step (f := fun k => brookref1_SameTlv.l0 k 0 t s l t' s' m) (fun k => ?_) ?_
        · show brookref1_SameTlv.j0 (k + 1) _ _ _ _ _ _ _ = _
          rw [brookref1_SameTlv.j0, if_neg (by simp [h3])]
        · have := same_loop t t' s s' l m hsub hl hwl h3 l.length 0 (by omega) (by omega)
          simpa using this
      · rw [sameL_len l m h3]
        exact stop _ (by simp; omega)
    · have hr : sameT ⟨t, s, l⟩ ⟨t', s', m⟩ = false := by simp [sameT, h2]
      rw [hr]
      refine Ev.step (f := fun k => brookref1_SameTlv.j0 k true t s l t' s' m) (fun k => ?_) (stop true rfl)
      show brookref1_SameTlv.f (k + 1) _ _ _ _ _ _ = _
      rw [brookref1_SameTlv.f, if_pos h1, if_neg h2]
  · have hr : sameT ⟨t, s, l⟩ ⟨t', s', m⟩ = false := by simp [sameT, h1]
    rw [hr]
    refine Ev.step (f := fun k => brookref1_SameTlv.j0 k true t s l t' s' m) (fun k => ?_) (stop true rfl)
    show brookref1_SameTlv.f (k + 1) _ _ _ _ _ _ = _
    rw [brookref1_SameTlv.f, if_neg h1]
theorem same_all' : ∀ n (x : S32), SizeOf.sizeOf x < n → SameEv x
  | 0, x, h => by omega
  | n + 1, ⟨t, s, l⟩, h => same_walk' t s l (fun y hy => same_all' n y (by
    have := List.sizeOf_lt_of_mem hy
    simp at h
    omega))
theorem same_ev (x y : S32) (hw : wideT x) : ∃ k, brookref1_SameTlv.f k x.f0 x.f1 x.f2 y.f0 y.f1 y.f2 = some (sameT x y) := Ev.rounds (same_all' _ x (Nat.lt_succ_self _) y hw)
mutual
theorem sameT_refl : ∀ x : S32, sameT x x = true
  | ⟨t, s, l⟩ => by simp [sameT, sameL_refl l]
theorem sameL_refl : ∀ l : List S32, sameL l l = true
  | [] => by simp [sameL]
  | x :: r => by simp [sameL, sameT_refl x, sameL_refl r]
end
end Go.Proofs.Ytmgkflkpompchaa.BerAllPure
