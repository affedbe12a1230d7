/- What the log's laws share: the log's functions in one form, Texts, group, awake, the laws' own lists. -/
import Derived.Test.YtmgkflkpompchaaWalPure
import Derived.Test.YtmgkflkpompchaaWalFns
import Derived.Test.YtmgkflkpompchaaStripAwake
import Derived.Test.YtmgkflkpompchaaWalPrinted
import Derived.Test.YtmgkflkpompchaaWalBase
import Derived.Test.YtmgkflkpompchaaArgs
import Derived.BigQuiet
import Derived.Deep.QuietTactic
namespace Go.Proofs.Ytmgkflkpompchaa.Wal
/-! ## A log in memory and what it is for: the log's functions in one form. -/
section
open Go.RowKit Go.Proofs.YtmgkflkpompchaaW.PrintWords Go.Proofs.YtmgkflkpompchaaW.PrintLast Go.Proofs.YtmgkflkpompchaaW.PrintMore Go.Proofs.Ytmgkflkpompchaa.Strip
set_option linter.unusedVariables false
set_option linter.unusedSimpArgs false

/-- A strip in memory; X has all that changes of it touch. -/
structure StripM (B : Nat) (w : World) (p : Nat) (S : St) (X : Nat → Prop) : Prop where
  inv : SInv S
  few : S.loose.length ≤ 1099511627776
  mem : IsStrip B w p S X
  lt : ∀ k, X k → k < w.heap.size
/-- A log in memory; X has all that changes of it touch. -/
structure LogM (B : Nat) (w : World) (p q : Nat) (S : St) (W : Wl) (X : Nat → Prop) : Prop where
  inv : SInv S
  mem : ∃ F G, Both B w p q S W F G ∧ (∀ k, F k → X k) ∧ ∀ k, G k → X k
  qx : X q
  lt : ∀ k, X k → k < w.heap.size
  ge : ∀ k, X k → B ≤ k
variable {B : Nat} {w w' : World} {p q : Nat} {S S' : St} {W W' : Wl} {X : Nat → Prop}
theorem StripM.below (h : StripM B w p S X) (hb : Below w.heap.size w w') : StripM B w' p S X := ⟨h.inv, h.few, h.mem.below hb, fun k hk => Nat.lt_of_lt_of_le (h.lt k hk) hb.size⟩
theorem StripM.keep (h : StripM B w p S X) {Y : Nat → Prop} (hk : Strip.Kept Y w w') (hd : ∀ k, X k → ¬ Y k) : StripM B w' p S X := ⟨h.inv, h.few, h.mem.keep hk hd, fun k hk' => Nat.lt_of_lt_of_le (h.lt k hk') hk.size⟩
theorem LogM.below (h : LogM B w p q S W X) (hb : Below w.heap.size w w') : LogM B w' p q S W X := by
  obtain ⟨F, G, h1, h2, h3⟩ := h.mem
  exact ⟨h.inv, ⟨F, G, h1.below hb, h2, h3⟩, h.qx, fun k hk => Nat.lt_of_lt_of_le (h.lt k hk) hb.size, h.ge⟩
theorem LogM.strip (h : LogM B w p q S W X) (hf : S.loose.length ≤ 1099511627776) : ∃ F, StripM B w p S F ∧ ∀ k, F k → X k := by
  obtain ⟨F, G, h1, h2, h3⟩ := h.mem
  exact ⟨F, ⟨h.inv, hf, h1.a, h1.fF⟩, h2⟩
theorem StripM.ge (h : StripM B w p S X) : ∀ k, X k → B ≤ k := h.mem.ge
theorem StripM.of (h : IsStrip B w p S X) (hi : SInv S) (hf : S.loose.length ≤ 1099511627776) : ∃ X', StripM B w p S X' ∧ ∀ k, X' k → X k := by
  obtain ⟨F, h1, h2⟩ := h.shrink
  exact ⟨F, ⟨hi, hf, h1, fun k hk => (h2 k hk).2⟩, fun k hk => (h2 k hk).1⟩
/-- Blocks that are not the log's turn. -/
theorem LogM.keep (h : LogM B w p q S W X) {Y : Nat → Prop} (hk : Strip.Kept Y w w') (hd : ∀ k, X k → ¬ Y k) : LogM B w' p q S W X := by
  obtain ⟨F, G, h1, h2, h3⟩ := h.mem
  exact ⟨h.inv, ⟨F, G, ⟨h1.a.keep hk (fun k hf => hd k (h2 k hf)), h1.b.keep hk (fun k hf => hd k (h3 k hf)), h1.dis, fun k hf => Nat.lt_of_lt_of_le (h1.fF k hf) hk.size, fun k hf => Nat.lt_of_lt_of_le (h1.fG k hf) hk.size⟩, h2, h3⟩, h.qx, fun k hk' => Nat.lt_of_lt_of_le (h.lt k hk') hk.size, h.ge⟩
theorem LogM.recs (h : LogM B w p q S W X) (hl : W.l.length ≤ 1099511627776) :
    Calls Try.prog 37 #[.pointer (some ⟨q, 0, none⟩)] w fun e w' => ∃ v, e = .returned v ∧ w'.ownsRow w.heap.size 9 1 v W.l.length (encs Value.string W.l) ∧ Below w.heap.size w w' := by
  obtain ⟨F, G, h1, h2, h3⟩ := h.mem
  exact records_calls h1.b hl
theorem sum_le : ∀ (l : List ByteArray) (b : ByteArray), b ∈ l → b.size ≤ (framedL l).length
  | c :: r, b, h => by
    have e : (framedL (c :: r)).length = c.size + 4 + (framedL r).length := by show (frameL c ++ framedL r).length = _; rw [List.length_append, frameL_len]
    rcases List.mem_cons.1 h with rfl | h
    · omega
    · have := sum_le r b h; omega
theorem len_le : ∀ (l : List ByteArray), l.length ≤ (framedL l).length
  | [] => Nat.zero_le _
  | c :: r => by
    have e : (framedL (c :: r)).length = c.size + 4 + (framedL r).length := by show (frameL c ++ framedL r).length = _; rw [List.length_append, frameL_len]
    have := len_le r
    simp only [List.length_cons]; omega
theorem sum_bound (n m : Nat) : ∀ (l : List ByteArray), l.length ≤ n → (∀ b ∈ l, b.size ≤ m) → (framedL l).length ≤ n * (m + 4)
  | [], _, _ => Nat.zero_le _
  | c :: r, hl, h => by
    have e : (framedL (c :: r)).length = c.size + 4 + (framedL r).length := by show (frameL c ++ framedL r).length = _; rw [List.length_append, frameL_len]
    have h1 := h c List.mem_cons_self
    cases n with
    | zero => simp at hl
    | succ n =>
      have := sum_bound n m r (by simpa using hl) (fun b hb => h b (List.mem_cons_of_mem _ hb))
      rw [e, Nat.succ_mul]; omega
theorem Whole.len (h : Whole S W) : (framedL W.l).length ≤ 1048576 := by
  have h1 := h.disk.hsize
  have h2 := room_lt h.inv.len
  have := h.sum
  omega
theorem may_ok {l : List ByteArray} {n : Nat} (hl : ∀ b ∈ l, b.size ≤ 1048576) (hn : n ≤ roomN S.safe.length) (h2 : 2 ≤ S.safe.length) : mayE S l n = 0 := by
  unfold mayE
  have : l.any large = false := by
    rw [List.any_eq_false]
    intro b hb
    have := hl b hb
    unfold large
    simp; omega
  rw [this, if_neg (by simp), if_neg (by omega)]

set_option maxRecDepth 100000 in
/-- An Open. -/
theorem open_log (h : StripM B w p S X) (hd : S.down = false) (hlo : S.loose = []) {C cs cz : Nat} {l : List ByteArray} (hD : Disk S.safe C cs cz l) (hC : C ≤ 1000000) :
    Calls Try.prog 32 #[.pointer (some ⟨p, 0, none⟩)] w fun e w' => ∃ q, e = .returned (.tuple #[.pointer (some ⟨q, 0, none⟩), .int .i64 0]) ∧ w.heap.size ≤ q ∧ (∃ X', LogM B w' p q S ⟨C, cs, cz, l, false⟩ X' ∧ ∀ k, X' k → X k ∨ w.heap.size ≤ k) ∧ Whole S ⟨C, cs, cz, l, false⟩ ∧ Below w.heap.size w w' := by
  have hs := disk_sum hD
  have hz := hD.hsize
  have hr := room_lt h.inv.len
  refine Calls.mono (open_calls h.mem h.lt h.inv hd hlo C cs cz (hD.hd (by omega)) hD.hside hD.hsize l hD.bytes (by omega) (fun b hb => by have := sum_le l b hb; omega)) ?_
  rintro e w' ⟨q, rfl, ⟨G, hB, hGw⟩, hq, hb⟩
  have hG : G q := by obtain ⟨vl, h1, h2, h3, h4⟩ := hB.b; exact h3
  have hG4 : ∀ k, G k → B ≤ k := by obtain ⟨vl, h1, h2, h3, h4⟩ := hB.b; exact h4
  refine ⟨q, rfl, hq, ⟨fun k => X k ∨ G k, ⟨h.inv, ⟨X, G, hB, fun k hk => .inl hk, fun k hk => .inr hk⟩, .inr hG, ?_, ?_⟩, fun k hk => hk.imp id (hGw k)⟩, whole_open h.inv hd hlo hD hC hs, hb⟩
  · rintro k (hk | hk)
    · exact Nat.lt_of_lt_of_le (h.lt k hk) hb.size
    · exact hB.fG _ hk
  · rintro k (hk | hk)
    · exact h.ge k hk
    · exact hG4 k hk
set_option maxRecDepth 100000 in
theorem append_log {vl : Value} {l : List ByteArray} {GL : Nat → Prop} (h : LogM B w p q S W X) (hup : W.dead = false → S.down = false ∧ S.loose = []) (ht : W.turn ≤ 1000000) (hside : W.side ≤ 1) (hlen : (framedL W.l).length ≤ 1048576) (hsz : W.size ≤ 1048576)
    (hl : StrS w vl l GL) (hsum : (framedL l).length ≤ 1099511627) :
    Calls Try.prog 35 #[.pointer (some ⟨q, 0, none⟩), vl] w fun e w' => e = .returned (.int .i64 (chgR S W l (W.l ++ l) W.side W.size).e) ∧
      (SInv (chgR S W l (W.l ++ l) W.side W.size).S → ∃ X', LogM B w' p q (chgR S W l (W.l ++ l) W.side W.size).S (chgR S W l (W.l ++ l) W.side W.size).W X' ∧ Strip.Next X X' w w') := by
  obtain ⟨F, G, h1, h2, h3⟩ := h.mem
  have l1 := len_le W.l
  have l2 := len_le l
  refine Calls.mono (append_calls h1 h.inv hup (by omega) hside (by omega) hl (by omega) (by omega)) ?_
  rintro e w' ⟨rfl, ⟨F', G', g1, g2, g4⟩, g3⟩
  have hG4 : ∀ k, G' k → B ≤ k := by obtain ⟨vl, h1, h2, h3, h4⟩ := g1.b; exact h4
  refine ⟨rfl, fun hi => ⟨fun k => F' k ∨ k = q ∨ G' k, ⟨hi, ⟨F', G', g1, fun k hk => .inl hk, fun k hk => .inr (.inr hk)⟩, .inr (.inl rfl), ?_, ?_⟩, ⟨g3.os, g3.tape, g3.output, g3.size, fun k hk hx => g3.block k hk (fun e => hx (e.elim (h2 k) (fun e => e ▸ h.qx)))⟩, ?_⟩⟩
  · rintro k (hk | rfl | hk)
    · exact g1.fF k hk
    · exact Nat.lt_of_lt_of_le (h.lt _ h.qx) g3.size
    · exact g1.fG k hk
  · rintro k (hk | rfl | hk)
    · exact g1.a.ge k hk
    · exact h.ge _ h.qx
    · exact hG4 k hk
  · rintro k (hk | rfl | hk)
    · exact (g2 k hk).imp (h2 k) id
    · exact .inl h.qx
    · exact (g4 k hk).imp (h3 k) id
set_option maxRecDepth 100000 in
theorem check_log {vl : Value} {l : List ByteArray} {GL : Nat → Prop} (h : LogM B w p q S W X) (hup : W.dead = false → S.down = false ∧ S.loose = []) (ht : W.turn ≤ 1000000) (hside : W.side ≤ 1) (hl : StrS w vl l GL) (hsum : (framedL l).length ≤ 1099511627) :
    Calls Try.prog 38 #[.pointer (some ⟨q, 0, none⟩), vl] w fun e w' => e = .returned (.int .i64 (chgR S W l l ((W.side + 1) % 2) 0).e) ∧
      (SInv (chgR S W l l ((W.side + 1) % 2) 0).S → ∃ X', LogM B w' p q (chgR S W l l ((W.side + 1) % 2) 0).S (chgR S W l l ((W.side + 1) % 2) 0).W X' ∧ Strip.Next X X' w w') := by
  obtain ⟨F, G, h1, h2, h3⟩ := h.mem
  have l2 := len_le l
  refine Calls.mono (checkpoint_calls h1 h.inv hup (by omega) hside hl (by omega) (by omega)) ?_
  rintro e w' ⟨rfl, ⟨F', G', g1, g2, g4⟩, g3⟩
  have hG4 : ∀ k, G' k → B ≤ k := by obtain ⟨vl, h1, h2, h3, h4⟩ := g1.b; exact h4
  refine ⟨rfl, fun hi => ⟨fun k => F' k ∨ k = q ∨ G' k, ⟨hi, ⟨F', G', g1, fun k hk => .inl hk, fun k hk => .inr (.inr hk)⟩, .inr (.inl rfl), ?_, ?_⟩, ⟨g3.os, g3.tape, g3.output, g3.size, fun k hk hx => g3.block k hk (fun e => hx (e.elim (h2 k) (fun e => e ▸ h.qx)))⟩, ?_⟩⟩
  · rintro k (hk | rfl | hk)
    · exact g1.fF k hk
    · exact Nat.lt_of_lt_of_le (h.lt _ h.qx) g3.size
    · exact g1.fG k hk
  · rintro k (hk | rfl | hk)
    · exact g1.a.ge k hk
    · exact h.ge _ h.qx
    · exact hG4 k hk
  · rintro k (hk | rfl | hk)
    · exact (g2 k hk).imp (h2 k) id
    · exact .inl h.qx
    · exact (g4 k hk).imp (h3 k) id
/-! ### the strip's own, in this form -/
set_option maxRecDepth 100000 in
theorem fall_strip (h : StripM B w p S X) (bl cr ke tn : Int) : Calls Try.prog 39 #[.pointer (some ⟨p, 0, none⟩), .agg #[.int .i64 bl, .int .i64 cr, .int .i64 ke, .int .i64 tn]] w fun e w' => e = .returned (.tuple #[]) ∧ ∃ X', StripM B w' p (fallS S bl cr ke tn) X' ∧ Strip.Next X X' w w' := by
  refine Calls.mono (fall_calls h.mem h.inv.idx h.inv.siz h.inv.ssz h.few bl cr ke tn) ?_
  rintro e w' ⟨rfl, F', g1, g2⟩
  obtain ⟨X', k1, k2⟩ := StripM.of g1 (h.inv.fall bl cr ke tn) (by show ([] : List (Nat × ByteArray)).length ≤ _; simp)
  exact ⟨rfl, X', k1, g2.1, fun k hk => g2.2 k (k2 k hk)⟩
set_option maxRecDepth 100000 in
theorem tear_log (h : LogM B w p q S W X) (n : Int) : Calls Try.prog 52 #[.pointer (some ⟨p, 0, none⟩), .int .i64 n] w fun e w' => e = .returned (.tuple #[]) ∧ LogM B w' p q (tearS S n) W X ∧ Strip.Kept X w w' := by
  obtain ⟨F, G, h1, h2, h3⟩ := h.mem
  refine Calls.mono (tear_calls h1.a n) ?_
  rintro e w' ⟨rfl, g1, g2⟩
  have hp : F p := h1.a.own
  have hk : Strip.Kept F w w' := ⟨g2.os, g2.tape, g2.output, g2.size, fun k hk hx => g2.block k hk (fun e => hx (e ▸ hp))⟩
  refine ⟨rfl, ⟨h.inv.tear n, ⟨F, G, ⟨g1, h1.b.keep hk (fun k hg hf => h1.dis k hf hg), h1.dis, fun k hf => Nat.lt_of_lt_of_le (h1.fF k hf) hk.size, fun k hf => Nat.lt_of_lt_of_le (h1.fG k hf) hk.size⟩, h2, h3⟩, h.qx, fun k hk' => Nat.lt_of_lt_of_le (h.lt k hk') hk.size, h.ge⟩, ⟨hk.os, hk.tape, hk.output, hk.size, fun k hk' hx => hk.block k hk' (fun e => hx (h2 k e))⟩⟩
set_option maxRecDepth 100000 in
theorem new_strip (bl cr ke tn : Int) (w : World) : Calls Try.prog 31 #[.agg #[.int .i64 bl, .int .i64 cr, .int .i64 ke, .int .i64 tn]] w fun e w' => ∃ p X, e = .returned (.pointer (some ⟨p, 0, none⟩)) ∧ StripM w.heap.size w' p (newS bl cr) X ∧ Below w.heap.size w w' := by
  refine Calls.mono (new_calls bl cr ke tn w) ?_
  rintro e w' ⟨p, F, rfl, h1, h2⟩
  obtain ⟨X, k1, k2⟩ := StripM.of h1 (SInv.new bl cr) (by show ([] : List (Nat × ByteArray)).length ≤ _; simp)
  exact ⟨p, X, rfl, k1, h2⟩
end

/-! ## The reference's Texts, and the laws' group, as plain lists. No condition. -/
section
open Go.RowKit Go.Proofs.YtmgkflkpompchaaW.PrintWords Go.Proofs.YtmgkflkpompchaaW.PrintLast Go.Proofs.YtmgkflkpompchaaW.PrintMore Go.Proofs.Ytmgkflkpompchaa.Strip Go.Proofs.Ytmgkflkpompchaa.WalPrinted Go.Proofs.Ytmgkflkpompchaa.Args
set_option linter.unusedVariables false
set_option linter.unusedSimpArgs false

theorem StrS.C {w : World} {A : Option Addr} {c : Nat} {xs : List ByteArray} {G : Nat → Prop} (h : StrS w (.slice A xs.length c) xs G) : Kd.C Kd.string w A xs.length xs := by
  refine Kd.C_of_reads (d := ByteArray.empty) ⟨rfl, ?_, fun hn => ?_⟩
  · obtain ⟨A', c', e, h1, h2⟩ := h.slice
    omega
  · obtain ⟨b0, o0, e0, _, _⟩ := h.at_ 0 hn
    refine ⟨⟨b0, o0, none⟩, e0, fun j hj => ?_⟩
    obtain ⟨b, o, e, _, hc⟩ := h.at_ j hj
    rw [e0] at e
    injection e with e
    injection e with e1 e2
    subst e1 e2
    rw [show (⟨b0, o0, none⟩ : Addr).add j = ⟨b0, o0 + j, none⟩ by unfold Addr.add; by_cases h : j = 0 <;> simp [h]]
    rw [hc, List.getD_eq_getElem?_getD, List.getElem?_eq_getElem hj]; rfl
theorem toList_eq' (b : ByteArray) : ∀ (n i : Nat) (r : List UInt8), b.size - i = n → ByteArray.toList.loop b i r = r.reverse ++ b.data.toList.drop i
  | 0, i, r, h => by
    unfold ByteArray.toList.loop
    rw [if_neg (by omega), List.drop_eq_nil_of_le (by show b.data.toList.length ≤ i; rw [Array.length_toList]; show b.size ≤ i; omega), List.append_nil]
  | n + 1, i, r, h => by
    have hi : i < b.data.toList.length := by rw [Array.length_toList]; show i < b.size; omega
    unfold ByteArray.toList.loop
    rw [if_pos (by omega), toList_eq' b n (i + 1) _ (by omega), List.drop_eq_getElem_cons hi]
    have : b.get! i = b.data.toList[i] := by
      show b.data[i]! = _
      have h2 : i < b.data.size := by show i < b.size; omega
      rw [getElem!_pos b.data i h2]; simp
    rw [this]; simp
theorem toList_inj {a b : ByteArray} : a.toList = b.toList ↔ a = b := by
  unfold ByteArray.toList
  rw [toList_eq' a _ 0 [] rfl, toList_eq' b _ 0 [] rfl]
  simp only [List.reverse_nil, List.nil_append, List.drop_zero]
  exact ⟨WideShapes.bytes_inj, fun h => by rw [h]⟩
theorem texts_l0 : ∀ (k : Nat) (a b : List ByteArray) (j : Nat), a.length = b.length → j ≤ a.length → a.length - j < k → a.length ≤ 1099511627776 →
    brookref1_Texts.l0 k a b (j : Int) = some (decide (a.drop j = b.drop j))
  | 0, a, b, j, _, _, h, _ => by omega
  | k + 1, a, b, j, hl, hj, hk, hm => by
    unfold brookref1_Texts.l0
    by_cases h1 : j < a.length
    · have hd1 := List.drop_eq_getElem_cons h1
      have hd2 := List.drop_eq_getElem_cons (show j < b.length by omega)
      rw [if_pos (by omega), if_pos (by omega), if_pos (by omega), show wrap64 ((j : Int) + 1) = ((j + 1 : Nat) : Int) by unfold wrap64; omega, texts_l0 k a b (j + 1) hl (by omega) (by omega) hm]
      have e1 : rdOf ByteArray.empty a (j : Int) = a[j] := by unfold rdOf; rw [Int.toNat_natCast, List.getD_eq_getElem?_getD, List.getElem?_eq_getElem h1]; rfl
      have e2 : rdOf ByteArray.empty b (j : Int) = b[j]'(by omega) := by unfold rdOf; rw [Int.toNat_natCast, List.getD_eq_getElem?_getD, List.getElem?_eq_getElem (by omega)]; rfl
      rw [e1, e2]
      by_cases h2 : a[j] = b[j]'(by omega)
      · have h3 : a.drop (j + 1) = b.drop (j + 1) ↔ a.drop j = b.drop j := by rw [hd1, hd2, h2]; exact ⟨fun e => by rw [e], fun e => by injection e⟩
        rw [if_pos (by rw [h2])]
        congr 1
        exact decide_eq_decide.2 h3
      · have h3 : ¬ a.drop j = b.drop j := by
          rw [hd1, hd2]
          intro e
          injection e with e _
          exact h2 e
        rw [if_neg (fun e => h2 (toList_inj.1 e))]
        congr 1
        exact (decide_eq_false h3).symm
    · rw [if_neg (by omega), List.drop_eq_nil_of_le (by omega), List.drop_eq_nil_of_le (by omega)]; rfl
theorem texts_f (a b : List ByteArray) (hm : a.length ≤ 1099511627776) : brookref1_Texts.f (a.length + 1) a b = some (decide (a = b)) := by
  unfold brookref1_Texts.f
  by_cases h : a.length = b.length
  · rw [if_pos (by omega)]
    have := texts_l0 (a.length + 1) a b 0 h (by omega) (by omega) hm
    rw [show ((0 : Nat) : Int) = 0 from rfl] at this
    rw [this]; simp
  · rw [if_neg (by omega)]
    congr 1
    symm
    apply decide_eq_false
    intro e; rw [e] at h; exact h rfl
theorem texts_calls {w : World} {va vb : Value} {a b : List ByteArray} {GA GB : Nat → Prop} (ha : StrS w va a GA) (hb : StrS w vb b GB) (hm : a.length ≤ 1099511627776) :
    Calls Try.prog 36 #[va, vb] w fun e w' => e = .returned (.bool (decide (a = b))) ∧ Below w.heap.size w w' := by
  obtain ⟨A, c, rfl, h1, h2⟩ := ha.slice
  obtain ⟨A', c', rfl, h3, h4⟩ := hb.slice
  refine Calls.mono (brookref1_Texts.calls (a.length + 1) A c a A' c' b _ w ha.C h1 hb.C h3 (texts_f a b hm)) ?_
  rintro e w' ⟨rfl, ⟨n, rfl⟩⟩
  exact ⟨rfl, pw_below_drewN (Below.refl _ _) n⟩
/-! ### group -/
def strs (n : Int) : Nat → ByteArray
  | 0 => ⟨#[]⟩
  | j + 1 => strs n j ++ strOfNums [(n * ((wrap64 ((j : Int) + 1)) % 256)) % 256]
def gtext (n : Int) : ByteArray := strs n (n % 50).toNat
def groupL (xs : List Int) : List ByteArray := (xs.take 6).map gtext
theorem strs_size (n : Int) : ∀ j, (strs n j).size = j
  | 0 => rfl
  | j + 1 => by show (strs n j ++ _).size = _; rw [ByteArray.size_append, strs_size n j]; rfl
theorem gtext_size (n : Int) : (gtext n).size ≤ 49 := by unfold gtext; rw [strs_size]; omega
theorem groupL_len (xs : List Int) : (groupL xs).length ≤ 6 := by simp [groupL]; omega
theorem groupL_size (xs : List Int) : ∀ b ∈ groupL xs, b.size ≤ 49 := by
  intro b hb
  simp only [groupL, List.mem_map] at hb
  obtain ⟨x, _, rfl⟩ := hb
  exact gtext_size x
def Bytes0 (xs : List Int) : Prop := ∀ x ∈ xs, 0 ≤ x ∧ x ≤ 255
theorem group_l1 (xs : List Int) (acc : List ByteArray) (i : Nat) (hi : i < xs.length) (hx : Bytes0 xs) (hacc : acc.length ≤ 6) (h100 : i ≤ 6) (r : List ByteArray) (h : ∃ k, brooklaw17_group.l0 k xs (acc ++ [gtext xs[i]]) ((i + 1 : Nat) : Int) = some r) :
    ∀ (d j : Nat), j + d = (xs[i] % 50).toNat → ∃ k, brooklaw17_group.l1 k xs acc (i : Int) (strs xs[i] j) (j : Int) = some r := by
  have hr := hx xs[i] (List.getElem_mem hi)
  have hrd : rd xs (i : Int) = xs[i] := by unfold rd; rw [List.getD_eq_getElem?_getD, Int.toNat_natCast, List.getElem?_eq_getElem hi]; rfl
  have hw : Int.tmod (wrap64 xs[i]) 50 = ((xs[i] % 50).toNat : Int) := by
    have : wrap64 xs[i] = xs[i] := by unfold wrap64; omega
    rw [this, Int.tmod_eq_emod_of_nonneg (by omega), Int.toNat_of_nonneg (by omega)]
  intro d
  induction d with
  | zero =>
    intro j hj
    obtain ⟨k, hk⟩ := h
    refine ⟨k + 1, ?_⟩
    unfold brooklaw17_group.l1
    rw [if_pos (by omega), if_pos (by omega), hrd, hw, if_neg (by omega), if_pos (by omega), show wrap64 ((i : Int) + 1) = ((i + 1 : Nat) : Int) by unfold wrap64; omega]
    rw [show strs xs[i] j = gtext xs[i] by unfold gtext; rw [show j = (xs[i] % 50).toNat by omega]]
    exact hk
  | succ d ih =>
    intro j hj
    obtain ⟨k, hk⟩ := ih (j + 1) (by omega)
    refine ⟨k + 1, ?_⟩
    unfold brooklaw17_group.l1
    rw [if_pos (by omega), if_pos (by omega), hrd, hw, if_pos (by omega)]
    show (if _ then _ else _) = _
    have hs : (strOfNums [(xs[i] * ((wrap64 ((j : Int) + 1)) % 256)) % 256]).size = 1 := rfl
    rw [if_pos (by rw [strs_size, hs]; omega), show (wrap64 ((j : Int) + 1)) = ((j + 1 : Nat) : Int) by unfold wrap64; omega]
    have e : strs xs[i] j ++ strOfNums [(xs[i] * (((j + 1 : Nat) : Int) % 256)) % 256] = strs xs[i] (j + 1) := by
      show _ = strs xs[i] j ++ _
      rw [show (wrap64 ((j : Int) + 1)) = ((j + 1 : Nat) : Int) by unfold wrap64; omega]
    rw [e]; exact hk
theorem group_l0 (xs : List Int) (hx : Bytes0 xs) : ∀ (d i : Nat), i + d = min 6 xs.length → ∃ k, brooklaw17_group.l0 k xs ((xs.take i).map gtext) (i : Int) = some (groupL xs) := by
  intro d
  induction d with
  | zero =>
    intro i hi
    refine ⟨2, ?_⟩
    unfold brooklaw17_group.l0
    have e : (xs.take i).map gtext = groupL xs := by
      unfold groupL
      rcases Nat.lt_or_ge xs.length 6 with h | h
      · rw [List.take_of_length_le (by omega), List.take_of_length_le (by omega)]
      · rw [show i = 6 by omega]
    rw [e]
    by_cases h1 : i < xs.length
    · rw [if_pos (by omega), show decide ((i : Int) < 6) = false by apply decide_eq_false; omega]; rfl
    · rw [if_neg (by omega)]; rfl
  | succ d ih =>
    intro i hi
    have hlt : i < xs.length := by omega
    obtain ⟨k, hk⟩ := ih (i + 1) (by omega)
    rw [List.take_add_one, List.getElem?_eq_getElem hlt, List.map_append] at hk
    obtain ⟨k1, hk1⟩ := group_l1 xs ((xs.take i).map gtext) i hlt hx (by simp; omega) (by omega) _ ⟨k, hk⟩ (xs[i] % 50).toNat 0 (by omega)
    refine ⟨k1 + 1 + 1, ?_⟩
    unfold brooklaw17_group.l0
    rw [if_pos (by omega), show decide ((i : Int) < 6) = true by apply decide_eq_true; omega]
    unfold brooklaw17_group.j1
    rw [if_pos rfl]
    exact hk1
theorem group_calls {w : World} {A : Option Addr} {c : Nat} {xs : List Int} (h : ARow U8 1 w A xs) (hc : xs.length ≤ c) (hm : c ≤ maxLen) : 
    Calls Try.prog 34 #[.slice A xs.length c] w fun e w' => ∃ v, e = .returned v ∧ w'.ownsRow w.heap.size 9 1 v (groupL xs).length (encs Value.string (groupL xs)) ∧ Below w.heap.size w w' := by
  have hx : Bytes0 xs := fun x hx => by
    obtain ⟨j, hj, rfl⟩ := List.getElem_of_mem hx
    obtain ⟨a, _, _, h3, h4⟩ := h.u8_at j hj
    exact ⟨h3, h4⟩
  have hC : Kd.C (Kd.int .u8) w A xs.length xs := by
    refine Kd.C_of_reads (d := (0 : Int)) ⟨rfl, by unfold maxLen at hm; omega, fun hn => ?_⟩
    obtain ⟨a, e, _⟩ := h.u8_at 0 hn
    refine ⟨a, e, fun j hj => ?_⟩
    obtain ⟨a', e', hc, _⟩ := h.u8_at j hj
    rw [e] at e'
    injection e' with e'
    subst e'
    rw [hc, List.getD_eq_getElem?_getD, List.getElem?_eq_getElem hj]; rfl
  obtain ⟨k, hk⟩ := group_l0 xs hx (min 6 xs.length) 0 (by omega)
  refine Calls.mono (brooklaw17_group.calls k A c xs (groupL xs) w hC hc hk) ?_
  rintro e w' ⟨v, rfl, hR, hb⟩
  exact ⟨v, rfl, Kd.own_of_R hR, hb⟩
theorem room_plan_calls (w : World) : Calls Try.prog 40 #[] w fun e w' => e = .returned (.agg #[.int .i64 4096, .int .i64 0, .int .i64 0, .int .i64 0]) ∧ Below w.heap.size w w' := brooklaw17_Room.calls _ _ _ _ w rfl
end

/-! ## brooklaw17's awake. -/
section
open Go.RowKit Go.Proofs.YtmgkflkpompchaaW.PrintWords Go.Proofs.YtmgkflkpompchaaW.PrintLast Go.Proofs.YtmgkflkpompchaaW.PrintMore Go.Proofs.Ytmgkflkpompchaa.Strip
set_option linter.unusedVariables false
set_option linter.unusedSimpArgs false

variable {B : Nat} {w w' : World} {p q : Nat} {S : St} {W : Wl} {X : Nat → Prop}
def wl0 : Wl := ⟨0, 0, 0, [], false⟩
theorem new_up (bl cr : Int) : (newS bl cr).down = false ∧ (newS bl cr).loose = [] := ⟨rfl, rfl⟩
theorem new_quiet (bl cr : Int) (h : cr ≤ 0) : Quiet (newS bl cr) 0 := ⟨h, by show (0 : Int) ≤ 0; omega, by show (0 : Int) ≤ 0; omega⟩
theorem new_room : (newS 4096 0).safe.length = 4096 := by unfold newS; simp only [List.length_replicate]; rfl
theorem new_room' (cr : Int) : (newS 4096 cr).safe.length = 4096 := by unfold newS; simp only [List.length_replicate]; rfl
def awl : List ByteArray := [⟨#[97]⟩, ⟨#[98]⟩]
def awR : Res := chgR (newS 4096 0) wl0 awl ([] ++ awl) 0 0
theorem whole0 (cr : Int) : Whole (newS 4096 cr) wl0 := ⟨SInv.new 4096 cr, rfl, rfl, Disk.fresh 4096 cr, rfl, by show 0 ≤ 1000000; omega, rfl⟩
set_option maxRecDepth 100000 in
theorem awR_is : awR.e = 0 ∧ Whole awR.S awR.W ∧ awR.W.l = awl := by
  have h := whole0 0
  have hc := chg_is h (by show 0 + 1 ≤ 1000000; omega) (l := awl) (all := [] ++ awl) (side := 0) (at_ := 0) (apart_append wl0) (by omega) (framed_append h awl)
  rcases hc with ⟨h1, _⟩ | ⟨_, _, _, h2, h3⟩
  · exfalso
    refine h1 (may_ok (by intro b hb; simp [awl] at hb; rcases hb with rfl | rfl <;> decide) ?_ (by rw [new_room]; omega))
    have h4 := sum_bound 2 1 awl (by simp [awl]) (by intro b hb; simp [awl] at hb; rcases hb with rfl | rfl <;> decide)
    rw [new_room, framedB_size]
    unfold roomN; omega
  · rcases h2 with ⟨a1, a2, a3, _⟩ | ⟨a1, _⟩
    · exact ⟨a1, a2, a3⟩
    · have := (h3 0 (new_quiet 4096 0 (by omega)) (by omega)).1
      rw [a1] at this; cases this
theorem two_strs (w : World) (a b : ByteArray) : StrS (w.alloc (.cells #[.string a, .string b] 9)) (.slice (some ⟨w.heap.size, 0, none⟩) 2 2) [a, b] (fun k => k = w.heap.size) := by
  have hb := blk_new w (.cells #[.string a, .string b] 9)
  refine ⟨some ⟨w.heap.size, 0, none⟩, 2, rfl, Nat.le_refl _, by omega, fun j hj => ⟨w.heap.size, 0, rfl, rfl, ?_⟩⟩
  rw [Nat.zero_add, blk_cell hb]
  match j, hj with
  | 0, _ => rfl
  | 1, _ => rfl
theorem one_str (w : World) (a : ByteArray) : StrS (w.alloc (.cells #[.string a] 9)) (.slice (some ⟨w.heap.size, 0, none⟩) 1 1) [a] (fun k => k = w.heap.size) := by
  have hb := blk_new w (.cells #[.string a] 9)
  refine ⟨some ⟨w.heap.size, 0, none⟩, 1, rfl, Nat.le_refl _, by omega, fun j hj => ⟨w.heap.size, 0, rfl, rfl, ?_⟩⟩
  rw [Nat.zero_add, blk_cell hb]
  match j, hj with
  | 0, _ => rfl
theorem LogM.thru {w0 : World} (h : LogM B w p q S W X) (hb : Below w0.heap.size w0 w) (hB : w0.heap.size ≤ B) {X' : Nat → Prop} (hn : Strip.Next X X' w w') : Below w0.heap.size w0 w' :=
  below_thru hb (fun k hk => Nat.le_trans hB (h.ge k hk)) hn.1
set_option maxHeartbeats 1600000 in
set_option maxRecDepth 100000 in
theorem awake_calls (w : World) : Calls Try.prog 30 #[] w fun e w' => e = .returned (.bool true) ∧ Below w.heap.size w w' := by
  go_enter Try.func30, Try.ntmps30
  go_upto_region 2 with (first | (go_at_call 40; refine Calls.mono (room_plan_calls _) ?_; rintro e w1 ⟨rfl, hb⟩; have HB1 := Aside0.mk hb; clear hb) | (go_at_call 31; refine Calls.mono (new_strip 4096 0 0 0 _) ?_; rintro e w2 ⟨p, X, rfl, hs, hb⟩; have HS2 := Aside0.mk hs; have HB2 := Aside0.mk (below_step HB1.out hb); clear hb hs) | (go_at_call 32; refine Calls.mono (open_log HS2.out rfl rfl (Disk.fresh 4096 0) (by omega)) ?_; rintro e w3 ⟨q, rfl, hq, ⟨X3, hl, hx3⟩, hw, hb⟩; have HL3 := Aside0.mk hl; have HB3 := Aside0.mk (below_step HB2.out hb); clear hb hl hq hw hx3) | fail)
  have HL := Aside0.mk (show LogM w1.heap.size w3 p q (newS 4096 0) wl0 _ from HL3.out)
  go_upto_region 4 with (first | (go_at_call 33; refine Calls.mono (num_calls _ _) ?_; rintro e w9 ⟨rfl, rfl⟩) | (go_at_call 37; refine Calls.mono (LogM.recs (HL.out.below ?bl) (by show 0 ≤ _; omega)) ?_; (case bl => repeat (first | exact Below.refl _ _ | apply pw_below_drewN | apply below_drew)); rintro e w4 ⟨v, rfl, ho, hb⟩; have HB4 := Aside0.mk hb; obtain ⟨A4, c4, rfl⟩ := own_slice ho; clear ho hb) | fail)
  have HL5 := Aside0.mk (HL.out.below HB4.out)
  have HB5 := Aside0.mk (below_step HB3.out HB4.out)
  clear HL HL3 HS2 HB4
  have HA := Aside0.mk (fun (w5 : World) (vl : Value) (GL : Nat → Prop) (hb : Below w4.heap.size w4 w5) (hl : StrS w5 vl awl GL) => append_log (HL5.out.below hb) (fun _ => ⟨rfl, rfl⟩) (by show 0 ≤ _; omega) (by show 0 ≤ _; omega) (by show 0 ≤ _; omega) (by show 0 ≤ _; omega) hl (by decide))
  have HAR := Aside0.mk awR_is
  rw [show chgR (newS 4096 0) wl0 awl (wl0.l ++ awl) wl0.side wl0.size = awR from rfl] at HA
  generalize awR = R at HA HAR
  go_upto_region 5 with (first | (go_at_call 35; refine Calls.mono (HA.out _ _ _ (below_alloc (Below.refl _ _) _) (two_strs _ _ _)) ?_; rintro e w6 ⟨rfl, hx⟩; obtain ⟨X6, h6, n6⟩ := hx HAR.out.2.1.inv; have HL6 := Aside0.mk h6; have HB6 := Aside0.mk (LogM.thru (HL5.out.below (below_alloc (Below.refl _ _) _)) (below_alloc HB5.out _) HB1.out.size n6); clear h6 n6 hx) | fail)
  clear HA
  have HR7 := Aside0.mk (show awl.length ≤ 1099511627776 by decide)
  rw [HAR.out.1]
  go_wp2_with (first | (go_at_call 33; refine Calls.mono (num_calls _ _) ?_; rintro e w9 ⟨rfl, rfl⟩) | (go_at_call 37; refine Calls.mono (LogM.recs (HL6.out.below ?bl) (by rw [HAR.out.2.2]; exact HR7.out)) ?_; (case bl => repeat (first | exact Below.refl _ _ | apply pw_below_drewN | apply below_drew | apply below_alloc)); rintro e w7 ⟨v, rfl, ho, hb⟩; rw [HAR.out.2.2] at ho; have HO7 := Aside0.mk (StrS.of_own ho); have HB7 := Aside0.mk (below_step HB6.out hb); clear ho hb) | (go_at_call 36; refine Calls.mono (texts_calls (HO7.out.below (below_alloc (Below.refl _ _) _)) (two_strs _ _ _) HR7.out) ?_; rintro e w8 ⟨rfl, hb⟩; have HB8 := Aside0.mk (below_step (below_alloc HB7.out _) hb); clear hb) | fail)
  go_ret
  exact ⟨rfl, HB8.out⟩
set_option maxHeartbeats 1600000 in
set_option maxRecDepth 100000 in
/-- WalNil. -/
theorem nil_walk (t : ByteArray) (ht : t.size ≤ 140737488351232) (w : World) : Calls Try.prog 16 #[.string t] w fun e w' => e = .returned (.bool true) ∧ Below w.heap.size w w' := by
  clear ht
  go_enter Try.func16, Try.ntmps16
  go_wp2_with (first | (go_at_call 33; refine Calls.mono (num_calls _ _) ?_; rintro e w9 ⟨rfl, rfl⟩) | (go_at_call 37; refine Calls.mono (records_nil _) ?_; rintro e w2 ⟨rfl, rfl⟩) | (go_at_call 35; refine Calls.mono (append_nil _ _) ?_; rintro e w2 ⟨rfl, rfl⟩) | (go_at_call 38; refine Calls.mono (checkpoint_nil _ _) ?_; rintro e w2 ⟨rfl, rfl⟩) | (go_at_call 30; refine Calls.mono (awake_calls _) ?_; rintro e w8 ⟨rfl, hb⟩; have HB8 := Aside0.mk hb; clear hb) | fail)
  go_ret
  exact ⟨rfl, below_step (below_alloc (below_alloc (Below.refl _ _) _) _) HB8.out⟩
end

/-! ## The laws' own lists of texts, beside a log. -/
section
open Go.RowKit Go.Proofs.YtmgkflkpompchaaW.PrintWords Go.Proofs.YtmgkflkpompchaaW.PrintLast Go.Proofs.YtmgkflkpompchaaW.PrintMore Go.Proofs.Ytmgkflkpompchaa.Strip
set_option linter.unusedVariables false
set_option linter.unusedSimpArgs false
variable {B b0 : Nat} {w w' : World} {p q : Nat} {S : St} {W : Wl} {X X' : Nat → Prop} {v : Value} {xs ys : List ByteArray}

/-- A list that the law has for itself, apart from X. -/
def Row (b0 : Nat) (w : World) (X : Nat → Prop) (v : Value) (xs : List ByteArray) : Prop := Kd.R Kd.string 9 w b0 (fun k => ¬ X k) v xs
theorem Row.own (h : Row b0 w X v xs) : w.ownsRow b0 9 1 v xs.length (encs Value.string xs) := Kd.own_of_R h
theorem Row.off (h : Row b0 w X v xs) : ∀ k, v.ownBlock = some k → ¬ X k := h.1
theorem Row.lt (h : Row b0 w X v xs) : ∀ k, v.ownBlock = some k → k < w.heap.size := fun k hk => by
  obtain ⟨c, hc⟩ := own_typed h.own k hk
  exact blk_lt hc
theorem Row.of_own (h : w.ownsRow b0 9 1 v xs.length (encs Value.string xs)) (hd : ∀ k, v.ownBlock = some k → ¬ X k) : Row b0 w X v xs := Kd.R_of_own h hd
/-- A new list. -/
theorem Row.fresh {B1 : Nat} (h : w.ownsRow B1 9 1 v xs.length (encs Value.string xs)) (hb : b0 ≤ B1) (hX : ∀ k, X k → k < B1) : Row b0 w X v xs := by
  refine Row.of_own ⟨h.1, ?_⟩ (fun k hk hx => ?_)
  · rcases h.2 with h2 | ⟨g, cap, cur, e, h3, h4⟩
    · exact .inl h2
    · exact .inr ⟨g, cap, cur, e, Nat.le_trans hb h3, h4⟩
  · rcases h.2 with ⟨rfl, _⟩ | ⟨g, cap, cur, rfl, h3, h4⟩
    · simp [Value.ownBlock] at hk
    · have : g = k := by simpa [Value.ownBlock] using hk
      subst this
      have := hX _ hx; omega
theorem Row.strS (h : Row b0 w X v xs) : StrS w v xs (fun k => ¬ X k) := by
  rcases h.own.2 with ⟨rfl, h0⟩ | ⟨g, cap, cur, rfl, hb, hh, hn, hm, hs, ht⟩
  · have : xs = [] := List.eq_nil_of_length_eq_zero h0
    subst this; exact StrS.nil _ _
  · have hS := StrS.of_own h.own
    obtain ⟨A, c, e, h1, h2, h3⟩ := hS
    refine ⟨A, c, e, h1, h2, fun j hj => ?_⟩
    obtain ⟨b, off, e1, _, hc⟩ := h3 j hj
    refine ⟨b, off, e1, ?_, hc⟩
    injection e with e2
    rw [← e2] at e1
    injection e1 with e1
    injection e1 with e1
    subst e1
    exact h.off _ (by simp [Value.ownBlock])
theorem Row.next (h : Row b0 w X v xs) (hn : Strip.Next X X' w w') : Row b0 w' X' v xs := by
  refine Row.of_own (own_move h.own (fun k hk => hn.1.block k (h.lt k hk) (h.off k hk))) (fun k hk hx => ?_)
  rcases hn.2 k hx with h1 | h1
  · exact h.off k hk h1
  · have := h.lt k hk; omega
theorem Row.below (h : Row b0 w X v xs) (hb : Below w.heap.size w w') (hX : ∀ k, X' k → X k ∨ w.heap.size ≤ k) : Row b0 w' X' v xs := h.next ⟨Strip.Kept.of_below hb, hX⟩
theorem Row.same (h : Row b0 w X v xs) (hb : Below w.heap.size w w') : Row b0 w' X v xs := h.below hb (fun k hk => .inl hk)
theorem Row.nil (b0 : Nat) (w : World) (X : Nat → Prop) : Row b0 w X (.slice none 0 0) [] := Row.of_own (xs := []) ⟨rfl, .inl ⟨rfl, rfl⟩⟩ (fun k hk => by simp [Value.ownBlock] at hk)
theorem grown_kept {v : Value} (h : w.grownBy w' v.ownBlock) : Strip.Kept (fun k => v.ownBlock = some k) w w' := ⟨h.os, h.tape, h.output, h.size, fun k hk hn => h.block k hk (fun e => hn e.symm)⟩
theorem LogM.grown (h : LogM B w p q S W X) (hr : Row b0 w X v xs) (hg : w.grownBy w' v.ownBlock) : LogM B w' p q S W X := h.keep (grown_kept hg) (fun k hx hk => hr.off k hk hx)
theorem StripM.grown (h : StripM B w p S X) (hr : Row b0 w X v xs) (hg : w.grownBy w' v.ownBlock) : StripM B w' p S X := h.keep (grown_kept hg) (fun k hx hk => hr.off k hk hx)
theorem StrS.grown {G : Nat → Prop} {v2 : Value} (h : StrS w v xs G) (hg : w.grownBy w' v2.ownBlock) (hd : ∀ k, v2.ownBlock = some k → ¬ G k) : StrS w' v xs G := h.keep (grown_kept hg) (fun k hk e => hd k e hk)
theorem StrS.take {G : Nat → Prop} {A : Option Addr} {n c : Nat} (h : StrS w (.slice A n c) xs G) (m : Nat) (hm : m ≤ xs.length) : StrS w (.slice A m c) (xs.take m) G := by
  obtain ⟨A', c', e, h1, h2, h3⟩ := h
  injection e with e1 e2 e3
  subst e1 e3
  have hl : (xs.take m).length = m := by rw [List.length_take]; omega
  refine ⟨A, c, by rw [hl], by rw [hl]; omega, h2, fun j hj => ?_⟩
  obtain ⟨b, off, g1, g2, g3⟩ := h3 j (by omega)
  exact ⟨b, off, g1, g2, by rw [g3, List.getElem_take]⟩
/-! ### what the loops keep -/
/-- All texts are short, and few. -/
def Few (n : Nat) (l : List ByteArray) : Prop := l.length ≤ n ∧ ∀ b ∈ l, b.size ≤ 49
theorem Few.append {n m : Nat} (h : Few n xs) (k : Few m ys) : Few (n + m) (xs ++ ys) := ⟨by rw [List.length_append]; have := h.1; have := k.1; omega, fun b hb => (List.mem_append.1 hb).elim (h.2 b) (k.2 b)⟩
theorem Few.take {n : Nat} (h : Few n xs) (m : Nat) : Few n (xs.take m) := ⟨by rw [List.length_take]; have := h.1; omega, fun b hb => h.2 b (List.mem_of_mem_take hb)⟩
theorem Few.mono {n m : Nat} (h : Few n xs) (hm : n ≤ m) : Few m xs := ⟨Nat.le_trans h.1 hm, h.2⟩
theorem Few.group (ns : List Int) : Few 6 (groupL ns) := ⟨groupL_len ns, groupL_size ns⟩
theorem Few.sum {n : Nat} (h : Few n xs) : (framedL xs).length ≤ n * 53 := sum_bound n 49 xs h.1 h.2
/-- What a change of few texts leaves. -/
def FewRes (S : St) (W : Wl) (all : List ByteArray) (R : Res) : Prop :=
  R.S.safe.length = 4096 ∧ SInv R.S ∧
    ((R.e = 0 ∧ Whole R.S R.W ∧ R.W.l = all ∧ R.W.turn = W.turn + 1) ∨
     (R.e = 8 ∧ R.S.down = true ∧ R.W = { W with dead := true } ∧ ∃ cs cz, Fell R.S W.turn W.side W.size W.l (W.turn + 1) cs cz all)) ∧
    (∀ M, Quiet S M → M ≤ 1000000000 → R.e = 0 ∧ Quiet R.S (M + 40000))
/-- A change of few texts on a strip with room. -/
theorem chg_few (h : Whole S W) (ht : W.turn + 1 ≤ 1000000) (hN : S.safe.length = 4096) {l all : List ByteArray} {side at_ : Nat} (ha : Apart W.side W.size side at_) (hs : side ≤ 1) (hb : framedB all = bytesB S.safe (firstN S.safe.length side) at_ ++ framedB l)
    (hf : Few 1000 all) (hfl : ∀ b ∈ l, b ∈ all) (hsum : at_ + (framedL l).length = (framedL all).length) : FewRes S W all (chgR S W l all side at_) := by
  rcases chg_is h ht ha hs hb with ⟨h1, _⟩ | ⟨h0, h1, h2, h3, h4⟩
  · exfalso
    refine h1 (may_ok (fun b hb => by have := hf.2 b (hfl b hb); omega) ?_ (by omega))
    have := hf.sum
    rw [hN, framedB_size, hsum]
    unfold roomN; omega
  · refine ⟨h1.trans hN, h2, ?_, h4⟩
    rcases h3 with h3 | ⟨k1, k2, k3, k4⟩
    · exact .inl h3
    · exact .inr ⟨k1, k2, k3, _, _, k4⟩
theorem append_few (h : Whole S W) (ht : W.turn + 1 ≤ 1000000) (hN : S.safe.length = 4096) {l : List ByteArray} (hf : Few 1000 (W.l ++ l)) : FewRes S W (W.l ++ l) (chgR S W l (W.l ++ l) W.side W.size) :=
  chg_few h ht hN (apart_append W) h.disk.hside (framed_append h l) hf (fun b hb => List.mem_append_right _ hb) (by rw [framedL_append, List.length_append, ← h.sum])
theorem check_few (h : Whole S W) (ht : W.turn + 1 ≤ 1000000) (hN : S.safe.length = 4096) {l : List ByteArray} (hf : Few 1000 l) : FewRes S W l (chgR S W l l ((W.side + 1) % 2) 0) :=
  chg_few h ht hN (apart_check W h.disk.hside) (by omega) (framed_check (S := S) l _) hf (fun b hb => hb) (by omega)
end
end Go.Proofs.Ytmgkflkpompchaa.Wal
