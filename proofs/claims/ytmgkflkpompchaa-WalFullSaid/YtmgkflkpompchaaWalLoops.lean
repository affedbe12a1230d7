/- What the loops of the log's laws share. -/
import Derived.Test.YtmgkflkpompchaaWalLaws
namespace Go.Proofs.Ytmgkflkpompchaa.Wal
open Go.RowKit Go.Proofs.YtmgkflkpompchaaW.PrintWords Go.Proofs.YtmgkflkpompchaaW.PrintLast Go.Proofs.YtmgkflkpompchaaW.PrintMore Go.Proofs.Ytmgkflkpompchaa.Strip
set_option linter.unusedVariables false
set_option linter.unusedSimpArgs false
theorem infoS : (Try.prog.info? 9).map (fun i => (i.zero, i.size, i.bytes)) = some (some (.string ⟨#[]⟩), 1, 16) := by kernel_rfl
section
variable {ops : Array Oper} {rest : List Oper} {o : Oper} {a : Act} {Q : Exit → Act → World → Prop} {w0 W : World} {X G : Nat → Prop} {v : Value} {xs ys : List ByteArray} {A : Option Addr} {c : Nat}
/-- append(xs, ys...) -/
theorem row_append (hgd : o.guard = none) (s x : Operand) (ho : o.op = .call { callee := .builtin .append, args := #[s, x], argTypes := #[48, 48] }) (hs : a.eval s = v) (hx : a.eval x = .slice A ys.length c)
    (h : Row w0.heap.size W X v xs) (hy : StrS W (.slice A ys.length c) ys G) (hX : ∀ k, X k → k < W.heap.size) (HB : Below w0.heap.size w0 W) (hl : xs.length + ys.length ≤ 1000000)
    (hk : ∀ v1 w1, Row w0.heap.size w1 X v1 (xs ++ ys) → Below w0.heap.size w0 w1 → W.grownBy w1 v.ownBlock → (v1.ownBlock = v.ownBlock ∨ ∃ b, v1.ownBlock = some b ∧ W.heap.size ≤ b) → wpList Try.prog ops Q rest (a.put o.dst v1) w1) :
    wpList Try.prog ops Q (o :: rest) a W :=
  Kd.R_append_row Value.string ByteArray.empty (h1 := fun _ => rfl) (w0 := w0) w0.heap.size hgd s x 48 9 (.string ⟨#[]⟩) 16 ho Try.underlying48 infoS rfl (by decide) v xs ys A ys.length c (fun k => ¬ X k) hs hx (fun k hk hx => by have := hX k hx; omega)
    h hy.C HB HB.size (by omega) hk
end
/-- An empty list, made. -/
theorem Row.lit0 (b0 : Nat) (w : World) (X : Nat → Prop) (hb : b0 ≤ w.heap.size) (hX : ∀ k, X k → k < w.heap.size) : Row b0 (w.alloc (.cells #[] 9)) X (.slice (some ⟨w.heap.size, 0, none⟩) 0 0) [] :=
  Row.of_own (xs := []) (World.ownsRow_lit (base := b0) (e := 9) (size := 1) w #[] 0 hb (Nat.zero_le _) rfl) (fun k hk hx => by
    have : w.heap.size = k := by simpa [Value.ownBlock] using hk
    have := hX k hx
    omega)
theorem fall_none (S : St) (h : S.loose = []) (bl cr ke tn : Int) : fallS S bl cr ke tn = ⟨S.safe, [], cr, 0, false⟩ := by
  unfold fallS fallAt
  rw [h]; simp [doAll]
theorem fall_same (S : St) (bl cr ke tn : Int) : (fallS S bl cr ke tn).down = false ∧ (fallS S bl cr ke tn).loose = [] ∧ (fallS S bl cr ke tn).crash = cr ∧ (fallS S bl cr ke tn).count = 0 := ⟨rfl, rfl, rfl, rfl⟩
section
variable {B : Nat} {w w' : World} {p q : Nat} {S : St} {W : Wl} {X : Nat → Prop} {v : Value} {l : List ByteArray} {G : Nat → Prop}
/-- An Append of a log that lives. -/
theorem append_whole (h : LogM B w p q S W X) (hw : Whole S W) (hl : StrS w v l G) (hsum : (framedL l).length ≤ 1099511627) :
    Calls Try.prog 35 #[.pointer (some ⟨q, 0, none⟩), v] w fun e w' => e = .returned (.int .i64 (chgR S W l (W.l ++ l) W.side W.size).e) ∧
      (SInv (chgR S W l (W.l ++ l) W.side W.size).S → ∃ X', LogM B w' p q (chgR S W l (W.l ++ l) W.side W.size).S (chgR S W l (W.l ++ l) W.side W.size).W X' ∧ Strip.Next X X' w w') :=
  append_log h (fun _ => ⟨hw.up, hw.lo⟩) hw.turn hw.disk.hside hw.len (Nat.le_trans hw.disk.hsize (room_lt hw.inv.len)) hl hsum
theorem check_whole (h : LogM B w p q S W X) (hw : Whole S W) (hl : StrS w v l G) (hsum : (framedL l).length ≤ 1099511627) :
    Calls Try.prog 38 #[.pointer (some ⟨q, 0, none⟩), v] w fun e w' => e = .returned (.int .i64 (chgR S W l l ((W.side + 1) % 2) 0).e) ∧
      (SInv (chgR S W l l ((W.side + 1) % 2) 0).S → ∃ X', LogM B w' p q (chgR S W l l ((W.side + 1) % 2) 0).S (chgR S W l l ((W.side + 1) % 2) 0).W X' ∧ Strip.Next X X' w w') :=
  check_log h (fun _ => ⟨hw.up, hw.lo⟩) hw.turn hw.disk.hside hl hsum
theorem recs_whole (h : LogM B w p q S W X) (hw : Whole S W) :
    Calls Try.prog 37 #[.pointer (some ⟨q, 0, none⟩)] w fun e w' => ∃ v, e = .returned v ∧ w'.ownsRow w.heap.size 9 1 v W.l.length (encs Value.string W.l) ∧ Below w.heap.size w w' := LogM.recs h (Nat.le_trans (len_le W.l) (Nat.le_trans hw.len (by omega : 1048576 ≤ 1099511627776)))
end
end Go.Proofs.Ytmgkflkpompchaa.Wal
