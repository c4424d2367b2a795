import Derived.Test.YtnmmapjcphefpaaPl
-- Token, the plain law: what Quote writes is read as just the bytes.
namespace Go.Proofs.Ytnmmapjcphefpaa.G
open Go.RowKit Go.Proofs.YtnmmapjcphefpaaW.PrintWords Go.Proofs.YtnmmapjcphefpaaW.PrintLast Go.Proofs.YtnmmapjcphefpaaW.PrintMore
set_option linter.unusedVariables false
set_option linter.unusedSimpArgs false

def dg1 (c : UInt8) : UInt8 := UInt8.ofNat (bt digs (cI c / 16)).toNat
def dg2 (c : UInt8) : UInt8 := UInt8.ofNat (bt digs (cI c % 16)).toNat
theorem dg_nat : ∀ c : Fin 256, hexU (dg1 (UInt8.ofNat c.val)) = (c.val : Int) / 16 ∧ hexU (dg2 (UInt8.ofNat c.val)) = (c.val : Int) % 16 := by decide +kernel
theorem dg_is (c : UInt8) : hexU (dg1 c) = cI c / 16 ∧ hexU (dg2 c) = cI c % 16 := by
  have := dg_nat ⟨c.toNat, c.toNat_lt⟩
  simp only [UInt8.ofNat_toNat] at this
  exact this
theorem ofNat_cI (c : UInt8) : UInt8.ofNat (cI c).toNat = c := by
  unfold cI
  rw [Int.toNat_natCast]
  exact UInt8.ofNat_toNat
theorem run_hexes (tk : List S27) (ln col beh a : Int) (acc : By) (c : UInt8) : run ⟨tk, ln, col, beh, .lit acc a⟩ [92, 120, dg1 c, dg2 c] = ⟨tk, ln, col + 4, beh, .lit (acc ++ [c]) a⟩ := by
  obtain ⟨h1, h2⟩ := dg_is c
  have hb := cI_bd c
  have e1 : step ⟨tk, ln, col, beh, .lit acc a⟩ 92 = ⟨tk, ln, col + 1, beh, .esc acc a col⟩ := rfl
  have e2 : step ⟨tk, ln, col + 1, beh, .esc acc a col⟩ 120 = ⟨tk, ln, col + 1 + 1, beh, .hx acc a col⟩ := rfl
  have e3 : step ⟨tk, ln, col + 1 + 1, beh, .hx acc a col⟩ (dg1 c) = ⟨tk, ln, col + 1 + 1 + 1, beh, .hy acc a col (hexU (dg1 c))⟩ := by
    simp only [step]
    rw [if_pos (by omega)]
  have e4 : step ⟨tk, ln, col + 1 + 1 + 1, beh, .hy acc a col (hexU (dg1 c))⟩ (dg2 c) = ⟨tk, ln, col + 1 + 1 + 1 + 1, beh, .lit (acc ++ [UInt8.ofNat (16 * hexU (dg1 c) + hexU (dg2 c)).toNat]) a⟩ := by
    simp only [step]
    rw [if_pos (by omega)]
  rw [run_cons, e1, run_cons, e2, run_cons, e3, run_cons, e4, run_nil, h1, h2, show 16 * (cI c / 16) + cI c % 16 = cI c by omega, ofNat_cI, show col + 1 + 1 + 1 + 1 = col + 4 by omega]
theorem run_qB (tk : List S27) (ln col beh a : Int) (acc : By) (c : UInt8) : run ⟨tk, ln, col, beh, .lit acc a⟩ (qB c) = ⟨tk, ln, col + (qB c).length, beh, .lit (acc ++ [c]) a⟩ := by
  unfold qB
  by_cases e1 : c = 34
  · subst e1
    rw [if_pos rfl, run_cons, run_cons, run_nil]
    show (⟨tk, ln, col + 1 + 1, beh, .lit (acc ++ [34]) a⟩ : St) = ⟨tk, ln, col + 2, beh, .lit (acc ++ [34]) a⟩
    rw [show col + 1 + 1 = col + 2 by omega]
  rw [if_neg e1]
  by_cases e2 : c = 92
  · subst e2
    rw [if_pos rfl, run_cons, run_cons, run_nil]
    show (⟨tk, ln, col + 1 + 1, beh, .lit (acc ++ [92]) a⟩ : St) = ⟨tk, ln, col + 2, beh, .lit (acc ++ [92]) a⟩
    rw [show col + 1 + 1 = col + 2 by omega]
  rw [if_neg e2]
  by_cases e3 : c = 10
  · subst e3
    rw [if_pos rfl, run_cons, run_cons, run_nil]
    show (⟨tk, ln, col + 1 + 1, beh, .lit (acc ++ [10]) a⟩ : St) = ⟨tk, ln, col + 2, beh, .lit (acc ++ [10]) a⟩
    rw [show col + 1 + 1 = col + 2 by omega]
  rw [if_neg e3]
  by_cases e4 : cI c < 32
  · rw [if_pos e4]; exact run_hexes tk ln col beh a acc c
  rw [if_neg e4]
  by_cases e5 : 126 < cI c
  · rw [if_pos e5]; exact run_hexes tk ln col beh a acc c
  rw [if_neg e5, run_cons, run_nil]
  simp only [step, if_neg e3, if_neg e1, if_neg e4, if_neg e5, if_neg e2]
  rfl
theorem run_quoted (t : By) : ∀ (tk : List S27) (ln col beh a : Int) (acc : By), run ⟨tk, ln, col, beh, .lit acc a⟩ (t.flatMap qB) = ⟨tk, ln, col + (t.flatMap qB).length, beh, .lit (acc ++ t) a⟩ := by
  induction t with
  | nil => intro tk ln col beh a acc; simp [run_nil]
  | cons c t ih =>
    intro tk ln col beh a acc
    rw [List.flatMap_cons, run_append, run_qB, ih, List.length_append, List.append_assoc]
    rw [show col + ((qB c).length : Int) + ((t.flatMap qB).length : Int) = col + (((qB c).length + (t.flatMap qB).length : Nat) : Int) by omega]
    rfl
theorem quote_length (t : By) : (quote t).length = (t.flatMap qB).length + 2 := by simp [quote]
/-- a literal as it is written, behind which the machine stands at a blank -/
theorem run_quote (tk : List S27) (ln col beh : Int) (t : By) : run ⟨tk, ln, col, beh, .bl⟩ (quote t) = ⟨tk ++ [⟨2, mk t, ln, col⟩], ln, col + (quote t).length, col + (quote t).length, .bl⟩ := by
  have e0 : step ⟨tk, ln, col, beh, .bl⟩ 34 = ⟨tk, ln, col + 1, beh, .lit [] col⟩ := rfl
  rw [quote_length]
  unfold quote
  rw [run_cons, e0, run_append, run_quoted, run_cons, run_nil, List.nil_append]
  show (⟨tk ++ [⟨2, mk t, ln, col⟩], ln, col + 1 + ((t.flatMap qB).length : Int) + 1, col + 1 + ((t.flatMap qB).length : Int) + 1, .bl⟩ : St) = _
  rw [show col + 1 + ((t.flatMap qB).length : Int) + 1 = col + (((t.flatMap qB).length + 2 : Nat) : Int) by omega]
/-- its bytes can be printed -/
theorem qB_nat : ∀ c : Fin 256, (qB (UInt8.ofNat c.val)).all (fun x => decide (32 ≤ cI x) && decide (cI x ≤ 126)) = true := by decide +kernel
theorem qB_all (c : UInt8) : (qB c).all (fun x => decide (32 ≤ cI x) && decide (cI x ≤ 126)) = true := by
  have := qB_nat ⟨c.toNat, c.toNat_lt⟩
  simp only [UInt8.ofNat_toNat] at this
  exact this
theorem quote_all (t : By) : ∀ x ∈ quote t, 32 ≤ cI x ∧ cI x ≤ 126 := by
  intro x hx
  unfold quote at hx
  rcases List.mem_cons.1 hx with rfl | hx
  · decide
  · rcases List.mem_append.1 hx with hx | hx
    · obtain ⟨c, _, hc⟩ := List.mem_flatMap.1 hx
      have := List.all_eq_true.1 (qB_all c) x hc
      simpa using this
    · rw [List.mem_singleton.1 hx]; decide
end Go.Proofs.Ytnmmapjcphefpaa.G
