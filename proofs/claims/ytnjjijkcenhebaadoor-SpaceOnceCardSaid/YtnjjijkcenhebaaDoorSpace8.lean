/- The contracts of the document's own answer: TakeAll, Take, Copy, New; and of the law's sameInts. -/
import Derived.Test.YtnjjijkcenhebaaDoorSpace7
set_option linter.unusedVariables false
set_option linter.unusedSimpArgs false
namespace Go.Proofs.YtnjjijkcenhebaaDoor
open Go.RowKit

/-- the cell at a place of a list that was handed out -/
theorem IntsAt.at {w : World} {v : Value} {l : List Int} (h : IntsAt w v l) : ∃ ao c, v = .slice ao l.length c ∧ l.length ≤ 9223372036854775807 ∧ ∀ j, j < l.length → ∃ g, ao = some ⟨g, 0, none⟩ ∧ w.cell? ⟨g, j, none⟩ = some (.int .i64 (l.getD j 0)) := by
  rcases own_form h with ⟨h1, h2, _⟩ | ⟨g, cap, h1, hr⟩
  · exact ⟨none, 0, by rw [h1, h2], by omega, fun j hj => by omega⟩
  · refine ⟨_, _, h1, ?_, fun j hj => ⟨g, rfl, ?_⟩⟩
    · have := hr.capLe
      unfold maxLen at this
      omega
    · rw [hr.cell j (by omega)]
      simp [ints, List.getD_eq_getElem?_getD, List.getElem?_eq_getElem hj]
theorem IntsAt.keeps {w w' : World} {S : List Nat} {v : Value} {l : List Int} (h : IntsAt w v l) (hk : Keeps S w w') (hn : ∀ k, v.ownBlock = some k → k ∉ S) : IntsAt w' v l := ownsRow_keeps h hk hn

set_option maxHeartbeats 1000000 in
theorem same_calls {w : World} {v u : Value} {l m : List Int} (h1 : IntsAt w v l) (h2 : IntsAt w u m) :
    Calls Tryd.prog 23 #[v, u] w fun e w' => e = .returned (.bool (decide (l = m))) ∧ Keeps [] w w' := by
  obtain ⟨ao, c, rfl, hl, hc⟩ := h1.at
  obtain ⟨bo, d, rfl, hm, hd⟩ := h2.at
  by_cases hlm : l.length = m.length
  · have hne : ((l.length : Int) != (m.length : Int)) = false := by simp [hlm]
    go_enter Tryd.func23, Tryd.ntmps23
    go_wp2
    go_loopw [5] (fun i wr => ∃ j : Nat, j ≤ l.length ∧ i = .int .i64 (j : Int) ∧ Hid (l.take j = m.take j) ∧ Keeps [] w wr) (fun i _ => l.length - (intOf i).toNat)
    case atStart => exact ⟨0, Nat.zero_le _, rfl, by show _ = _; simp, Keeps.refl _ _⟩
    case round =>
      obtain ⟨j, hj, rfl, HJ, hk⟩ := hrel
      by_cases hlt : j < l.length
      · have hlt' : (j : Int) < (l.length : Int) := by omega
        have hlt2 : (j : Int) < (m.length : Int) := by omega
        obtain ⟨g, rfl, c1⟩ := hc j hlt
        obtain ⟨g', rfl, c2⟩ := hd j (by omega)
        replace c1 := hk.cell c1 (by simp)
        replace c2 := hk.cell c2 (by simp)
        by_cases hx : l.getD j 0 = m.getD j 0
        · have hx' : (l.getD j 0 != m.getD j 0) = false := by simpa using hx
          have HJ1 : Hid (l.take (j + 1) = m.take (j + 1)) := by
            show _ = _
            have := HJ.out
            rw [List.take_succ_eq_append_getElem hlt, List.take_succ_eq_append_getElem (show j < m.length by omega), this]
            simp only [List.getD_eq_getElem?_getD, List.getElem?_eq_getElem hlt, List.getElem?_eq_getElem (show j < m.length by omega), Option.getD_some] at hx
            rw [hx]
          clear hx
          have HM := Lib.hid hlm
          clear hlm
          generalize l.getD j 0 = x at *
          generalize m.getD j 0 = y at *
          go_wp2_with fail
          go_quiet (fail)
          go_wp2
          go_roundw
          case rel => exact ⟨j + 1, by omega, by go_num, HJ1, hk.drewN _⟩
          case measure => simp [intOf]; omega
        · have hx' : (l.getD j 0 != m.getD j 0) = true := by simpa using hx
          have HF : Hid (decide (l = m) = false) := by
            show _ = _
            simp
            rintro rfl
            exact hx rfl
          clear hx
          generalize l.getD j 0 = x at *
          generalize m.getD j 0 = y at *
          go_wp2_with fail
          go_quiet (fail)
          go_wp2
          go_ret
          exact ⟨by rw [HF.out]; rfl, hk.drewN _⟩
      · have hlt' : ¬ (j : Int) < (l.length : Int) := by omega
        have HF : Hid (decide (l = m) = true) := by
          show _ = _
          have := HJ.out
          rw [List.take_of_length_le (by omega), List.take_of_length_le (by omega)] at this
          simpa using this
        go_wp2
        go_ret
        exact ⟨by rw [HF.out]; rfl, hk⟩
  · have hne : ((l.length : Int) != (m.length : Int)) = true := by simp; omega
    have HF : Hid (decide (l = m) = false) := by
      show _ = _
      simp
      rintro rfl
      exact hlm rfl
    go_enter Tryd.func23, Tryd.ntmps23
    go_wp2
    go_ret
    exact ⟨by rw [HF.out]; rfl, Keeps.refl _ _⟩
end Go.Proofs.YtnjjijkcenhebaaDoor
