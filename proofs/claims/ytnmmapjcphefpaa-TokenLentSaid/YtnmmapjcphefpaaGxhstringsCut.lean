-- Printed by wip/graft.py out of the translation, over the kit's print; contracts that it lacks are given by hand.
import Derived.Test.YtnmmapjcphefpaaGx0
import Derived.Test.YtnmmapjcphefpaaShelf
import Derived.Lib.IndexLaws
import Derived.Lib.Hide
namespace Go.Proofs.Ytnmmapjcphefpaa.G
open Go.RowKit Go.Proofs.YtnmmapjcphefpaaW.PrintWords Go.Proofs.YtnmmapjcphefpaaW.PrintLast Go.Proofs.YtnmmapjcphefpaaW.PrintMore
attribute [local go_sem] max2_int min2_int max_two min_two max_three min_three max_four min_four   -- for this text's walks alone
set_option linter.unusedVariables false
set_option linter.unusedSimpArgs false

/-- GRAFT strings_Cut: function 38, by hand. -/
theorem graft_strings_Cut : True := trivial
/-- what strings.Cut(s, end of line) tells -/
def cutNL (s : ByteArray) : ByteArray × ByteArray × Bool :=
  if 0 ≤ Lib.indexByte s.data.toList 10 then (s.extract 0 (Lib.indexByte s.data.toList 10).toNat, s.extract ((Lib.indexByte s.data.toList 10) + 1).toNat s.size, true) else (s, ⟨#[]⟩, false)
theorem nl_bounds (s : ByteArray) : -1 ≤ Lib.indexByte s.data.toList 10 ∧ Lib.indexByte s.data.toList 10 < (s.size : Int) := by
  have h1 := Lib.indexByte_ge s.data.toList 10
  refine ⟨h1, ?_⟩
  by_cases c : 0 ≤ Lib.indexByte s.data.toList 10
  · obtain ⟨o, ho⟩ := Int.eq_ofNat_of_zero_le c
    have := (Lib.indexByte_some ho).1
    have hl := (List.getElem?_eq_some_iff.1 this).1
    rw [data_length] at hl
    omega
  · omega
set_option maxHeartbeats 4000000 in
theorem slcut_calls (s : ByteArray) (w : World) (hs : s.size ≤ 1000000) :
    Calls Try.prog 46 #[.string s, .string ⟨#[10]⟩] w fun e w' => e = .returned (.tuple #[.string (cutNL s).1, .string (cutNL s).2.1, .bool (cutNL s).2.2]) ∧ Drawn0 w w' := by
  obtain ⟨h1, h2⟩ := nl_bounds s
  unfold cutNL
  generalize hi : Lib.indexByte s.data.toList 10 = i at h1 h2
  have HI := Lib.hid hi
  clear hi
  by_cases c : 0 ≤ i
  · rw [if_pos c]
    have c1 : decide (0 ≤ i) = true := decide_eq_true c
    have k1 : i ≤ (s.size : Int) := by omega
    have k2 : 0 ≤ i + 1 := by omega
    have k3 : i + 1 ≤ (s.size : Int) := by omega
    have k4 : i ≤ 1000000 := by omega
    clear h1 h2
    go_enter Try.func46, Try.ntmps46
    go_wp2_with fail
    refine (Try.stringslite_Index_one s 10 w).mono ?_
    rw [HI.out]
    rintro e w1 ⟨rfl, rfl⟩
    go_wp2_with fail
    go_quiet (fail)
    go_wp2
    go_ret3
    exact ⟨rfl, by repeat (first | exact Drawn0.refl _ | apply Drawn0.step)⟩
  · rw [if_neg c]
    have c1 : decide (0 ≤ i) = false := decide_eq_false c
    clear h1 h2 c
    go_enter Try.func46, Try.ntmps46
    go_wp2_with fail
    refine (Try.stringslite_Index_one s 10 w).mono ?_
    rw [HI.out]
    rintro e w1 ⟨rfl, rfl⟩
    go_wp2
    go_ret3
    exact ⟨rfl, Drawn0.refl _⟩
theorem cut_calls (s : ByteArray) (w : World) (hs : s.size ≤ 1000000) :
    Calls Try.prog 38 #[.string s, .string ⟨#[10]⟩] w fun e w' => e = .returned (.tuple #[.string (cutNL s).1, .string (cutNL s).2.1, .bool (cutNL s).2.2]) ∧ Drawn0 w w' := by
  go_enter Try.func38, Try.ntmps38
  go_wp2_with fail
  refine (slcut_calls s w hs).mono ?_
  rintro e w1 ⟨rfl, ⟨⟨m, rfl⟩⟩⟩
  go_wp2
  go_ret3
  exact ⟨rfl, by repeat (first | exact Drawn0.refl _ | apply Drawn0.step)⟩
theorem cutNL_le (s : ByteArray) : (cutNL s).1.size ≤ s.size ∧ (cutNL s).2.1.size ≤ s.size := by
  unfold cutNL
  split
  · exact ⟨by simp [ByteArray.size_extract]; omega, by simp [ByteArray.size_extract]⟩
  · exact ⟨Nat.le_refl _, Nat.zero_le _⟩

end Go.Proofs.Ytnmmapjcphefpaa.G
