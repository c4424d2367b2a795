-- Printed by wip/graft.py out of the translation, over the kit's print; contracts that it lacks are given by hand.
import Derived.Test.YtlcnhhpleiamhaaDoorGx0
import Derived.Test.YtlcnhhpleiamhaaDoorShelf
import Derived.Lib.SplitLaws
namespace Go.Proofs.YtlcnhhpleiamhaaDoor.G
open Go.RowKit Go.Proofs.YtlcnhhpleiamhaaDoorW.PrintWords Go.Proofs.YtlcnhhpleiamhaaDoorW.PrintLast Go.Proofs.YtlcnhhpleiamhaaDoorW.PrintMore
attribute [local go_sem] max2_int min2_int max_two min_two max_three min_three max_four min_four   -- for this text's walks alone
set_option linter.unusedVariables false
set_option linter.unusedSimpArgs false

/-- GRAFT strings_Split: function 40, by hand. -/
theorem graft_strings_Split : True := trivial
/-- strings.Split at a slash -/
def strings_Split.f (a0 a1 : ByteArray) : Option (List ByteArray) :=
  if a0.size < 4000000000 then (if a1.data.toList = [47] then some (Lib.splitB ⟨#[47]⟩ 0 (Lib.countB a0 ⟨#[47]⟩) a0) else none) else none
theorem row_strings (w : World) (l : List ByteArray) (c : Nat) (hc : l.length = c) (hm : c ≤ 4000000001) :
    Kd.R Kd.string 9 (w.alloc (.cells (l.map Value.string).toArray 9)) w.heap.size (fun _ => True) (.slice (some ⟨w.heap.size, 0, none⟩) c c) l := by
  subst hc
  exact ⟨fun _ _ => trivial, OwnRow.lit (e := 9) (size := 1) w w.heap.size (inner := encs Value.string l) (Kd.reps_scalar l) (Nat.le_refl _) (by omega)⟩
theorem strings_Split.calls (a0 a1 : ByteArray) (r : List ByteArray) (w : World) (h : strings_Split.f a0 a1 = some r) :
    Calls Tryd.prog 40 #[.string a0, .string a1] w fun e w' => ∃ v0_ : Value, e = .returned (v0_) ∧ Kd.R Kd.string 9 w' w.heap.size (fun _ => True) v0_ r ∧ Below w.heap.size w w' := by
  unfold strings_Split.f at h
  by_cases h1 : a0.size < 4000000000
  case neg => rw [if_neg h1] at h; cases h
  rw [if_pos h1] at h
  by_cases h2 : a1.data.toList = [47]
  case neg => rw [if_neg h2] at h; cases h
  rw [if_pos h2] at h
  obtain rfl : a1 = ⟨#[47]⟩ := by
    apply ByteArray.ext
    exact Array.ext' h2
  simp only [Option.some.injEq] at h
  subst h
  have hlen := Lib.splitB_all ⟨#[47]⟩ (Nat.le_refl _) 0 _ a0 rfl
  have hle := Lib.countB_le ⟨#[47]⟩ (Nat.le_refl _) a0.size a0 (Nat.le_refl _)
  refine (Tryd.Split_one a0 47 w (by omega)).mono ?_
  rintro e w' ⟨rfl, rfl⟩
  exact ⟨_, rfl, row_strings w _ _ hlen (by omega), (Below.refl _ _).alloc (Nat.le_refl _) _⟩

end Go.Proofs.YtlcnhhpleiamhaaDoor.G
