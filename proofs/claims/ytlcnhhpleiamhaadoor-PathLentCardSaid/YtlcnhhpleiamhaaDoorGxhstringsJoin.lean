-- Printed by wip/graft.py out of the translation, over the kit's print; contracts that it lacks are given by hand.
import Derived.Test.YtlcnhhpleiamhaaDoorGx0
import Derived.Test.YtlcnhhpleiamhaaDoorShelf
namespace Go.Proofs.YtlcnhhpleiamhaaDoor.G
open Go.RowKit Go.Proofs.YtlcnhhpleiamhaaDoorW.PrintWords Go.Proofs.YtlcnhhpleiamhaaDoorW.PrintLast Go.Proofs.YtlcnhhpleiamhaaDoorW.PrintMore
attribute [local go_sem] max2_int min2_int max_two min_two max_three min_three max_four min_four   -- for this text's walks alone
set_option linter.unusedVariables false
set_option linter.unusedSimpArgs false

/-- GRAFT strings_Join: function 38, by hand. -/
theorem graft_strings_Join : True := trivial
/-- strings.Join -/
def strings_Join.f (l0 : List ByteArray) (a1 : ByteArray) : Option ByteArray :=
  if l0.length ≤ 1000000 then (if (Lib.join (l0.map (·.data.toList)) a1.data.toList).length ≤ 1000000000 then some ⟨(Lib.join (l0.map (·.data.toList)) a1.data.toList).toArray⟩ else none) else none
theorem strings_Join.calls (A0 : Option Addr) (c0 : Nat) (l0 : List ByteArray) (a1 : ByteArray) (r : ByteArray) (w : World) (hr0 : Kd.C Kd.string w A0 l0.length l0) (hc0 : l0.length ≤ c0) (h : strings_Join.f l0 a1 = some r) :
    Calls Tryd.prog 38 #[.slice A0 l0.length c0, .string a1] w fun e w' => e = .returned (.string r) ∧ Below w.heap.size w w' := by
  unfold strings_Join.f at h
  by_cases h1 : l0.length ≤ 1000000
  case neg => rw [if_neg h1] at h; cases h
  rw [if_pos h1] at h
  by_cases h2 : (Lib.join (l0.map (·.data.toList)) a1.data.toList).length ≤ 1000000000
  case neg => rw [if_neg h2] at h; cases h
  rw [if_pos h2] at h
  simp only [Option.some.injEq] at h
  subst h
  rcases l0 with _ | ⟨x, l⟩
  · exact (Tryd.strings_Join_none A0 c0 a1 w).mono fun e w' ⟨he, hw⟩ => ⟨he, hw ▸ Below.refl _ _⟩
  · obtain ⟨ad, rfl, h0⟩ := Kd.at_string hr0 0 (Int.le_refl _) (by simp)
    obtain ⟨b, o, spot⟩ := ad
    have hs : spot = none := by
      rcases spot with _ | sp
      · rfl
      · simp only [World.cell?, Addr.add] at h0
        split at h0 <;> simp at h0
    subst hs
    have hcells : ∀ (j : Nat) y, (x :: l)[j]? = some y → w.cell? ⟨b, o + j, none⟩ = some (.string y) := by
      intro j y hj
      have hjl := (List.getElem?_eq_some_iff.1 hj).1
      obtain ⟨ad, e1, hq⟩ := Kd.at_string hr0 j (by omega) (by omega)
      cases e1
      have ea : (⟨b, o, none⟩ : Addr).add j = ⟨b, o + j, none⟩ := by unfold Addr.add; split <;> simp_all
      rw [Int.toNat_natCast, ea] at hq
      rw [hq]
      unfold rdOf
      rw [Int.toNat_natCast, List.getD_eq_getElem?_getD, hj]
      rfl
    exact Tryd.strings_Join b o c0 (x :: l) a1 w hcells (World.block_lt_of_cell? w _ (hcells 0 x rfl)) (by omega) hc0 (by omega)

end Go.Proofs.YtlcnhhpleiamhaaDoor.G
