/- The []int argument of SpaceWay, opened. -/
import Derived.Test.YtnjjijkcenhebaaDoorWay
import Derived.Test.YtnjjijkcenhebaaDoorOpenOps
set_option linter.unusedVariables false
set_option linter.unusedSimpArgs false
namespace Go.Proofs.YtnjjijkcenhebaaDoor
open Go.ChangeShapes Go.WideShapes Go.ChangeAt Go.RowKit
section
variable {H : Type} {enc : TypeId × Value → H}
theorem open_nums {W : World} {base : Nat} {v : Value} {d : DataW H} {p : List MemPlace} (hv : Value.okWide Tryd.prog W .any base 49 v) (h : DataW.Trod enc Tryd.prog W 0 (fun _ => true) true 49 v d p) :
    ∃ (ao : Option Addr) (len cap : Nat), v = .slice ao len cap ∧ NumsArg W.heap.size W ao len := by
  obtain ⟨fuel, hx⟩ := h
  rcases open_ints Tryd.underlying49 Tryd.underlying3 cells3 hx with ⟨h1, _⟩ | ⟨a, len, cap, zs, h1, _, h2, h3, h4, _, h5, _⟩
  · obtain ⟨a, n, c, rfl⟩ := okWide_slice Tryd.underlying49 hv
    simp [Value.cells] at h1
    obtain ⟨rfl, rfl, rfl⟩ := h1
    exact ⟨none, 0, 0, rfl, by omega, fun i hi => by omega⟩
  · obtain ⟨a', n', c', rfl⟩ := okWide_slice Tryd.underlying49 hv
    simp [Value.cells] at h1
    obtain ⟨rfl, rfl, rfl⟩ := h1
    simp at h4
    refine ⟨some a, _, _, rfl, by unfold maxLen at h3; omega, fun i hi => ?_⟩
    obtain ⟨b, off, spot⟩ := a
    have q0 := h5 0 (by omega)
    have hs : spot = none := spot_none q0
    subst hs
    have q := h5 i (by omega)
    rw [add_off] at q
    exact ⟨b, off, _, rfl, World.block_lt_of_cell? W _ q, q⟩
end
end Go.Proofs.YtnjjijkcenhebaaDoor
