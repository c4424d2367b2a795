/- The arguments of the laws on spaces, opened; the library's table. -/
import Derived.Test.YtnjjijkcenhebaaDoorLaw6
import Derived.Test.YtnjjijkcenhebaaDoorRow
import Derived.Lib.LaidTab
set_option linter.unusedVariables false
set_option linter.unusedSimpArgs false
namespace Go.Proofs.YtnjjijkcenhebaaDoor
open Go.ChangeShapes Go.WideShapes Go.ChangeAt Go.RowKit

theorem laidOut : laidOutB Tryd.prog = true := by kernel_rfl
theorem gTab : Tryd.prog.globalNamed "math/bits.deBruijn64tab" = some 0 := by kernel_rfl
theorem gTabType : (Tryd.prog.globals[0]?).map (·.type) = some 78 := by kernel_rfl
theorem cells78 : Tryd.prog.cellsOf 78 = 64 := by kernel_rfl
theorem cells5 : Tryd.prog.cellsOf 5 = 1 := by kernel_rfl
theorem cells3 : Tryd.prog.cellsOf 3 = 1 := by kernel_rfl
theorem cells39 : Tryd.prog.cellsOf 39 = 3 := by kernel_rfl
theorem tabW_of {W : World} (h : Lib.TabIs Tryd.prog W "math/bits.deBruijn64tab" .u8 (Lib.deBruijn64tab.map fun (x : Nat) => (x : Int))) : TabW W := fun j hj => by
  have hl : (Lib.deBruijn64tab.map fun (x : Nat) => (x : Int)).length = 64 := rfl
  have := h.cell gTab j (by omega)
  rw [this]
  simp [List.getD_eq_getElem?_getD, List.getElem?_map]
  cases Lib.deBruijn64tab[j]? <;> rfl

section
variable {H : Type} {enc : TypeId × Value → H}
theorem spot_none {w : World} {a : Addr} {v : Value} (h : w.cell? a = some v) : a.spot = none := by
  unfold World.cell? at h
  split at h
  · split at h
    · cases h
    · rename_i hs
      simpa using hs
  · cases h
theorem add_off (b off k : Nat) : (⟨b, off, none⟩ : Addr).add k = ⟨b, off + k, none⟩ := by unfold Addr.add; split <;> simp_all
theorem open_ops {W : World} {base : Nat} {v : Value} {d : DataW H} {p : List MemPlace} (hv : Value.okWide Tryd.prog W .any base 27 v) (h : DataW.Trod enc Tryd.prog W 0 (fun _ => true) true 27 v d p) :
    ∃ (ao : Option Addr) (len cap : Nat), v = .slice ao len cap ∧ OpsArg W.heap.size W ao len := by
  have hF : ∀ fs, Tryd.prog.underlying 39 = some (.struct fs) → fs.size = 3 ∧ ∀ (j : Nat) (f : Field), fs[j]? = some f → f.offset = j ∧ Tryd.prog.underlying f.type = some (.int .i64) ∧ Tryd.prog.cellsOf f.type = 1 := by
    intro fs hfs
    rw [Tryd.underlying39] at hfs
    cases hfs
    refine ⟨rfl, fun j f hf => ?_⟩
    match j, hf with
    | 0, hf => cases hf; exact ⟨rfl, Tryd.underlying3, cells3⟩
    | 1, hf => cases hf; exact ⟨rfl, Tryd.underlying3, cells3⟩
    | 2, hf => cases hf; exact ⟨rfl, Tryd.underlying3, cells3⟩
  obtain ⟨hsz, hff⟩ := hF _ Tryd.underlying39
  rcases open_numberRows Tryd.underlying27 Tryd.underlying39 (cells39.trans hsz.symm) hff hv h with rfl | ⟨a, len, cap, rfl, h1, h2, h3⟩
  · exact ⟨none, 0, 0, rfl, by omega, fun i hi => by omega⟩
  · refine ⟨some a, len, cap, rfl, by unfold maxLen at h2; omega, fun i hi => ?_⟩
    rw [hsz] at h3
    obtain ⟨z0, q0⟩ := h3 i 0 hi (by omega)
    obtain ⟨z1, q1⟩ := h3 i 1 hi (by omega)
    obtain ⟨z2, q2⟩ := h3 i 2 hi (by omega)
    obtain ⟨b, off, spot⟩ := a
    have hs : spot = none := by
      obtain ⟨z, q⟩ := h3 0 0 (by omega) (by omega)
      exact spot_none q
    subst hs
    rw [add_off] at q0 q1 q2
    exact ⟨b, off, z0, z1, z2, rfl, World.block_lt_of_cell? W _ q0, q0, by rw [Nat.add_assoc]; exact q1, by rw [Nat.add_assoc]; exact q2⟩
end
end Go.Proofs.YtnjjijkcenhebaaDoor
