/- The contracts of the document's own answer (kilnref4). -/
import Derived.Test.YtnjjijkcenhebaaDoorSpace5
import Derived.Deep.RegionLaw
set_option linter.unusedVariables false
set_option linter.unusedSimpArgs false
namespace Go.Proofs.YtnjjijkcenhebaaDoor
open Go.RowKit

def bools (l : List Bool) : List Value := l.map Value.bool
theorem bools_length (l : List Bool) : (bools l).length = l.length := by simp [bools]
theorem bools_get (l : List Bool) (j : Nat) (h : j < l.length) : (bools l)[j]? = some (.bool (l.getD j false)) := by
  simp [bools, List.getElem?_map, List.getD_eq_getElem?_getD, List.getElem?_eq_getElem h]
structure Rf (w : World) (b g cap fr to : Nat) (is : List Bool) : Prop where
  blk : StrAt w b #[.int .i64 (fr : Int), .int .i64 (to : Int), .slice (some ⟨g, 0, none⟩) is.length cap] 68
  row : RowAt w g 4 1 is.length cap (bools is)
  ne : b ≠ g
  b0 : 0 < b
  g0 : 0 < g
  lt : fr < to
  le : to ≤ 65536
  len : is.length = to - fr
theorem Rf.keeps {w w' : World} {S : List Nat} {b g cap fr to : Nat} {is : List Bool} (h : Rf w b g cap fr to is) (hk : Keeps S w w') (hb : b ∉ S) (hg : g ∉ S) : Rf w' b g cap fr to is :=
  ⟨h.blk.keeps hk hb, h.row.keeps hk hg, h.ne, h.b0, h.g0, h.lt, h.le, h.len⟩
theorem Rf.facts {w : World} {b g cap fr to : Nat} {is : List Bool} (h : Rf w b g cap fr to is) : b < w.heap.size ∧ g < w.heap.size ∧ 0 < b ∧ 0 < g ∧ b ≠ g ∧ fr < to ∧ to ≤ 65536 ∧ is.length = to - fr :=
  ⟨h.blk.lt, h.row.lt, h.b0, h.g0, h.ne, h.lt, h.le, h.len⟩
theorem Rf.set {w : World} {b g cap fr to : Nat} {is : List Bool} (h : Rf w b g cap fr to is) (i : Nat) (v : Bool) : Rf (w.setCell ⟨g, i, none⟩ (.bool v)) b g cap fr to (is.set i v) := by
  refine ⟨?_, ?_, h.ne, h.b0, h.g0, h.lt, h.le, by simpa using h.len⟩
  · rw [List.length_set]
    exact h.blk.other h.ne _
  · have e : bools (is.set i v) = (bools is).set i (.bool v) := by simp [bools, List.map_set]
    rw [e, List.length_set]
    exact h.row.set i _
theorem Rf.drewN {w : World} {b g cap fr to : Nat} {is : List Bool} (h : Rf w b g cap fr to is) (n : Nat) : Rf (w.drewN n) b g cap fr to is :=
  ⟨h.blk, h.row, h.ne, h.b0, h.g0, h.lt, h.le, h.len⟩
theorem Rf.drew {w : World} {b g cap fr to : Nat} {is : List Bool} (h : Rf w b g cap fr to is) : Rf w.drew b g cap fr to is := h.drewN 1

theorem rhas_calls {w : World} {b g cap fr to : Nat} {is : List Bool} (h : Rf w b g cap fr to is) (k : Int) :
    Calls Tryd.prog 35 #[.pointer (some ⟨b, 0, none⟩), .int .i64 k] w fun e w' => e = .returned (.bool (hasB fr is k)) ∧ Keeps [] w w' := by
  have h0 := h.blk.cell 0
  have h1 := h.blk.cell 1
  have h2 := h.blk.cell 2
  simp at h0 h1 h2
  by_cases c1 : k < fr
  · have e1 : decide ((fr : Int) ≤ k) = false := by simp; omega
    have HF : Hid (hasB fr is k = false) := by show _ = _; simp only [hasB, e1, Bool.false_and]
    go_enter Tryd.func35, Tryd.ntmps35
    go_wp2_with fail
    go_quiet (fail)
    go_wp2
    go_ret
    exact ⟨by rw [HF.out]; rfl, (Keeps.refl _ _).drewN _⟩
  · obtain ⟨i, rfl⟩ : ∃ i : Nat, k = fr + i := ⟨(k - fr).toNat, by omega⟩
    have e1 : decide ((fr : Int) ≤ (fr : Int) + i) = true := by simp; omega
    have e1' : (fr : Int) ≤ (fr : Int) + i := by omega
    have hb := hasB_in fr is i
    by_cases c2 : (to : Int) ≤ (fr : Int) + i
    · have e2 : decide ((fr : Int) + i < (to : Int)) = false := by simp; omega
      have HF : Hid (hasB fr is (fr + i) = false) := by
        show _ = _
        have := h.len
        have := h.lt
        rw [hb, List.getD_eq_getElem?_getD, List.getElem?_eq_none (show is.length ≤ i by omega)]
        rfl
      clear hb
      go_enter Tryd.func35, Tryd.ntmps35
      go_wp2_with fail
      go_quiet (fail)
      go_wp2
      go_ret
      exact ⟨by rw [HF.out]; rfl, (Keeps.refl _ _).drewN _⟩
    · have e2 : decide ((fr : Int) + i < (to : Int)) = true := by simp; omega
      have hl := h.len
      have hi : i < is.length := by omega
      have hc := (h.row.cell i (by omega)).trans (bools_get is i hi)
      have hle := h.le
      have e3 : ((fr : Int) + i - fr) = i := by omega
      have HB := Lib.hid hb
      have HL := Lib.hid hl
      have HE : Hid (is.length ≤ 65536) := by show _ ≤ _; omega
      clear hb hl
      generalize is.getD i false = x at hc HB
      go_enter Tryd.func35, Tryd.ntmps35
      go_wp2_with fail
      go_quiet (fail)
      go_wp2
      go_ret
      exact ⟨by rw [HB.out]; rfl, (Keeps.refl _ _).drewN _⟩
end Go.Proofs.YtnjjijkcenhebaaDoor
