/- The contracts of package space's calls: each with what it leaves of a space's numbers. -/
import Derived.Test.YtnjjijkcenhebaaDoorKit
import Derived.Test.YtnjjijkcenhebaaDoorPlain
import Derived.Laws.Bits64b
import Derived.Laws.BitsAllLaws
set_option linter.unusedVariables false
set_option linter.unusedSimpArgs false
namespace Go.Proofs.YtnjjijkcenhebaaDoor
open Go.RowKit

def wordsV (ws : List Nat) : List Value := ws.map fun (x : Nat) => Value.int .u64 (x : Int)
theorem wordsV_length (ws : List Nat) : (wordsV ws).length = ws.length := by simp [wordsV]
theorem wordsV_get (ws : List Nat) (j : Nat) (h : j < ws.length) : (wordsV ws)[j]? = some (.int .u64 ((ws.getD j 0 : Nat) : Int)) := by
  simp [wordsV, List.getElem?_map, List.getD_eq_getElem?_getD, List.getElem?_eq_getElem h]

/-- a space of the numbers fr to to - 1, of which 'is' says which are free -/
def spCells (fr to : Nat) (free : Int) (low n g cap : Nat) : Array Value := #[.int .i64 (fr : Int), .int .i64 (to : Int), .int .i64 free, .int .i64 (low : Int), .slice (some ⟨g, 0, none⟩) n cap]
structure SpIn (w : World) (b g cap fr to : Nat) (free : Int) (low : Nat) (ws : List Nat) (is : List Bool) : Prop where
  inv : WInv (to - fr) free low ws is
  blk : StrAt w b (spCells fr to free low ws.length g cap) 71
  row : RowAt w g 72 1 ws.length cap (wordsV ws)
  ne : b ≠ g
  b0 : 0 < b
  g0 : 0 < g
  lt : fr < to
  le : to ≤ 65536
def hasB (fr : Nat) (is : List Bool) (k : Int) : Bool := decide ((fr : Int) ≤ k) && is.getD (k - fr).toNat false

theorem hasB_in (fr : Nat) (is : List Bool) (i : Nat) : hasB fr is ((fr : Int) + i) = is.getD i false := by
  have h1 : decide ((fr : Int) ≤ (fr : Int) + i) = true := by simp; omega
  have h2 : ((fr : Int) + i - fr).toNat = i := by omega
  simp only [hasB, h1, h2, Bool.true_and]

theorem bit_test (x i : Nat) (hx : x < 2 ^ 64) : (bits .and .u64 ((x : Int) / 2 ^ i) 1 == 1) = x.testBit i := by
  have e : ((x : Int) / 2 ^ i) = ((x / 2 ^ i : Nat) : Int) := by simp
  have h1 : x / 2 ^ i < 18446744073709551616 := Nat.lt_of_le_of_lt (Nat.div_le_self _ _) hx
  rw [e, show (1 : Int) = ((1 : Nat) : Int) from rfl, bits_and_u64_nat _ _ h1 (by omega), Nat.testBit_eq_decide_div_mod_eq, Nat.and_one_is_mod]
  by_cases h : x / 2 ^ i % 2 = 1
  · simp [h]
  · have : x / 2 ^ i % 2 = 0 := by omega
    simp [this]

theorem has_calls {w : World} {b g cap fr to : Nat} {free : Int} {low : Nat} {ws : List Nat} {is : List Bool} (h : SpIn w b g cap fr to free low ws is) (k : Int) :
    Calls Tryd.prog 25 #[.pointer (some ⟨b, 0, none⟩), .int .i64 k] w fun e w' => e = .returned (.bool (hasB fr is k)) ∧ w = w' := by
  have h0 := h.blk.cell 0
  have h1 := h.blk.cell 1
  have h4 := h.blk.cell 4
  simp [spCells] at h0 h1 h4
  by_cases c1 : k < fr
  · have e1 : decide (k < (fr : Int)) = true := by simpa using c1
    have HF : Hid (hasB fr is k = false) := by show _ = _; simp [hasB]; intro; omega
    go_enter Tryd.func25, Tryd.ntmps25
    go_wp2
    go_ret
    exact ⟨by rw [HF.out]; rfl, rfl⟩
  · have e1 : decide (k < (fr : Int)) = false := by simpa using c1
    obtain ⟨i, rfl⟩ : ∃ i : Nat, k = fr + i := ⟨(k - fr).toNat, by omega⟩
    by_cases c2 : (to : Int) ≤ (fr : Int) + i
    · have e2 : decide ((to : Int) ≤ (fr : Int) + i) = true := by simpa using c2
      have HF : Hid (hasB fr is (fr + i) = false) := by
        show _ = _
        have := h.inv.len
        have := h.lt
        rw [hasB_in, List.getD_eq_getElem?_getD, List.getElem?_eq_none (show is.length ≤ i by omega)]
        rfl
      go_enter Tryd.func25, Tryd.ntmps25
      go_wp2
      go_ret
      exact ⟨by rw [HF.out]; rfl, rfl⟩
    · have e2 : decide ((to : Int) ≤ (fr : Int) + i) = false := by simpa using c2
      have hi : i < to - fr := by omega
      have hw := h.inv.inw hi
      have hc := (h.row.cell (i / 64) (by omega)).trans (wordsV_get ws _ hw)
      have hb := h.inv.bits i
      have hx := getD_lt h.inv.lt (i / 64)
      have HF : Hid (hasB fr is (fr + i) = (ws.getD (i / 64) 0).testBit (i % 64)) := by
        show _ = _
        rw [hasB_in, ← hb]
        rfl
      clear hb
      generalize ws.getD (i / 64) 0 = x at hx hc HF
      have HX : Hid (x < 2 ^ 64) := hx
      clear hx
      have hle := h.le
      have e3 : ((i : Int) / 64).toNat = i / 64 := by omega
      have e4 : ((i : Int) % 64).toNat = i % 64 := by omega
      have e5 : (i : Int) / 64 < (ws.length : Int) := by omega
      go_enter Tryd.func25, Tryd.ntmps25
      go_wp2
      go_ret
      refine ⟨?_, rfl⟩
      rw [HF.out, ← bit_test x (i % 64) HX.out]
      rfl

theorem from_calls {w : World} {b g cap fr to : Nat} {free : Int} {low : Nat} {ws : List Nat} {is : List Bool} (h : SpIn w b g cap fr to free low ws is) :
    Calls Tryd.prog 28 #[.pointer (some ⟨b, 0, none⟩)] w fun e w' => e = .returned (.int .i64 fr) ∧ w = w' := by
  have h0 := h.blk.cell 0
  simp [spCells] at h0
  go_enter Tryd.func28, Tryd.ntmps28
  go_wp2
  go_ret
  exact ⟨rfl, rfl⟩
theorem to_calls {w : World} {b g cap fr to : Nat} {free : Int} {low : Nat} {ws : List Nat} {is : List Bool} (h : SpIn w b g cap fr to free low ws is) :
    Calls Tryd.prog 29 #[.pointer (some ⟨b, 0, none⟩)] w fun e w' => e = .returned (.int .i64 to) ∧ w = w' := by
  have h0 := h.blk.cell 1
  simp [spCells] at h0
  go_enter Tryd.func29, Tryd.ntmps29
  go_wp2
  go_ret
  exact ⟨rfl, rfl⟩
theorem free_calls {w : World} {b g cap fr to : Nat} {free : Int} {low : Nat} {ws : List Nat} {is : List Bool} (h : SpIn w b g cap fr to free low ws is) :
    Calls Tryd.prog 22 #[.pointer (some ⟨b, 0, none⟩)] w fun e w' => e = .returned (.int .i64 free) ∧ w = w' := by
  have h0 := h.blk.cell 2
  simp [spCells] at h0
  go_enter Tryd.func22, Tryd.ntmps22
  go_wp2
  go_ret
  exact ⟨rfl, rfl⟩
end Go.Proofs.YtnjjijkcenhebaaDoor
