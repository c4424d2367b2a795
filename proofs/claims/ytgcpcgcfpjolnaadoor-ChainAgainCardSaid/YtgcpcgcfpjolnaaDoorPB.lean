import Derived.Test.YtgcpcgcfpjolnaaDoorPA
import Derived.Laws.Bits64b
import Derived.Laws.BitsAllLaws
import Derived.Shelf.Spec.TrailingZeros
import Derived.StillTailTactics
import Derived.BigRegion
import Derived.Lib.SliceRun
/- The contracts of package space's calls: each with what it leaves of a space's numbers. -/
set_option linter.unusedVariables false
set_option linter.unusedSimpArgs false
namespace Go.Proofs.YtgcpcgcfpjolnaaDoor
open Go.RowKit

def wordsV (ws : List Nat) : List Value := ws.map fun (x : Nat) => Value.int .u64 (x : Int)
theorem wordsV_length (ws : List Nat) : (wordsV ws).length = ws.length := by simp [wordsV]
theorem wordsV_get (ws : List Nat) (j : Nat) (h : j < ws.length) : (wordsV ws)[j]? = some (.int .u64 ((ws.getD j 0 : Nat) : Int)) := by
  simp [wordsV, List.getElem?_map, List.getD_eq_getElem?_getD, List.getElem?_eq_getElem h]

/-- a space of the numbers fr to to - 1, of which 'is' says which are free -/
def spCells (fr to : Nat) (free : Int) (low n g cap : Nat) : Array Value := #[.int .i64 (fr : Int), .int .i64 (to : Int), .int .i64 free, .int .i64 (low : Int), .slice (some ⟨g, 0, none⟩) n cap]
structure SpIn (w : World) (b g cap fr to : Nat) (free : Int) (low : Nat) (ws : List Nat) (is : List Bool) : Prop where
  inv : WInv (to - fr) free low ws is
  blk : StrAt w b (spCells fr to free low ws.length g cap) 128
  row : RowAt w g 129 1 ws.length cap (wordsV ws)
  ne : b ≠ g
  b0 : 2 < b
  g0 : 2 < g
  lt : fr < to
  le : to ≤ 65536
def hasB (fr : Nat) (is : List Bool) (k : Int) : Bool := decide ((fr : Int) ≤ k) && is.getD (k - fr).toNat false

theorem hasB_in (fr : Nat) (is : List Bool) (i : Nat) : hasB fr is ((fr : Int) + i) = is.getD i false := by
  have h1 : decide ((fr : Int) ≤ (fr : Int) + i) = true := by simp; omega
  have h2 : ((fr : Int) + i - fr).toNat = i := by omega
  simp only [hasB, h1, h2, Bool.true_and]

theorem bit_test (x i : Nat) (hx : x < 2 ^ 64) : (bits .and .u64 ((x : Int) / 2 ^ i) 1 == 1) = x.testBit i := by
  have e : ((x : Int) / 2 ^ i) = ((x / 2 ^ i : Nat) : Int) := by simp
  have h1 : x / 2 ^ i < 18446744073709551616 := Nat.lt_of_le_of_lt (Nat.div_le_self _ _) hx
  rw [e, show (1 : Int) = ((1 : Nat) : Int) from rfl, bits_and_u64_nat _ _ h1 (by omega), Nat.testBit_eq_decide_div_mod_eq, Nat.and_one_is_mod]
  by_cases h : x / 2 ^ i % 2 = 1
  · simp [h]
  · have : x / 2 ^ i % 2 = 0 := by omega
    simp [this]

theorem has_calls {w : World} {b g cap fr to : Nat} {free : Int} {low : Nat} {ws : List Nat} {is : List Bool} (h : SpIn w b g cap fr to free low ws is) (k : Int) :
    Calls Tryd.prog 85 #[.pointer (some ⟨b, 0, none⟩), .int .i64 k] w fun e w' => e = .returned (.bool (hasB fr is k)) ∧ w = w' := by
  have h0 := h.blk.cell 0
  have h1 := h.blk.cell 1
  have h4 := h.blk.cell 4
  simp [spCells] at h0 h1 h4
  by_cases c1 : k < fr
  · have e1 : decide (k < (fr : Int)) = true := by simpa using c1
    have HF : Hid (hasB fr is k = false) := by show _ = _; simp [hasB]; intro; omega
    go_enter Tryd.func85, Tryd.ntmps85
    go_wp2
    go_ret
    exact ⟨by rw [HF.out]; rfl, rfl⟩
  · have e1 : decide (k < (fr : Int)) = false := by simpa using c1
    obtain ⟨i, rfl⟩ : ∃ i : Nat, k = fr + i := ⟨(k - fr).toNat, by omega⟩
    by_cases c2 : (to : Int) ≤ (fr : Int) + i
    · have e2 : decide ((to : Int) ≤ (fr : Int) + i) = true := by simpa using c2
      have HF : Hid (hasB fr is (fr + i) = false) := by
        show _ = _
        have := h.inv.len
        have := h.lt
        rw [hasB_in, List.getD_eq_getElem?_getD, List.getElem?_eq_none (show is.length ≤ i by omega)]
        rfl
      go_enter Tryd.func85, Tryd.ntmps85
      go_wp2
      go_ret
      exact ⟨by rw [HF.out]; rfl, rfl⟩
    · have e2 : decide ((to : Int) ≤ (fr : Int) + i) = false := by simpa using c2
      have hi : i < to - fr := by omega
      have hw := h.inv.inw hi
      have hc := (h.row.cell (i / 64) (by omega)).trans (wordsV_get ws _ hw)
      have hb := h.inv.bits i
      have hx := getD_lt h.inv.lt (i / 64)
      have HF : Hid (hasB fr is (fr + i) = (ws.getD (i / 64) 0).testBit (i % 64)) := by
        show _ = _
        rw [hasB_in, ← hb]
        rfl
      clear hb
      generalize ws.getD (i / 64) 0 = x at hx hc HF
      have HX : Hid (x < 2 ^ 64) := hx
      clear hx
      have hle := h.le
      have e3 : ((i : Int) / 64).toNat = i / 64 := by omega
      have e4 : ((i : Int) % 64).toNat = i % 64 := by omega
      have e5 : (i : Int) / 64 < (ws.length : Int) := by omega
      go_enter Tryd.func85, Tryd.ntmps85
      go_wp2
      go_ret
      refine ⟨?_, rfl⟩
      rw [HF.out, ← bit_test x (i % 64) HX.out]
      rfl

theorem free_calls {w : World} {b g cap fr to : Nat} {free : Int} {low : Nat} {ws : List Nat} {is : List Bool} (h : SpIn w b g cap fr to free low ws is) :
    Calls Tryd.prog 59 #[.pointer (some ⟨b, 0, none⟩)] w fun e w' => e = .returned (.int .i64 free) ∧ w = w' := by
  have h0 := h.blk.cell 2
  simp [spCells] at h0
  go_enter Tryd.func59, Tryd.ntmps59
  go_wp2
  go_ret
  exact ⟨rfl, rfl⟩
end Go.Proofs.YtgcpcgcfpjolnaaDoor
/- The contracts of package space's calls that write: Claim, Give. -/
set_option linter.unusedVariables false
set_option linter.unusedSimpArgs false
namespace Go.Proofs.YtgcpcgcfpjolnaaDoor
open Go.RowKit

def Sp (w : World) (b g cap fr to : Nat) (is : List Bool) : Prop := ∃ free low ws, SpIn w b g cap fr to free low ws is
theorem SpIn.keeps {w w' : World} {S : List Nat} {b g cap fr to : Nat} {free : Int} {low : Nat} {ws : List Nat} {is : List Bool} (h : SpIn w b g cap fr to free low ws is) (hk : Keeps S w w') (hb : b ∉ S) (hg : g ∉ S) : SpIn w' b g cap fr to free low ws is :=
  ⟨h.inv, h.blk.keeps hk hb, h.row.keeps hk hg, h.ne, h.b0, h.g0, h.lt, h.le⟩
theorem Sp.keeps {w w' : World} {S : List Nat} {b g cap fr to : Nat} {is : List Bool} (h : Sp w b g cap fr to is) (hk : Keeps S w w') (hb : b ∉ S) (hg : g ∉ S) : Sp w' b g cap fr to is := by
  obtain ⟨free, low, ws, h⟩ := h
  exact ⟨free, low, ws, h.keeps hk hb hg⟩
theorem Sp.facts {w : World} {b g cap fr to : Nat} {is : List Bool} (h : Sp w b g cap fr to is) : b < w.heap.size ∧ g < w.heap.size ∧ 2 < b ∧ 2 < g ∧ b ≠ g ∧ fr < to ∧ to ≤ 65536 ∧ is.length = to - fr := by
  obtain ⟨free, low, ws, h⟩ := h
  exact ⟨h.blk.lt, h.row.lt, h.b0, h.g0, h.ne, h.lt, h.le, h.inv.len⟩
def claimS (fr : Nat) (is : List Bool) (k : Int) : List Bool := if hasB fr is k then is.set (k - fr).toNat false else is
def giveB (fr to : Nat) (is : List Bool) (k : Int) : Bool := decide ((fr : Int) ≤ k) && decide (k < to) && !hasB fr is k
def giveS (fr to : Nat) (is : List Bool) (k : Int) : List Bool := if giveB fr to is k then is.set (k - fr).toNat true else is

theorem SpIn.bounds {w : World} {b g cap fr to : Nat} {free : Int} {low : Nat} {ws : List Nat} {is : List Bool} (h : SpIn w b g cap fr to free low ws is) : 0 ≤ free ∧ free ≤ 65536 ∧ low ≤ 1024 ∧ ws.length ≤ 1024 := by
  have h1 := h.inv.free
  have h2 := trues_len_le is
  have h3 := h.inv.len
  have h4 := h.inv.lowLe
  have h5 := h.inv.wlen
  have h6 := h.le
  omega
theorem pow_u64 (i : Nat) (hi : i < 64) : IntKind.u64.wrap (2 ^ i : Int) = ((2 ^ i : Nat) : Int) := by
  have : 2 ^ i < 2 ^ 64 := Nat.pow_lt_pow_right (by omega) hi
  rw [IntKind.wrap_u64]
  have e : (2 ^ i : Int) = ((2 ^ i : Nat) : Int) := by simp
  rw [e]
  generalize 2 ^ i = q at this ⊢
  omega
theorem andNot_bit (x i : Nat) (hi : i < 64) (hx : x < 2 ^ 64) : bits .andNot .u64 (x : Int) (IntKind.u64.wrap (2 ^ i : Int)) = ((x &&& (18446744073709551615 - 2 ^ i) : Nat) : Int) := by
  rw [pow_u64 i hi, u64_andNot_nat _ _ hx (Nat.pow_lt_pow_right (by omega) hi)]
theorem or_bit (x i : Nat) (hi : i < 64) (hx : x < 2 ^ 64) : bits .or .u64 (x : Int) (IntKind.u64.wrap (2 ^ i : Int)) = ((x ||| 2 ^ i : Nat) : Int) := by
  rw [pow_u64 i hi, bits_or_u64_nat _ _ hx (Nat.pow_lt_pow_right (by omega) hi)]

theorem wordsV_set (ws : List Nat) (j x : Nat) : wordsV (ws.set j x) = (wordsV ws).set j (.int .u64 (x : Int)) := by simp [wordsV, List.map_set]
theorem SpIn.low {w : World} {b g cap fr to : Nat} {free : Int} {low : Nat} {ws : List Nat} {is : List Bool} (h : SpIn w b g cap fr to free low ws is) {low' : Nat} (HI : WInv (to - fr) free low' ws is) {z : Int} (hz : z = low') :
    SpIn (w.setCell ⟨b, 3, none⟩ (.int .i64 z)) b g cap fr to free low' ws is := by
  subst hz
  exact ⟨HI, h.blk.set 3 _, h.row.other (Ne.symm h.ne) _, h.ne, h.b0, h.g0, h.lt, h.le⟩
theorem SpIn.write {w : World} {b g cap fr to : Nat} {free : Int} {low : Nat} {ws : List Nat} {is : List Bool} (h : SpIn w b g cap fr to free low ws is) {j x : Nat} {free' : Int} {is' : List Bool} (HI : WInv (to - fr) free' low (ws.set j x) is') :
    SpIn ((w.setCell ⟨g, j, none⟩ (.int .u64 (x : Int))).setCell ⟨b, 2, none⟩ (.int .i64 free')) b g cap fr to free' low (ws.set j x) is' := by
  refine ⟨HI, ?_, ?_, h.ne, h.b0, h.g0, h.lt, h.le⟩
  · have := (h.blk.other (a := ⟨g, j, none⟩) h.ne (.int .u64 (x : Int))).set 2 (.int .i64 free')
    simpa [spCells] using this
  · have := (h.row.set j (.int .u64 (x : Int))).other (a := ⟨b, 2, none⟩) (Ne.symm h.ne) (.int .i64 free')
    rw [wordsV_set, List.length_set]
    exact this
theorem SpIn.write3 {w : World} {b g cap fr to : Nat} {free : Int} {low : Nat} {ws : List Nat} {is : List Bool} (h : SpIn w b g cap fr to free low ws is) {j x : Nat} {free' : Int} {low' : Nat} {is' : List Bool} (HI : WInv (to - fr) free' low' (ws.set j x) is') :
    SpIn (((w.setCell ⟨g, j, none⟩ (.int .u64 (x : Int))).setCell ⟨b, 3, none⟩ (.int .i64 (low' : Int))).setCell ⟨b, 2, none⟩ (.int .i64 free')) b g cap fr to free' low' (ws.set j x) is' := by
  refine ⟨HI, ?_, ?_, h.ne, h.b0, h.g0, h.lt, h.le⟩
  · have := ((h.blk.other (a := ⟨g, j, none⟩) h.ne (.int .u64 (x : Int))).set 3 (.int .i64 (low' : Int))).set 2 (.int .i64 free')
    simpa [spCells] using this
  · have := ((h.row.set j (.int .u64 (x : Int))).other (a := ⟨b, 3, none⟩) (Ne.symm h.ne) (.int .i64 (low' : Int))).other (a := ⟨b, 2, none⟩) (Ne.symm h.ne) (.int .i64 free')
    rw [wordsV_set, List.length_set]
    exact this
theorem keeps2 (w : World) (b g j : Nat) (u v : Value) (o : Nat) : Keeps [b, g] w ((w.setCell ⟨g, j, none⟩ u).setCell ⟨b, o, none⟩ v) :=
  ((Keeps.refl _ _).setCell (by simp) _).setCell (by simp) _
theorem keeps3 (w : World) (b g j : Nat) (u v x : Value) (o p : Nat) : Keeps [b, g] w (((w.setCell ⟨g, j, none⟩ u).setCell ⟨b, o, none⟩ v).setCell ⟨b, p, none⟩ x) :=
  (keeps2 w b g j u v o).setCell (by simp) _

theorem claim_calls {w : World} {b g cap fr to : Nat} {is : List Bool} (h : Sp w b g cap fr to is) (k : Int) :
    Calls Tryd.prog 43 #[.pointer (some ⟨b, 0, none⟩), .int .i64 k] w fun e w' => e = .returned (.bool (hasB fr is k)) ∧ Sp w' b g cap fr to (claimS fr is k) ∧ Keeps [b, g] w w' := by
  obtain ⟨free, low, ws, h⟩ := h
  cases hb : hasB fr is k with
  | false =>
    have HB := Lib.hid hb
    clear hb
    go_enter Tryd.func43, Tryd.ntmps43
    go_wp2_with (go_at_call 85; refine (has_calls h _).mono ?_; rw [HB.out]; rintro e w' ⟨rfl, rfl⟩)
    go_ret
    exact ⟨rfl, ⟨free, low, ws, by unfold claimS; rw [HB.out]; exact h⟩, Keeps.refl _ _⟩
  | true =>
    obtain ⟨i, rfl⟩ : ∃ i : Nat, k = fr + i := ⟨(k - fr).toNat, by simp [hasB] at hb; omega⟩
    have hb' : is.getD i false = true := by rw [← hasB_in fr]; exact hb
    have hi : i < to - fr := by have := trues_lt ((mem_trues is i).2 hb'); rw [h.inv.len] at this; exact this
    have HI := Lib.hid (h.inv.claim hi hb')
    have HC : Hid (claimS fr is (fr + i) = is.set i false) := by
      show _ = _
      unfold claimS
      rw [if_pos hb]; congr 1; omega
    have HB := Lib.hid hb
    obtain ⟨hf0, hf1, _, hwl⟩ := h.bounds
    have h0 := h.blk.cell 0
    have h2 := h.blk.cell 2
    have h4 := h.blk.cell 4
    simp [spCells] at h0 h2 h4
    have f2 := h.blk.frozen 2
    have fw := h.row.frozen (i / 64)
    have hw := h.inv.inw hi
    have hc := (h.row.cell (i / 64) (by omega)).trans (wordsV_get ws _ hw)
    have hx := getD_lt h.inv.lt (i / 64)
    have hne := h.ne
    have hle := h.le
    have e3 : ((i : Int) / 64).toNat = i / 64 := by omega
    have e4 : ((i : Int) % 64).toNat = i % 64 := by omega
    have e5 : (i : Int) / 64 < (ws.length : Int) := by omega
    have HX := Lib.hid hx
    clear hx hb hb'
    generalize ws.getD (i / 64) 0 = x at hc HX HI
    go_enter Tryd.func43, Tryd.ntmps43
    go_wp2_with (go_at_call 85; refine (has_calls h _).mono ?_; rw [HB.out]; rintro e w' ⟨rfl, rfl⟩)
    go_ret
    rw [andNot_bit x _ (Nat.mod_lt _ (by omega)) HX.out, HC.out]
    exact ⟨rfl, ⟨_, _, _, h.write HI.out⟩, keeps2 ..⟩

theorem give_calls {w : World} {b g cap fr to : Nat} {is : List Bool} (h : Sp w b g cap fr to is) (k : Int) :
    Calls Tryd.prog 64 #[.pointer (some ⟨b, 0, none⟩), .int .i64 k] w fun e w' => e = .returned (.bool (giveB fr to is k)) ∧ Sp w' b g cap fr to (giveS fr to is k) ∧ Keeps [b, g] w w' := by
  obtain ⟨free, low, ws, h⟩ := h
  have h0 := h.blk.cell 0
  have h1 := h.blk.cell 1
  simp [spCells] at h0 h1
  by_cases c1 : k < fr
  · have e1 : decide (k < (fr : Int)) = true := by simpa using c1
    have HB : Hid (giveB fr to is k = false) := by
      show _ = _
      have : decide ((fr : Int) ≤ k) = false := by simp; omega
      simp [giveB, this]
    go_enter Tryd.func64, Tryd.ntmps64
    go_wp2
    go_ret
    exact ⟨by rw [HB.out]; rfl, ⟨free, low, ws, by unfold giveS; rw [HB.out]; exact h⟩, Keeps.refl _ _⟩
  · have e1 : decide (k < (fr : Int)) = false := by simpa using c1
    by_cases c2 : (to : Int) ≤ k
    · have e2 : decide ((to : Int) ≤ k) = true := by simpa using c2
      have HB : Hid (giveB fr to is k = false) := by
        show _ = _
        have : decide (k < (to : Int)) = false := by simp; omega
        simp [giveB, this]
      go_enter Tryd.func64, Tryd.ntmps64
      go_wp2
      go_ret
      exact ⟨by rw [HB.out]; rfl, ⟨free, low, ws, by unfold giveS; rw [HB.out]; exact h⟩, Keeps.refl _ _⟩
    · have e2 : decide ((to : Int) ≤ k) = false := by simpa using c2
      have hGB : giveB fr to is k = !hasB fr is k := by
        have a1 : decide ((fr : Int) ≤ k) = true := by simp; omega
        have a2 : decide (k < (to : Int)) = true := by simp; omega
        simp [giveB, a1, a2]
      cases hb : hasB fr is k with
      | true =>
        rw [hb] at hGB
        have HB := Lib.hid hb
        have HG := Lib.hid hGB
        clear hb hGB
        go_enter Tryd.func64, Tryd.ntmps64
        go_wp2_with (go_at_call 85; refine (has_calls h _).mono ?_; rw [HB.out]; rintro e w' ⟨rfl, rfl⟩)
        go_ret
        exact ⟨by rw [HG.out]; rfl, ⟨free, low, ws, by unfold giveS; rw [HG.out]; exact h⟩, Keeps.refl _ _⟩
      | false =>
        obtain ⟨i, rfl⟩ : ∃ i : Nat, k = fr + i := ⟨(k - fr).toNat, by omega⟩
        rw [hb] at hGB
        rw [Bool.not_false] at hGB
        have HG := Lib.hid hGB
        have hb' : is.getD i false = false := by rw [← hasB_in fr]; exact hb
        have hi : i < to - fr := by omega
        have HI := Lib.hid (h.inv.give hi hb')
        have HC : Hid (giveS fr to is (fr + i) = is.set i true) := by
          show _ = _
          unfold giveS
          rw [if_pos hGB]; congr 1; omega
        have HB := Lib.hid hb
        obtain ⟨hf0, hf1, hlo, hwl⟩ := h.bounds
        have h2 := h.blk.cell 2
        have h3 := h.blk.cell 3
        have h4 := h.blk.cell 4
        simp [spCells] at h2 h3 h4
        have f2 := h.blk.frozen 2
        have f3 := h.blk.frozen 3
        have fw := h.row.frozen (i / 64)
        have hw := h.inv.inw hi
        have hc := (h.row.cell (i / 64) (by omega)).trans (wordsV_get ws _ hw)
        have hx := getD_lt h.inv.lt (i / 64)
        have hne := h.ne
        have hle := h.le
        have e3 : ((i : Int) / 64).toNat = i / 64 := by omega
        have e4 : ((i : Int) % 64).toNat = i % 64 := by omega
        have e5 : (i : Int) / 64 < (ws.length : Int) := by omega
        have HX := Lib.hid hx
        clear hx hb hb' hGB
        generalize ws.getD (i / 64) 0 = x at hc HX HI
        have hs := h
        by_cases c3 : low ≤ i / 64
        · have c4 : (low : Int) ≤ ((fr : Int) + i - fr) / 64 := by omega
          rw [Nat.min_eq_left c3] at HI
          go_enter Tryd.func64, Tryd.ntmps64
          go_wp2_with (go_at_call 85; refine (has_calls h _).mono ?_; rw [HB.out]; rintro e w' ⟨rfl, rfl⟩)
          go_ret
          rw [or_bit x _ (Nat.mod_lt _ (by omega)) HX.out, HC.out, HG.out]
          exact ⟨rfl, ⟨_, _, _, hs.write3 HI.out⟩, keeps3 ..⟩
        · have c4 : ((fr : Int) + i - fr) / 64 < low := by omega
          rw [Nat.min_eq_right (by omega)] at HI
          go_enter Tryd.func64, Tryd.ntmps64
          go_wp2_with (go_at_call 85; refine (has_calls h _).mono ?_; rw [HB.out]; rintro e w' ⟨rfl, rfl⟩)
          go_ret
          rw [or_bit x _ (Nat.mod_lt _ (by omega)) HX.out, HC.out, HG.out, show ((fr : Int) + i - fr) / 64 = ((i / 64 : Nat) : Int) by omega]
          exact ⟨rfl, ⟨_, _, _, hs.write3 HI.out⟩, keeps3 ..⟩
end Go.Proofs.YtgcpcgcfpjolnaaDoor
/- The contracts of Take and of the library's TrailingZeros64. -/
set_option linter.unusedVariables false
set_option linter.unusedSimpArgs false
namespace Go.Proofs.YtgcpcgcfpjolnaaDoor
open Go.RowKit

/-- the table of math/bits lies in block 2 -/
def TabW (w : World) : Prop := ∀ j, j < 64 → w.cell? ⟨2, j, none⟩ = some (.int .u8 (Lib.deBruijn64tab.getD j 0))
theorem TabW.keeps {w w' : World} {S : List Nat} (h : TabW w) (hk : Keeps S w w') (h0 : 2 ∉ S) : TabW w' := fun j hj => hk.cell (h j hj) h0

set_option maxHeartbeats 1000000 in
theorem tz_core (x k idx : Nat) (w : World) (hx0 : ((x : Int) == 0) = false)
    (key : IntKind.u64.wrap (bits BinOp.and IntKind.u64 (x : Int) (IntKind.u64.wrap (-(x : Int))) * 285870213051353865) / 288230376151711744 = (idx : Int))
    (hi : idx < 64) (hk : k < 64) (hcell : w.cell? ⟨2, idx, none⟩ = some (.int .u8 k)) :
    Calls Tryd.prog 123 #[.int .u64 (x : Int)] w fun e w' => e = .returned (.int .i64 k) ∧ w = w' := by
  go_enter Tryd.func123, Tryd.ntmps123
  go_wp2_with (simp only [key])
  go_ret
  exact ⟨rfl, rfl⟩
theorem tz_calls (w : World) (x : Nat) (hx : x < 2 ^ 64) (hx0 : x ≠ 0) (hT : TabW w) :
    Calls Tryd.prog 123 #[.int .u64 (x : Int)] w fun e w' => e = .returned (.int .i64 (Lib.ctz 64 x)) ∧ w = w' := by
  obtain ⟨hlow, hk⟩ := Lib.lowest_bit 64 x hx0 hx
  obtain ⟨hi, htab⟩ := Lib.deBruijn64_at _ hk
  have hcell := hT _ hi
  rw [htab] at hcell
  exact tz_core x _ _ w (by simp; omega) (tz64_key x _ hx hx0 hlow) hi hk hcell

def takeOut (fr : Nat) (is : List Bool) : Int := match trues is with | [] => 0 | m :: _ => (fr : Int) + m
def takeOk (is : List Bool) : Bool := !(trues is).isEmpty
def takeS (is : List Bool) : List Bool := match trues is with | [] => is | m :: _ => is.set m false

def TakePost (fr to b g cap : Nat) (is : List Bool) (w : World) (e : Ending) (w' : World) : Prop :=
  e = .returned (.tuple #[.int .i64 (takeOut fr is), .bool (takeOk is)]) ∧ Sp w' b g cap fr to (takeS is) ∧ Keeps [b, g] w w'


theorem take_nil {fr : Nat} {is : List Bool} (h : trues is = []) : takeOut fr is = 0 ∧ takeOk is = false ∧ takeS is = is := by simp [takeOut, takeOk, takeS, h]
theorem take_cons {fr : Nat} {is : List Bool} {m : Nat} {t : List Nat} (h : trues is = m :: t) : takeOut fr is = fr + m ∧ takeOk is = true ∧ takeS is = is.set m false := by simp [takeOut, takeOk, takeS, h]
theorem SpIn.drewN {w : World} {b g cap fr to : Nat} {free : Int} {low : Nat} {ws : List Nat} {is : List Bool} (h : SpIn w b g cap fr to free low ws is) (n : Nat) : SpIn (w.drewN n) b g cap fr to free low ws is :=
  ⟨h.inv, h.blk, h.row, h.ne, h.b0, h.g0, h.lt, h.le⟩

set_option maxHeartbeats 1000000 in
theorem take_calls {w : World} {b g cap fr to : Nat} {is : List Bool} (h : Sp w b g cap fr to is) (hT : TabW w) :
    Calls Tryd.prog 101 #[.pointer (some ⟨b, 0, none⟩)] w (TakePost fr to b g cap is w) := by
  obtain ⟨free, low, ws, h⟩ := h
  go_enter Tryd.func101, Tryd.ntmps101
  go_wp2
  go_loopg [2] (ws.length + 1 - low) (fun q s wr => ∃ lo : Nat, SpIn wr b g cap fr to free lo ws is ∧ Keeps [b, g] w wr ∧ ws.length + 1 - lo ≤ q)
  case atStart => exact ⟨low, h, Keeps.refl _ _, Nat.le_refl _⟩
  case round =>
    obtain ⟨lo, hs, hk, hq⟩ := hrel
    have h0 := hs.blk.cell 0
    have h2 := hs.blk.cell 2
    have h3 := hs.blk.cell 3
    have h4 := hs.blk.cell 4
    simp [spCells] at h0 h2 h3 h4
    have f2 := hs.blk.frozen 2
    have f3 := hs.blk.frozen 3
    by_cases hlt : lo < ws.length
    · have fw := hs.row.frozen lo
      have hc := (hs.row.cell lo (by omega)).trans (wordsV_get ws _ hlt)
      have hlt' : (lo : Int) < ws.length := by omega
      have hx := getD_lt hs.inv.lt lo
      obtain ⟨hf0, hf1, hlo, hwl⟩ := hs.bounds
      by_cases hx0 : ws.getD lo 0 = 0
      · have HS := Lib.hid (hs.inv.low_zero hlt hx0)
        rw [hx0] at hc
        go_wp2_with fail
        go_quiet (fail)
        go_wp2_with fail
        go_quiet (fail)
        go_wp2_with fail
        go_roundg (ws.length - lo)
        case measure => omega
        case rel => exact ⟨lo + 1, (hs.drewN _).low HS.out (by simp), (hk.drewN _).setCell (by simp) _, by omega⟩
      · obtain ⟨m, t, ht, hm, hmn, hin⟩ := hs.inv.take hlt hx0
        have HI := Lib.hid hin
        have HT := Lib.hid ht
        have HM := Lib.hid hm
        generalize ws.getD lo 0 = x at *
        have hxb : ((x : Int) != 0) = true := by simp; omega
        have hx1 : 1 ≤ (x : Int) := by omega
        have HAND : Hid (bits .and .u64 (x : Int) (IntKind.u64.wrap ((x : Int) - 1)) = ((x &&& (x - 1) : Nat) : Int)) := by
          show _ = _
          rw [show IntKind.u64.wrap ((x : Int) - 1) = ((x - 1 : Nat) : Int) by rw [IntKind.wrap_u64]; omega]
          exact bits_and_u64_nat _ _ (by simpa using hx) (by omega)
        have hne := hs.ne
        have hne' : g ≠ b := Ne.symm hne
        have hle := hs.le
        have hlt2 := hs.lt
        have HX := Lib.hid hx
        have HX0 := Lib.hid hx0
        clear hx hx0 ht hm hin
        go_wp2_with fail
        go_quiet (fail)
        go_wp2_with fail
        go_quiet (fail)
        go_wp2_with fail
        go_region
        go_wp2_with fail
        generalize hwq : World.setCell _ _ _ = wq
        have hs' : SpIn wq b g cap fr to (free - 1) lo (ws.set lo (x &&& (x - 1))) (is.set m false) := by
          rw [← hwq, HAND.out]
          exact (hs.drewN _).write HI.out
        have hk' : Keeps [b, g] w wq := by
          rw [← hwq]
          exact ((hk.drewN _).setCell (by simp) _).setCell (by simp) _
        have hT' : TabW wq := hT.keeps hk' (by have := hs.b0; have := hs.g0; simp; omega)
        clear hwq h0 h2 h3 h4 f2 f3 hc fw hk
        have h0 := hs'.blk.cell 0
        have h3 := hs'.blk.cell 3
        simp [spCells] at h0 h3
        have e1 : (0 : Int) ≤ 64 * lo := by omega
        go_quiet ((go_at_call 123; exact (tz_calls _ x HX.out HX0.out (hT'.keeps ((Keeps.refl [] _).drewN _) (by simp))).mono fun _ _ h => ⟨h.1, _, h.2.symm⟩))
        go_wp2
        go_ret2
        unfold TakePost
        obtain ⟨t1, t2, t3⟩ := take_cons (fr := fr) HT.out
        rw [t1, t2, t3]
        have hct := (Lib.lowest_bit 64 x HX0.out HX.out).2
        have hmm := HM.out
        have hv : wrap64 ((fr : Int) + 64 * lo + (Lib.ctz 64 x : Nat)) = fr + m := by unfold wrap64; omega
        exact ⟨by rw [← hv]; rfl, ⟨_, _, _, hs'.drewN _⟩, hk'.drewN _⟩
    · have hlt' : ¬ (lo : Int) < ws.length := by omega
      obtain ⟨t1, t2, t3⟩ := take_nil (fr := fr) (hs.inv.none (by omega))
      have H1 := Lib.hid t1
      have H2 := Lib.hid t2
      have H3 := Lib.hid t3
      clear t1 t2 t3
      go_wp2_with fail
      go_quiet (fail)
      go_wp2
      go_ret2
      unfold TakePost
      rw [H1.out, H2.out, H3.out]
      exact ⟨rfl, ⟨free, lo, ws, hs.drewN _⟩, hk.drewN _⟩
end Go.Proofs.YtgcpcgcfpjolnaaDoor
/- The contracts of TakeAll and List. -/
set_option linter.unusedVariables false
set_option linter.unusedSimpArgs false
namespace Go.Proofs.YtgcpcgcfpjolnaaDoor
open Go.RowKit
set_option maxRecDepth 10000

def ints (l : List Int) : List Value := l.map (Value.int .i64)
theorem ints_length (l : List Int) : (ints l).length = l.length := by simp [ints]
def nums (fr : Nat) (l : List Nat) : List Int := l.map fun (m : Nat) => (fr : Int) + m
theorem nums_length (fr : Nat) (l : List Nat) : (nums fr l).length = l.length := by simp [nums]
theorem ints_append (l m : List Int) : ints (l ++ m) = ints l ++ ints m := by simp [ints]
theorem nums_append (fr : Nat) (l m : List Nat) : nums fr (l ++ m) = nums fr l ++ nums fr m := by simp [nums]
/-- a list of whole numbers that was handed out -/
def IntsAt (w : World) (v : Value) (l : List Int) : Prop := w.ownsRow 0 3 1 v l.length (ints l)
theorem info3 : (Tryd.prog.info? 3).map (fun i => (i.zero, i.size, i.bytes)) = some (some (.int .i64 0), 1, 8) := by kernel_rfl

def takeAllOk (is : List Bool) (k : Int) : Bool := decide (0 ≤ k) && decide (k ≤ (trues is).length)
def takeAllOut (fr : Nat) (is : List Bool) (k : Int) : List Int := if takeAllOk is k then nums fr ((trues is).take k.toNat) else []
def takeAllS (is : List Bool) (k : Int) : List Bool := if takeAllOk is k then clear is ((trues is).take k.toNat) else is
def TakeAllPost (fr to b g cap : Nat) (is : List Bool) (k : Int) (w : World) (e : Ending) (w' : World) : Prop :=
  ∃ v, e = .returned (.tuple #[v, .bool (takeAllOk is k)]) ∧ IntsAt w' v (takeAllOut fr is k) ∧ Fresh w v ∧ Sp w' b g cap fr to (takeAllS is k) ∧ Keeps [b, g] w w'

theorem clip_calls (w : World) (g n : Nat) : Calls Tryd.prog 102 #[.slice (some ⟨g, 0, none⟩) n n] w fun e w' => e = .returned (.slice (some ⟨g, 0, none⟩) n n) ∧ w = w' := by
  go_enter Tryd.func102, Tryd.ntmps102
  go_wp2
  go_ret
  exact ⟨rfl, rfl⟩

theorem takeAll_no {w : World} {b g cap fr to : Nat} {is : List Bool} (h : Sp w b g cap fr to is) (k : Int) (hk : takeAllOk is k = false) :
    Calls Tryd.prog 62 #[.pointer (some ⟨b, 0, none⟩), .int .i64 k] w (TakeAllPost fr to b g cap is k w) := by
  obtain ⟨free, low, ws, h⟩ := h
  have h2 := h.blk.cell 2
  simp [spCells] at h2
  have HK := Lib.hid hk
  have hfin : TakeAllPost fr to b g cap is k w (.returned (.tuple #[.slice none 0 0, .bool false])) w :=
    ⟨_, by rw [hk], by simp [takeAllOut, hk]; exact World.ownsRow_nil _ _ _ _, Fresh.nil w, ⟨free, low, ws, by simpa [takeAllS, hk] using h⟩, Keeps.refl _ _⟩
  have hfree := h.inv.free
  simp [takeAllOk] at hk
  by_cases c : k < 0
  · have c1 : decide (k < 0) = true := by simpa using c
    clear hk hfree
    go_enter Tryd.func62, Tryd.ntmps62
    go_wp2
    go_ret2
    exact hfin
  · have c1 : decide (k < 0) = false := by simpa using c
    have c2 : decide (free < k) = true := by simp; have := hk (by omega); omega
    clear hk hfree
    go_enter Tryd.func62, Tryd.ntmps62
    go_wp2
    go_ret2
    exact hfin

set_option maxHeartbeats 1000000 in
theorem takeAll_yes {w : World} {b g cap fr to : Nat} {is : List Bool} (h : Sp w b g cap fr to is) (hT : TabW w) (k : Int) (hk : takeAllOk is k = true) :
    Calls Tryd.prog 62 #[.pointer (some ⟨b, 0, none⟩), .int .i64 k] w (TakeAllPost fr to b g cap is k w) := by
  have hsp := h
  obtain ⟨free, low, ws, h⟩ := h
  have h2 := h.blk.cell 2
  simp [spCells] at h2
  obtain ⟨hf0, hf1, _, _⟩ := h.bounds
  have HK := Lib.hid hk
  have hfree := h.inv.free
  simp [takeAllOk] at hk
  obtain ⟨n, rfl⟩ := Int.eq_ofNat_of_zero_le hk.1
  have hn : n ≤ (trues is).length := by omega
  have c1 : decide ((n : Int) < 0) = false := by simp
  have c2 : decide (free < (n : Int)) = false := by simp; omega
  have hn1 : n ≤ 65536 := by omega
  clear hk
  have HF := Lib.hid hfree
  clear hfree
  have hb0 := h.b0
  have hg0 := h.g0
  have hbl := h.blk.lt
  have hgl := h.row.lt
  go_enter Tryd.func62, Tryd.ntmps62
  go_wp2_with (refine wp_make0 rfl _ _ 47 3 (.int .i64 0) 1 8 rfl Tryd.underlying47 info3 n rfl rfl rfl ?c1 ?c2 ?_)
  case c1 => omega
  case c2 => unfold maxLen; omega
  intro w1 hr1 hk1
  go_wp2
  have HH : Hid (w.heap.size < w1.heap.size) := hr1.lt
  go_loopw [6, 22] (fun out i wr => ∃ j : Nat, j ≤ n ∧ i = .int .i64 j ∧ out = .slice (some ⟨w.heap.size, 0, none⟩) j n ∧ RowAt wr w.heap.size 3 1 j n (ints (nums fr ((trues is).take j))) ∧ Sp wr b g cap fr to (clear is ((trues is).take j)) ∧ Keeps [b, g] w wr) (fun _ i _ => n - (intOf i).toNat)
  case atStart => exact ⟨0, Nat.zero_le _, rfl, rfl, by simpa [ints, nums] using hr1, hsp.keeps hk1 (by simp) (by simp), hk1.mono (by simp)⟩
  case round =>
    obtain ⟨j, hj, rfl, rfl, hrow, hs, hk⟩ := hrel
    by_cases hlt : j < n
    · have hT' : TabW wr := hT.keeps hk (by simp; omega)
      obtain ⟨m, t, ht⟩ : ∃ m t, trues (clear is ((trues is).take j)) = m :: t := by
        cases hh : trues (clear is ((trues is).take j)) with
        | nil => rw [trues_clear_take] at hh; have := List.drop_eq_nil_iff.1 hh; omega
        | cons m t => exact ⟨m, t, rfl⟩
      obtain ⟨q1, q2⟩ := clear_take_succ ht
      obtain ⟨t1, t2, t3⟩ := take_cons (fr := fr) ht
      have HT1 := Lib.hid t1
      have HT2 := Lib.hid t2
      have HT3 := Lib.hid t3
      have HQ1 := Lib.hid q1
      have HQ2 := Lib.hid q2
      clear t1 t2 t3 q1 q2 ht
      go_wp2_with fail
      refine (take_calls hs hT').mono ?_
      rintro e w2 ⟨he, hs2, hk2⟩
      rw [HT1.out, HT2.out] at he
      rw [HT3.out, ← HQ2.out] at hs2
      subst he
      have hrow2 := hrow.keeps hk2 (by simp; omega)
      go_wp2_with (refine wp_push_fits rfl _ _ 47 3 (.int .i64 0) 1 8 rfl Tryd.underlying47 info3 w.heap.size j n (ints (nums fr ((trues is).take j))) #[.int .i64 ((fr : Int) + m)] rfl rfl (by simp) rfl ?c1 hrow2 (by omega) ?_)
      case c1 => simp [Value.oneCell']
      intro w3 hrow3 hk3
      go_wp2
      go_roundw
      case rel => exact ⟨j + 1, by omega, by go_num, rfl, by rw [HQ1.out]; simpa [ints, nums] using hrow3, hs2.keeps hk3 (by simp; omega) (by simp; omega), (hk.trans' hk2).trans hk3 (by simp)⟩
      case measure => simp [intOf]; omega
    · obtain rfl : j = n := by omega
      go_wp2_with fail
      refine (clip_calls _ _ _).mono ?_
      rintro e w2 ⟨rfl, rfl⟩
      go_wp2
      go_ret2
      refine ⟨_, by rw [HK.out]; rfl, ?_, ?_, ?_, hk⟩
      · unfold IntsAt takeAllOut
        rw [if_pos HK.out]
        simp only [nums_length, List.length_take, Int.toNat_natCast]
        rw [Nat.min_eq_left hn]
        exact hrow
      · intro k hk'; cases hk'; exact Nat.le_refl _
      · unfold takeAllS
        rw [if_pos HK.out]
        exact hs

def pre (is : List Bool) (j : Nat) : List Nat := (List.range j).filter fun i => is.getD i false
theorem pre_succ (is : List Bool) (j : Nat) : pre is (j + 1) = pre is j ++ (if is.getD j false then [j] else []) := by
  simp only [pre, List.range_succ, List.filter_append, List.filter_cons, List.filter_nil]
theorem pre_le (is : List Bool) (j : Nat) : (pre is j).length ≤ j := by
  have := List.length_filter_le (fun i => is.getD i false) (List.range j)
  simpa [pre] using this
def ListPost (fr : Nat) (is : List Bool) (w : World) (e : Ending) (w' : World) : Prop := ∃ v, e = .returned v ∧ IntsAt w' v (nums fr (trues is)) ∧ Fresh w v ∧ Keeps [] w w'

set_option maxHeartbeats 1000000 in
theorem list_calls {w : World} {b g cap fr to : Nat} {is : List Bool} (h : Sp w b g cap fr to is) :
    Calls Tryd.prog 55 #[.pointer (some ⟨b, 0, none⟩)] w (ListPost fr is w) := by
  obtain ⟨free, low, ws, h⟩ := h
  have h0 := h.blk.cell 0
  simp [spCells] at h0
  have hlt := h.lt
  have hle := h.le
  have HL := Lib.hid h.inv.len
  go_enter Tryd.func55, Tryd.ntmps55
  go_wp2
  clear h0
  go_loopw [3, 4] (fun v i wr => ∃ j : Nat, fr + j ≤ to ∧ i = .int .i64 ((fr : Int) + j) ∧ wr.ownsRow 0 3 1 v (pre is j).length (ints (nums fr (pre is j))) ∧ Fresh w v ∧ Keeps [] w wr) (fun _ i _ => to - (intOf i).toNat)
  case atStart => exact ⟨0, by omega, by simp, World.ownsRow_nil _ _ _ _, Fresh.nil w, Keeps.refl _ _⟩
  case round =>
    obtain ⟨j, hj, rfl, hown, hfr, hk⟩ := hrel
    have hs := h.keeps hk (by simp) (by simp)
    have h1 := hs.blk.cell 1
    simp [spCells] at h1
    by_cases hlt2 : fr + j < to
    · have hlt3 : (fr : Int) + j < to := by omega
      have hb := hasB_in fr is j
      have hps := pre_succ is j
      have hpl := pre_le is j
      cases hv : is.getD j false with
      | false =>
        rw [hv] at hb hps
        have HB := Lib.hid hb
        have HP := Lib.hid hps
        clear hb hps hv
        go_wp2_with fail
        refine (has_calls hs _).mono ?_
        rw [HB.out]
        rintro e w2 ⟨rfl, rfl⟩
        go_wp2
        go_roundw
        case rel => exact ⟨j + 1, by omega, by go_num, by rw [HP.out]; simpa using hown, hfr, hk⟩
        case measure => simp [intOf]; omega
      | true =>
        rw [hv] at hb hps
        have HB := Lib.hid hb
        have HP := Lib.hid hps
        clear hb hps hv
        go_wp2_with fail
        refine (has_calls hs _).mono ?_
        rw [HB.out]
        rintro e w2 ⟨rfl, rfl⟩
        go_wp2_with (refine wp_push rfl _ _ 47 3 (.int .i64 0) 1 8 rfl Tryd.underlying47 info3 rfl (by omega) (by omega) u3 (pre is j).length (ints (nums fr (pre is j))) #[.int .i64 ((fr : Int) + j)] rfl rfl (by simp) rfl ?c1 hown ?c2 ?_)
        case c1 => simp [Value.oneCell']
        case c2 => omega
        intro v1 w3 hown3 hk3 hb3
        go_wp2
        go_roundw
        case rel => exact ⟨j + 1, by omega, by go_num, by rw [HP.out]; simpa [ints, nums] using hown3, fun k e => (hb3 k e).elim (hfr k) (Nat.le_trans hk.size), keeps_row hk hk3 fun k e => .inr (hfr k e)⟩
        case measure => simp [intOf]; omega
    · have hlt3 : ¬ (fr : Int) + j < to := by omega
      have e : to - fr = j := by omega
      have HE : Hid (pre is j = trues is) := by show _ = _; rw [← e, ← HL.out]; rfl
      clear e
      go_wp2
      go_ret
      exact ⟨_, rfl, by unfold IntsAt; rw [nums_length, ← HE.out]; exact hown, hfr, hk⟩
end Go.Proofs.YtgcpcgcfpjolnaaDoor
/- The contracts of New, Copy and of the library's Clone. -/
set_option linter.unusedVariables false
set_option linter.unusedSimpArgs false
namespace Go.Proofs.YtgcpcgcfpjolnaaDoor
open Go.RowKit
set_option maxRecDepth 10000

theorem info129 : (Tryd.prog.info? 129).map (fun i => (i.zero, i.size, i.bytes)) = some (some (.int .u64 0), 1, 8) := by kernel_rfl
theorem info4 : (Tryd.prog.info? 4).map (fun i => (i.zero, i.size, i.bytes)) = some (some (.bool false), 1, 1) := by kernel_rfl
def badNew (fr to : Int) : Bool := decide (fr < 0) || (decide (to ≤ fr) || decide (65536 < to))

theorem new_bad (fr to : Int) (w : World) (h : badNew fr to = true) :
    Calls Tryd.prog 14 #[.int .i64 fr, .int .i64 to] w fun e w' => e = .returned (.tuple #[.pointer none, .int .i64 40]) ∧ w = w' := by
  simp [badNew] at h
  by_cases c1 : fr < 0
  · have e1 : decide (fr < 0) = true := by simpa using c1
    clear h
    go_enter Tryd.func14, Tryd.ntmps14
    go_wp2
    go_ret2
    exact ⟨rfl, rfl⟩
  · have e1 : decide (fr < 0) = false := by simpa using c1
    by_cases c2 : to ≤ fr
    · have e2 : decide (to ≤ fr) = true := by simpa using c2
      clear h
      go_enter Tryd.func14, Tryd.ntmps14
      go_wp2
      go_ret2
      exact ⟨rfl, rfl⟩
    · have e2 : decide (to ≤ fr) = false := by simpa using c2
      have e3 : decide (65536 < to) = true := by simp; omega
      clear h
      go_enter Tryd.func14, Tryd.ntmps14
      go_wp2
      go_ret2
      exact ⟨rfl, rfl⟩

def fillN (nw j : Nat) : List Nat := List.replicate j 18446744073709551615 ++ List.replicate (nw - j) 0
theorem fill_zero (nw : Nat) : wordsV (fillN nw 0) = (madeCells #[Value.int .u64 0] nw).toList := by
  rw [toList_madeCells_one]
  simp [wordsV, fillN]
theorem fill_full (nw : Nat) : fillN nw nw = List.replicate nw 18446744073709551615 := by simp [fillN]
theorem fill_len (nw j : Nat) (h : j ≤ nw) : (fillN nw j).length = nw := by simp [fillN]; omega
theorem fill_succ (nw j : Nat) (h : j < nw) : (fillN nw j).set j 18446744073709551615 = fillN nw (j + 1) := by
  obtain ⟨d, rfl⟩ : ∃ d, nw = j + 1 + d := ⟨nw - (j + 1), by omega⟩
  simp only [fillN]
  rw [List.set_append_right _ _ (by simp), show j + 1 + d - j = d + 1 by omega, List.replicate_succ, List.length_replicate, Nat.sub_self, List.set_cons_zero, List.replicate_succ', List.append_assoc, show j + 1 + d - (j + 1) = d by omega]
  rfl

theorem last_word (i : Nat) (hi : i < 64) : IntKind.u64.wrap (IntKind.u64.wrap (2 ^ i : Int) - 1) = ((2 ^ i - 1 : Nat) : Int) := by
  rw [pow_u64 i hi, IntKind.wrap_u64]
  have h1 : 2 ^ i < 2 ^ 64 := Nat.pow_lt_pow_right (by omega) hi
  have h2 : 0 < 2 ^ i := Nat.two_pow_pos i
  generalize 2 ^ i = q at *
  omega
theorem full_len (n : Nat) : (fullWords n).length = (n + 63) / 64 := (WInv.full n).wlen
theorem new_sp {w : World} {b g fr to n nw : Nat} (hn : n = to - fr) (hnw : nw = (n + 63) / 64)
    (hs : StrAt w b #[Value.int .i64 (fr : Int), Value.int .i64 (to : Int), Value.int .i64 (n : Int), Value.int .i64 0, Value.slice (some ⟨g, 0, none⟩) nw nw] 128)
    (hr : RowAt w g 129 1 nw nw (wordsV (fullWords n))) (h1 : b ≠ g) (h2 : 2 < b) (h3 : 2 < g) (h4 : fr < to) (h5 : to ≤ 65536) : Sp w b g nw fr to (List.replicate (to - fr) true) := by
  have hl := full_len n
  rw [← hnw] at hl
  subst hn
  exact ⟨_, 0, fullWords (to - fr), WInv.full _, by unfold spCells; rw [hl]; exact hs, by rw [hl]; exact hr, h1, h2, h3, h4, h5⟩

def NewPost (fr to : Nat) (w : World) (e : Ending) (w' : World) : Prop :=
  ∃ b g cap, e = .returned (.tuple #[.pointer (some ⟨b, 0, none⟩), .int .i64 0]) ∧ Sp w' b g cap fr to (List.replicate (to - fr) true) ∧ w.heap.size ≤ b ∧ w.heap.size ≤ g ∧ Keeps [] w w'

set_option maxHeartbeats 1000000 in
theorem new_good (fr to : Nat) (w : World) (h1 : fr < to) (h2 : to ≤ 65536) (hw0 : 2 < w.heap.size) :
    Calls Tryd.prog 14 #[.int .i64 (fr : Int), .int .i64 (to : Int)] w (NewPost fr to w) := by
  have e1 : decide ((fr : Int) < 0) = false := by simp
  have e2 : decide ((to : Int) ≤ fr) = false := by simp; omega
  have e3 : decide (65536 < (to : Int)) = false := by simp; omega
  obtain ⟨n, hn⟩ : ∃ n, n = to - fr := ⟨_, rfl⟩
  have e4 : (to : Int) - fr = (n : Int) := by omega
  obtain ⟨nw, hnw⟩ : ∃ nw, nw = (n + 63) / 64 := ⟨_, rfl⟩
  have E5 : Hid (((n : Int) + 63) / 64 = (nw : Int)) := by show _ = _; omega
  have hn1 : 1 ≤ n := by omega
  have hn2 : n ≤ 65536 := by omega
  have hw1 : 1 ≤ nw := by omega
  have hw2 : nw ≤ 1024 := by omega
  have HN := Lib.hid hn
  have HNW := Lib.hid hnw
  clear hn hnw
  go_enter Tryd.func14, Tryd.ntmps14
  go_wp2_with (refine wp_make rfl _ _ 126 129 (.int .u64 0) 1 8 rfl Tryd.underlying126 info129 nw rfl rfl E5.out E5.out ?c1 ?c2 ?_)
  case c1 => omega
  case c2 => unfold maxLen; omega
  intro w1 hr1 hk1
  go_wp2
  have hgb : w.heap.size < w1.heap.size := hr1.lt
  have hne : w1.heap.size ≠ w.heap.size := by omega
  have hne' : w.heap.size ≠ w1.heap.size := by omega
  have HS0 := Lib.hid (StrAt.new w1 #[Value.int .i64 (fr : Int), Value.int .i64 (to : Int), Value.int .i64 (n : Int), Value.int .i64 0, Value.slice (some ⟨w.heap.size, 0, none⟩) nw nw] 128)
  have HR0 := Lib.hid (hr1.alloc (.cells #[Value.int .i64 (fr : Int), Value.int .i64 (to : Int), Value.int .i64 (n : Int), Value.int .i64 0, Value.slice (some ⟨w.heap.size, 0, none⟩) nw nw] 128))
  have HK0 := Lib.hid (hk1.alloc (.cells #[Value.int .i64 (fr : Int), Value.int .i64 (to : Int), Value.int .i64 (n : Int), Value.int .i64 0, Value.slice (some ⟨w.heap.size, 0, none⟩) nw nw] 128))
  go_loopw [37] (fun i wr => ∃ j : Nat, j ≤ nw ∧ i = .int .i64 j ∧ StrAt wr w1.heap.size #[Value.int .i64 (fr : Int), Value.int .i64 (to : Int), Value.int .i64 (n : Int), Value.int .i64 0, Value.slice (some ⟨w.heap.size, 0, none⟩) nw nw] 128 ∧ RowAt wr w.heap.size 129 1 nw nw (wordsV (fillN nw j)) ∧ Keeps [] w wr) (fun i _ => nw - (intOf i).toNat)
  case atStart => exact ⟨0, Nat.zero_le _, rfl, HS0.out, by rw [fill_zero]; exact HR0.out, HK0.out⟩
  case round =>
    obtain ⟨j, hj, rfl, hs, hr, hk⟩ := hrel
    have h4 := hs.cell 4
    simp at h4
    by_cases hlt : j < nw
    · have hlt' : (j : Int) < nw := by omega
      have fw := hr.frozen j
      have hc := (hr.cell j (by omega)).trans (wordsV_get _ j (by rw [fill_len _ _ hj]; exact hlt))
      generalize ((fillN nw j).getD j 0) = x at hc
      go_wp2
      go_roundw
      case rel => exact ⟨j + 1, by omega, by go_num, hs.other (by exact hne) _, by rw [← fill_succ nw j hlt, wordsV_set]; exact hr.set j _, hk.setCell (.inr (Nat.le_refl _)) _⟩
      case measure => simp [intOf]; omega
    · have hlt' : ¬ (j : Int) < nw := by omega
      obtain rfl : j = nw := by omega
      rw [fill_full] at hr
      by_cases hz : n % 64 = 0
      · have hz' : (((n : Int) % 64) != 0) = false := by simp; omega
        go_wp2
        go_ret2
        have hf : fullWords n = List.replicate j 18446744073709551615 := by unfold fullWords; rw [if_pos hz, ← HNW.out]
        exact ⟨_, _, _, rfl, new_sp HN.out HNW.out hs (by rw [hf]; exact hr) hne (by omega) hw0 h1 h2, by omega, Nat.le_refl _, hk⟩
      · have hz' : (((n : Int) % 64) != 0) = true := by simp; omega
        have fw := hr.frozen (j - 1)
        have hc := (hr.cell (j - 1) (by omega)).trans (wordsV_get _ (j - 1) (by simp; omega))
        go_wp2_with fail
        go_region
        go_wp2
        go_ret2
        have hf : fullWords n = (List.replicate j 18446744073709551615).set (j - 1) (2 ^ (n % 64) - 1) := by unfold fullWords; rw [if_neg hz, ← HNW.out]
        rw [last_word _ (Nat.mod_lt _ (by omega))]
        exact ⟨_, _, _, rfl, new_sp HN.out HNW.out (hs.other (by exact hne) _) (by rw [hf, wordsV_set]; exact hr.set (j - 1) _) hne (by omega) hw0 h1 h2, by omega, Nat.le_refl _, (hk.setCell (.inr (Nat.le_refl _)) _).drew⟩

end Go.Proofs.YtgcpcgcfpjolnaaDoor
