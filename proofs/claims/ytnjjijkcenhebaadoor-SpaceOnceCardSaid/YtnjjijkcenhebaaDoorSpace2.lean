/- The contracts of package space's calls that write: Claim, Give. -/
import Derived.Test.YtnjjijkcenhebaaDoorSpace
set_option linter.unusedVariables false
set_option linter.unusedSimpArgs false
namespace Go.Proofs.YtnjjijkcenhebaaDoor
open Go.RowKit

def Sp (w : World) (b g cap fr to : Nat) (is : List Bool) : Prop := ∃ free low ws, SpIn w b g cap fr to free low ws is
theorem SpIn.keeps {w w' : World} {S : List Nat} {b g cap fr to : Nat} {free : Int} {low : Nat} {ws : List Nat} {is : List Bool} (h : SpIn w b g cap fr to free low ws is) (hk : Keeps S w w') (hb : b ∉ S) (hg : g ∉ S) : SpIn w' b g cap fr to free low ws is :=
  ⟨h.inv, h.blk.keeps hk hb, h.row.keeps hk hg, h.ne, h.b0, h.g0, h.lt, h.le⟩
theorem Sp.keeps {w w' : World} {S : List Nat} {b g cap fr to : Nat} {is : List Bool} (h : Sp w b g cap fr to is) (hk : Keeps S w w') (hb : b ∉ S) (hg : g ∉ S) : Sp w' b g cap fr to is := by
  obtain ⟨free, low, ws, h⟩ := h
  exact ⟨free, low, ws, h.keeps hk hb hg⟩
theorem Sp.facts {w : World} {b g cap fr to : Nat} {is : List Bool} (h : Sp w b g cap fr to is) : b < w.heap.size ∧ g < w.heap.size ∧ 0 < b ∧ 0 < g ∧ b ≠ g ∧ fr < to ∧ to ≤ 65536 ∧ is.length = to - fr := by
  obtain ⟨free, low, ws, h⟩ := h
  exact ⟨h.blk.lt, h.row.lt, h.b0, h.g0, h.ne, h.lt, h.le, h.inv.len⟩
def claimS (fr : Nat) (is : List Bool) (k : Int) : List Bool := if hasB fr is k then is.set (k - fr).toNat false else is
def giveB (fr to : Nat) (is : List Bool) (k : Int) : Bool := decide ((fr : Int) ≤ k) && decide (k < to) && !hasB fr is k
def giveS (fr to : Nat) (is : List Bool) (k : Int) : List Bool := if giveB fr to is k then is.set (k - fr).toNat true else is

theorem SpIn.bounds {w : World} {b g cap fr to : Nat} {free : Int} {low : Nat} {ws : List Nat} {is : List Bool} (h : SpIn w b g cap fr to free low ws is) : 0 ≤ free ∧ free ≤ 65536 ∧ low ≤ 1024 ∧ ws.length ≤ 1024 := by
  have h1 := h.inv.free
  have h2 := trues_len_le is
  have h3 := h.inv.len
  have h4 := h.inv.lowLe
  have h5 := h.inv.wlen
  have h6 := h.le
  omega
theorem pow_u64 (i : Nat) (hi : i < 64) : IntKind.u64.wrap (2 ^ i : Int) = ((2 ^ i : Nat) : Int) := by
  have : 2 ^ i < 2 ^ 64 := Nat.pow_lt_pow_right (by omega) hi
  rw [IntKind.wrap_u64]
  have e : (2 ^ i : Int) = ((2 ^ i : Nat) : Int) := by simp
  rw [e]
  generalize 2 ^ i = q at this ⊢
  omega
theorem andNot_bit (x i : Nat) (hi : i < 64) (hx : x < 2 ^ 64) : bits .andNot .u64 (x : Int) (IntKind.u64.wrap (2 ^ i : Int)) = ((x &&& (18446744073709551615 - 2 ^ i) : Nat) : Int) := by
  rw [pow_u64 i hi, u64_andNot_nat _ _ hx (Nat.pow_lt_pow_right (by omega) hi)]
theorem or_bit (x i : Nat) (hi : i < 64) (hx : x < 2 ^ 64) : bits .or .u64 (x : Int) (IntKind.u64.wrap (2 ^ i : Int)) = ((x ||| 2 ^ i : Nat) : Int) := by
  rw [pow_u64 i hi, bits_or_u64_nat _ _ hx (Nat.pow_lt_pow_right (by omega) hi)]

theorem wordsV_set (ws : List Nat) (j x : Nat) : wordsV (ws.set j x) = (wordsV ws).set j (.int .u64 (x : Int)) := by simp [wordsV, List.map_set]
theorem SpIn.low {w : World} {b g cap fr to : Nat} {free : Int} {low : Nat} {ws : List Nat} {is : List Bool} (h : SpIn w b g cap fr to free low ws is) {low' : Nat} (HI : WInv (to - fr) free low' ws is) {z : Int} (hz : z = low') :
    SpIn (w.setCell ⟨b, 3, none⟩ (.int .i64 z)) b g cap fr to free low' ws is := by
  subst hz
  exact ⟨HI, h.blk.set 3 _, h.row.other (Ne.symm h.ne) _, h.ne, h.b0, h.g0, h.lt, h.le⟩
theorem SpIn.write {w : World} {b g cap fr to : Nat} {free : Int} {low : Nat} {ws : List Nat} {is : List Bool} (h : SpIn w b g cap fr to free low ws is) {j x : Nat} {free' : Int} {is' : List Bool} (HI : WInv (to - fr) free' low (ws.set j x) is') :
    SpIn ((w.setCell ⟨g, j, none⟩ (.int .u64 (x : Int))).setCell ⟨b, 2, none⟩ (.int .i64 free')) b g cap fr to free' low (ws.set j x) is' := by
  refine ⟨HI, ?_, ?_, h.ne, h.b0, h.g0, h.lt, h.le⟩
  · have := (h.blk.other (a := ⟨g, j, none⟩) h.ne (.int .u64 (x : Int))).set 2 (.int .i64 free')
    simpa [spCells] using this
  · have := (h.row.set j (.int .u64 (x : Int))).other (a := ⟨b, 2, none⟩) (Ne.symm h.ne) (.int .i64 free')
    rw [wordsV_set, List.length_set]
    exact this
theorem SpIn.write3 {w : World} {b g cap fr to : Nat} {free : Int} {low : Nat} {ws : List Nat} {is : List Bool} (h : SpIn w b g cap fr to free low ws is) {j x : Nat} {free' : Int} {low' : Nat} {is' : List Bool} (HI : WInv (to - fr) free' low' (ws.set j x) is') :
    SpIn (((w.setCell ⟨g, j, none⟩ (.int .u64 (x : Int))).setCell ⟨b, 3, none⟩ (.int .i64 (low' : Int))).setCell ⟨b, 2, none⟩ (.int .i64 free')) b g cap fr to free' low' (ws.set j x) is' := by
  refine ⟨HI, ?_, ?_, h.ne, h.b0, h.g0, h.lt, h.le⟩
  · have := ((h.blk.other (a := ⟨g, j, none⟩) h.ne (.int .u64 (x : Int))).set 3 (.int .i64 (low' : Int))).set 2 (.int .i64 free')
    simpa [spCells] using this
  · have := ((h.row.set j (.int .u64 (x : Int))).other (a := ⟨b, 3, none⟩) (Ne.symm h.ne) (.int .i64 (low' : Int))).other (a := ⟨b, 2, none⟩) (Ne.symm h.ne) (.int .i64 free')
    rw [wordsV_set, List.length_set]
    exact this
theorem keeps2 (w : World) (b g j : Nat) (u v : Value) (o : Nat) : Keeps [b, g] w ((w.setCell ⟨g, j, none⟩ u).setCell ⟨b, o, none⟩ v) :=
  ((Keeps.refl _ _).setCell (by simp) _).setCell (by simp) _
theorem keeps3 (w : World) (b g j : Nat) (u v x : Value) (o p : Nat) : Keeps [b, g] w (((w.setCell ⟨g, j, none⟩ u).setCell ⟨b, o, none⟩ v).setCell ⟨b, p, none⟩ x) :=
  (keeps2 w b g j u v o).setCell (by simp) _

theorem claim_calls {w : World} {b g cap fr to : Nat} {is : List Bool} (h : Sp w b g cap fr to is) (k : Int) :
    Calls Tryd.prog 20 #[.pointer (some ⟨b, 0, none⟩), .int .i64 k] w fun e w' => e = .returned (.bool (hasB fr is k)) ∧ Sp w' b g cap fr to (claimS fr is k) ∧ Keeps [b, g] w w' := by
  obtain ⟨free, low, ws, h⟩ := h
  cases hb : hasB fr is k with
  | false =>
    have HB := Lib.hid hb
    clear hb
    go_enter Tryd.func20, Tryd.ntmps20
    go_wp2_with (go_at_call 25; refine (has_calls h _).mono ?_; rw [HB.out]; rintro e w' ⟨rfl, rfl⟩)
    go_ret
    exact ⟨rfl, ⟨free, low, ws, by unfold claimS; rw [HB.out]; exact h⟩, Keeps.refl _ _⟩
  | true =>
    obtain ⟨i, rfl⟩ : ∃ i : Nat, k = fr + i := ⟨(k - fr).toNat, by simp [hasB] at hb; omega⟩
    have hb' : is.getD i false = true := by rw [← hasB_in fr]; exact hb
    have hi : i < to - fr := by have := trues_lt ((mem_trues is i).2 hb'); rw [h.inv.len] at this; exact this
    have HI := Lib.hid (h.inv.claim hi hb')
    have HC : Hid (claimS fr is (fr + i) = is.set i false) := by
      show _ = _
      unfold claimS
      rw [if_pos hb]; congr 1; omega
    have HB := Lib.hid hb
    obtain ⟨hf0, hf1, _, hwl⟩ := h.bounds
    have h0 := h.blk.cell 0
    have h2 := h.blk.cell 2
    have h4 := h.blk.cell 4
    simp [spCells] at h0 h2 h4
    have f2 := h.blk.frozen 2
    have fw := h.row.frozen (i / 64)
    have hw := h.inv.inw hi
    have hc := (h.row.cell (i / 64) (by omega)).trans (wordsV_get ws _ hw)
    have hx := getD_lt h.inv.lt (i / 64)
    have hne := h.ne
    have hle := h.le
    have e3 : ((i : Int) / 64).toNat = i / 64 := by omega
    have e4 : ((i : Int) % 64).toNat = i % 64 := by omega
    have e5 : (i : Int) / 64 < (ws.length : Int) := by omega
    have HX := Lib.hid hx
    clear hx hb hb'
    generalize ws.getD (i / 64) 0 = x at hc HX HI
    go_enter Tryd.func20, Tryd.ntmps20
    go_wp2_with (go_at_call 25; refine (has_calls h _).mono ?_; rw [HB.out]; rintro e w' ⟨rfl, rfl⟩)
    go_ret
    rw [andNot_bit x _ (Nat.mod_lt _ (by omega)) HX.out, HC.out]
    exact ⟨rfl, ⟨_, _, _, h.write HI.out⟩, keeps2 ..⟩

theorem give_calls {w : World} {b g cap fr to : Nat} {is : List Bool} (h : Sp w b g cap fr to is) (k : Int) :
    Calls Tryd.prog 21 #[.pointer (some ⟨b, 0, none⟩), .int .i64 k] w fun e w' => e = .returned (.bool (giveB fr to is k)) ∧ Sp w' b g cap fr to (giveS fr to is k) ∧ Keeps [b, g] w w' := by
  obtain ⟨free, low, ws, h⟩ := h
  have h0 := h.blk.cell 0
  have h1 := h.blk.cell 1
  simp [spCells] at h0 h1
  by_cases c1 : k < fr
  · have e1 : decide (k < (fr : Int)) = true := by simpa using c1
    have HB : Hid (giveB fr to is k = false) := by
      show _ = _
      have : decide ((fr : Int) ≤ k) = false := by simp; omega
      simp [giveB, this]
    go_enter Tryd.func21, Tryd.ntmps21
    go_wp2
    go_ret
    exact ⟨by rw [HB.out]; rfl, ⟨free, low, ws, by unfold giveS; rw [HB.out]; exact h⟩, Keeps.refl _ _⟩
  · have e1 : decide (k < (fr : Int)) = false := by simpa using c1
    by_cases c2 : (to : Int) ≤ k
    · have e2 : decide ((to : Int) ≤ k) = true := by simpa using c2
      have HB : Hid (giveB fr to is k = false) := by
        show _ = _
        have : decide (k < (to : Int)) = false := by simp; omega
        simp [giveB, this]
      go_enter Tryd.func21, Tryd.ntmps21
      go_wp2
      go_ret
      exact ⟨by rw [HB.out]; rfl, ⟨free, low, ws, by unfold giveS; rw [HB.out]; exact h⟩, Keeps.refl _ _⟩
    · have e2 : decide ((to : Int) ≤ k) = false := by simpa using c2
      have hGB : giveB fr to is k = !hasB fr is k := by
        have a1 : decide ((fr : Int) ≤ k) = true := by simp; omega
        have a2 : decide (k < (to : Int)) = true := by simp; omega
        simp [giveB, a1, a2]
      cases hb : hasB fr is k with
      | true =>
        rw [hb] at hGB
        have HB := Lib.hid hb
        have HG := Lib.hid hGB
        clear hb hGB
        go_enter Tryd.func21, Tryd.ntmps21
        go_wp2_with (go_at_call 25; refine (has_calls h _).mono ?_; rw [HB.out]; rintro e w' ⟨rfl, rfl⟩)
        go_ret
        exact ⟨by rw [HG.out]; rfl, ⟨free, low, ws, by unfold giveS; rw [HG.out]; exact h⟩, Keeps.refl _ _⟩
      | false =>
        obtain ⟨i, rfl⟩ : ∃ i : Nat, k = fr + i := ⟨(k - fr).toNat, by omega⟩
        rw [hb] at hGB
        rw [Bool.not_false] at hGB
        have HG := Lib.hid hGB
        have hb' : is.getD i false = false := by rw [← hasB_in fr]; exact hb
        have hi : i < to - fr := by omega
        have HI := Lib.hid (h.inv.give hi hb')
        have HC : Hid (giveS fr to is (fr + i) = is.set i true) := by
          show _ = _
          unfold giveS
          rw [if_pos hGB]; congr 1; omega
        have HB := Lib.hid hb
        obtain ⟨hf0, hf1, hlo, hwl⟩ := h.bounds
        have h2 := h.blk.cell 2
        have h3 := h.blk.cell 3
        have h4 := h.blk.cell 4
        simp [spCells] at h2 h3 h4
        have f2 := h.blk.frozen 2
        have f3 := h.blk.frozen 3
        have fw := h.row.frozen (i / 64)
        have hw := h.inv.inw hi
        have hc := (h.row.cell (i / 64) (by omega)).trans (wordsV_get ws _ hw)
        have hx := getD_lt h.inv.lt (i / 64)
        have hne := h.ne
        have hle := h.le
        have e3 : ((i : Int) / 64).toNat = i / 64 := by omega
        have e4 : ((i : Int) % 64).toNat = i % 64 := by omega
        have e5 : (i : Int) / 64 < (ws.length : Int) := by omega
        have HX := Lib.hid hx
        clear hx hb hb' hGB
        generalize ws.getD (i / 64) 0 = x at hc HX HI
        have hs := h
        by_cases c3 : low ≤ i / 64
        · have c4 : (low : Int) ≤ ((fr : Int) + i - fr) / 64 := by omega
          rw [Nat.min_eq_left c3] at HI
          go_enter Tryd.func21, Tryd.ntmps21
          go_wp2_with (go_at_call 25; refine (has_calls h _).mono ?_; rw [HB.out]; rintro e w' ⟨rfl, rfl⟩)
          go_ret
          rw [or_bit x _ (Nat.mod_lt _ (by omega)) HX.out, HC.out, HG.out]
          exact ⟨rfl, ⟨_, _, _, hs.write3 HI.out⟩, keeps3 ..⟩
        · have c4 : ((fr : Int) + i - fr) / 64 < low := by omega
          rw [Nat.min_eq_right (by omega)] at HI
          go_enter Tryd.func21, Tryd.ntmps21
          go_wp2_with (go_at_call 25; refine (has_calls h _).mono ?_; rw [HB.out]; rintro e w' ⟨rfl, rfl⟩)
          go_ret
          rw [or_bit x _ (Nat.mod_lt _ (by omega)) HX.out, HC.out, HG.out, show ((fr : Int) + i - fr) / 64 = ((i / 64 : Nat) : Int) by omega]
          exact ⟨rfl, ⟨_, _, _, hs.write3 HI.out⟩, keeps3 ..⟩
end Go.Proofs.YtnjjijkcenhebaaDoor
