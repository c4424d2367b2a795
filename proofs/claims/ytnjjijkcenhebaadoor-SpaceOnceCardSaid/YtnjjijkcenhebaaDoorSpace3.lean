/- The contracts of Take and of the library's TrailingZeros64. -/
import Derived.Test.YtnjjijkcenhebaaDoorSpace2
import Derived.Shelf.Spec.TrailingZeros
import Derived.StillTailTactics
import Derived.BigRegion
set_option linter.unusedVariables false
set_option linter.unusedSimpArgs false
namespace Go.Proofs.YtnjjijkcenhebaaDoor
open Go.RowKit

/-- the table of math/bits lies in block 0 -/
def TabW (w : World) : Prop := ∀ j, j < 64 → w.cell? ⟨0, j, none⟩ = some (.int .u8 (Lib.deBruijn64tab.getD j 0))
theorem TabW.keeps {w w' : World} {S : List Nat} (h : TabW w) (hk : Keeps S w w') (h0 : 0 ∉ S) : TabW w' := fun j hj => hk.cell (h j hj) h0

set_option maxHeartbeats 1000000 in
theorem tz_core (x k idx : Nat) (w : World) (hx0 : ((x : Int) == 0) = false)
    (key : IntKind.u64.wrap (bits BinOp.and IntKind.u64 (x : Int) (IntKind.u64.wrap (-(x : Int))) * 285870213051353865) / 288230376151711744 = (idx : Int))
    (hi : idx < 64) (hk : k < 64) (hcell : w.cell? ⟨0, idx, none⟩ = some (.int .u8 k)) :
    Calls Tryd.prog 39 #[.int .u64 (x : Int)] w fun e w' => e = .returned (.int .i64 k) ∧ w = w' := by
  go_enter Tryd.func39, Tryd.ntmps39
  go_wp2_with (simp only [key])
  go_ret
  exact ⟨rfl, rfl⟩
theorem tz_calls (w : World) (x : Nat) (hx : x < 2 ^ 64) (hx0 : x ≠ 0) (hT : TabW w) :
    Calls Tryd.prog 39 #[.int .u64 (x : Int)] w fun e w' => e = .returned (.int .i64 (Lib.ctz 64 x)) ∧ w = w' := by
  obtain ⟨hlow, hk⟩ := Lib.lowest_bit 64 x hx0 hx
  obtain ⟨hi, htab⟩ := Lib.deBruijn64_at _ hk
  have hcell := hT _ hi
  rw [htab] at hcell
  exact tz_core x _ _ w (by simp; omega) (tz64_key x _ hx hx0 hlow) hi hk hcell

def takeOut (fr : Nat) (is : List Bool) : Int := match trues is with | [] => 0 | m :: _ => (fr : Int) + m
def takeOk (is : List Bool) : Bool := !(trues is).isEmpty
def takeS (is : List Bool) : List Bool := match trues is with | [] => is | m :: _ => is.set m false

def TakePost (fr to b g cap : Nat) (is : List Bool) (w : World) (e : Ending) (w' : World) : Prop :=
  e = .returned (.tuple #[.int .i64 (takeOut fr is), .bool (takeOk is)]) ∧ Sp w' b g cap fr to (takeS is) ∧ Keeps [b, g] w w'


theorem take_nil {fr : Nat} {is : List Bool} (h : trues is = []) : takeOut fr is = 0 ∧ takeOk is = false ∧ takeS is = is := by simp [takeOut, takeOk, takeS, h]
theorem take_cons {fr : Nat} {is : List Bool} {m : Nat} {t : List Nat} (h : trues is = m :: t) : takeOut fr is = fr + m ∧ takeOk is = true ∧ takeS is = is.set m false := by simp [takeOut, takeOk, takeS, h]
theorem SpIn.drewN {w : World} {b g cap fr to : Nat} {free : Int} {low : Nat} {ws : List Nat} {is : List Bool} (h : SpIn w b g cap fr to free low ws is) (n : Nat) : SpIn (w.drewN n) b g cap fr to free low ws is :=
  ⟨h.inv, h.blk, h.row, h.ne, h.b0, h.g0, h.lt, h.le⟩

set_option maxHeartbeats 1000000 in
theorem take_calls {w : World} {b g cap fr to : Nat} {is : List Bool} (h : Sp w b g cap fr to is) (hT : TabW w) :
    Calls Tryd.prog 18 #[.pointer (some ⟨b, 0, none⟩)] w (TakePost fr to b g cap is w) := by
  obtain ⟨free, low, ws, h⟩ := h
  go_enter Tryd.func18, Tryd.ntmps18
  go_wp2
  go_loopg [2] (ws.length + 1 - low) (fun q s wr => ∃ lo : Nat, SpIn wr b g cap fr to free lo ws is ∧ Keeps [b, g] w wr ∧ ws.length + 1 - lo ≤ q)
  case atStart => exact ⟨low, h, Keeps.refl _ _, Nat.le_refl _⟩
  case round =>
    obtain ⟨lo, hs, hk, hq⟩ := hrel
    have h0 := hs.blk.cell 0
    have h2 := hs.blk.cell 2
    have h3 := hs.blk.cell 3
    have h4 := hs.blk.cell 4
    simp [spCells] at h0 h2 h3 h4
    have f2 := hs.blk.frozen 2
    have f3 := hs.blk.frozen 3
    by_cases hlt : lo < ws.length
    · have fw := hs.row.frozen lo
      have hc := (hs.row.cell lo (by omega)).trans (wordsV_get ws _ hlt)
      have hlt' : (lo : Int) < ws.length := by omega
      have hx := getD_lt hs.inv.lt lo
      obtain ⟨hf0, hf1, hlo, hwl⟩ := hs.bounds
      by_cases hx0 : ws.getD lo 0 = 0
      · have HS := Lib.hid (hs.inv.low_zero hlt hx0)
        rw [hx0] at hc
        go_wp2_with fail
        go_quiet (fail)
        go_wp2_with fail
        go_quiet (fail)
        go_wp2_with fail
        go_roundg (ws.length - lo)
        case measure => omega
        case rel => exact ⟨lo + 1, (hs.drewN _).low HS.out (by simp), (hk.drewN _).setCell (by simp) _, by omega⟩
      · obtain ⟨m, t, ht, hm, hmn, hin⟩ := hs.inv.take hlt hx0
        have HI := Lib.hid hin
        have HT := Lib.hid ht
        have HM := Lib.hid hm
        generalize ws.getD lo 0 = x at *
        have hxb : ((x : Int) != 0) = true := by simp; omega
        have hx1 : 1 ≤ (x : Int) := by omega
        have HAND : Hid (bits .and .u64 (x : Int) (IntKind.u64.wrap ((x : Int) - 1)) = ((x &&& (x - 1) : Nat) : Int)) := by
          show _ = _
          rw [show IntKind.u64.wrap ((x : Int) - 1) = ((x - 1 : Nat) : Int) by rw [IntKind.wrap_u64]; omega]
          exact bits_and_u64_nat _ _ (by simpa using hx) (by omega)
        have hne := hs.ne
        have hne' : g ≠ b := Ne.symm hne
        have hle := hs.le
        have hlt2 := hs.lt
        have HX := Lib.hid hx
        have HX0 := Lib.hid hx0
        clear hx hx0 ht hm hin
        go_wp2_with fail
        go_quiet (fail)
        go_wp2_with fail
        go_quiet (fail)
        go_wp2_with fail
        go_region
        go_wp2_with fail
        generalize hwq : World.setCell _ _ _ = wq
        have hs' : SpIn wq b g cap fr to (free - 1) lo (ws.set lo (x &&& (x - 1))) (is.set m false) := by
          rw [← hwq, HAND.out]
          exact (hs.drewN _).write HI.out
        have hk' : Keeps [b, g] w wq := by
          rw [← hwq]
          exact ((hk.drewN _).setCell (by simp) _).setCell (by simp) _
        have hT' : TabW wq := hT.keeps hk' (by have := hs.b0; have := hs.g0; simp; omega)
        clear hwq h0 h2 h3 h4 f2 f3 hc fw hk
        have h0 := hs'.blk.cell 0
        have h3 := hs'.blk.cell 3
        simp [spCells] at h0 h3
        have e1 : (0 : Int) ≤ 64 * lo := by omega
        go_quiet ((go_at_call 39; exact (tz_calls _ x HX.out HX0.out (hT'.keeps ((Keeps.refl [] _).drewN _) (by simp))).mono fun _ _ h => ⟨h.1, _, h.2.symm⟩))
        go_wp2
        go_ret2
        unfold TakePost
        obtain ⟨t1, t2, t3⟩ := take_cons (fr := fr) HT.out
        rw [t1, t2, t3]
        have hct := (Lib.lowest_bit 64 x HX0.out HX.out).2
        have hmm := HM.out
        have hv : wrap64 ((fr : Int) + 64 * lo + (Lib.ctz 64 x : Nat)) = fr + m := by unfold wrap64; omega
        exact ⟨by rw [← hv]; rfl, ⟨_, _, _, hs'.drewN _⟩, hk'.drewN _⟩
    · have hlt' : ¬ (lo : Int) < ws.length := by omega
      obtain ⟨t1, t2, t3⟩ := take_nil (fr := fr) (hs.inv.none (by omega))
      have H1 := Lib.hid t1
      have H2 := Lib.hid t2
      have H3 := Lib.hid t3
      clear t1 t2 t3
      go_wp2_with fail
      go_quiet (fail)
      go_wp2
      go_ret2
      unfold TakePost
      rw [H1.out, H2.out, H3.out]
      exact ⟨rfl, ⟨free, lo, ws, hs.drewN _⟩, hk.drewN _⟩
end Go.Proofs.YtnjjijkcenhebaaDoor
