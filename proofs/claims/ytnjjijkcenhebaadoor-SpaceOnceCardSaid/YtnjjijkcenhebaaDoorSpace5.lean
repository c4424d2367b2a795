/- The contracts of New, Copy and of the library's Clone. -/
import Derived.Test.YtnjjijkcenhebaaDoorSpace4
import Derived.Lib.SliceRun
set_option linter.unusedVariables false
set_option linter.unusedSimpArgs false
namespace Go.Proofs.YtnjjijkcenhebaaDoor
open Go.RowKit

theorem info72 : (Tryd.prog.info? 72).map (fun i => (i.zero, i.size, i.bytes)) = some (some (.int .u64 0), 1, 8) := by kernel_rfl
theorem info4 : (Tryd.prog.info? 4).map (fun i => (i.zero, i.size, i.bytes)) = some (some (.bool false), 1, 1) := by kernel_rfl
def badNew (fr to : Int) : Bool := decide (fr < 0) || (decide (to ≤ fr) || decide (65536 < to))

theorem new_bad (fr to : Int) (w : World) (h : badNew fr to = true) :
    Calls Tryd.prog 16 #[.int .i64 fr, .int .i64 to] w fun e w' => e = .returned (.tuple #[.pointer none, .int .i64 40]) ∧ w = w' := by
  simp [badNew] at h
  by_cases c1 : fr < 0
  · have e1 : decide (fr < 0) = true := by simpa using c1
    clear h
    go_enter Tryd.func16, Tryd.ntmps16
    go_wp2
    go_ret2
    exact ⟨rfl, rfl⟩
  · have e1 : decide (fr < 0) = false := by simpa using c1
    by_cases c2 : to ≤ fr
    · have e2 : decide (to ≤ fr) = true := by simpa using c2
      clear h
      go_enter Tryd.func16, Tryd.ntmps16
      go_wp2
      go_ret2
      exact ⟨rfl, rfl⟩
    · have e2 : decide (to ≤ fr) = false := by simpa using c2
      have e3 : decide (65536 < to) = true := by simp; omega
      clear h
      go_enter Tryd.func16, Tryd.ntmps16
      go_wp2
      go_ret2
      exact ⟨rfl, rfl⟩

def fillN (nw j : Nat) : List Nat := List.replicate j 18446744073709551615 ++ List.replicate (nw - j) 0
theorem fill_zero (nw : Nat) : wordsV (fillN nw 0) = (madeCells #[Value.int .u64 0] nw).toList := by
  rw [toList_madeCells_one]
  simp [wordsV, fillN]
theorem fill_full (nw : Nat) : fillN nw nw = List.replicate nw 18446744073709551615 := by simp [fillN]
theorem fill_len (nw j : Nat) (h : j ≤ nw) : (fillN nw j).length = nw := by simp [fillN]; omega
theorem fill_succ (nw j : Nat) (h : j < nw) : (fillN nw j).set j 18446744073709551615 = fillN nw (j + 1) := by
  obtain ⟨d, rfl⟩ : ∃ d, nw = j + 1 + d := ⟨nw - (j + 1), by omega⟩
  simp only [fillN]
  rw [List.set_append_right _ _ (by simp), show j + 1 + d - j = d + 1 by omega, List.replicate_succ, List.length_replicate, Nat.sub_self, List.set_cons_zero, List.replicate_succ', List.append_assoc, show j + 1 + d - (j + 1) = d by omega]
  rfl

theorem last_word (i : Nat) (hi : i < 64) : IntKind.u64.wrap (IntKind.u64.wrap (2 ^ i : Int) - 1) = ((2 ^ i - 1 : Nat) : Int) := by
  rw [pow_u64 i hi, IntKind.wrap_u64]
  have h1 : 2 ^ i < 2 ^ 64 := Nat.pow_lt_pow_right (by omega) hi
  have h2 : 0 < 2 ^ i := Nat.two_pow_pos i
  generalize 2 ^ i = q at *
  omega
theorem full_len (n : Nat) : (fullWords n).length = (n + 63) / 64 := (WInv.full n).wlen
theorem new_sp {w : World} {b g fr to n nw : Nat} (hn : n = to - fr) (hnw : nw = (n + 63) / 64)
    (hs : StrAt w b #[Value.int .i64 (fr : Int), Value.int .i64 (to : Int), Value.int .i64 (n : Int), Value.int .i64 0, Value.slice (some ⟨g, 0, none⟩) nw nw] 71)
    (hr : RowAt w g 72 1 nw nw (wordsV (fullWords n))) (h1 : b ≠ g) (h2 : 0 < b) (h3 : 0 < g) (h4 : fr < to) (h5 : to ≤ 65536) : Sp w b g nw fr to (List.replicate (to - fr) true) := by
  have hl := full_len n
  rw [← hnw] at hl
  subst hn
  exact ⟨_, 0, fullWords (to - fr), WInv.full _, by unfold spCells; rw [hl]; exact hs, by rw [hl]; exact hr, h1, h2, h3, h4, h5⟩

def NewPost (fr to : Nat) (w : World) (e : Ending) (w' : World) : Prop :=
  ∃ b g cap, e = .returned (.tuple #[.pointer (some ⟨b, 0, none⟩), .int .i64 0]) ∧ Sp w' b g cap fr to (List.replicate (to - fr) true) ∧ w.heap.size ≤ b ∧ w.heap.size ≤ g ∧ Keeps [] w w'

set_option maxHeartbeats 1000000 in
theorem new_good (fr to : Nat) (w : World) (h1 : fr < to) (h2 : to ≤ 65536) (hw0 : 0 < w.heap.size) :
    Calls Tryd.prog 16 #[.int .i64 (fr : Int), .int .i64 (to : Int)] w (NewPost fr to w) := by
  have e1 : decide ((fr : Int) < 0) = false := by simp
  have e2 : decide ((to : Int) ≤ fr) = false := by simp; omega
  have e3 : decide (65536 < (to : Int)) = false := by simp; omega
  obtain ⟨n, hn⟩ : ∃ n, n = to - fr := ⟨_, rfl⟩
  have e4 : (to : Int) - fr = (n : Int) := by omega
  obtain ⟨nw, hnw⟩ : ∃ nw, nw = (n + 63) / 64 := ⟨_, rfl⟩
  have E5 : Hid (((n : Int) + 63) / 64 = (nw : Int)) := by show _ = _; omega
  have hn1 : 1 ≤ n := by omega
  have hn2 : n ≤ 65536 := by omega
  have hw1 : 1 ≤ nw := by omega
  have hw2 : nw ≤ 1024 := by omega
  have HN := Lib.hid hn
  have HNW := Lib.hid hnw
  clear hn hnw
  go_enter Tryd.func16, Tryd.ntmps16
  go_wp2_with (refine wp_make rfl _ _ 69 72 (.int .u64 0) 1 8 rfl Tryd.underlying69 info72 nw rfl rfl E5.out E5.out ?c1 ?c2 ?_)
  case c1 => omega
  case c2 => unfold maxLen; omega
  intro w1 hr1 hk1
  go_wp2
  have hgb : w.heap.size < w1.heap.size := hr1.lt
  have hne : w1.heap.size ≠ w.heap.size := by omega
  have hne' : w.heap.size ≠ w1.heap.size := by omega
  have HS0 := Lib.hid (StrAt.new w1 #[Value.int .i64 (fr : Int), Value.int .i64 (to : Int), Value.int .i64 (n : Int), Value.int .i64 0, Value.slice (some ⟨w.heap.size, 0, none⟩) nw nw] 71)
  have HR0 := Lib.hid (hr1.alloc (.cells #[Value.int .i64 (fr : Int), Value.int .i64 (to : Int), Value.int .i64 (n : Int), Value.int .i64 0, Value.slice (some ⟨w.heap.size, 0, none⟩) nw nw] 71))
  have HK0 := Lib.hid (hk1.alloc (.cells #[Value.int .i64 (fr : Int), Value.int .i64 (to : Int), Value.int .i64 (n : Int), Value.int .i64 0, Value.slice (some ⟨w.heap.size, 0, none⟩) nw nw] 71))
  go_loopw [37] (fun i wr => ∃ j : Nat, j ≤ nw ∧ i = .int .i64 j ∧ StrAt wr w1.heap.size #[Value.int .i64 (fr : Int), Value.int .i64 (to : Int), Value.int .i64 (n : Int), Value.int .i64 0, Value.slice (some ⟨w.heap.size, 0, none⟩) nw nw] 71 ∧ RowAt wr w.heap.size 72 1 nw nw (wordsV (fillN nw j)) ∧ Keeps [] w wr) (fun i _ => nw - (intOf i).toNat)
  case atStart => exact ⟨0, Nat.zero_le _, rfl, HS0.out, by rw [fill_zero]; exact HR0.out, HK0.out⟩
  case round =>
    obtain ⟨j, hj, rfl, hs, hr, hk⟩ := hrel
    have h4 := hs.cell 4
    simp at h4
    by_cases hlt : j < nw
    · have hlt' : (j : Int) < nw := by omega
      have fw := hr.frozen j
      have hc := (hr.cell j (by omega)).trans (wordsV_get _ j (by rw [fill_len _ _ hj]; exact hlt))
      generalize ((fillN nw j).getD j 0) = x at hc
      go_wp2
      go_roundw
      case rel => exact ⟨j + 1, by omega, by go_num, hs.other (by exact hne) _, by rw [← fill_succ nw j hlt, wordsV_set]; exact hr.set j _, hk.setCell (.inr (Nat.le_refl _)) _⟩
      case measure => simp [intOf]; omega
    · have hlt' : ¬ (j : Int) < nw := by omega
      obtain rfl : j = nw := by omega
      rw [fill_full] at hr
      by_cases hz : n % 64 = 0
      · have hz' : (((n : Int) % 64) != 0) = false := by simp; omega
        go_wp2
        go_ret2
        have hf : fullWords n = List.replicate j 18446744073709551615 := by unfold fullWords; rw [if_pos hz, ← HNW.out]
        exact ⟨_, _, _, rfl, new_sp HN.out HNW.out hs (by rw [hf]; exact hr) hne (by omega) hw0 h1 h2, by omega, Nat.le_refl _, hk⟩
      · have hz' : (((n : Int) % 64) != 0) = true := by simp; omega
        have fw := hr.frozen (j - 1)
        have hc := (hr.cell (j - 1) (by omega)).trans (wordsV_get _ (j - 1) (by simp; omega))
        go_wp2_with fail
        go_region
        go_wp2
        go_ret2
        have hf : fullWords n = (List.replicate j 18446744073709551615).set (j - 1) (2 ^ (n % 64) - 1) := by unfold fullWords; rw [if_neg hz, ← HNW.out]
        rw [last_word _ (Nat.mod_lt _ (by omega))]
        exact ⟨_, _, _, rfl, new_sp HN.out HNW.out (hs.other (by exact hne) _) (by rw [hf, wordsV_set]; exact hr.set (j - 1) _) hne (by omega) hw0 h1 h2, by omega, Nat.le_refl _, (hk.setCell (.inr (Nat.le_refl _)) _).drew⟩

def ClonePost (n : Nat) (ws : List Nat) (w : World) (e : Ending) (w' : World) : Prop := ∃ g' cap', e = .returned (.slice (some ⟨g', 0, none⟩) n cap') ∧ RowAt w' g' 72 1 n cap' (wordsV ws) ∧ w.heap.size ≤ g' ∧ Keeps [] w w'
theorem clone_calls {w : World} {g n cap : Nat} {ws : List Nat} (hr : RowAt w g 72 1 n cap (wordsV ws)) (hn : 1 ≤ n) (hn2 : n ≤ 65536) :
    Calls Tryd.prog 41 #[.slice (some ⟨g, 0, none⟩) n cap] w (ClonePost n ws w) := by
  have hnil := fun w => Lib.run_eql_slice_nil (P := Tryd.prog) w 69 72 (some ⟨g, 0, none⟩) n cap 0 0 Tryd.underlying69
  have hr' := hr.alloc (.cells #[] 72)
  go_enter Tryd.func41, Tryd.ntmps41
  go_wp2_with (at_builtin; refine wp_append rfl _ _ 69 72 (.int .u64 0) 1 8 rfl Tryd.underlying69 info72 rfl (by omega) (by omega) (.slice (some ⟨w.heap.size, 0, none⟩) 0 0) 0 [] g n cap (wordsV ws) rfl rfl hr' ?c1 (RowAt.empty w 72 1) ?c2 ?_)
  case c1 => intro u hu; simp [wordsV] at hu; obtain ⟨x, _, rfl⟩ := hu; rfl
  case c2 => omega
  intro v1 w1 hown hk hf _
  have hk0 : Keeps [] w w1 := ((Keeps.refl [] w).alloc (.cells #[] 72)).trans hk (by simp [Value.ownBlock])
  obtain ⟨g', cap', rfl, hrow⟩ := own_some hown hn
  have hg := hf g' rfl
  simp [Value.ownBlock] at hg
  go_wp2
  go_ret
  exact ⟨g', cap', rfl, hrow, by omega, hk0⟩

def CopyPost (fr to : Nat) (is : List Bool) (w : World) (e : Ending) (w' : World) : Prop :=
  ∃ b g cap, e = .returned (.pointer (some ⟨b, 0, none⟩)) ∧ Sp w' b g cap fr to is ∧ w.heap.size ≤ b ∧ w.heap.size ≤ g ∧ Keeps [] w w'
set_option maxHeartbeats 1000000 in
theorem copy_calls {w : World} {b g cap fr to : Nat} {is : List Bool} (h : Sp w b g cap fr to is) :
    Calls Tryd.prog 24 #[.pointer (some ⟨b, 0, none⟩)] w (CopyPost fr to is w) := by
  obtain ⟨free, low, ws, h⟩ := h
  have h0 := h.blk.cell 0
  have h1 := h.blk.cell 1
  have h2 := h.blk.cell 2
  have h3 := h.blk.cell 3
  have h4 := h.blk.cell 4
  simp [spCells] at h0 h1 h2 h3 h4
  obtain ⟨_, _, _, hwl⟩ := h.bounds
  have hw1 : 1 ≤ ws.length := by rw [h.inv.wlen]; have := h.lt; omega
  have hbl := h.blk.lt
  have hgl := h.row.lt
  go_enter Tryd.func24, Tryd.ntmps24
  go_wp2_with fail
  refine (clone_calls (h.row.alloc _) hw1 (by omega)).mono ?_
  rintro e w1 ⟨g', cap', rfl, hr1, hg1, hk1⟩
  simp at hg1
  have hs1 := (StrAt.new w #[Value.int .i64 (fr : Int), Value.int .i64 (to : Int), Value.int .i64 free, Value.int .i64 (low : Int), Value.slice (some ⟨g, 0, none⟩) ws.length cap] 71).keeps hk1 (by simp)
  have c4 := hs1.cell 4
  have f4 := hs1.frozen 4
  simp at c4
  go_wp2
  go_ret
  have hs2 := hs1.set 4 (.slice (some ⟨g', 0, none⟩) ws.length cap')
  refine ⟨_, _, _, rfl, ⟨free, low, ws, h.inv, by simpa [spCells] using hs2, hr1.other (by simp; omega) _, by omega, by omega, by omega, h.lt, h.le⟩, Nat.le_refl _, by omega, ?_⟩
  exact ((((Keeps.refl [] w).alloc _).trans' hk1).setCell (.inr (Nat.le_refl _)) _)
end Go.Proofs.YtnjjijkcenhebaaDoor
