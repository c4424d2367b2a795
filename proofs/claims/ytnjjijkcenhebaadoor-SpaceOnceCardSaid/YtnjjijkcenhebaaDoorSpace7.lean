/- The contracts of the document's own answer: Claim, Give, List, Free. -/
import Derived.Test.YtnjjijkcenhebaaDoorSpace6
import Derived.BigRegion
set_option linter.unusedVariables false
set_option linter.unusedSimpArgs false
namespace Go.Proofs.YtnjjijkcenhebaaDoor
open Go.RowKit

theorem rclaim_calls {w : World} {b g cap fr to : Nat} {is : List Bool} (h : Rf w b g cap fr to is) (k : Int) :
    Calls Tryd.prog 33 #[.pointer (some ⟨b, 0, none⟩), .int .i64 k] w fun e w' => e = .returned (.bool (hasB fr is k)) ∧ Rf w' b g cap fr to (claimS fr is k) ∧ Keeps [b, g] w w' := by
  cases hb : hasB fr is k with
  | false =>
    have HB := Lib.hid hb
    clear hb
    go_enter Tryd.func33, Tryd.ntmps33
    go_wp2_with fail
    refine (rhas_calls h _).mono ?_
    rw [HB.out]
    rintro e w' ⟨rfl, hk⟩
    go_wp2
    go_ret
    exact ⟨rfl, by unfold claimS; rw [HB.out]; exact h.keeps hk (by simp) (by simp), hk.mono (by simp)⟩
  | true =>
    obtain ⟨i, rfl⟩ : ∃ i : Nat, k = fr + i := ⟨(k - fr).toNat, by simp [hasB] at hb; omega⟩
    have hb' : is.getD i false = true := by rw [← hasB_in fr]; exact hb
    have hi : i < is.length := trues_lt ((mem_trues is i).2 hb')
    have HC : Hid (claimS fr is (fr + i) = is.set i false) := by
      show _ = _
      unfold claimS
      rw [if_pos hb]; congr 1; omega
    have HB := Lib.hid hb
    clear hb hb'
    go_enter Tryd.func33, Tryd.ntmps33
    go_wp2_with fail
    refine (rhas_calls h _).mono ?_
    rw [HB.out]
    rintro e w1 ⟨rfl, hk⟩
    have h1 := h.keeps hk (by simp) (by simp)
    have h0 := h1.blk.cell 0
    have h2 := h1.blk.cell 2
    simp at h0 h2
    have hc := (h1.row.cell i (by omega)).trans (bools_get is i hi)
    have fw := h1.row.frozen i
    have hle := h1.le
    have HL := Lib.hid h1.len
    have HE : Hid (is.length ≤ 65536) := by show _ ≤ _; have := h1.len; omega
    have hlt := h1.lt
    have hi2 : fr + i < to := by have := h1.len; omega
    have e3 : ((fr : Int) + i - fr) = i := by omega
    generalize is.getD i false = x at hc
    go_wp2_with fail
    go_region
    go_wp2
    go_ret
    exact ⟨rfl, by rw [HC.out]; exact (h1.set i false).drew, ((hk.mono (by simp)).setCell (by simp) _).drew⟩

theorem rgive_calls {w : World} {b g cap fr to : Nat} {is : List Bool} (h : Rf w b g cap fr to is) (k : Int) :
    Calls Tryd.prog 34 #[.pointer (some ⟨b, 0, none⟩), .int .i64 k] w fun e w' => e = .returned (.bool (giveB fr to is k)) ∧ Rf w' b g cap fr to (giveS fr to is k) ∧ Keeps [b, g] w w' := by
  have h0 := h.blk.cell 0
  have h1 := h.blk.cell 1
  have h2 := h.blk.cell 2
  simp at h0 h1 h2
  by_cases c1 : k < fr
  · have e1 : decide (k < (fr : Int)) = true := by simpa using c1
    have HB : Hid (giveB fr to is k = false) := by
      show _ = _
      have : decide ((fr : Int) ≤ k) = false := by simp; omega
      simp [giveB, this]
    go_enter Tryd.func34, Tryd.ntmps34
    go_wp2_with fail
    go_quiet (fail)
    go_wp2
    go_ret
    exact ⟨by rw [HB.out]; rfl, by unfold giveS; rw [HB.out]; exact h.drewN _, (Keeps.refl _ _).drewN _⟩
  · have e1 : decide (k < (fr : Int)) = false := by simpa using c1
    by_cases c2 : (to : Int) ≤ k
    · have e2 : decide ((to : Int) ≤ k) = true := by simpa using c2
      have HB : Hid (giveB fr to is k = false) := by
        show _ = _
        have : decide (k < (to : Int)) = false := by simp; omega
        simp [giveB, this]
      go_enter Tryd.func34, Tryd.ntmps34
      go_wp2_with fail
      go_quiet (fail)
      go_wp2
      go_ret
      exact ⟨by rw [HB.out]; rfl, by unfold giveS; rw [HB.out]; exact h.drewN _, (Keeps.refl _ _).drewN _⟩
    · have e2 : decide ((to : Int) ≤ k) = false := by simpa using c2
      obtain ⟨i, rfl⟩ : ∃ i : Nat, k = fr + i := ⟨(k - fr).toNat, by omega⟩
      have hGB : giveB fr to is (fr + i) = !is.getD i false := by
        have a1 : decide ((fr : Int) ≤ (fr : Int) + i) = true := by simp; omega
        have a2 : decide ((fr : Int) + i < (to : Int)) = true := by simp; omega
        simp only [giveB, a1, a2, hasB_in, Bool.true_and]
      have hi : i < is.length := by have := h.len; omega
      have hc := (h.row.cell i (by omega)).trans (bools_get is i hi)
      have fw := h.row.frozen i
      have hle := h.le
      have HL := Lib.hid h.len
      have HE : Hid (is.length ≤ 65536) := by show _ ≤ _; have := h.len; omega
      have hlt := h.lt
      have hi2 : fr + i < to := by have := h.len; omega
      have e3 : ((fr : Int) + i - fr) = i := by omega
      cases hv : is.getD i false with
      | true =>
        rw [hv] at hGB hc
        rw [Bool.not_true] at hGB
        have HG := Lib.hid hGB
        clear hGB hv
        go_enter Tryd.func34, Tryd.ntmps34
        go_wp2_with fail
        go_quiet (fail)
        go_wp2
        go_ret
        exact ⟨by rw [HG.out]; rfl, by unfold giveS; rw [HG.out]; exact h.drewN _, (Keeps.refl _ _).drewN _⟩
      | false =>
        rw [hv] at hGB hc
        rw [Bool.not_false] at hGB
        have HC : Hid (giveS fr to is (fr + i) = is.set i true) := by
          show _ = _
          unfold giveS
          rw [if_pos hGB]; congr 1; omega
        have HG := Lib.hid hGB
        clear hGB hv
        go_enter Tryd.func34, Tryd.ntmps34
        go_wp2_with fail
        go_quiet (fail)
        go_wp2_with fail
        go_region
        go_wp2
        go_ret
        exact ⟨by rw [HG.out]; rfl, by rw [HC.out]; exact (h.drewN _).set i true, ((Keeps.refl [b, g] w).drewN _).setCell (a := ⟨g, i, none⟩) (.inl (by simp)) _⟩

set_option maxHeartbeats 1000000 in
theorem rlist_calls {w : World} {b g cap fr to : Nat} {is : List Bool} (h : Rf w b g cap fr to is) :
    Calls Tryd.prog 38 #[.pointer (some ⟨b, 0, none⟩)] w (ListPost fr is w) := by
  have hlt := h.lt
  have hle := h.le
  have HL := Lib.hid h.len
  have HE : is.length ≤ 65536 := by have := h.len; omega
  go_enter Tryd.func38, Tryd.ntmps38
  go_wp2
  go_loopw [3, 4] (fun v i wr => ∃ j : Nat, j ≤ is.length ∧ i = .int .i64 (j : Int) ∧ wr.ownsRow 0 3 1 v (pre is j).length (ints (nums fr (pre is j))) ∧ Fresh w v ∧ Keeps [] w wr) (fun _ i _ => is.length - (intOf i).toNat)
  case atStart => exact ⟨0, by omega, rfl, World.ownsRow_nil _ _ _ _, Fresh.nil w, Keeps.refl _ _⟩
  case round =>
    obtain ⟨j, hj, rfl, hown, hfr, hk⟩ := hrel
    have hs := h.keeps hk (by simp) (by simp)
    have h0 := hs.blk.cell 0
    have h2 := hs.blk.cell 2
    simp at h0 h2
    by_cases hlt2 : j < is.length
    · have hlt3 : (j : Int) < (is.length : Int) := by omega
      have hc := (hs.row.cell j (by omega)).trans (bools_get is j hlt2)
      have hps := pre_succ is j
      have hpl := pre_le is j
      have hfj : fr + j < to := by have := HL.out; omega
      cases hv : is.getD j false with
      | false =>
        rw [hv] at hc hps
        have HP := Lib.hid hps
        clear hps hv
        go_wp2
        go_roundw
        case rel => exact ⟨j + 1, by omega, by go_num, by rw [HP.out]; simpa using hown, hfr, hk⟩
        case measure => simp [intOf]; omega
      | true =>
        rw [hv] at hc hps
        have HP := Lib.hid hps
        clear hps hv
        go_wp2_with (refine wp_push rfl _ _ 49 3 (.int .i64 0) 1 8 rfl Tryd.underlying49 info3 rfl (by omega) (by omega) u3 (pre is j).length (ints (nums fr (pre is j))) #[.int .i64 ((fr : Int) + j)] rfl rfl (by simp) rfl ?c1 hown ?c2 ?_)
        case c1 => simp [Value.oneCell']
        case c2 => omega
        intro v1 w3 hown3 hk3 hb3
        go_wp2
        go_roundw
        case rel => exact ⟨j + 1, by omega, by go_num, by rw [HP.out]; simpa [ints, nums] using hown3, fun k e => (hb3 k e).elim (hfr k) (Nat.le_trans hk.size), keeps_row hk hk3 fun k e => .inr (hfr k e)⟩
        case measure => simp [intOf]; omega
    · have hlt3 : ¬ (j : Int) < (is.length : Int) := by omega
      have e : is.length = j := by omega
      have HE : Hid (pre is j = trues is) := by show _ = _; rw [← e]; rfl
      clear e
      go_wp2
      go_ret
      exact ⟨_, rfl, by unfold IntsAt; rw [nums_length, ← HE.out]; exact hown, hfr, hk⟩

theorem own_len {w : World} {base : Nat} {e : TypeId} {size n : Nat} {v : Value} {xs : List Value} (h : w.ownsRow base e size v n xs) : ∃ ao c, v = .slice ao n c := by
  rcases own_form h with ⟨h1, h2, _⟩ | ⟨g, cap, h1, _⟩
  · exact ⟨none, 0, by rw [h1, h2]⟩
  · exact ⟨_, _, h1⟩
theorem rfree_calls {w : World} {b g cap fr to : Nat} {is : List Bool} (h : Rf w b g cap fr to is) :
    Calls Tryd.prog 36 #[.pointer (some ⟨b, 0, none⟩)] w fun e w' => e = .returned (.int .i64 ((trues is).length : Nat)) ∧ Keeps [] w w' := by
  go_enter Tryd.func36, Tryd.ntmps36
  go_wp2_with fail
  refine (rlist_calls h).mono ?_
  rintro e w1 ⟨v, rfl, hown, hf, hk⟩
  obtain ⟨ao, c, rfl⟩ := own_len hown
  go_wp2
  go_ret
  exact ⟨by rw [nums_length]; rfl, hk⟩
end Go.Proofs.YtnjjijkcenhebaaDoor
