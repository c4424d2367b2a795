/- place, told. -/
import Derived.Test.YtnjjijkcenhebaaDoorLaw1
set_option linter.unusedVariables false
set_option linter.unusedSimpArgs false
namespace Go.Proofs.YtnjjijkcenhebaaDoor
open Go.RowKit

theorem tmod_neg {i n : Int} (h0 : 1 ≤ n) (hi : i < 0) : (i.tmod n < 0 ∧ i.tmod n + n = i % n ∧ -n < i.tmod n) ∨ (i.tmod n = 0 ∧ i % n = 0) := by
  have h1 : i.tmod n + n * i.tdiv n = i := Int.tmod_add_mul_tdiv i n
  have h2 : -i.tmod n = (-i).tmod n := by rw [Int.neg_tmod]
  have h3 : (-i).tmod n = (-i) % n := Int.tmod_eq_emod_of_nonneg (by omega)
  have h4 : 0 ≤ (-i) % n := Int.emod_nonneg _ (by omega)
  have h5 : (-i) % n < n := Int.emod_lt_of_pos _ (by omega)
  have h6 : i % n = i.tmod n % n := by
    conv => lhs; rw [← h1]
    exact Int.add_mul_emod_self_left _ _ _
  by_cases hz : i.tmod n = 0
  · exact .inr ⟨hz, by rw [h6, hz]; simp⟩
  · left
    refine ⟨by omega, ?_, by omega⟩
    rw [h6, ← Int.add_emod_right (i.tmod n) n, Int.emod_eq_of_lt (by omega) (by omega)]

theorem place_calls (w : World) (i : Int) (n : Nat) (h0 : 1 ≤ n) (h1 : n ≤ 1000000) :
    Calls Tryd.prog 15 #[.int .i64 i, .int .i64 (n : Int)] w fun e w' => e = .returned (.int .i64 (i % (n : Int))) ∧ w = w' := by
  have hz : ((n : Int) == 0) = false := by simp; omega
  have hnz : (n : Int) ≠ 0 := by omega
  by_cases hi : 0 ≤ i
  · have hr : 0 ≤ i % (n : Int) := Int.emod_nonneg _ hnz
    have hd : decide (i % (n : Int) < 0) = false := by simp; omega
    have hd' : ¬ i % (n : Int) < 0 := by omega
    go_enter Tryd.func15, Tryd.ntmps15
    go_wp2
    go_ret
    exact ⟨rfl, rfl⟩
  · rcases tmod_neg (n := n) (by omega) (show i < 0 by omega) with ⟨a1, a2, a3⟩ | ⟨a1, a2⟩
    · have HA := Lib.hid a2
      have HW : Hid (wrap64 (i.tmod (n : Int) + n) = i % n) := by show _ = _; rw [← a2]; unfold wrap64; omega
      clear a2
      have a4 : ¬ 0 ≤ i.tmod (n : Int) := by omega
      go_enter Tryd.func15, Tryd.ntmps15
      go_wp2
      all_goals go_ret
      all_goals refine ⟨?_, rfl⟩
      all_goals first | (exfalso; omega) | (rw [← HA.out]; rfl) | (rw [← HW.out]; rfl)
    · have HA := Lib.hid a2
      clear a2
      go_enter Tryd.func15, Tryd.ntmps15
      go_wp2
      all_goals go_ret
      all_goals refine ⟨?_, rfl⟩
      all_goals first | (exfalso; omega) | (rw [HA.out]; rfl)

theorem sp_from {w : World} {b g cap fr to : Nat} {is : List Bool} (h : Sp w b g cap fr to is) :
    Calls Tryd.prog 28 #[.pointer (some ⟨b, 0, none⟩)] w fun e w' => e = .returned (.int .i64 fr) ∧ w = w' := by
  obtain ⟨free, low, ws, h⟩ := h
  exact from_calls h
theorem sp_to {w : World} {b g cap fr to : Nat} {is : List Bool} (h : Sp w b g cap fr to is) :
    Calls Tryd.prog 29 #[.pointer (some ⟨b, 0, none⟩)] w fun e w' => e = .returned (.int .i64 to) ∧ w = w' := by
  obtain ⟨free, low, ws, h⟩ := h
  exact to_calls h
theorem sp_free {w : World} {b g cap fr to : Nat} {is : List Bool} (h : Sp w b g cap fr to is) :
    Calls Tryd.prog 22 #[.pointer (some ⟨b, 0, none⟩)] w fun e w' => e = .returned (.int .i64 ((trues is).length : Nat)) ∧ w = w' := by
  obtain ⟨free, low, ws, h⟩ := h
  have := free_calls h
  rw [h.inv.free] at this
  exact this
theorem sp_has {w : World} {b g cap fr to : Nat} {is : List Bool} (h : Sp w b g cap fr to is) (k : Int) :
    Calls Tryd.prog 25 #[.pointer (some ⟨b, 0, none⟩), .int .i64 k] w fun e w' => e = .returned (.bool (hasB fr is k)) ∧ w = w' := by
  obtain ⟨free, low, ws, h⟩ := h
  exact has_calls h k

theorem comp {w w1 w2 : World} (g : Keeps [] w1 w2) (h : Keeps [] w w1) : Keeps [] w w2 := h.trans' g
theorem third {a b c : Prop} (h : a ∧ b ∧ c) : c := h.2.2

theorem told_calls {w : World} {b g cap fr to rb rg rcap : Nat} {is : List Bool} (h : Sp w b g cap fr to is) (hr : Rf w rb rg rcap fr to is) :
    Calls Tryd.prog 14 #[.pointer (some ⟨b, 0, none⟩), .pointer (some ⟨rb, 0, none⟩)] w fun e w' => e = .returned (.bool true) ∧ Keeps [] w w' := by
  have c0 := hr.blk.cell 0
  have c1 := hr.blk.cell 1
  simp at c0 c1
  have hS : ∀ W, Keeps [] w W → W.cell? ⟨rb, 0, none⟩ = some (.int .i64 (fr : Int)) ∧ W.cell? ⟨rb, 1, none⟩ = some (.int .i64 (to : Int)) ∧ Keeps [] w W := fun W hk => ⟨hk.cell c0 (by simp), hk.cell c1 (by simp), hk⟩
  go_enter Tryd.func14, Tryd.ntmps14
  go_wp2_with fail
  go_region_held3 (fun W => W.cell? ⟨rb, 0, none⟩ = some (.int .i64 (fr : Int)) ∧ W.cell? ⟨rb, 1, none⟩ = some (.int .i64 (to : Int)) ∧ Keeps [] w W) (first | exact hS _ ((Keeps.refl [] w).drew) | exact hS _ (by assumption) | exact hS _ (comp (by assumption) (third (by assumption)))) (first | (go_at_call 28; refine (sp_from (h.keeps (by exact third (by assumption)) (by simp) (by simp))).mono ?_; rintro e w' ⟨rfl, rfl⟩) | (go_at_call 29; refine (sp_to (h.keeps (by exact third (by assumption)) (by simp) (by simp))).mono ?_; rintro e w' ⟨rfl, rfl⟩) | (go_at_call 22; refine (sp_free (h.keeps (by exact third (by assumption)) (by simp) (by simp))).mono ?_; rintro e w' ⟨rfl, rfl⟩) | (go_at_call 36; refine (rfree_calls (hr.keeps (by exact third (by assumption)) (by simp) (by simp))).mono ?_; rintro e w' ⟨rfl, hkk⟩) | (go_at_call 26; refine (list_calls (h.keeps (by exact third (by assumption)) (by simp) (by simp))).mono ?_; rintro e w' ⟨vv, rfl, hl1, hf1, hk26⟩) | (go_at_call 38; refine (rlist_calls (hr.keeps (by exact third (by assumption)) (by simp) (by simp))).mono ?_; rintro e w' ⟨uu, rfl, hl2, hf2, hk38⟩) | (go_at_call 23; refine (same_calls (hl1.keeps hk38 (by simp)) hl2).mono ?_; rintro e w' ⟨rfl, hk23⟩; simp only [decide_true]) | fail)
  go_wp2
  go_ret
  exact ⟨rfl, third (by assumption)⟩
end Go.Proofs.YtnjjijkcenhebaaDoor
