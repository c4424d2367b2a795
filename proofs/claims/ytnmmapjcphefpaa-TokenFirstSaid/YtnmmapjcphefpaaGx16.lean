-- Printed by wip/graft.py out of the translation, over the kit's print; contracts that it lacks are given by hand.
import Derived.Test.YtnmmapjcphefpaaGx0
import Derived.Test.YtnmmapjcphefpaaGx1
import Derived.Test.YtnmmapjcphefpaaGx11
import Derived.Test.YtnmmapjcphefpaaGx7
import Derived.Test.YtnmmapjcphefpaaGxhtokenTokens
namespace Go.Proofs.Ytnmmapjcphefpaa.G
open Go.RowKit Go.Proofs.YtnmmapjcphefpaaW.PrintWords Go.Proofs.YtnmmapjcphefpaaW.PrintLast Go.Proofs.YtnmmapjcphefpaaW.PrintMore
attribute [local go_sem] max2_int min2_int max_two min_two max_three min_three max_four min_four   -- for this text's walks alone
set_option linter.unusedVariables false
set_option linter.unusedSimpArgs false

attribute [local go_sem high] eqA27
/-! ### kilnlaw11_TokenQuote: function 10 -/
mutual
def kilnlaw11_TokenQuote.j0 : Nat → ByteArray → ByteArray → Bool → Option (Bool)
  | 0, _, _, _ => none
  | k + 1, x0, x3, x32 => if x32 = true then (some false) else (kilnlaw11_TokenQuote.l0 k x0 x3 0)
def kilnlaw11_TokenQuote.l0 : Nat → ByteArray → ByteArray → Int → Option (Bool)
  | 0, _, _, _ => none
  | k + 1, x0, x3, x4 => if x4 < (x3.size : Int) then (if 0 ≤ x4 then (if (bt x3 x4) < 32 then (some false) else (if (bt x3 x4) > 126 then (some false) else (kilnlaw11_TokenQuote.l0 k x0 x3 (wrap64 (x4 + 1))))) else (none)) else ((token_Tokens.f k x3).bind fun bt387 => (if bt387.2.1 = 0 then (if (bt387.1.length : Int) = 2 then (if 0 < (bt387.1.length : Int) then (if (((rd_T27 bt387.1 0).f0) == 2 && ((((rd_T27 bt387.1 0).f1).toList) == x0.toList && (((rd_T27 bt387.1 0).f2) == 1 && (((rd_T27 bt387.1 0).f3) == 0)))) = true then (if 1 < (bt387.1.length : Int) then (some (((rd_T27 bt387.1 1).f3) == (x3.size : Int))) else (none)) else (some false)) else (none)) else (some false)) else (some false)))
end
def kilnlaw11_TokenQuote.f (k : Nat) (a0 : ByteArray) : Option (Bool) := (kilnlaw11_cut.f a0 16000).bind fun t384 => ((token_Quote.f k t384).bind fun t385 => ((kilnlaw11_Told.f k).bind fun t386 => (if t386 = true then (if (t385.size : Int) < 2 then (kilnlaw11_TokenQuote.j0 k t384 t385 true) else (if 0 < (t385.size : Int) then (if (bt t385 0) = 34 then (if 0 ≤ (wrap64 ((t385.size : Int) - 1)) then (if (wrap64 ((t385.size : Int) - 1)) < (t385.size : Int) then (kilnlaw11_TokenQuote.j0 k t384 t385 ((bt t385 (wrap64 ((t385.size : Int) - 1))) != 34)) else (none)) else (none)) else (kilnlaw11_TokenQuote.j0 k t384 t385 true)) else (none))) else (kilnlaw11_TokenQuote.j0 k t384 t385 true))))
theorem kilnlaw11_TokenQuote.mono_l : ∀ k, (∀ y0 y1 y2, LeO (kilnlaw11_TokenQuote.j0 k y0 y1 y2) (kilnlaw11_TokenQuote.j0 (k + 1) y0 y1 y2)) ∧ (∀ y0 y1 y2, LeO (kilnlaw11_TokenQuote.l0 k y0 y1 y2) (kilnlaw11_TokenQuote.l0 (k + 1) y0 y1 y2))
  | 0 => ⟨fun _ _ _ r h => by simp [kilnlaw11_TokenQuote.j0] at h, fun _ _ _ r h => by simp [kilnlaw11_TokenQuote.l0] at h⟩
  | k + 1 => by
    obtain ⟨ih0, ih1⟩ := kilnlaw11_TokenQuote.mono_l k
    refine ⟨?_, ?_⟩
    · intro y0 y1 y2
      unfold kilnlaw11_TokenQuote.j0
      repeat' first
      | (with_reducible exact ih0 _ _ _)
      | (with_reducible exact ih1 _ _ _)
      | (with_reducible exact kilnlaw11_Told.mono _)
      | (with_reducible exact token_Quote.mono _ _)
      | (with_reducible exact token_Tokens.mono _ _)
      | (with_reducible exact LeO.refl _)
      | (with_reducible exact LeO.none _)
      | (with_reducible refine LeO.ite ?_ ?_)
      | (with_reducible refine LeO.bind ?_ (fun _ => ?_))
      | exact ih0 _ _ _
      | exact ih1 _ _ _
      | exact kilnlaw11_Told.mono _
      | exact token_Quote.mono _ _
      | exact token_Tokens.mono _ _
      | exact LeO.none _
      | refine LeO.ite ?_ ?_
      | refine LeO.bind ?_ (fun _ => ?_)
    · intro y0 y1 y2
      unfold kilnlaw11_TokenQuote.l0
      repeat' first
      | (with_reducible exact ih0 _ _ _)
      | (with_reducible exact ih1 _ _ _)
      | (with_reducible exact kilnlaw11_Told.mono _)
      | (with_reducible exact token_Quote.mono _ _)
      | (with_reducible exact token_Tokens.mono _ _)
      | (with_reducible exact LeO.refl _)
      | (with_reducible exact LeO.none _)
      | (with_reducible refine LeO.ite ?_ ?_)
      | (with_reducible refine LeO.bind ?_ (fun _ => ?_))
      | exact ih0 _ _ _
      | exact ih1 _ _ _
      | exact kilnlaw11_Told.mono _
      | exact token_Quote.mono _ _
      | exact token_Tokens.mono _ _
      | exact LeO.none _
      | refine LeO.ite ?_ ?_
      | refine LeO.bind ?_ (fun _ => ?_)
theorem kilnlaw11_TokenQuote.mono : ∀ a0 k, LeO (kilnlaw11_TokenQuote.f k a0) (kilnlaw11_TokenQuote.f (k + 1) a0) := by
  intro a0 k
  obtain ⟨ih0, ih1⟩ := kilnlaw11_TokenQuote.mono_l k
  unfold kilnlaw11_TokenQuote.f
  repeat' first
      | (with_reducible exact ih0 _ _ _)
      | (with_reducible exact ih1 _ _ _)
      | (with_reducible exact kilnlaw11_Told.mono _)
      | (with_reducible exact token_Quote.mono _ _)
      | (with_reducible exact token_Tokens.mono _ _)
      | (with_reducible exact LeO.refl _)
      | (with_reducible exact LeO.none _)
      | (with_reducible refine LeO.ite ?_ ?_)
      | (with_reducible refine LeO.bind ?_ (fun _ => ?_))
      | exact ih0 _ _ _
      | exact ih1 _ _ _
      | exact kilnlaw11_Told.mono _
      | exact token_Quote.mono _ _
      | exact token_Tokens.mono _ _
      | exact LeO.none _
      | refine LeO.ite ?_ ?_
      | refine LeO.bind ?_ (fun _ => ?_)
set_option maxHeartbeats 8000000 in
set_option maxRecDepth 100000 in
theorem kilnlaw11_TokenQuote.calls (k : Nat) (a0 : ByteArray) (r : Bool) (w : World) (h : kilnlaw11_TokenQuote.f k a0 = some r) :
    Calls Try.prog 10 #[.string a0] w fun e w' => e = .returned (.bool r) ∧ Below w.heap.size w w' := by
  have hu27 := Try.underlying27
  have HB := Aside0.mk (Below.refl w.heap.size w)
  have H : ((kilnlaw11_cut.f a0 16000).bind fun t384 => ((token_Quote.f k t384).bind fun t385 => ((kilnlaw11_Told.f k).bind fun t386 => (if t386 = true then (if (t385.size : Int) < 2 then (kilnlaw11_TokenQuote.j0 k t384 t385 true) else (if 0 < (t385.size : Int) then (if (bt t385 0) = 34 then (if 0 ≤ (wrap64 ((t385.size : Int) - 1)) then (if (wrap64 ((t385.size : Int) - 1)) < (t385.size : Int) then (kilnlaw11_TokenQuote.j0 k t384 t385 ((bt t385 (wrap64 ((t385.size : Int) - 1))) != 34)) else (none)) else (none)) else (kilnlaw11_TokenQuote.j0 k t384 t385 true)) else (none))) else (kilnlaw11_TokenQuote.j0 k t384 t385 true))))) = some r := h
  clear h
  replace H := Option.bind_eq_some_iff.mp H
  obtain ⟨t384, A20, H⟩ := H
  replace H : ((token_Quote.f k t384).bind fun t385 => ((kilnlaw11_Told.f k).bind fun t386 => (if t386 = true then (if (t385.size : Int) < 2 then (kilnlaw11_TokenQuote.j0 k t384 t385 true) else (if 0 < (t385.size : Int) then (if (bt t385 0) = 34 then (if 0 ≤ (wrap64 ((t385.size : Int) - 1)) then (if (wrap64 ((t385.size : Int) - 1)) < (t385.size : Int) then (kilnlaw11_TokenQuote.j0 k t384 t385 ((bt t385 (wrap64 ((t385.size : Int) - 1))) != 34)) else (none)) else (none)) else (kilnlaw11_TokenQuote.j0 k t384 t385 true)) else (none))) else (kilnlaw11_TokenQuote.j0 k t384 t385 true)))) = some r := H
  have A2 := Aside0.mk A20
  clear A20
  replace H := Option.bind_eq_some_iff.mp H
  obtain ⟨t385, A30, H⟩ := H
  replace H : ((kilnlaw11_Told.f k).bind fun t386 => (if t386 = true then (if (t385.size : Int) < 2 then (kilnlaw11_TokenQuote.j0 k t384 t385 true) else (if 0 < (t385.size : Int) then (if (bt t385 0) = 34 then (if 0 ≤ (wrap64 ((t385.size : Int) - 1)) then (if (wrap64 ((t385.size : Int) - 1)) < (t385.size : Int) then (kilnlaw11_TokenQuote.j0 k t384 t385 ((bt t385 (wrap64 ((t385.size : Int) - 1))) != 34)) else (none)) else (none)) else (kilnlaw11_TokenQuote.j0 k t384 t385 true)) else (none))) else (kilnlaw11_TokenQuote.j0 k t384 t385 true))) = some r := H
  have A3 := Aside0.mk A30
  clear A30
  have HC4 := Aside0.mk H
  clear H
  go_enter Try.func10, Try.ntmps10
  go_upto_region 3 with (first | ((with_reducible refine gate_callee (f := 16) rfl ?_); refine goesL_ (some 10) rfl rfl Try.func16 (by kernel_rfl) rfl #[.string a0, .int .i64 16000] rfl (by (try simp only [List.map_toArray, List.map_cons, List.map_nil]); first | done | rfl | (simp only [List.length_drop, List.length_take]; rfl)) ?_; (with_reducible refine (kilnlaw11_cut.calls a0 16000 t384 _ A2.out).mono ?_); rintro e w' ⟨rfl, ⟨nd, rfl⟩⟩; refine ⟨_, rfl, ?_⟩) | ((with_reducible refine gate_callee (f := 17) rfl ?_); refine goesL_ (some 12) rfl rfl Try.func17 (by kernel_rfl) rfl #[.string t384] rfl (by (try simp only [List.map_toArray, List.map_cons, List.map_nil]); first | done | rfl | (simp only [List.length_drop, List.length_take]; rfl)) ?_; (with_reducible refine (token_Quote.calls k t384 t385 _ A3.out).mono ?_); rintro e w5 ⟨rfl, hb⟩; refine ⟨_, rfl, ?_⟩; have n0_ := Aside0.mk (below_step (by repeat (first | (with_reducible first | exact HB.out | apply below_alloc | apply pw_below_drewN | apply below_drew1) | exact HB.out)) hb); clear HB; have HB := n0_; clear n0_; (try clear hb); (try clear hb2); (try clear hk); (try clear hi)))
  (try simp only [Act.put, List.setIfInBounds_toArray, List.set_cons_zero, List.set_cons_succ])
  go_cut [32] (fun v32 wc => ∃ (kq : Nat) (x32_3 : Bool), v32 = .bool x32_3 ∧ Aside0 (kilnlaw11_TokenQuote.j0 kq t384 t385 x32_3 = some r) ∧ Aside0 (kq ≤ k) ∧ Aside0 (Below w.heap.size w wc))
  case first =>
    have H := HC4.out
    clear HC4
    replace H := Option.bind_eq_some_iff.mp H
    obtain ⟨t386, A60, H⟩ := H
    replace H : (if t386 = true then (if (t385.size : Int) < 2 then (kilnlaw11_TokenQuote.j0 k t384 t385 true) else (if 0 < (t385.size : Int) then (if (bt t385 0) = 34 then (if 0 ≤ (wrap64 ((t385.size : Int) - 1)) then (if (wrap64 ((t385.size : Int) - 1)) < (t385.size : Int) then (kilnlaw11_TokenQuote.j0 k t384 t385 ((bt t385 (wrap64 ((t385.size : Int) - 1))) != 34)) else (none)) else (none)) else (kilnlaw11_TokenQuote.j0 k t384 t385 true)) else (none))) else (kilnlaw11_TokenQuote.j0 k t384 t385 true)) = some r := H
    have A6 := Aside0.mk A60
    clear A60
    by_cases c7 : t386 = true
    · subst c7
      have H1 : (if (t385.size : Int) < 2 then (kilnlaw11_TokenQuote.j0 k t384 t385 true) else (if 0 < (t385.size : Int) then (if (bt t385 0) = 34 then (if 0 ≤ (wrap64 ((t385.size : Int) - 1)) then (if (wrap64 ((t385.size : Int) - 1)) < (t385.size : Int) then (kilnlaw11_TokenQuote.j0 k t384 t385 ((bt t385 (wrap64 ((t385.size : Int) - 1))) != 34)) else (none)) else (none)) else (kilnlaw11_TokenQuote.j0 k t384 t385 true)) else (none))) = some r := by rw [if_pos rfl] at H; exact H
      clear H
      have H := H1
      clear H1
      by_cases c8 : (t385.size : Int) < 2
      · rw [if_pos c8] at H
        have c8b0 : decide ((t385.size : Int) < 2) = true := decide_eq_true c8
        have c8b1 : decide (t385.size < 2) = true := decide_eq_true (by omega)
        clear c8
        (first | rw [c8b0] | (simp only [i64_w, i32_w]; rw [c8b0]) | skip)
        have H' := Aside0.mk H
        clear H
        go_wp2_with (first | ((with_reducible refine gate_callee (f := 14) rfl ?_); refine goesL_ (some 13) rfl rfl Try.func14 (by kernel_rfl) rfl #[] rfl (by (try simp only [List.map_toArray, List.map_cons, List.map_nil]); first | done | rfl | (simp only [List.length_drop, List.length_take]; rfl)) ?_; (with_reducible refine (kilnlaw11_Told.calls k  true _ A6.out).mono ?_); rintro e w9 ⟨rfl, hb⟩; refine ⟨_, rfl, ?_⟩; have n0_ := Aside0.mk (below_step (by repeat (first | (with_reducible first | exact HB.out | apply below_alloc | apply pw_below_drewN | apply below_drew1) | exact HB.out)) hb); clear HB; have HB := n0_; clear n0_; (try clear hb); (try clear hb2); (try clear hk); (try clear hi)))
        go_meet
        case rel => exact ⟨_, (true), (by first | rfl | (simp; done) | (simp [*]; done)), H', ⟨by first | omega | exact Nat.le_refl _⟩, ⟨by repeat (first | (with_reducible first | exact HB.out | apply below_alloc | apply pw_below_drewN | apply below_drew1) | exact HB.out)⟩⟩
      · rw [if_neg c8] at H
        have c8b0 : decide ((t385.size : Int) < 2) = false := decide_eq_false c8
        have c8b1 : decide (t385.size < 2) = false := decide_eq_false (by omega)
        clear c8
        (first | rw [c8b0] | (simp only [i64_w, i32_w]; rw [c8b0]) | skip)
        by_cases c10 : 0 < (t385.size : Int)
        · rw [if_pos c10] at H
          have c10b0 : decide (0 < (t385.size : Int)) = true := decide_eq_true c10
          have c10b1 : decide (0 < t385.size) = true := decide_eq_true (by omega)
          clear c10
          by_cases c12 : (bt t385 0) = 34
          · rw [if_pos c12] at H
            have c12b0 : ((bt t385 0) == 34) = true := beq_iff_eq.mpr c12
            have c12b1 : ((bt t385 0) != 34) = false := bne_eq_false_iff_eq.mpr c12
            clear c12
            obtain ⟨ji13, hji13⟩ : ∃ j_ : Int, (wrap64 ((t385.size : Int) - 1)) = j_ := ⟨_, rfl⟩
            replace H : (if 0 ≤ (ji13) then (if (ji13) < (t385.size : Int) then (kilnlaw11_TokenQuote.j0 k t384 t385 ((bt t385 (ji13)) != 34)) else (none)) else (none)) = some r := by first | (rw [hji13] at H; exact H) | (simp only [hji13] at H ⊢; exact H)
            (try rw [hji13] at A6)
            have hji13w : (IntKind.i64.wrap ((t385.size : Int) - 1)) = ji13 := (i64_w _).trans hji13
            by_cases c14 : 0 ≤ (ji13)
            · rw [if_pos c14] at H
              have c14b0 : decide (0 ≤ (ji13)) = true := decide_eq_true c14
              clear c14
              by_cases c15 : (ji13) < (t385.size : Int)
              · rw [if_pos c15] at H
                have c15b0 : decide ((ji13) < (t385.size : Int)) = true := decide_eq_true c15
                clear c15
                have H' := Aside0.mk H
                clear H
                go_wp2_with (first | ((with_reducible refine gate_callee (f := 14) rfl ?_); refine goesL_ (some 13) rfl rfl Try.func14 (by kernel_rfl) rfl #[] rfl (by (try simp only [List.map_toArray, List.map_cons, List.map_nil]); first | done | rfl | (simp only [List.length_drop, List.length_take]; rfl)) ?_; (with_reducible refine (kilnlaw11_Told.calls k  true _ A6.out).mono ?_); rintro e w17 ⟨rfl, hb⟩; refine ⟨_, rfl, ?_⟩; have n0_ := Aside0.mk (below_step (by repeat (first | (with_reducible first | exact HB.out | apply below_alloc | apply pw_below_drewN | apply below_drew1) | exact HB.out)) hb); clear HB; have HB := n0_; clear n0_; (try clear hb); (try clear hb2); (try clear hk); (try clear hi); have p11 : 0 ≤ (0 : Int) := (by omega); have q11 : 0 < t385.size := (by have : (0 : Int) < (t385.size : Int) := of_decide_eq_true (by first | (with_reducible assumption) | assumption); omega); have hx11 : ∀ h : 0 < t385.size, ((t385[0]'h).toNat : Int) = bt t385 0 := bt_at t385 0; clear p11; have qi11 : (0 < (t385.size : Int)) = True := eq_true (of_decide_eq_true (by first | (with_reducible assumption) | assumption)); replace q11 := eq_true q11; have p16 : 0 ≤ ((ji13) : Int) := of_decide_eq_true (by first | (with_reducible assumption) | assumption); have q16 : (ji13) < (t385.size : Int) := of_decide_eq_true (by first | (with_reducible assumption) | assumption); have hx16 := bt_at t385 (ji13); replace p16 := eq_true p16; replace q16 := eq_true q16))
                go_meet
                case rel => exact ⟨_, (((bt t385 (ji13)) != 34)), (by first | rfl | (simp; done) | (simp only [← hji13] <;> (first | rfl | simp)) | (simp [*]; done)), H', ⟨by first | omega | exact Nat.le_refl _⟩, ⟨by repeat (first | (with_reducible first | exact HB.out | apply below_alloc | apply pw_below_drewN | apply below_drew1) | exact HB.out)⟩⟩
              · rw [if_neg c15] at H
                exact absurd H (by simp)
            · rw [if_neg c14] at H
              exact absurd H (by simp)
          · rw [if_neg c12] at H
            have c12b0 : ((bt t385 0) == 34) = false := beq_eq_false_iff_ne.mpr c12
            have c12b1 : ((bt t385 0) != 34) = true := bne_iff_ne.mpr c12
            have H' := Aside0.mk H
            clear H
            go_wp2_with (first | ((with_reducible refine gate_callee (f := 14) rfl ?_); refine goesL_ (some 13) rfl rfl Try.func14 (by kernel_rfl) rfl #[] rfl (by (try simp only [List.map_toArray, List.map_cons, List.map_nil]); first | done | rfl | (simp only [List.length_drop, List.length_take]; rfl)) ?_; (with_reducible refine (kilnlaw11_Told.calls k  true _ A6.out).mono ?_); rintro e w18 ⟨rfl, hb⟩; refine ⟨_, rfl, ?_⟩; have n0_ := Aside0.mk (below_step (by repeat (first | (with_reducible first | exact HB.out | apply below_alloc | apply pw_below_drewN | apply below_drew1) | exact HB.out)) hb); clear HB; have HB := n0_; clear n0_; (try clear hb); (try clear hb2); (try clear hk); (try clear hi); have p11 : 0 ≤ (0 : Int) := (by omega); have q11 : 0 < t385.size := (by have : (0 : Int) < (t385.size : Int) := of_decide_eq_true (by first | (with_reducible assumption) | assumption); omega); have hx11 : ∀ h : 0 < t385.size, ((t385[0]'h).toNat : Int) = bt t385 0 := bt_at t385 0; clear p11; have qi11 : (0 < (t385.size : Int)) = True := eq_true (of_decide_eq_true (by first | (with_reducible assumption) | assumption)); replace q11 := eq_true q11))
            go_meet
            case rel => exact ⟨_, (true), (by first | rfl | (simp; done) | (simp [*]; done)), H', ⟨by first | omega | exact Nat.le_refl _⟩, ⟨by repeat (first | (with_reducible first | exact HB.out | apply below_alloc | apply pw_below_drewN | apply below_drew1) | exact HB.out)⟩⟩
        · rw [if_neg c10] at H
          exact absurd H (by simp)
    · replace c7 := Bool.eq_false_iff.mpr c7
      subst c7
      have H1 : (kilnlaw11_TokenQuote.j0 k t384 t385 true) = some r := by rw [if_neg (show ¬ (false = true) by decide)] at H; exact H
      clear H
      have H := H1
      clear H1
      have H' := Aside0.mk H
      clear H
      go_wp2_with (first | ((with_reducible refine gate_callee (f := 14) rfl ?_); refine goesL_ (some 13) rfl rfl Try.func14 (by kernel_rfl) rfl #[] rfl (by (try simp only [List.map_toArray, List.map_cons, List.map_nil]); first | done | rfl | (simp only [List.length_drop, List.length_take]; rfl)) ?_; (with_reducible refine (kilnlaw11_Told.calls k  false _ A6.out).mono ?_); rintro e w19 ⟨rfl, hb⟩; refine ⟨_, rfl, ?_⟩; have n0_ := Aside0.mk (below_step (by repeat (first | (with_reducible first | exact HB.out | apply below_alloc | apply pw_below_drewN | apply below_drew1) | exact HB.out)) hb); clear HB; have HB := n0_; clear n0_; (try clear hb); (try clear hb2); (try clear hk); (try clear hi)))
      go_meet
      case rel => exact ⟨_, (true), (by first | rfl | (simp; done) | (simp [*]; done)), H', ⟨by first | omega | exact Nat.le_refl _⟩, ⟨by repeat (first | (with_reducible first | exact HB.out | apply below_alloc | apply pw_below_drewN | apply below_drew1) | exact HB.out)⟩⟩
  case rest =>
    clear HC4
    try clear c1
    try clear p1
    try clear q1
    try clear hx1
    try clear qi1
    try clear p2
    try clear p6
    try clear c7
    try clear c8
    try clear c8b0
    try clear c8b1
    try clear c10
    try clear c10b0
    try clear c10b1
    try clear p11
    try clear q11
    try clear hx11
    try clear qi11
    try clear c12
    try clear c12b0
    try clear c12b1
    try clear c14
    try clear c14b0
    try clear c15
    try clear c15b0
    try clear c16
    try clear p16
    try clear q16
    try clear hx16
    try clear c17
    try clear p11
    try clear p16
    try clear q11
    try clear q16
    obtain ⟨kq, x32_3, rfl, HA, HJ3, HB⟩ := hcut
    cases kq with
    | zero => exact absurd HA.out (by simp [kilnlaw11_TokenQuote.j0])
    | succ kj3 =>
      have H := HA.out
      clear HA
      simp only [kilnlaw11_TokenQuote.j0] at H
      by_cases c20 : x32_3 = true
      · subst c20
        have H1 : (some false) = some r := by rw [if_pos rfl] at H; exact H
        clear H
        have H := H1
        clear H1
        obtain rfl := Option.some.inj H
        go_wp2
        go_ret
        exact ⟨by first | rfl | (simp [errW_none, errW_some] <;> rfl) | (simp [*, errW_none, errW_some] <;> rfl), by repeat (first | (with_reducible first | exact HB.out | apply below_alloc | apply pw_below_drewN | apply below_drew1) | exact HB.out)⟩
      · replace c20 := Bool.eq_false_iff.mpr c20
        subst c20
        have H1 : (kilnlaw11_TokenQuote.l0 kj3 t384 t385 0) = some r := by rw [if_neg (show ¬ (false = true) by decide)] at H; exact H
        clear H
        have H := H1
        clear H1
        have H' := Aside0.mk H
        clear H
        go_wp2
        go_loopg [4] kj3 (fun kq v4 w' => ∃ (x4_2 : Int), v4 = .int .i64 x4_2 ∧ Aside0 (kilnlaw11_TokenQuote.l0 kq t384 t385 x4_2 = some r) ∧ Aside0 (kq ≤ kj3) ∧ Aside0 (Below w.heap.size w w'))
        case atStart => exact ⟨(0), (by first | rfl | (simp; done) | (simp [*]; done)), H', ⟨Nat.le_refl _⟩, ⟨by repeat (first | (with_reducible first | exact HB.out | apply below_alloc | apply pw_below_drewN | apply below_drew1) | exact HB.out)⟩⟩
        case round =>
          clear H'
          try clear c1
          try clear p1
          try clear q1
          try clear hx1
          try clear qi1
          try clear c2
          try clear p2
          try clear p6
          try clear c7
          try clear c8
          try clear c8b0
          try clear c8b1
          try clear c10
          try clear c10b0
          try clear c10b1
          try clear p11
          try clear q11
          try clear hx11
          try clear qi11
          try clear c12
          try clear c12b0
          try clear c12b1
          try clear c14
          try clear c14b0
          try clear c15
          try clear c15b0
          try clear c16
          try clear p16
          try clear q16
          try clear hx16
          try clear c17
          try clear c20
          try clear p1
          try clear p11
          try clear p16
          try clear p2
          try clear p6
          try clear q1
          try clear q11
          try clear q16
          obtain ⟨x4_2, rfl, HA, HK2, HB⟩ := hrel
          cases gk with
          | zero => exact absurd HA.out (by simp [kilnlaw11_TokenQuote.l0])
          | succ k2 =>
            have H := HA.out
            clear HA
            simp only [kilnlaw11_TokenQuote.l0] at H
            by_cases c21 : x4_2 < (t385.size : Int)
            · rw [if_pos c21] at H
              have c21b0 : decide (x4_2 < (t385.size : Int)) = true := decide_eq_true c21
              clear c21
              by_cases c22 : 0 ≤ x4_2
              · rw [if_pos c22] at H
                have c22b0 : decide (0 ≤ x4_2) = true := decide_eq_true c22
                clear c22
                by_cases c24 : (bt t385 x4_2) < 32
                · rw [if_pos c24] at H
                  have c24b0 : decide ((bt t385 x4_2) < 32) = true := decide_eq_true c24
                  clear c24
                  obtain rfl := Option.some.inj H
                  have p23 : 0 ≤ (x4_2 : Int) := of_decide_eq_true (by first | (with_reducible assumption) | assumption)
                  have q23 : x4_2 < (t385.size : Int) := of_decide_eq_true (by first | (with_reducible assumption) | assumption)
                  have hx23 := bt_at t385 x4_2
                  replace p23 := eq_true p23
                  replace q23 := eq_true q23
                  go_wp2
                  go_ret
                  exact ⟨by first | rfl | (simp [errW_none, errW_some] <;> rfl) | (simp [*, errW_none, errW_some] <;> rfl), by repeat (first | (with_reducible first | exact HB.out | apply below_alloc | apply pw_below_drewN | apply below_drew1) | exact HB.out)⟩
                · rw [if_neg c24] at H
                  have c24b0 : decide ((bt t385 x4_2) < 32) = false := decide_eq_false c24
                  clear c24
                  by_cases c26 : (bt t385 x4_2) > 126
                  · rw [if_pos c26] at H
                    have c26b0 : decide (126 < (bt t385 x4_2)) = true := decide_eq_true c26
                    clear c26
                    obtain rfl := Option.some.inj H
                    have p23 : 0 ≤ (x4_2 : Int) := of_decide_eq_true (by first | (with_reducible assumption) | assumption)
                    have q23 : x4_2 < (t385.size : Int) := of_decide_eq_true (by first | (with_reducible assumption) | assumption)
                    have hx23 := bt_at t385 x4_2
                    replace p23 := eq_true p23
                    replace q23 := eq_true q23
                    have p25 : 0 ≤ (x4_2 : Int) := of_decide_eq_true (by first | (with_reducible assumption) | assumption)
                    have q25 : x4_2 < (t385.size : Int) := of_decide_eq_true (by first | (with_reducible assumption) | assumption)
                    have hx25 := bt_at t385 x4_2
                    replace p25 := eq_true p25
                    replace q25 := eq_true q25
                    go_wp2
                    go_ret
                    exact ⟨by first | rfl | (simp [errW_none, errW_some] <;> rfl) | (simp [*, errW_none, errW_some] <;> rfl), by repeat (first | (with_reducible first | exact HB.out | apply below_alloc | apply pw_below_drewN | apply below_drew1) | exact HB.out)⟩
                  · rw [if_neg c26] at H
                    have c26b0 : decide (126 < (bt t385 x4_2)) = false := decide_eq_false c26
                    clear c26
                    have H' := Aside0.mk H
                    clear H
                    have p23 : 0 ≤ (x4_2 : Int) := of_decide_eq_true (by first | (with_reducible assumption) | assumption)
                    have q23 : x4_2 < (t385.size : Int) := of_decide_eq_true (by first | (with_reducible assumption) | assumption)
                    have hx23 := bt_at t385 x4_2
                    replace p23 := eq_true p23
                    replace q23 := eq_true q23
                    have p25 : 0 ≤ (x4_2 : Int) := of_decide_eq_true (by first | (with_reducible assumption) | assumption)
                    have q25 : x4_2 < (t385.size : Int) := of_decide_eq_true (by first | (with_reducible assumption) | assumption)
                    have hx25 := bt_at t385 x4_2
                    replace p25 := eq_true p25
                    replace q25 := eq_true q25
                    go_wp2
                    go_roundg k2
                    case measure => have := HJ3.out; have := HK2.out; omega
                    case rel => exact ⟨(wrap64 (x4_2 + 1)), (by first | rfl | (simp; done) | (simp [*]; done)), H', ⟨by have := HJ3.out; have := HK2.out; omega⟩, ⟨by repeat (first | (with_reducible first | exact HB.out | apply below_alloc | apply pw_below_drewN | apply below_drew1) | exact HB.out)⟩⟩
              · rw [if_neg c22] at H
                exact absurd H (by simp)
            · rw [if_neg c21] at H
              have c21b0 : decide (x4_2 < (t385.size : Int)) = false := decide_eq_false c21
              clear c21
              replace H := Option.bind_eq_some_iff.mp H
              obtain ⟨⟨t387, t388, t389, t390⟩, A270, H⟩ := H
              replace H : (if t388 = 0 then (if (t387.length : Int) = 2 then (if 0 < (t387.length : Int) then (if (((rd_T27 t387 0).f0) == 2 && ((((rd_T27 t387 0).f1).toList) == t384.toList && (((rd_T27 t387 0).f2) == 1 && (((rd_T27 t387 0).f3) == 0)))) = true then (if 1 < (t387.length : Int) then (some (((rd_T27 t387 1).f3) == (t385.size : Int))) else (none)) else (some false)) else (none)) else (some false)) else (some false)) = some r := H
              have A27 := Aside0.mk A270
              clear A270
              by_cases c28 : t388 = 0
              · rw [if_pos c28] at H
                have c28b0 : (t388 == 0) = true := beq_iff_eq.mpr c28
                have c28b1 : (t388 != 0) = false := bne_eq_false_iff_eq.mpr c28
                clear c28
                by_cases c29 : (t387.length : Int) = 2
                · rw [if_pos c29] at H
                  have c29b0 : ((t387.length : Int) == 2) = true := beq_iff_eq.mpr c29
                  have c29b1 : ((t387.length : Int) != 2) = false := bne_eq_false_iff_eq.mpr c29
                  clear c29
                  by_cases c30 : 0 < (t387.length : Int)
                  · rw [if_pos c30] at H
                    have c30b0 : decide (0 < (t387.length : Int)) = true := decide_eq_true c30
                    have c30b1 : decide (0 < t387.length) = true := decide_eq_true (by omega)
                    clear c30
                    by_cases c31 : (((rd_T27 t387 0).f0) == 2 && ((((rd_T27 t387 0).f1).toList) == t384.toList && (((rd_T27 t387 0).f2) == 1 && (((rd_T27 t387 0).f3) == 0)))) = true
                    · rw [if_pos c31] at H
                      have c31b0 : (((rd_T27 t387 0).f0) == 2 && ((((rd_T27 t387 0).f1).toList) == t384.toList && (((rd_T27 t387 0).f2) == 1 && (((rd_T27 t387 0).f3) == 0)))) = true := c31
                      (try (have c31b1 : decide (((rd_T27 t387 0).f0) = 2 && ((((rd_T27 t387 0).f1).toList) == t384.toList && (((rd_T27 t387 0).f2) == 1 && (((rd_T27 t387 0).f3) == 0)))) = true := by simpa using c31))
                      (try (have c31b2 : (((rd_T27 t387 0).f0) == 2 && ((((rd_T27 t387 0).f1).toList) == t384.toList && (((rd_T27 t387 0).f2) == 1 && (((rd_T27 t387 0).f3) == 0)))) = true := by simpa using c31))
                      clear c31
                      by_cases c32 : 1 < (t387.length : Int)
                      · rw [if_pos c32] at H
                        have c32b0 : decide (1 < (t387.length : Int)) = true := decide_eq_true c32
                        have c32b1 : decide (1 < t387.length) = true := decide_eq_true (by omega)
                        clear c32
                        obtain rfl := Option.some.inj H
                        go_wp2_with (first | ((with_reducible refine gate_callee (f := 22) rfl ?_); refine goesL_ (some 51) rfl rfl Try.func22 (by kernel_rfl) rfl #[.string t385] rfl (by (try simp only [List.map_toArray, List.map_cons, List.map_nil]); first | done | rfl | (simp only [List.length_drop, List.length_take]; rfl)) ?_; (with_reducible refine (token_Tokens.calls k2 t385 t387 t388 t389 t390 _ A27.out).mono ?_); rintro e w33 ⟨v391, rfl, ho0, hb⟩; refine ⟨_, rfl, ?_⟩; have n0_ := Aside0.mk (Kd.R_lower ho0 (below_size (by repeat (first | (with_reducible first | exact HB.out | apply below_alloc | apply pw_below_drewN | apply below_drew1) | exact HB.out)))); have n1_ := Aside0.mk (below_step (by repeat (first | (with_reducible first | exact HB.out | apply below_alloc | apply pw_below_drewN | apply below_drew1) | exact HB.out)) hb); clear HB; have HO392 := n0_; have HB := n1_; clear n0_ n1_; (try clear hb); (try clear hb2); (try clear hk); (try clear hi); (try clear ho0); obtain ⟨Ao34, co34, eo34⟩ := Kd.R_slice HO392.out; subst eo34; have p393 : 0 ≤ (0 : Int) := (by omega); have q393 : 0 < (t387.length : Int) := of_decide_eq_true (by first | (with_reducible assumption) | assumption); obtain ⟨ad393, e393, hx393_0, hx393_1, hx393_2, hx393_3⟩ := at_T27 (Kd.R_reads' HO392.out).2.2 0 p393 q393; cases e393; have qi393 : (0 < t387.length) = True := eq_true (by omega); (try rw [show ((0 : Int)).toNat = 0 from rfl] at hx393_0); (try rw [show 0 * 4 = 0 from rfl] at hx393_0); (try rw [Addr.add_zero'] at hx393_0); (try rw [show ((0 : Int)).toNat = 0 from rfl] at hx393_1); (try rw [show 0 * 4 = 0 from rfl] at hx393_1); (try rw [Addr.add_zero'] at hx393_1); (try rw [show ((0 : Int)).toNat = 0 from rfl] at hx393_2); (try rw [show 0 * 4 = 0 from rfl] at hx393_2); (try rw [Addr.add_zero'] at hx393_2); (try rw [show ((0 : Int)).toNat = 0 from rfl] at hx393_3); (try rw [show 0 * 4 = 0 from rfl] at hx393_3); (try rw [Addr.add_zero'] at hx393_3); replace p393 := eq_true p393; replace q393 := eq_true q393; have p394 : 0 ≤ (1 : Int) := (by omega); have q394 : 1 < (t387.length : Int) := of_decide_eq_true (by first | (with_reducible assumption) | assumption); obtain ⟨ad394, e394, hx394_0, hx394_1, hx394_2, hx394_3⟩ := at_T27 (Kd.R_reads' HO392.out).2.2 1 p394 q394; obtain rfl : ad393 = ad394 := (by injection e394); (try simp only [show (1 : Int).toNat = 1 from rfl, Nat.reduceMul, Nat.reduceEqDiff, Go.Addr.add, ↓reduceIte] at hx394_0); (try simp only [show (1 : Int).toNat = 1 from rfl, Nat.reduceMul, Nat.reduceEqDiff, Go.Addr.add, ↓reduceIte] at hx394_1); (try simp only [show (1 : Int).toNat = 1 from rfl, Nat.reduceMul, Nat.reduceEqDiff, Go.Addr.add, ↓reduceIte] at hx394_2); (try simp only [show (1 : Int).toNat = 1 from rfl, Nat.reduceMul, Nat.reduceEqDiff, Go.Addr.add, ↓reduceIte] at hx394_3); have qi394 : (1 < t387.length) = True := eq_true (by omega); (try rw [show ((1 : Int)).toNat = 1 from rfl] at hx394_0); (try rw [show 1 * 4 = 4 from rfl] at hx394_0); (try rw [show ((1 : Int)).toNat = 1 from rfl] at hx394_1); (try rw [show 1 * 4 = 4 from rfl] at hx394_1); (try rw [show ((1 : Int)).toNat = 1 from rfl] at hx394_2); (try rw [show 1 * 4 = 4 from rfl] at hx394_2); (try rw [show ((1 : Int)).toNat = 1 from rfl] at hx394_3); (try rw [show 1 * 4 = 4 from rfl] at hx394_3); replace p394 := eq_true p394; replace q394 := eq_true q394))
                        go_ret
                        exact ⟨by first | rfl | (simp [errW_none, errW_some] <;> rfl) | (simp [*, errW_none, errW_some] <;> rfl), by repeat (first | (with_reducible first | exact HB.out | apply below_alloc | apply pw_below_drewN | apply below_drew1) | exact HB.out)⟩
                      · rw [if_neg c32] at H
                        exact absurd H (by simp)
                    · rw [if_neg c31] at H
                      have c31b0 : (((rd_T27 t387 0).f0) == 2 && ((((rd_T27 t387 0).f1).toList) == t384.toList && (((rd_T27 t387 0).f2) == 1 && (((rd_T27 t387 0).f3) == 0)))) = false := by simpa using c31
                      (try (have c31b1 : decide (((rd_T27 t387 0).f0) = 2 && ((((rd_T27 t387 0).f1).toList) == t384.toList && (((rd_T27 t387 0).f2) == 1 && (((rd_T27 t387 0).f3) == 0)))) = false := by simpa using c31))
                      (try (have c31b2 : (((rd_T27 t387 0).f0) == 2 && ((((rd_T27 t387 0).f1).toList) == t384.toList && (((rd_T27 t387 0).f2) == 1 && (((rd_T27 t387 0).f3) == 0)))) = false := by simpa using c31))
                      (try (have c31b3 : ¬ (((rd_T27 t387 0).f0) = 2 && ((((rd_T27 t387 0).f1).toList) == t384.toList && (((rd_T27 t387 0).f2) == 1 && (((rd_T27 t387 0).f3) == 0)))) := by simpa using c31))
                      clear c31
                      obtain rfl := Option.some.inj H
                      go_wp2_with (first | ((with_reducible refine gate_callee (f := 22) rfl ?_); refine goesL_ (some 51) rfl rfl Try.func22 (by kernel_rfl) rfl #[.string t385] rfl (by (try simp only [List.map_toArray, List.map_cons, List.map_nil]); first | done | rfl | (simp only [List.length_drop, List.length_take]; rfl)) ?_; (with_reducible refine (token_Tokens.calls k2 t385 t387 t388 t389 t390 _ A27.out).mono ?_); rintro e w35 ⟨v391, rfl, ho0, hb⟩; refine ⟨_, rfl, ?_⟩; have n0_ := Aside0.mk (Kd.R_lower ho0 (below_size (by repeat (first | (with_reducible first | exact HB.out | apply below_alloc | apply pw_below_drewN | apply below_drew1) | exact HB.out)))); have n1_ := Aside0.mk (below_step (by repeat (first | (with_reducible first | exact HB.out | apply below_alloc | apply pw_below_drewN | apply below_drew1) | exact HB.out)) hb); clear HB; have HO392 := n0_; have HB := n1_; clear n0_ n1_; (try clear hb); (try clear hb2); (try clear hk); (try clear hi); (try clear ho0); obtain ⟨Ao36, co36, eo36⟩ := Kd.R_slice HO392.out; subst eo36; have p393 : 0 ≤ (0 : Int) := (by omega); have q393 : 0 < (t387.length : Int) := of_decide_eq_true (by first | (with_reducible assumption) | assumption); obtain ⟨ad393, e393, hx393_0, hx393_1, hx393_2, hx393_3⟩ := at_T27 (Kd.R_reads' HO392.out).2.2 0 p393 q393; cases e393; have qi393 : (0 < t387.length) = True := eq_true (by omega); (try rw [show ((0 : Int)).toNat = 0 from rfl] at hx393_0); (try rw [show 0 * 4 = 0 from rfl] at hx393_0); (try rw [Addr.add_zero'] at hx393_0); (try rw [show ((0 : Int)).toNat = 0 from rfl] at hx393_1); (try rw [show 0 * 4 = 0 from rfl] at hx393_1); (try rw [Addr.add_zero'] at hx393_1); (try rw [show ((0 : Int)).toNat = 0 from rfl] at hx393_2); (try rw [show 0 * 4 = 0 from rfl] at hx393_2); (try rw [Addr.add_zero'] at hx393_2); (try rw [show ((0 : Int)).toNat = 0 from rfl] at hx393_3); (try rw [show 0 * 4 = 0 from rfl] at hx393_3); (try rw [Addr.add_zero'] at hx393_3); replace p393 := eq_true p393; replace q393 := eq_true q393))
                      go_ret
                      exact ⟨by first | rfl | (simp [errW_none, errW_some] <;> rfl) | (simp [*, errW_none, errW_some] <;> rfl), by repeat (first | (with_reducible first | exact HB.out | apply below_alloc | apply pw_below_drewN | apply below_drew1) | exact HB.out)⟩
                  · rw [if_neg c30] at H
                    exact absurd H (by simp)
                · rw [if_neg c29] at H
                  have c29b0 : ((t387.length : Int) == 2) = false := beq_eq_false_iff_ne.mpr c29
                  have c29b1 : ((t387.length : Int) != 2) = true := bne_iff_ne.mpr c29
                  obtain rfl := Option.some.inj H
                  go_wp2_with (first | ((with_reducible refine gate_callee (f := 22) rfl ?_); refine goesL_ (some 51) rfl rfl Try.func22 (by kernel_rfl) rfl #[.string t385] rfl (by (try simp only [List.map_toArray, List.map_cons, List.map_nil]); first | done | rfl | (simp only [List.length_drop, List.length_take]; rfl)) ?_; (with_reducible refine (token_Tokens.calls k2 t385 t387 t388 t389 t390 _ A27.out).mono ?_); rintro e w37 ⟨v391, rfl, ho0, hb⟩; refine ⟨_, rfl, ?_⟩; have n0_ := Aside0.mk (Kd.R_lower ho0 (below_size (by repeat (first | (with_reducible first | exact HB.out | apply below_alloc | apply pw_below_drewN | apply below_drew1) | exact HB.out)))); have n1_ := Aside0.mk (below_step (by repeat (first | (with_reducible first | exact HB.out | apply below_alloc | apply pw_below_drewN | apply below_drew1) | exact HB.out)) hb); clear HB; have HO392 := n0_; have HB := n1_; clear n0_ n1_; (try clear hb); (try clear hb2); (try clear hk); (try clear hi); (try clear ho0); obtain ⟨Ao38, co38, eo38⟩ := Kd.R_slice HO392.out; subst eo38))
                  go_ret
                  exact ⟨by first | rfl | (simp [errW_none, errW_some] <;> rfl) | (simp [*, errW_none, errW_some] <;> rfl), by repeat (first | (with_reducible first | exact HB.out | apply below_alloc | apply pw_below_drewN | apply below_drew1) | exact HB.out)⟩
              · rw [if_neg c28] at H
                have c28b0 : (t388 == 0) = false := beq_eq_false_iff_ne.mpr c28
                have c28b1 : (t388 != 0) = true := bne_iff_ne.mpr c28
                obtain rfl := Option.some.inj H
                go_wp2_with (first | ((with_reducible refine gate_callee (f := 22) rfl ?_); refine goesL_ (some 51) rfl rfl Try.func22 (by kernel_rfl) rfl #[.string t385] rfl (by (try simp only [List.map_toArray, List.map_cons, List.map_nil]); first | done | rfl | (simp only [List.length_drop, List.length_take]; rfl)) ?_; (with_reducible refine (token_Tokens.calls k2 t385 t387 t388 t389 t390 _ A27.out).mono ?_); rintro e w39 ⟨v391, rfl, ho0, hb⟩; refine ⟨_, rfl, ?_⟩; have n0_ := Aside0.mk (Kd.R_lower ho0 (below_size (by repeat (first | (with_reducible first | exact HB.out | apply below_alloc | apply pw_below_drewN | apply below_drew1) | exact HB.out)))); have n1_ := Aside0.mk (below_step (by repeat (first | (with_reducible first | exact HB.out | apply below_alloc | apply pw_below_drewN | apply below_drew1) | exact HB.out)) hb); clear HB; have HO392 := n0_; have HB := n1_; clear n0_ n1_; (try clear hb); (try clear hb2); (try clear hk); (try clear hi); (try clear ho0)))
                go_ret
                exact ⟨by first | rfl | (simp [errW_none, errW_some] <;> rfl) | (simp [*, errW_none, errW_some] <;> rfl), by repeat (first | (with_reducible first | exact HB.out | apply below_alloc | apply pw_below_drewN | apply below_drew1) | exact HB.out)⟩

/-- THE ONE PURE STATEMENT of kilnlaw11_TokenQuote: yours. -/
def kilnlaw11_TokenQuote.Pure : Prop := ∀ (a0 : ByteArray), a0.size ≤ 140737488351232 → ∃ k, kilnlaw11_TokenQuote.f k a0 = some true
theorem kilnlaw11_TokenQuote.walk (P : kilnlaw11_TokenQuote.Pure) (a0 : ByteArray) (w : World) (w0 : a0.size ≤ 140737488351232) :
    Calls Try.prog 10 #[.string a0] w fun e w' => e = .returned (.bool true) ∧ Below w.heap.size w w' := by
  obtain ⟨k, h⟩ := P a0 w0
  refine (kilnlaw11_TokenQuote.calls k a0 true w h).mono ?_
  rintro e w' ⟨rfl, hd⟩
  exact ⟨rfl, hd⟩

/-! ### kilnlaw11_TokenFirst: function 11 -/
mutual
def kilnlaw11_TokenFirst.j0 : Nat → ByteArray → ByteArray → Int → Bool → Option (Bool)
  | 0, _, _, _, _ => none
  | k + 1, x0, x1, x2, x24 => if x24 = true then (kilnlaw11_TokenFirst.j1 k x0 x1 3) else (kilnlaw11_TokenFirst.j1 k x0 x1 x2)
def kilnlaw11_TokenFirst.j1 : Nat → ByteArray → ByteArray → Int → Option (Bool)
  | 0, _, _, _ => none
  | k + 1, x0, x1, x2 => (token_Tokens.f k x0).bind fun bt397 => ((kilnlaw11_Told.f k).bind fun t403 => (if t403 = true then (kilnlaw11_TokenFirst.j2 k x0 x1 x2 bt397.2.1 bt397.2.2.1 bt397.2.2.2 (bt397.2.1 == 0)) else (kilnlaw11_TokenFirst.j2 k x0 x1 x2 bt397.2.1 bt397.2.2.1 bt397.2.2.2 true)))
def kilnlaw11_TokenFirst.j2 : Nat → ByteArray → ByteArray → Int → Int → Int → Int → Bool → Option (Bool)
  | 0, _, _, _, _, _, _, _ => none
  | k + 1, x0, x1, x2, x8, x9, x10, x37 => if x37 = true then ((kilnlaw11_Told.f k).bind fun t404 => (some t404)) else ((kilnlaw11_many.f k (⟨#[32, 35, 10]⟩ : ByteArray) x2).bind fun t405 => (if t405.size + x0.size ≤ 9223372036854775807 then (if (t405 ++ x0).size + 1 ≤ 9223372036854775807 then (if ((t405 ++ x0) ++ (⟨#[10]⟩ : ByteArray)).size + x1.size ≤ 9223372036854775807 then ((token_Tokens.f k (((t405 ++ x0) ++ (⟨#[10]⟩ : ByteArray)) ++ x1)).bind fun bt406 => (if bt406.2.1 = x8 then (if bt406.2.2.1 = (wrap64 (x9 + x2)) then (some (bt406.2.2.2 == x10)) else (some false)) else (some false))) else (none)) else (none)) else (none)))
end
def kilnlaw11_TokenFirst.f (k : Nat) (a0 : ByteArray) (a1 : ByteArray) (a2 : Int) : Option (Bool) := (kilnlaw11_cut.f a0 3000).bind fun t395 => ((kilnlaw11_cut.f a1 3000).bind fun t396 => (if a2 < 0 then (kilnlaw11_TokenFirst.j0 k t395 t396 a2 true) else (kilnlaw11_TokenFirst.j0 k t395 t396 a2 (decide (a2 > 50)))))
theorem kilnlaw11_TokenFirst.mono_l : ∀ k, (∀ y0 y1 y2 y3, LeO (kilnlaw11_TokenFirst.j0 k y0 y1 y2 y3) (kilnlaw11_TokenFirst.j0 (k + 1) y0 y1 y2 y3)) ∧ (∀ y0 y1 y2, LeO (kilnlaw11_TokenFirst.j1 k y0 y1 y2) (kilnlaw11_TokenFirst.j1 (k + 1) y0 y1 y2)) ∧ (∀ y0 y1 y2 y3 y4 y5 y6, LeO (kilnlaw11_TokenFirst.j2 k y0 y1 y2 y3 y4 y5 y6) (kilnlaw11_TokenFirst.j2 (k + 1) y0 y1 y2 y3 y4 y5 y6))
  | 0 => ⟨fun _ _ _ _ r h => by simp [kilnlaw11_TokenFirst.j0] at h, fun _ _ _ r h => by simp [kilnlaw11_TokenFirst.j1] at h, fun _ _ _ _ _ _ _ r h => by simp [kilnlaw11_TokenFirst.j2] at h⟩
  | k + 1 => by
    obtain ⟨ih0, ih1, ih2⟩ := kilnlaw11_TokenFirst.mono_l k
    refine ⟨?_, ?_, ?_⟩
    · intro y0 y1 y2 y3
      unfold kilnlaw11_TokenFirst.j0
      repeat' first
      | (with_reducible exact ih0 _ _ _ _)
      | (with_reducible exact ih1 _ _ _)
      | (with_reducible exact ih2 _ _ _ _ _ _ _)
      | (with_reducible exact kilnlaw11_Told.mono _)
      | (with_reducible exact kilnlaw11_many.mono _ _ _)
      | (with_reducible exact token_Tokens.mono _ _)
      | (with_reducible exact LeO.refl _)
      | (with_reducible exact LeO.none _)
      | (with_reducible refine LeO.ite ?_ ?_)
      | (with_reducible refine LeO.bind ?_ (fun _ => ?_))
      | exact ih0 _ _ _ _
      | exact ih1 _ _ _
      | exact ih2 _ _ _ _ _ _ _
      | exact kilnlaw11_Told.mono _
      | exact kilnlaw11_many.mono _ _ _
      | exact token_Tokens.mono _ _
      | exact LeO.none _
      | refine LeO.ite ?_ ?_
      | refine LeO.bind ?_ (fun _ => ?_)
    · intro y0 y1 y2
      unfold kilnlaw11_TokenFirst.j1
      repeat' first
      | (with_reducible exact ih0 _ _ _ _)
      | (with_reducible exact ih1 _ _ _)
      | (with_reducible exact ih2 _ _ _ _ _ _ _)
      | (with_reducible exact kilnlaw11_Told.mono _)
      | (with_reducible exact kilnlaw11_many.mono _ _ _)
      | (with_reducible exact token_Tokens.mono _ _)
      | (with_reducible exact LeO.refl _)
      | (with_reducible exact LeO.none _)
      | (with_reducible refine LeO.ite ?_ ?_)
      | (with_reducible refine LeO.bind ?_ (fun _ => ?_))
      | exact ih0 _ _ _ _
      | exact ih1 _ _ _
      | exact ih2 _ _ _ _ _ _ _
      | exact kilnlaw11_Told.mono _
      | exact kilnlaw11_many.mono _ _ _
      | exact token_Tokens.mono _ _
      | exact LeO.none _
      | refine LeO.ite ?_ ?_
      | refine LeO.bind ?_ (fun _ => ?_)
    · intro y0 y1 y2 y3 y4 y5 y6
      unfold kilnlaw11_TokenFirst.j2
      repeat' first
      | (with_reducible exact ih0 _ _ _ _)
      | (with_reducible exact ih1 _ _ _)
      | (with_reducible exact ih2 _ _ _ _ _ _ _)
      | (with_reducible exact kilnlaw11_Told.mono _)
      | (with_reducible exact kilnlaw11_many.mono _ _ _)
      | (with_reducible exact token_Tokens.mono _ _)
      | (with_reducible exact LeO.refl _)
      | (with_reducible exact LeO.none _)
      | (with_reducible refine LeO.ite ?_ ?_)
      | (with_reducible refine LeO.bind ?_ (fun _ => ?_))
      | exact ih0 _ _ _ _
      | exact ih1 _ _ _
      | exact ih2 _ _ _ _ _ _ _
      | exact kilnlaw11_Told.mono _
      | exact kilnlaw11_many.mono _ _ _
      | exact token_Tokens.mono _ _
      | exact LeO.none _
      | refine LeO.ite ?_ ?_
      | refine LeO.bind ?_ (fun _ => ?_)
theorem kilnlaw11_TokenFirst.mono : ∀ a0 a1 a2 k, LeO (kilnlaw11_TokenFirst.f k a0 a1 a2) (kilnlaw11_TokenFirst.f (k + 1) a0 a1 a2) := by
  intro a0 a1 a2 k
  obtain ⟨ih0, ih1, ih2⟩ := kilnlaw11_TokenFirst.mono_l k
  unfold kilnlaw11_TokenFirst.f
  repeat' first
      | (with_reducible exact ih0 _ _ _ _)
      | (with_reducible exact ih1 _ _ _)
      | (with_reducible exact ih2 _ _ _ _ _ _ _)
      | (with_reducible exact kilnlaw11_Told.mono _)
      | (with_reducible exact kilnlaw11_many.mono _ _ _)
      | (with_reducible exact token_Tokens.mono _ _)
      | (with_reducible exact LeO.refl _)
      | (with_reducible exact LeO.none _)
      | (with_reducible refine LeO.ite ?_ ?_)
      | (with_reducible refine LeO.bind ?_ (fun _ => ?_))
      | exact ih0 _ _ _ _
      | exact ih1 _ _ _
      | exact ih2 _ _ _ _ _ _ _
      | exact kilnlaw11_Told.mono _
      | exact kilnlaw11_many.mono _ _ _
      | exact token_Tokens.mono _ _
      | exact LeO.none _
      | refine LeO.ite ?_ ?_
      | refine LeO.bind ?_ (fun _ => ?_)
set_option maxHeartbeats 8000000 in
set_option maxRecDepth 100000 in
theorem kilnlaw11_TokenFirst.calls (k : Nat) (a0 : ByteArray) (a1 : ByteArray) (a2 : Int) (r : Bool) (w : World) (h : kilnlaw11_TokenFirst.f k a0 a1 a2 = some r) :
    Calls Try.prog 11 #[.string a0, .string a1, .int .i64 a2] w fun e w' => e = .returned (.bool r) ∧ Below w.heap.size w w' := by
  have HB := Aside0.mk (Below.refl w.heap.size w)
  have H : ((kilnlaw11_cut.f a0 3000).bind fun t395 => ((kilnlaw11_cut.f a1 3000).bind fun t396 => (if a2 < 0 then (kilnlaw11_TokenFirst.j0 k t395 t396 a2 true) else (kilnlaw11_TokenFirst.j0 k t395 t396 a2 (decide (a2 > 50)))))) = some r := h
  clear h
  replace H := Option.bind_eq_some_iff.mp H
  obtain ⟨t395, A40, H⟩ := H
  replace H : ((kilnlaw11_cut.f a1 3000).bind fun t396 => (if a2 < 0 then (kilnlaw11_TokenFirst.j0 k t395 t396 a2 true) else (kilnlaw11_TokenFirst.j0 k t395 t396 a2 (decide (a2 > 50))))) = some r := H
  have A4 := Aside0.mk A40
  clear A40
  replace H := Option.bind_eq_some_iff.mp H
  obtain ⟨t396, A50, H⟩ := H
  replace H : (if a2 < 0 then (kilnlaw11_TokenFirst.j0 k t395 t396 a2 true) else (kilnlaw11_TokenFirst.j0 k t395 t396 a2 (decide (a2 > 50)))) = some r := H
  have A5 := Aside0.mk A50
  clear A50
  have HC6 := Aside0.mk H
  clear H
  go_enter Try.func11, Try.ntmps11
  go_upto_region 2 with (first | ((with_reducible refine gate_callee (f := 16) rfl ?_); refine goesL_ (some 16) rfl rfl Try.func16 (by kernel_rfl) rfl #[.string a0, .int .i64 3000] rfl (by (try simp only [List.map_toArray, List.map_cons, List.map_nil]); first | done | rfl | (simp only [List.length_drop, List.length_take]; rfl)) ?_; (with_reducible refine (kilnlaw11_cut.calls a0 3000 t395 _ A4.out).mono ?_); rintro e w' ⟨rfl, ⟨nd, rfl⟩⟩; refine ⟨_, rfl, ?_⟩) | ((with_reducible refine gate_callee (f := 16) rfl ?_); refine goesL_ (some 18) rfl rfl Try.func16 (by kernel_rfl) rfl #[.string a1, .int .i64 3000] rfl (by (try simp only [List.map_toArray, List.map_cons, List.map_nil]); first | done | rfl | (simp only [List.length_drop, List.length_take]; rfl)) ?_; (with_reducible refine (kilnlaw11_cut.calls a1 3000 t396 _ A5.out).mono ?_); rintro e w' ⟨rfl, ⟨nd, rfl⟩⟩; refine ⟨_, rfl, ?_⟩))
  (try simp only [Act.put, List.setIfInBounds_toArray, List.set_cons_zero, List.set_cons_succ])
  go_cut [24] (fun v24 wc => ∃ (kq : Nat) (x24_5 : Bool), v24 = .bool x24_5 ∧ Aside0 (kilnlaw11_TokenFirst.j0 kq t395 t396 a2 x24_5 = some r) ∧ Aside0 (kq ≤ k) ∧ Aside0 (Below w.heap.size w wc))
  case first =>
    have H := HC6.out
    clear HC6
    by_cases c7 : a2 < 0
    · rw [if_pos c7] at H
      have c7b0 : decide (a2 < 0) = true := decide_eq_true c7
      clear c7
      (first | rw [c7b0] | (simp only [i64_w, i32_w]; rw [c7b0]) | skip)
      have H' := Aside0.mk H
      clear H
      go_wp2
      go_meet
      case rel => exact ⟨_, (true), (by first | rfl | (simp; done) | (simp [*]; done)), H', ⟨by first | omega | exact Nat.le_refl _⟩, ⟨by repeat (first | (with_reducible first | exact HB.out | apply below_alloc | apply pw_below_drewN | apply below_drew1) | exact HB.out)⟩⟩
    · rw [if_neg c7] at H
      have c7b0 : decide (a2 < 0) = false := decide_eq_false c7
      clear c7
      (first | rw [c7b0] | (simp only [i64_w, i32_w]; rw [c7b0]) | skip)
      have H' := Aside0.mk H
      clear H
      go_wp2
      go_meet
      case rel => exact ⟨_, (decide (a2 > 50)), (by first | rfl | (simp; done) | (simp [*]; done)), H', ⟨by first | omega | exact Nat.le_refl _⟩, ⟨by repeat (first | (with_reducible first | exact HB.out | apply below_alloc | apply pw_below_drewN | apply below_drew1) | exact HB.out)⟩⟩
  case rest =>
    clear HC6
    try clear c1
    try clear p2
    try clear c7
    try clear c7b0
    obtain ⟨kq, x24_5, rfl, HA, HJ5, HB⟩ := hcut
    cases kq with
    | zero => exact absurd HA.out (by simp [kilnlaw11_TokenFirst.j0])
    | succ kj5 =>
      have H := HA.out
      clear HA
      simp only [kilnlaw11_TokenFirst.j0] at H
      have HC8 := Aside0.mk H
      clear H
      go_upto_if 24 with (fail)
      go_cut [2] (fun v2 wc => ∃ (kq : Nat) (x2_7 : Int), v2 = .int .i64 x2_7 ∧ Aside0 (kilnlaw11_TokenFirst.j1 kq t395 t396 x2_7 = some r) ∧ Aside0 (kq ≤ kj5) ∧ Aside0 (Below w.heap.size w wc))
      case first =>
        have H := HC8.out
        clear HC8
        by_cases c9 : x24_5 = true
        · subst c9
          have H1 : (kilnlaw11_TokenFirst.j1 kj5 t395 t396 3) = some r := by rw [if_pos rfl] at H; exact H
          clear H
          have H := H1
          clear H1
          have H' := Aside0.mk H
          clear H
          go_wp2
          go_meet
          case rel => exact ⟨_, (3), (by first | rfl | (simp; done) | (simp [*]; done)), H', ⟨by have := HJ5.out; first | omega | exact Nat.le_refl _⟩, ⟨by repeat (first | (with_reducible first | exact HB.out | apply below_alloc | apply pw_below_drewN | apply below_drew1) | exact HB.out)⟩⟩
        · replace c9 := Bool.eq_false_iff.mpr c9
          subst c9
          have H1 : (kilnlaw11_TokenFirst.j1 kj5 t395 t396 a2) = some r := by rw [if_neg (show ¬ (false = true) by decide)] at H; exact H
          clear H
          have H := H1
          clear H1
          have H' := Aside0.mk H
          clear H
          go_wp2
          go_meet
          case rel => exact ⟨_, (a2), (by first | rfl | (simp; done) | (simp [*]; done)), H', ⟨by have := HJ5.out; first | omega | exact Nat.le_refl _⟩, ⟨by repeat (first | (with_reducible first | exact HB.out | apply below_alloc | apply pw_below_drewN | apply below_drew1) | exact HB.out)⟩⟩
      case rest =>
        clear HC8
        try clear c1
        try clear p2
        try clear c7
        try clear c7b0
        try clear c9
        try clear p2
        obtain ⟨kq, x2_7, rfl, HA, HJ7, HB⟩ := hcut
        cases kq with
        | zero => exact absurd HA.out (by simp [kilnlaw11_TokenFirst.j1])
        | succ kj7 =>
          have H := HA.out
          clear HA
          simp only [kilnlaw11_TokenFirst.j1] at H
          replace H := Option.bind_eq_some_iff.mp H
          obtain ⟨⟨t397, t398, t399, t400⟩, A100, H⟩ := H
          replace H : ((kilnlaw11_Told.f kj7).bind fun t403 => (if t403 = true then (kilnlaw11_TokenFirst.j2 kj7 t395 t396 x2_7 t398 t399 t400 (t398 == 0)) else (kilnlaw11_TokenFirst.j2 kj7 t395 t396 x2_7 t398 t399 t400 true))) = some r := H
          have A10 := Aside0.mk A100
          clear A100
          have HC11 := Aside0.mk H
          clear H
          go_upto_region 5 with (first | ((with_reducible refine gate_callee (f := 22) rfl ?_); refine goesL_ (some 27) rfl rfl Try.func22 (by kernel_rfl) rfl #[.string t395] rfl (by (try simp only [List.map_toArray, List.map_cons, List.map_nil]); first | done | rfl | (simp only [List.length_drop, List.length_take]; rfl)) ?_; (with_reducible refine (token_Tokens.calls kj7 t395 t397 t398 t399 t400 _ A10.out).mono ?_); rintro e w12 ⟨v401, rfl, ho0, hb⟩; refine ⟨_, rfl, ?_⟩; have n0_ := Aside0.mk (Kd.R_lower ho0 (below_size (by repeat (first | (with_reducible first | exact HB.out | apply below_alloc | apply pw_below_drewN | apply below_drew1) | exact HB.out)))); have n1_ := Aside0.mk (below_step (by repeat (first | (with_reducible first | exact HB.out | apply below_alloc | apply pw_below_drewN | apply below_drew1) | exact HB.out)) hb); clear HB; have HO402 := n0_; have HB := n1_; clear n0_ n1_; (try clear hb); (try clear hb2); (try clear hk); (try clear hi); (try clear ho0)))
          (try simp only [Act.put, List.setIfInBounds_toArray, List.set_cons_zero, List.set_cons_succ])
          go_cut [37] (fun v37 wc => ∃ (kq : Nat) (x37_10 : Bool), v37 = .bool x37_10 ∧ Aside0 (kilnlaw11_TokenFirst.j2 kq t395 t396 x2_7 t398 t399 t400 x37_10 = some r) ∧ Aside0 (kq ≤ kj7) ∧ Aside0 (Below w.heap.size w wc))
          case first =>
            have H := HC11.out
            clear HC11
            replace H := Option.bind_eq_some_iff.mp H
            obtain ⟨t403, A130, H⟩ := H
            replace H : (if t403 = true then (kilnlaw11_TokenFirst.j2 kj7 t395 t396 x2_7 t398 t399 t400 (t398 == 0)) else (kilnlaw11_TokenFirst.j2 kj7 t395 t396 x2_7 t398 t399 t400 true)) = some r := H
            have A13 := Aside0.mk A130
            clear A130
            by_cases c14 : t403 = true
            · subst c14
              have H1 : (kilnlaw11_TokenFirst.j2 kj7 t395 t396 x2_7 t398 t399 t400 (t398 == 0)) = some r := by rw [if_pos rfl] at H; exact H
              clear H
              have H := H1
              clear H1
              have H' := Aside0.mk H
              clear H
              go_wp2_with (first | ((with_reducible refine gate_callee (f := 14) rfl ?_); refine goesL_ (some 32) rfl rfl Try.func14 (by kernel_rfl) rfl #[] rfl (by (try simp only [List.map_toArray, List.map_cons, List.map_nil]); first | done | rfl | (simp only [List.length_drop, List.length_take]; rfl)) ?_; (with_reducible refine (kilnlaw11_Told.calls kj7  true _ A13.out).mono ?_); rintro e w15 ⟨rfl, hb⟩; refine ⟨_, rfl, ?_⟩; have n0_ := Aside0.mk (Kd.R_below (by (with_reducible repeat (first | apply Kd.R_alloc | apply Kd.R_drewN | apply Kd.R_drew)); exact HO402.out) hb); have n1_ := Aside0.mk (below_step (by repeat (first | (with_reducible first | exact HB.out | apply below_alloc | apply pw_below_drewN | apply below_drew1) | exact HB.out)) hb); clear HO402; clear HB; have HO402 := n0_; have HB := n1_; clear n0_ n1_; (try clear hb); (try clear hb2); (try clear hk); (try clear hi)))
              go_meet
              case rel => exact ⟨_, ((t398 == 0)), (by first | rfl | (simp; done) | (simp [*]; done)), H', ⟨by have := HJ5.out; have := HJ7.out; first | omega | exact Nat.le_refl _⟩, ⟨by repeat (first | (with_reducible first | exact HB.out | apply below_alloc | apply pw_below_drewN | apply below_drew1) | exact HB.out)⟩⟩
            · replace c14 := Bool.eq_false_iff.mpr c14
              subst c14
              have H1 : (kilnlaw11_TokenFirst.j2 kj7 t395 t396 x2_7 t398 t399 t400 true) = some r := by rw [if_neg (show ¬ (false = true) by decide)] at H; exact H
              clear H
              have H := H1
              clear H1
              have H' := Aside0.mk H
              clear H
              go_wp2_with (first | ((with_reducible refine gate_callee (f := 14) rfl ?_); refine goesL_ (some 32) rfl rfl Try.func14 (by kernel_rfl) rfl #[] rfl (by (try simp only [List.map_toArray, List.map_cons, List.map_nil]); first | done | rfl | (simp only [List.length_drop, List.length_take]; rfl)) ?_; (with_reducible refine (kilnlaw11_Told.calls kj7  false _ A13.out).mono ?_); rintro e w16 ⟨rfl, hb⟩; refine ⟨_, rfl, ?_⟩; have n0_ := Aside0.mk (Kd.R_below (by (with_reducible repeat (first | apply Kd.R_alloc | apply Kd.R_drewN | apply Kd.R_drew)); exact HO402.out) hb); have n1_ := Aside0.mk (below_step (by repeat (first | (with_reducible first | exact HB.out | apply below_alloc | apply pw_below_drewN | apply below_drew1) | exact HB.out)) hb); clear HO402; clear HB; have HO402 := n0_; have HB := n1_; clear n0_ n1_; (try clear hb); (try clear hb2); (try clear hk); (try clear hi)))
              go_meet
              case rel => exact ⟨_, (true), (by first | rfl | (simp; done) | (simp [*]; done)), H', ⟨by have := HJ5.out; have := HJ7.out; first | omega | exact Nat.le_refl _⟩, ⟨by repeat (first | (with_reducible first | exact HB.out | apply below_alloc | apply pw_below_drewN | apply below_drew1) | exact HB.out)⟩⟩
          case rest =>
            clear HC11
            try clear c1
            try clear c2
            try clear p2
            try clear c7
            try clear c7b0
            try clear c9
            try clear c11
            try clear c14
            try clear c16
            try clear p2
            obtain ⟨kq, x37_10, rfl, HA, HJ10, HB⟩ := hcut
            cases kq with
            | zero => exact absurd HA.out (by simp [kilnlaw11_TokenFirst.j2])
            | succ kj10 =>
              have H := HA.out
              clear HA
              simp only [kilnlaw11_TokenFirst.j2] at H
              by_cases c17 : x37_10 = true
              · subst c17
                have H1 : ((kilnlaw11_Told.f kj10).bind fun t404 => (some t404)) = some r := by rw [if_pos rfl] at H; exact H
                clear H
                have H := H1
                clear H1
                replace H := Option.bind_eq_some_iff.mp H
                obtain ⟨t404, A180, H⟩ := H
                replace H : (some t404) = some r := H
                have A18 := Aside0.mk A180
                clear A180
                obtain rfl := Option.some.inj H
                go_wp2_with (first | ((with_reducible refine gate_callee (f := 14) rfl ?_); refine goesL_ (some 38) rfl rfl Try.func14 (by kernel_rfl) rfl #[] rfl (by (try simp only [List.map_toArray, List.map_cons, List.map_nil]); first | done | rfl | (simp only [List.length_drop, List.length_take]; rfl)) ?_; (with_reducible refine (kilnlaw11_Told.calls kj10  t404 _ A18.out).mono ?_); rintro e w19 ⟨rfl, hb⟩; refine ⟨_, rfl, ?_⟩; have n0_ := Aside0.mk (below_step (by repeat (first | (with_reducible first | exact HB.out | apply below_alloc | apply pw_below_drewN | apply below_drew1) | exact HB.out)) hb); clear HB; have HB := n0_; clear n0_; (try clear hb); (try clear hb2); (try clear hk); (try clear hi)))
                go_ret
                exact ⟨by first | rfl | (simp [errW_none, errW_some] <;> rfl) | (simp [*, errW_none, errW_some] <;> rfl), by repeat (first | (with_reducible first | exact HB.out | apply below_alloc | apply pw_below_drewN | apply below_drew1) | exact HB.out)⟩
              · replace c17 := Bool.eq_false_iff.mpr c17
                subst c17
                have H1 : ((kilnlaw11_many.f kj10 (⟨#[32, 35, 10]⟩ : ByteArray) x2_7).bind fun t405 => (if t405.size + t395.size ≤ 9223372036854775807 then (if (t405 ++ t395).size + 1 ≤ 9223372036854775807 then (if ((t405 ++ t395) ++ (⟨#[10]⟩ : ByteArray)).size + t396.size ≤ 9223372036854775807 then ((token_Tokens.f kj10 (((t405 ++ t395) ++ (⟨#[10]⟩ : ByteArray)) ++ t396)).bind fun bt406 => (if bt406.2.1 = t398 then (if bt406.2.2.1 = (wrap64 (t399 + x2_7)) then (some (bt406.2.2.2 == t400)) else (some false)) else (some false))) else (none)) else (none)) else (none))) = some r := by rw [if_neg (show ¬ (false = true) by decide)] at H; exact H
                clear H
                have H := H1
                clear H1
                replace H := Option.bind_eq_some_iff.mp H
                obtain ⟨t405, A200, H⟩ := H
                replace H : (if t405.size + t395.size ≤ 9223372036854775807 then (if (t405 ++ t395).size + 1 ≤ 9223372036854775807 then (if ((t405 ++ t395) ++ (⟨#[10]⟩ : ByteArray)).size + t396.size ≤ 9223372036854775807 then ((token_Tokens.f kj10 (((t405 ++ t395) ++ (⟨#[10]⟩ : ByteArray)) ++ t396)).bind fun bt406 => (if bt406.2.1 = t398 then (if bt406.2.2.1 = (wrap64 (t399 + x2_7)) then (some (bt406.2.2.2 == t400)) else (some false)) else (some false))) else (none)) else (none)) else (none)) = some r := H
                have A20 := Aside0.mk A200
                clear A200
                by_cases c21 : t405.size + t395.size ≤ 9223372036854775807
                · rw [if_pos c21] at H
                  have c21b0 := eq_true c21
                  have c21b1 : decide (t405.size + t395.size ≤ 9223372036854775807) = true := decide_eq_true c21
                  try have c21b2 : (9223372036854775807 < t405.size + t395.size) = False := eq_false (Nat.not_lt.2 c21)
                  by_cases c22 : (t405 ++ t395).size + 1 ≤ 9223372036854775807
                  · rw [if_pos c22] at H
                    have c22b0 := eq_true c22
                    have c22b1 : decide ((t405 ++ t395).size + 1 ≤ 9223372036854775807) = true := decide_eq_true c22
                    try have c22b2 : (9223372036854775807 < (t405 ++ t395).size + 1) = False := eq_false (Nat.not_lt.2 c22)
                    try have c22b3 : (9223372036854775807 < t405.size + t395.size + 1) = False := eq_false (by have h_ := c22; simp only [ByteArray.size_append] at h_; exact Nat.not_lt.2 h_)
                    try have c22b4 : decide (t405.size + t395.size + 1 ≤ 9223372036854775807) = true := decide_eq_true (by have h_ := c22; simp only [ByteArray.size_append] at h_; exact h_)
                    by_cases c23 : ((t405 ++ t395) ++ (⟨#[10]⟩ : ByteArray)).size + t396.size ≤ 9223372036854775807
                    · rw [if_pos c23] at H
                      have c23b0 := eq_true c23
                      have c23b1 : decide (((t405 ++ t395) ++ (⟨#[10]⟩ : ByteArray)).size + t396.size ≤ 9223372036854775807) = true := decide_eq_true c23
                      try have c23b2 : (9223372036854775807 < ((t405 ++ t395) ++ (⟨#[10]⟩ : ByteArray)).size + t396.size) = False := eq_false (Nat.not_lt.2 c23)
                      try have c23b3 : (9223372036854775807 < t405.size + t395.size + 1 + t396.size) = False := eq_false (by have h_ := c23; simp only [ByteArray.size_append] at h_; exact Nat.not_lt.2 h_)
                      try have c23b4 : decide (t405.size + t395.size + 1 + t396.size ≤ 9223372036854775807) = true := decide_eq_true (by have h_ := c23; simp only [ByteArray.size_append] at h_; exact h_)
                      replace H := Option.bind_eq_some_iff.mp H
                      obtain ⟨⟨t406, t407, t408, t409⟩, A240, H⟩ := H
                      replace H : (if t407 = t398 then (if t408 = (wrap64 (t399 + x2_7)) then (some (t409 == t400)) else (some false)) else (some false)) = some r := H
                      have A24 := Aside0.mk A240
                      clear A240
                      by_cases c25 : t407 = t398
                      · rw [if_pos c25] at H
                        have c25b0 : (t407 == t398) = true := beq_iff_eq.mpr c25
                        have c25b1 : (t407 != t398) = false := bne_eq_false_iff_eq.mpr c25
                        clear c25
                        by_cases c26 : t408 = (wrap64 (t399 + x2_7))
                        · rw [if_pos c26] at H
                          have c26b0 : (t408 == (wrap64 (t399 + x2_7))) = true := beq_iff_eq.mpr c26
                          have c26b1 : (t408 != (wrap64 (t399 + x2_7))) = false := bne_eq_false_iff_eq.mpr c26
                          clear c26
                          obtain rfl := Option.some.inj H
                          go_wp2_with (first | ((with_reducible refine gate_callee (f := 20) rfl ?_); refine goesL_ (some 41) rfl rfl Try.func20 (by kernel_rfl) rfl #[.string (⟨#[32, 35, 10]⟩ : ByteArray), .int .i64 x2_7] rfl (by (try simp only [List.map_toArray, List.map_cons, List.map_nil]); first | done | rfl | (simp only [List.length_drop, List.length_take]; rfl)) ?_; (with_reducible refine (kilnlaw11_many.calls kj10 (⟨#[32, 35, 10]⟩ : ByteArray) x2_7 t405 _ A20.out).mono ?_); rintro e w27 ⟨rfl, hb⟩; refine ⟨_, rfl, ?_⟩; have n0_ := Aside0.mk (below_step (by repeat (first | (with_reducible first | exact HB.out | apply below_alloc | apply pw_below_drewN | apply below_drew1) | exact HB.out)) hb); clear HB; have HB := n0_; clear n0_; (try clear hb); (try clear hb2); (try clear hk); (try clear hi)) | ((with_reducible refine gate_callee (f := 22) rfl ?_); refine goesL_ (some 47) rfl rfl Try.func22 (by kernel_rfl) rfl #[.string (((t405 ++ t395) ++ (⟨#[10]⟩ : ByteArray)) ++ t396)] rfl (by (try simp only [List.map_toArray, List.map_cons, List.map_nil]); first | done | rfl | (simp only [List.length_drop, List.length_take]; rfl)) ?_; (with_reducible refine (token_Tokens.calls kj10 (((t405 ++ t395) ++ (⟨#[10]⟩ : ByteArray)) ++ t396) t406 t407 t408 t409 _ A24.out).mono ?_); rintro e w28 ⟨v410, rfl, ho0, hb⟩; refine ⟨_, rfl, ?_⟩; have n0_ := Aside0.mk (Kd.R_lower ho0 (below_size (by repeat (first | (with_reducible first | exact HB.out | apply below_alloc | apply pw_below_drewN | apply below_drew1) | exact HB.out)))); have n1_ := Aside0.mk (below_step (by repeat (first | (with_reducible first | exact HB.out | apply below_alloc | apply pw_below_drewN | apply below_drew1) | exact HB.out)) hb); clear HB; have HO411 := n0_; have HB := n1_; clear n0_ n1_; (try clear hb); (try clear hb2); (try clear hk); (try clear hi); (try clear ho0)))
                          go_ret
                          exact ⟨by first | rfl | (simp [errW_none, errW_some] <;> rfl) | (simp [*, errW_none, errW_some] <;> rfl), by repeat (first | (with_reducible first | exact HB.out | apply below_alloc | apply pw_below_drewN | apply below_drew1) | exact HB.out)⟩
                        · rw [if_neg c26] at H
                          have c26b0 : (t408 == (wrap64 (t399 + x2_7))) = false := beq_eq_false_iff_ne.mpr c26
                          have c26b1 : (t408 != (wrap64 (t399 + x2_7))) = true := bne_iff_ne.mpr c26
                          obtain rfl := Option.some.inj H
                          go_wp2_with (first | ((with_reducible refine gate_callee (f := 20) rfl ?_); refine goesL_ (some 41) rfl rfl Try.func20 (by kernel_rfl) rfl #[.string (⟨#[32, 35, 10]⟩ : ByteArray), .int .i64 x2_7] rfl (by (try simp only [List.map_toArray, List.map_cons, List.map_nil]); first | done | rfl | (simp only [List.length_drop, List.length_take]; rfl)) ?_; (with_reducible refine (kilnlaw11_many.calls kj10 (⟨#[32, 35, 10]⟩ : ByteArray) x2_7 t405 _ A20.out).mono ?_); rintro e w29 ⟨rfl, hb⟩; refine ⟨_, rfl, ?_⟩; have n0_ := Aside0.mk (below_step (by repeat (first | (with_reducible first | exact HB.out | apply below_alloc | apply pw_below_drewN | apply below_drew1) | exact HB.out)) hb); clear HB; have HB := n0_; clear n0_; (try clear hb); (try clear hb2); (try clear hk); (try clear hi)) | ((with_reducible refine gate_callee (f := 22) rfl ?_); refine goesL_ (some 47) rfl rfl Try.func22 (by kernel_rfl) rfl #[.string (((t405 ++ t395) ++ (⟨#[10]⟩ : ByteArray)) ++ t396)] rfl (by (try simp only [List.map_toArray, List.map_cons, List.map_nil]); first | done | rfl | (simp only [List.length_drop, List.length_take]; rfl)) ?_; (with_reducible refine (token_Tokens.calls kj10 (((t405 ++ t395) ++ (⟨#[10]⟩ : ByteArray)) ++ t396) t406 t407 t408 t409 _ A24.out).mono ?_); rintro e w30 ⟨v410, rfl, ho0, hb⟩; refine ⟨_, rfl, ?_⟩; have n0_ := Aside0.mk (Kd.R_lower ho0 (below_size (by repeat (first | (with_reducible first | exact HB.out | apply below_alloc | apply pw_below_drewN | apply below_drew1) | exact HB.out)))); have n1_ := Aside0.mk (below_step (by repeat (first | (with_reducible first | exact HB.out | apply below_alloc | apply pw_below_drewN | apply below_drew1) | exact HB.out)) hb); clear HB; have HO411 := n0_; have HB := n1_; clear n0_ n1_; (try clear hb); (try clear hb2); (try clear hk); (try clear hi); (try clear ho0)))
                          go_ret
                          exact ⟨by first | rfl | (simp [errW_none, errW_some] <;> rfl) | (simp [*, errW_none, errW_some] <;> rfl), by repeat (first | (with_reducible first | exact HB.out | apply below_alloc | apply pw_below_drewN | apply below_drew1) | exact HB.out)⟩
                      · rw [if_neg c25] at H
                        have c25b0 : (t407 == t398) = false := beq_eq_false_iff_ne.mpr c25
                        have c25b1 : (t407 != t398) = true := bne_iff_ne.mpr c25
                        obtain rfl := Option.some.inj H
                        go_wp2_with (first | ((with_reducible refine gate_callee (f := 20) rfl ?_); refine goesL_ (some 41) rfl rfl Try.func20 (by kernel_rfl) rfl #[.string (⟨#[32, 35, 10]⟩ : ByteArray), .int .i64 x2_7] rfl (by (try simp only [List.map_toArray, List.map_cons, List.map_nil]); first | done | rfl | (simp only [List.length_drop, List.length_take]; rfl)) ?_; (with_reducible refine (kilnlaw11_many.calls kj10 (⟨#[32, 35, 10]⟩ : ByteArray) x2_7 t405 _ A20.out).mono ?_); rintro e w31 ⟨rfl, hb⟩; refine ⟨_, rfl, ?_⟩; have n0_ := Aside0.mk (below_step (by repeat (first | (with_reducible first | exact HB.out | apply below_alloc | apply pw_below_drewN | apply below_drew1) | exact HB.out)) hb); clear HB; have HB := n0_; clear n0_; (try clear hb); (try clear hb2); (try clear hk); (try clear hi)) | ((with_reducible refine gate_callee (f := 22) rfl ?_); refine goesL_ (some 47) rfl rfl Try.func22 (by kernel_rfl) rfl #[.string (((t405 ++ t395) ++ (⟨#[10]⟩ : ByteArray)) ++ t396)] rfl (by (try simp only [List.map_toArray, List.map_cons, List.map_nil]); first | done | rfl | (simp only [List.length_drop, List.length_take]; rfl)) ?_; (with_reducible refine (token_Tokens.calls kj10 (((t405 ++ t395) ++ (⟨#[10]⟩ : ByteArray)) ++ t396) t406 t407 t408 t409 _ A24.out).mono ?_); rintro e w32 ⟨v410, rfl, ho0, hb⟩; refine ⟨_, rfl, ?_⟩; have n0_ := Aside0.mk (Kd.R_lower ho0 (below_size (by repeat (first | (with_reducible first | exact HB.out | apply below_alloc | apply pw_below_drewN | apply below_drew1) | exact HB.out)))); have n1_ := Aside0.mk (below_step (by repeat (first | (with_reducible first | exact HB.out | apply below_alloc | apply pw_below_drewN | apply below_drew1) | exact HB.out)) hb); clear HB; have HO411 := n0_; have HB := n1_; clear n0_ n1_; (try clear hb); (try clear hb2); (try clear hk); (try clear hi); (try clear ho0)))
                        go_ret
                        exact ⟨by first | rfl | (simp [errW_none, errW_some] <;> rfl) | (simp [*, errW_none, errW_some] <;> rfl), by repeat (first | (with_reducible first | exact HB.out | apply below_alloc | apply pw_below_drewN | apply below_drew1) | exact HB.out)⟩
                    · rw [if_neg c23] at H
                      exact absurd H (by simp)
                  · rw [if_neg c22] at H
                    exact absurd H (by simp)
                · rw [if_neg c21] at H
                  exact absurd H (by simp)

/-- THE ONE PURE STATEMENT of kilnlaw11_TokenFirst: yours. -/
def kilnlaw11_TokenFirst.Pure : Prop := ∀ (a0 : ByteArray) (a1 : ByteArray) (a2 : Int), a0.size ≤ 140737488351232 → a1.size ≤ 140737488351232 → (Lit.int .i64 a2).wf = true → ∃ k, kilnlaw11_TokenFirst.f k a0 a1 a2 = some true
theorem kilnlaw11_TokenFirst.walk (P : kilnlaw11_TokenFirst.Pure) (a0 : ByteArray) (a1 : ByteArray) (a2 : Int) (w : World) (w0 : a0.size ≤ 140737488351232) (w1 : a1.size ≤ 140737488351232) (w2 : (Lit.int .i64 a2).wf = true) :
    Calls Try.prog 11 #[.string a0, .string a1, .int .i64 a2] w fun e w' => e = .returned (.bool true) ∧ Below w.heap.size w w' := by
  obtain ⟨k, h⟩ := P a0 a1 a2 w0 w1 w2
  refine (kilnlaw11_TokenFirst.calls k a0 a1 a2 true w h).mono ?_
  rintro e w' ⟨rfl, hd⟩
  exact ⟨rfl, hd⟩

/-! ### kilnlaw11_Laid: function 26 -/
def kilnlaw11_Laid.f (l0 : List (S27)) : Option ((List (S27))) := if ([] : List (S27)).length + l0.length < 3518437208883 then ((some (([] : List (S27)) ++ l0 : List (S27))).bind fun y412 => ((some (([(⟨(-1), (⟨#[]⟩ : ByteArray), 0, 0⟩ : S27), (⟨(-2), (⟨#[]⟩ : ByteArray), 0, 0⟩ : S27), (⟨(-3), (⟨#[]⟩ : ByteArray), 0, 0⟩ : S27)] : List (S27)) : List (S27))).bind fun y415 => (if y412.length + y415.length < 3518437208883 then ((some (y412 ++ y415 : List (S27))).bind fun y418 => (if 0 ≤ (l0.length : Int) then (if (l0.length : Int) ≤ (y418.length : Int) then (some (y418.take ((l0.length : Int) : Int).toNat)) else (none)) else (none))) else (none)))) else (none)
set_option maxHeartbeats 8000000 in
set_option maxRecDepth 100000 in
theorem kilnlaw11_Laid.calls (A0 : Option Addr) (c0 : Nat) (l0 : List (S27)) (r : List (S27)) (w : World) (hr0 : Kd.C k27 w A0 l0.length l0) (hc0 : l0.length ≤ c0) (h : kilnlaw11_Laid.f l0 = some r) :
    Calls Try.prog 26 #[.slice A0 l0.length c0] w fun e w' => ∃ v0_ : Value, e = .returned (v0_) ∧ Kd.R k27 27 w' w.heap.size (fun _ => True) v0_ r ∧ Below w.heap.size w w' := by
  have hu27 := Try.underlying27
  have HR0 := Aside0.mk hr0
  have HC0 := Aside0.mk hc0
  clear hr0 hc0
  have HB := Aside0.mk (Below.refl w.heap.size w)
  have H : (if ([] : List (S27)).length + l0.length < 3518437208883 then ((some (([] : List (S27)) ++ l0 : List (S27))).bind fun y412 => ((some (([(⟨(-1), (⟨#[]⟩ : ByteArray), 0, 0⟩ : S27), (⟨(-2), (⟨#[]⟩ : ByteArray), 0, 0⟩ : S27), (⟨(-3), (⟨#[]⟩ : ByteArray), 0, 0⟩ : S27)] : List (S27)) : List (S27))).bind fun y415 => (if y412.length + y415.length < 3518437208883 then ((some (y412 ++ y415 : List (S27))).bind fun y418 => (if 0 ≤ (l0.length : Int) then (if (l0.length : Int) ≤ (y418.length : Int) then (some (y418.take ((l0.length : Int) : Int).toNat)) else (none)) else (none))) else (none)))) else (none)) = some r := h
  clear h
  by_cases c2 : ([] : List (S27)).length + l0.length < 3518437208883
  · rw [if_pos c2] at H
    have LMc2 := Aside0.mk c2
    clear c2
    obtain ⟨y412, hy412⟩ : ∃ y_ : List (S27), y_ = (([] : List (S27)) ++ l0) := ⟨_, rfl⟩
    replace H : ((some (([(⟨(-1), (⟨#[]⟩ : ByteArray), 0, 0⟩ : S27), (⟨(-2), (⟨#[]⟩ : ByteArray), 0, 0⟩ : S27), (⟨(-3), (⟨#[]⟩ : ByteArray), 0, 0⟩ : S27)] : List (S27)) : List (S27))).bind fun y415 => (if y412.length + y415.length < 3518437208883 then ((some (y412 ++ y415 : List (S27))).bind fun y418 => (if 0 ≤ (l0.length : Int) then (if (l0.length : Int) ≤ (y418.length : Int) then (some (y418.take ((l0.length : Int) : Int).toNat)) else (none)) else (none))) else (none))) = some r := by first | (rw [hy412]; with_reducible exact H) | (have H2_ := (Option.bind_some _ _).symm.trans H; rw [hy412]; with_reducible exact H2_) | (have H2_ := (Option.bind_some _ _).symm.trans H; with_reducible exact H2_) | with_reducible exact H | (rw [hy412]; exact H) | exact H
    have Ny412 := Aside0.mk hy412
    clear hy412
    obtain ⟨y415, hy415⟩ : ∃ y_ : List (S27), y_ = (([(⟨(-1), (⟨#[]⟩ : ByteArray), 0, 0⟩ : S27), (⟨(-2), (⟨#[]⟩ : ByteArray), 0, 0⟩ : S27), (⟨(-3), (⟨#[]⟩ : ByteArray), 0, 0⟩ : S27)] : List (S27))) := ⟨_, rfl⟩
    replace H : (if y412.length + y415.length < 3518437208883 then ((some (y412 ++ y415 : List (S27))).bind fun y418 => (if 0 ≤ (l0.length : Int) then (if (l0.length : Int) ≤ (y418.length : Int) then (some (y418.take ((l0.length : Int) : Int).toNat)) else (none)) else (none))) else (none)) = some r := by first | (rw [hy415]; with_reducible exact H) | (have H2_ := (Option.bind_some _ _).symm.trans H; rw [hy415]; with_reducible exact H2_) | (have H2_ := (Option.bind_some _ _).symm.trans H; with_reducible exact H2_) | with_reducible exact H | (rw [hy415]; exact H) | exact H
    have Ny415 := Aside0.mk hy415
    clear hy415
    by_cases c3 : y412.length + y415.length < 3518437208883
    · rw [if_pos c3] at H
      have LMc3 := Aside0.mk c3
      clear c3
      obtain ⟨y418, hy418⟩ : ∃ y_ : List (S27), y_ = (y412 ++ y415) := ⟨_, rfl⟩
      replace H : (if 0 ≤ (l0.length : Int) then (if (l0.length : Int) ≤ (y418.length : Int) then (some (y418.take ((l0.length : Int) : Int).toNat)) else (none)) else (none)) = some r := by first | (rw [hy418]; with_reducible exact H) | (have H2_ := (Option.bind_some _ _).symm.trans H; rw [hy418]; with_reducible exact H2_) | (have H2_ := (Option.bind_some _ _).symm.trans H; with_reducible exact H2_) | with_reducible exact H | (rw [hy418]; exact H) | exact H
      have Ny418 := Aside0.mk hy418
      clear hy418
      by_cases c4 : 0 ≤ (l0.length : Int)
      · rw [if_pos c4] at H
        have c4b0 := eq_true c4
        have c4b1 : decide (0 ≤ (l0.length : Int)) = true := decide_eq_true c4
        clear c4
        by_cases c5 : (l0.length : Int) ≤ (y418.length : Int)
        · rw [if_pos c5] at H
          have c5b0 := eq_true c5
          have c5b1 : decide ((l0.length : Int) ≤ (y418.length : Int)) = true := decide_eq_true c5
          clear c5
          obtain ⟨y421, hy421⟩ : ∃ y_ : List (S27), y_ = (y418.take ((l0.length : Int) : Int).toNat) := ⟨_, rfl⟩
          replace H : (some y421) = some r := by first | (rw [hy421]; with_reducible exact H) | (have H2_ := (Option.bind_some _ _).symm.trans H; rw [hy421]; with_reducible exact H2_) | (have H2_ := (Option.bind_some _ _).symm.trans H; with_reducible exact H2_) | with_reducible exact H | (rw [hy421]; exact H) | exact H
          have Ny421 := Aside0.mk hy421
          clear hy421
          obtain rfl := Option.some.inj H
          go_enter Try.func26, Try.ntmps26
          go_wp2_with (first | ((with_reducible refine gate_builtin (b := .append) (xs := #[.tmp 4, .tmp 5]) rfl ?_); at_builtin; refine Kd.R_append_rows k27 (w0 := w) w.heap.size rfl (.tmp 4) (.tmp 5) 25 27 (.agg #[(.int .i64 0), (.string ⟨#[]⟩), (.int .i64 0), (.int .i64 0)]) 40 rfl Try.underlying25 info27 rfl (by decide) (by omega) (.slice none 0 0) ([] : List (S27)) l0 _ _ _ (fun _ => True) (fun _ => False) rfl rfl ?aO ?aR (fun _ _ h => h) (fun _ h => h.elim) ?aF ?aB ?aS ?aL ?_; (case aR => repeat (first | exact HR0.out | (with_reducible refine Kd.C_alloc ?_ _) | (with_reducible refine Kd.C_drewN ?_ _) | (with_reducible refine Kd.C_drew ?_))); (case aB => exact (by repeat (first | (with_reducible first | exact HB.out | apply below_alloc | apply pw_below_drewN | apply below_drew1) | exact HB.out))); (case aF => exact (fun _ _ => trivial)); (case aO => exact ((Kd.R_nil _ _ _ _ (fun _ => True)))); (case aS => exact (below_size (by repeat (first | (with_reducible first | exact HB.out | apply below_alloc | apply pw_below_drewN | apply below_drew1) | exact HB.out)))); (case aL => have := LMc2.out; omega); intro v413 w6 ho hb hg hat; rw [← Ny412.out] at ho; have n0_ := Aside0.mk (hb); have n1_ := Aside0.mk (ho); clear HB; have HB := n0_; have HO414 := n1_; clear n0_ n1_; clear ho hb hg hat) | ((with_reducible refine gate_dst (N := 11) rfl ?_); refine Kd.R_lit k27 _ 27 ?hg (N := 11) ?hd (xs := ([(⟨(-1), (⟨#[]⟩ : ByteArray), 0, 0⟩ : S27), (⟨(-2), (⟨#[]⟩ : ByteArray), 0, 0⟩ : S27), (⟨(-3), (⟨#[]⟩ : ByteArray), 0, 0⟩ : S27)] : List (S27))) (inner := [.int .i64 (-1), .string (⟨#[]⟩ : ByteArray), .int .i64 0, .int .i64 0, .int .i64 (-2), .string (⟨#[]⟩ : ByteArray), .int .i64 0, .int .i64 0, .int .i64 (-3), .string (⟨#[]⟩ : ByteArray), .int .i64 0, .int .i64 0]) (ok := fun _ => True) (okp := fun _ => True) ?hr ?hp (fun _ hk => hk) trivial (Below.refl _ _) (Nat.le_refl _) (by simp) ?_; (case hd => rfl); (case hg => rfl); (case hr => first | (go_simp; done) | (go_simp; rfl)); (case hp => exact (Reps.c4 (show Kd.M k27 _ _ _ (⟨(-1), (⟨#[]⟩ : ByteArray), 0, 0⟩ : S27) [.int .i64 (-1), .string (⟨#[]⟩ : ByteArray), .int .i64 0, .int .i64 0] from (k27_mkM _ _ _ (⟨(-1), (⟨#[]⟩ : ByteArray), 0, 0⟩ : S27) )) (Reps.c4 (show Kd.M k27 _ _ _ (⟨(-2), (⟨#[]⟩ : ByteArray), 0, 0⟩ : S27) [.int .i64 (-2), .string (⟨#[]⟩ : ByteArray), .int .i64 0, .int .i64 0] from (k27_mkM _ _ _ (⟨(-2), (⟨#[]⟩ : ByteArray), 0, 0⟩ : S27) )) (Reps.c4 (show Kd.M k27 _ _ _ (⟨(-3), (⟨#[]⟩ : ByteArray), 0, 0⟩ : S27) [.int .i64 (-3), .string (⟨#[]⟩ : ByteArray), .int .i64 0, .int .i64 0] from (k27_mkM _ _ _ (⟨(-3), (⟨#[]⟩ : ByteArray), 0, 0⟩ : S27) )) (Reps.none _ _))))); intro v416 w7 ho8 hb hg_ hnew_; clear hg_ hnew_; (first | rw [← Ny415.out] at ho8 | (simp only [Int.reduceToNat] at ho8; rw [← Ny415.out] at ho8)); have n0_ := Aside0.mk (Kd.R_elder' (by (with_reducible repeat (first | apply Kd.R_alloc | apply Kd.R_drewN | apply Kd.R_drew)); exact HO414.out) (Kd.R_base ho8) hb); have n1_ := Aside0.mk (Kd.R_lower (Kd.R_new' ho8 (Kd.R_lt (by (with_reducible repeat (first | apply Kd.R_alloc | apply Kd.R_drewN | apply Kd.R_drew)); exact HO414.out))) (below_size (by repeat (first | (with_reducible first | exact HB.out | apply below_alloc | apply pw_below_drewN | apply below_drew1) | exact HB.out)))); have n2_ := Aside0.mk (below_step (by repeat (first | (with_reducible first | exact HB.out | apply below_alloc | apply pw_below_drewN | apply below_drew1) | exact HB.out)) hb); clear HO414; clear HB; have HO414 := n0_; have HO417 := n1_; have HB := n2_; clear n0_ n1_ n2_; clear hb ho8; obtain ⟨Ao10, co10, eo10⟩ := Kd.R_slice HO417.out; subst eo10) | ((with_reducible refine gate_builtin (b := .append) (xs := #[.tmp 7, .tmp 11]) rfl ?_); at_builtin; refine Kd.R_append_rows k27 (w0 := w) w.heap.size rfl (.tmp 7) (.tmp 11) 25 27 (.agg #[(.int .i64 0), (.string ⟨#[]⟩), (.int .i64 0), (.int .i64 0)]) 40 rfl Try.underlying25 info27 rfl (by decide) (by omega) v413 y412 y415 _ _ _ (fun k_ => some k_ ≠ (.slice Ao10 y415.length co10 : Value).ownBlock) (fun _ => False) rfl rfl ?aO ?aR (fun _ _ h => h) (fun _ h => h.elim) ?aF ?aB ?aS ?aL ?_; (case aR => repeat (first | exact (Kd.R_reads' HO417.out).2.2 | (with_reducible refine Kd.C_alloc ?_ _) | (with_reducible refine Kd.C_drewN ?_ _) | (with_reducible refine Kd.C_drew ?_))); (case aB => exact (by repeat (first | (with_reducible first | exact HB.out | apply below_alloc | apply pw_below_drewN | apply below_drew1) | exact HB.out))); (case aF => exact (fun k_ hk => Kd.fresh' (Kd.R_lt (by (with_reducible repeat (first | apply Kd.R_alloc | apply Kd.R_drewN | apply Kd.R_drew)); exact HO417.out)) k_ hk)); (case aO => exact (by (with_reducible repeat (first | apply Kd.R_alloc | apply Kd.R_drewN | apply Kd.R_drew)); exact Kd.R_mono HO414.out (fun _ hk => hk.2))); (case aS => exact (below_size (by repeat (first | (with_reducible first | exact HB.out | apply below_alloc | apply pw_below_drewN | apply below_drew1) | exact HB.out)))); (case aL => have := LMc3.out; omega); intro v419 w9 ho hb hg hat; rw [← Ny418.out] at ho; have n0_ := Aside0.mk (Kd.R_after (ok := (fun _ => True)) (by (with_reducible repeat (first | apply Kd.R_alloc | apply Kd.R_drewN | apply Kd.R_drew)); exact HO417.out) hg hat); have n1_ := Aside0.mk (hb); have n2_ := Aside0.mk (ho); clear HO417; clear HB; clear HO414; have HO417 := n0_; have HB := n1_; have HO420 := n2_; clear n0_ n1_ n2_; clear ho hb hg hat; obtain ⟨Ao11, co11, eo11⟩ := Kd.R_slice HO420.out; subst eo11; have q12 : ((l0.length : Int) : Int) ≤ ((y418.length : Int) : Int) := of_decide_eq_true (by first | (with_reducible assumption) | assumption); obtain ⟨i012, hi012, _, hsz12, _⟩ := info_parts info27; have hcut12 := cut_to (P := Try.prog) 25 27 .i64 Try.underlying25 hi012 Ao11 y418.length co11 (l0.length : Int) (of_decide_eq_true (by first | (with_reducible assumption) | assumption)) q12 (Kd.R_reads' HO420.out).2.1; have hr12 := Kd.R_take (m := ((l0.length : Int) : Int).toNat) HO420.out (by omega); have hy12 : y421.length = ((l0.length : Int) : Int).toNat := (by rw [Ny421.out, List.length_take]; omega); rw [← Ny421.out] at hr12; rw [← hy12] at hr12 hcut12; clear hy12 hi012 hsz12 HO420; have HO423 := Aside0.mk hr12; clear hr12; replace q12 := eq_true q12))
          go_ret
          exact ⟨_, by first | rfl | (simp [errW_none, errW_some] <;> rfl) | (simp [*, errW_none, errW_some] <;> rfl), by (with_reducible repeat (first | apply Kd.R_alloc | apply Kd.R_drewN | apply Kd.R_drew)); exact Kd.R_mono HO423.out (fun _ hk => trivial), by repeat (first | (with_reducible first | exact HB.out | apply below_alloc | apply pw_below_drewN | apply below_drew1) | exact HB.out)⟩
        · rw [if_neg c5] at H
          exact absurd H (by simp)
      · rw [if_neg c4] at H
        exact absurd H (by simp)
    · rw [if_neg c3] at H
      exact absurd H (by simp)
  · rw [if_neg c2] at H
    exact absurd H (by simp)

end Go.Proofs.Ytnmmapjcphefpaa.G
