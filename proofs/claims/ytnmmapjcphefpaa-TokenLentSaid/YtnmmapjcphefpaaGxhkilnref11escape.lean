-- Printed by wip/graft.py out of the translation, over the kit's print; contracts that it lacks are given by hand.
import Derived.Test.YtnmmapjcphefpaaGx0
import Derived.Test.YtnmmapjcphefpaaGx5
import Derived.Lib.Hide
import Derived.IntWalk
namespace Go.Proofs.Ytnmmapjcphefpaa.G
open Go.RowKit Go.Proofs.YtnmmapjcphefpaaW.PrintWords Go.Proofs.YtnmmapjcphefpaaW.PrintLast Go.Proofs.YtnmmapjcphefpaaW.PrintMore
attribute [local go_sem] max2_int min2_int max_two min_two max_three min_three max_four min_four   -- for this text's walks alone
set_option linter.unusedVariables false
set_option linter.unusedSimpArgs false

/-- GRAFT kilnref11_escape: function 57, by hand. -/
theorem graft_kilnref11_escape : True := trivial
/-- the number of a small digit, or -1 -/
def hexV (c : Int) : Int := if 48 ≤ c ∧ c ≤ 57 then c - 48 else if 97 ≤ c ∧ c ≤ 102 then c - 87 else -1
theorem hex_nat : ∀ c : Fin 256, kilnref11_hex.f 20 (c.val : Int) = some (hexV (c.val : Int)) := by decide +kernel
theorem hex_is (c : Int) (h0 : 0 ≤ c) (h1 : c ≤ 255) : kilnref11_hex.f 20 c = some (hexV c) := by
  obtain ⟨n, rfl⟩ := Int.eq_ofNat_of_zero_le h0
  exact hex_nat ⟨n, by omega⟩
theorem hexV_le (c : Int) : -1 ≤ hexV c ∧ hexV c ≤ 15 := by
  unfold hexV
  split
  · omega
  · split <;> omega
theorem hex_any (c : Int) (w : World) (h0 : 0 ≤ c) (h1 : c ≤ 255) : Calls Try.prog 63 #[.int .u8 c] w fun e w' => e = .returned (.int .i64 (hexV c)) ∧ ∃ n, w' = w.drewN n :=
  (kilnref11_hex.calls 20 c _ w (hex_is c h0 h1)).mono fun _ _ ⟨he, ⟨hw⟩⟩ => ⟨he, hw⟩
def kilnref11_escape.f (a0 : ByteArray) (a1 : Int) : Option (Int × Int) :=
  if 0 ≤ a1 then (if a1 ≤ 1000000000 then (if (a0.size : Int) ≤ a1 + 1 then (some (0, 0)) else (if bt a0 (a1 + 1) = 34 then (some (34, 2)) else (if bt a0 (a1 + 1) = 92 then (some (92, 2)) else (if bt a0 (a1 + 1) = 110 then (some (10, 2)) else (if bt a0 (a1 + 1) = 120 then (if a1 + 3 < (a0.size : Int) then (if 0 ≤ hexV (bt a0 (a1 + 2)) then (if 0 ≤ hexV (bt a0 (a1 + 3)) then (some (16 * hexV (bt a0 (a1 + 2)) + hexV (bt a0 (a1 + 3)), 4)) else (some (0, 0))) else (some (0, 0))) else (some (0, 0))) else (some (0, 0))))))) else none) else none
set_option maxHeartbeats 16000000 in
set_option maxRecDepth 100000 in
theorem kilnref11_escape.calls (a0 : ByteArray) (a1 : Int) (r1 : Int) (r2 : Int) (w : World) (h : kilnref11_escape.f a0 a1 = some (r1, r2)) :
    Calls Try.prog 57 #[.string a0, .int .i64 a1] w fun e w' => e = .returned (.tuple #[.int .u8 r1, .int .i64 r2]) ∧ Drawn0 w w' := by
  unfold kilnref11_escape.f at h
  by_cases k1 : 0 ≤ a1
  · rw [if_pos k1] at h
    by_cases k2 : a1 ≤ 1000000000
    · rw [if_pos k2] at h
      by_cases k3 : (a0.size : Int) ≤ a1 + 1
      · rw [if_pos k3] at h
        simp only [Option.some.injEq, Prod.mk.injEq] at h
        obtain ⟨rfl, rfl⟩ := h
        have k3b : decide ((a0.size : Int) ≤ a1 + 1) = true := decide_eq_true k3
        go_enter Try.func57, Try.ntmps57
        go_wp2
        go_ret2
        exact ⟨rfl, Drawn0.refl _⟩
      · rw [if_neg k3] at h
        have k3b : decide ((a0.size : Int) ≤ a1 + 1) = false := decide_eq_false k3
        have hx := bt_at a0 (a1 + 1)
        have p1 : (0 ≤ a1 + 1) = True := eq_true (by omega)
        have q1 : (a1 + 1 < (a0.size : Int)) = True := eq_true (by omega)
        have K3 := Lib.hid k3
        clear k3
        by_cases d1 : bt a0 (a1 + 1) = 34
        · rw [if_pos d1] at h
          simp only [Option.some.injEq, Prod.mk.injEq] at h
          obtain ⟨rfl, rfl⟩ := h
          rw [d1] at hx
          clear d1
          go_enter Try.func57, Try.ntmps57
          go_wp2
          go_ret2
          exact ⟨rfl, Drawn0.refl _⟩
        · rw [if_neg d1] at h
          have d1b : (bt a0 (a1 + 1) == 34) = false := by simpa using d1
          by_cases d2 : bt a0 (a1 + 1) = 92
          · rw [if_pos d2] at h
            simp only [Option.some.injEq, Prod.mk.injEq] at h
            obtain ⟨rfl, rfl⟩ := h
            rw [d2] at hx
            clear d1 d2 d1b
            go_enter Try.func57, Try.ntmps57
            go_wp2
            go_ret2
            exact ⟨rfl, Drawn0.refl _⟩
          · rw [if_neg d2] at h
            have d2b : (bt a0 (a1 + 1) == 92) = false := by simpa using d2
            by_cases d3 : bt a0 (a1 + 1) = 110
            · rw [if_pos d3] at h
              simp only [Option.some.injEq, Prod.mk.injEq] at h
              obtain ⟨rfl, rfl⟩ := h
              rw [d3] at hx
              clear d1 d2 d3 d1b d2b
              go_enter Try.func57, Try.ntmps57
              go_wp2
              go_ret2
              exact ⟨rfl, Drawn0.refl _⟩
            · rw [if_neg d3] at h
              have d3b : (bt a0 (a1 + 1) == 110) = false := by simpa using d3
              by_cases d4 : bt a0 (a1 + 1) = 120
              · rw [if_pos d4] at h
                rw [d4] at hx
                clear d1 d2 d3 d4 d1b d2b d3b
                by_cases c1 : a1 + 3 < (a0.size : Int)
                · rw [if_pos c1] at h
                  have c1b : decide (a1 + 3 < (a0.size : Int)) = true := decide_eq_true c1
                  have hy := bt_at a0 (a1 + 2)
                  have p2 : (0 ≤ a1 + 2) = True := eq_true (by omega)
                  have q2 : (a1 + 2 < (a0.size : Int)) = True := eq_true (by omega)
                  have hz := bt_at a0 (a1 + 3)
                  have p3 : (0 ≤ a1 + 3) = True := eq_true (by omega)
                  have q3 : (a1 + 3 < (a0.size : Int)) = True := eq_true c1
                  have B2 := Lib.hid (bt_range a0 (a1 + 2))
                  have B3 := Lib.hid (bt_range a0 (a1 + 3))
                  have R2 := Lib.hid (hexV_le (bt a0 (a1 + 2)))
                  have R3 := Lib.hid (hexV_le (bt a0 (a1 + 3)))
                  clear c1
                  generalize bt a0 (a1 + 2) = c2 at *
                  generalize bt a0 (a1 + 3) = c3 at *
                  have h2 := R2.out
                  have h3 := R3.out
                  generalize hv2 : hexV c2 = v2 at *
                  generalize hv3 : hexV c3 = v3 at *
                  have HV2 := Lib.hid hv2
                  have HV3 := Lib.hid hv3
                  clear hv2 hv3 R2 R3
                  by_cases e2 : 0 ≤ v2
                  · rw [if_pos e2] at h
                    have e2b : decide (0 ≤ v2) = true := decide_eq_true e2
                    by_cases e3 : 0 ≤ v3
                    · rw [if_pos e3] at h
                      have e3b : decide (0 ≤ v3) = true := decide_eq_true e3
                      simp only [Option.some.injEq, Prod.mk.injEq] at h
                      obtain ⟨rfl, rfl⟩ := h
                      obtain ⟨_, h2'⟩ := h2
                      obtain ⟨_, h3'⟩ := h3
                      go_enter Try.func57, Try.ntmps57
                      go_wp2_with fail
                      refine (hex_any _ _ B2.out.1 B2.out.2).mono ?_
                      rw [HV2.out]
                      rintro e w1 ⟨rfl, ⟨n1, rfl⟩⟩
                      go_wp2_with fail
                      refine (hex_any _ _ B3.out.1 B3.out.2).mono ?_
                      rw [HV3.out]
                      rintro e w2 ⟨rfl, ⟨n2, rfl⟩⟩
                      go_wp2_with fail
                      have hx2 : ∀ W : World, Calls Try.prog 63 #[.int .u8 c2] W fun e w' => e = .returned (.int .i64 v2) ∧ ∃ n, w' = W.drewN n := fun W => by rw [← HV2.out]; exact hex_any _ _ B2.out.1 B2.out.2
                      have hx3 : ∀ W : World, Calls Try.prog 63 #[.int .u8 c3] W fun e w' => e = .returned (.int .i64 v3) ∧ ∃ n, w' = W.drewN n := fun W => by rw [← HV3.out]; exact hex_any _ _ B3.out.1 B3.out.2
                      have HX2 := Lib.hid hx2
                      have HX3 := Lib.hid hx3
                      have w1 : IntKind.i64.wrap (a1 + 2) = a1 + 2 := IntWalk.i64_in _ (by omega)
                      have w2 : IntKind.i64.wrap (a1 + 3) = a1 + 3 := IntWalk.i64_in _ (by omega)
                      have w3 : IntKind.i64.wrap (16 * v2) = 16 * v2 := IntWalk.i64_in _ (by omega)
                      have w4 : IntKind.i64.wrap (16 * v2 + v3) = 16 * v2 + v3 := IntWalk.i64_in _ (by omega)
                      have w5 : IntKind.u8.wrap (16 * v2 + v3) = 16 * v2 + v3 := by rw [IntKind.wrap_u8]; omega
                      clear hx2 hx3
                      generalize hW : World.drewN w _ = W
                      have HD := Lib.hid (show Drawn0 w W from ⟨⟨_, hW.symm⟩⟩)
                      clear hW
                      go_quiet ((first | (go_at_call_of 63 (Value.int .u8 c2); exact Calls.quiet_of (HX2.out _)) | (go_at_call_of 63 (Value.int .u8 c3); exact Calls.quiet_of (HX3.out _))))
                      go_wp2
                      go_ret2
                      exact ⟨rfl, HD.out.step _⟩
                    · rw [if_neg e3] at h
                      have e3b : decide (0 ≤ v3) = false := decide_eq_false e3
                      simp only [Option.some.injEq, Prod.mk.injEq] at h
                      obtain ⟨rfl, rfl⟩ := h
                      clear h2 h3 e3
                      go_enter Try.func57, Try.ntmps57
                      go_wp2_with fail
                      refine (hex_any _ _ B2.out.1 B2.out.2).mono ?_
                      rw [HV2.out]
                      rintro e w1 ⟨rfl, ⟨n1, rfl⟩⟩
                      go_wp2_with fail
                      refine (hex_any _ _ B3.out.1 B3.out.2).mono ?_
                      rw [HV3.out]
                      rintro e w2 ⟨rfl, ⟨n2, rfl⟩⟩
                      go_wp2
                      go_ret2
                      exact ⟨rfl, by repeat (first | exact Drawn0.refl _ | apply Drawn0.step)⟩
                  · rw [if_neg e2] at h
                    have e2b : decide (0 ≤ v2) = false := decide_eq_false e2
                    simp only [Option.some.injEq, Prod.mk.injEq] at h
                    obtain ⟨rfl, rfl⟩ := h
                    clear h2 h3 e2
                    go_enter Try.func57, Try.ntmps57
                    go_wp2_with fail
                    refine (hex_any _ _ B2.out.1 B2.out.2).mono ?_
                    rw [HV2.out]
                    rintro e w1 ⟨rfl, ⟨n1, rfl⟩⟩
                    go_wp2
                    go_ret2
                    exact ⟨rfl, by repeat (first | exact Drawn0.refl _ | apply Drawn0.step)⟩
                · rw [if_neg c1] at h
                  have c1b : decide (a1 + 3 < (a0.size : Int)) = false := decide_eq_false c1
                  simp only [Option.some.injEq, Prod.mk.injEq] at h
                  obtain ⟨rfl, rfl⟩ := h
                  clear c1
                  go_enter Try.func57, Try.ntmps57
                  go_wp2
                  go_ret2
                  exact ⟨rfl, Drawn0.refl _⟩
              · rw [if_neg d4] at h
                have d4b : (bt a0 (a1 + 1) == 120) = false := by simpa using d4
                simp only [Option.some.injEq, Prod.mk.injEq] at h
                obtain ⟨rfl, rfl⟩ := h
                clear d1 d2 d3 d4
                go_enter Try.func57, Try.ntmps57
                go_wp2
                go_ret2
                exact ⟨rfl, Drawn0.refl _⟩
    · rw [if_neg k2] at h
      cases h
  · rw [if_neg k1] at h
    cases h

end Go.Proofs.Ytnmmapjcphefpaa.G
