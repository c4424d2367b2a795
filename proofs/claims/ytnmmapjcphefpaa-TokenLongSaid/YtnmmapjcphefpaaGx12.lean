-- Printed by wip/graft.py out of the translation, over the kit's print; contracts that it lacks are given by hand.
import Derived.Test.YtnmmapjcphefpaaGx0
import Derived.Test.YtnmmapjcphefpaaGx11
import Derived.Test.YtnmmapjcphefpaaGx7
import Derived.Test.YtnmmapjcphefpaaGxhkilnlaw11prints
namespace Go.Proofs.Ytnmmapjcphefpaa.G
open Go.RowKit Go.Proofs.YtnmmapjcphefpaaW.PrintWords Go.Proofs.YtnmmapjcphefpaaW.PrintLast Go.Proofs.YtnmmapjcphefpaaW.PrintMore
attribute [local go_sem] max2_int min2_int max_two min_two max_three min_three max_four min_four   -- for this text's walks alone
set_option linter.unusedVariables false
set_option linter.unusedSimpArgs false

/-! ### kilnlaw11_TokenLong: function 5 -/
mutual
def kilnlaw11_TokenLong.j0 : Nat → Int → Int → Bool → Option (Bool)
  | 0, _, _, _ => none
  | k + 1, x0, x1, x13 => if x13 = true then (kilnlaw11_TokenLong.j1 k 255 x1) else (kilnlaw11_TokenLong.j1 k x0 x1)
def kilnlaw11_TokenLong.j1 : Nat → Int → Int → Option (Bool)
  | 0, _, _ => none
  | k + 1, x0, x1 => if x1 < (-3) then (kilnlaw11_TokenLong.j2 k x0 x1 true) else (kilnlaw11_TokenLong.j2 k x0 x1 (decide (x1 > 3)))
def kilnlaw11_TokenLong.j2 : Nat → Int → Int → Bool → Option (Bool)
  | 0, _, _, _ => none
  | k + 1, x0, x1, x19 => if x19 = true then (kilnlaw11_TokenLong.j3 k x0 0) else (kilnlaw11_TokenLong.j3 k x0 x1)
def kilnlaw11_TokenLong.j3 : Nat → Int → Int → Option (Bool)
  | 0, _, _ => none
  | k + 1, x0, x1 => (kilnlaw11_Told.f k).bind fun t263 => (if t263 = true then ((kilnlaw11_many.f k (⟨#[97]⟩ : ByteArray) x0).bind fun t264 => (if 2 + t264.size ≤ 9223372036854775807 then (if ((⟨#[120, 32]⟩ : ByteArray) ++ t264).size + 1 ≤ 9223372036854775807 then ((kilnlaw11_cuts.f k (((⟨#[120, 32]⟩ : ByteArray) ++ t264) ++ (⟨#[34]⟩ : ByteArray))).bind fun t265 => (if t265 = true then ((kilnlaw11_many.f k (⟨#[97]⟩ : ByteArray) x0).bind fun t266 => ((kilnlaw11_cuts.f k t266).bind fun t267 => (if t267 = true then ((kilnlaw11_many.f k (⟨#[97]⟩ : ByteArray) x0).bind fun t268 => ((kilnlaw11_prints.f k (([(⟨1, t268, 0, 0⟩ : S27), (⟨7, (⟨#[]⟩ : ByteArray), 0, 0⟩ : S27)] : List (S27)))).bind fun t272 => (kilnlaw11_TokenLong.j4 k x1 (!t272)))) else (kilnlaw11_TokenLong.j4 k x1 true)))) else (kilnlaw11_TokenLong.j4 k x1 true))) else (none)) else (none))) else (kilnlaw11_TokenLong.j4 k x1 true))
def kilnlaw11_TokenLong.j4 : Nat → Int → Bool → Option (Bool)
  | 0, _, _ => none
  | k + 1, x1, x44 => if x44 = true then (some false) else ((kilnlaw11_many.f k (⟨#[98]⟩ : ByteArray) (wrap64 (65533 + x1))).bind fun t273 => (if 3 + t273.size ≤ 9223372036854775807 then ((kilnlaw11_cuts.f k ((⟨#[97, 32, 35]⟩ : ByteArray) ++ t273)).bind fun t274 => (if t274 = true then ((kilnlaw11_many.f k (⟨#[32]⟩ : ByteArray) (wrap64 (65536 + x1))).bind fun t275 => ((kilnlaw11_cuts.f k t275).bind fun t276 => (if t276 = true then ((kilnlaw11_many.f k (⟨#[10]⟩ : ByteArray) (wrap64 (65535 + x1))).bind fun t277 => (if t277.size + 1 ≤ 9223372036854775807 then ((kilnlaw11_cuts.f k (t277 ++ (⟨#[43]⟩ : ByteArray))).bind fun t278 => (kilnlaw11_TokenLong.j5 k x1 (!t278))) else (none))) else (kilnlaw11_TokenLong.j5 k x1 true)))) else (kilnlaw11_TokenLong.j5 k x1 true))) else (none)))
def kilnlaw11_TokenLong.j5 : Nat → Int → Bool → Option (Bool)
  | 0, _, _ => none
  | k + 1, x1, x65 => if x65 = true then (some false) else ((kilnlaw11_many.f k (⟨#[99]⟩ : ByteArray) (wrap64 (65533 + x1))).bind fun t279 => ((kilnlaw11_many.f k (⟨#[1]⟩ : ByteArray) (wrap64 (16383 + x1))).bind fun t283 => ((kilnlaw11_many.f k (⟨#[99]⟩ : ByteArray) (wrap64 (65533 + x1))).bind fun t287 => ((kilnlaw11_prints.f k (([(⟨2, t279, 0, 0⟩ : S27), (⟨7, (⟨#[]⟩ : ByteArray), 0, 0⟩ : S27)] : List (S27)))).bind fun t291 => (if t291 = true then ((kilnlaw11_prints.f k (([(⟨2, t283, 0, 0⟩ : S27), (⟨1, (⟨#[97]⟩ : ByteArray), 0, 0⟩ : S27), (⟨7, (⟨#[]⟩ : ByteArray), 0, 0⟩ : S27)] : List (S27)))).bind fun t292 => (if t292 = true then ((kilnlaw11_prints.f k (([(⟨2, t287, 0, 0⟩ : S27), (⟨1, (⟨#[97, 32, 98]⟩ : ByteArray), 0, 0⟩ : S27), (⟨7, (⟨#[]⟩ : ByteArray), 0, 0⟩ : S27)] : List (S27)))).bind fun t293 => (some t293)) else (some false))) else (some false))))))
end
def kilnlaw11_TokenLong.f (k : Nat) (a0 : Int) (a1 : Int) : Option (Bool) := if a0 < 0 then (kilnlaw11_TokenLong.j0 k a0 a1 true) else (kilnlaw11_TokenLong.j0 k a0 a1 (decide (a0 > 600)))
theorem kilnlaw11_TokenLong.mono_l : ∀ k, (∀ y0 y1 y2, LeO (kilnlaw11_TokenLong.j0 k y0 y1 y2) (kilnlaw11_TokenLong.j0 (k + 1) y0 y1 y2)) ∧ (∀ y0 y1, LeO (kilnlaw11_TokenLong.j1 k y0 y1) (kilnlaw11_TokenLong.j1 (k + 1) y0 y1)) ∧ (∀ y0 y1 y2, LeO (kilnlaw11_TokenLong.j2 k y0 y1 y2) (kilnlaw11_TokenLong.j2 (k + 1) y0 y1 y2)) ∧ (∀ y0 y1, LeO (kilnlaw11_TokenLong.j3 k y0 y1) (kilnlaw11_TokenLong.j3 (k + 1) y0 y1)) ∧ (∀ y0 y1, LeO (kilnlaw11_TokenLong.j4 k y0 y1) (kilnlaw11_TokenLong.j4 (k + 1) y0 y1)) ∧ (∀ y0 y1, LeO (kilnlaw11_TokenLong.j5 k y0 y1) (kilnlaw11_TokenLong.j5 (k + 1) y0 y1))
  | 0 => ⟨fun _ _ _ r h => by simp [kilnlaw11_TokenLong.j0] at h, fun _ _ r h => by simp [kilnlaw11_TokenLong.j1] at h, fun _ _ _ r h => by simp [kilnlaw11_TokenLong.j2] at h, fun _ _ r h => by simp [kilnlaw11_TokenLong.j3] at h, fun _ _ r h => by simp [kilnlaw11_TokenLong.j4] at h, fun _ _ r h => by simp [kilnlaw11_TokenLong.j5] at h⟩
  | k + 1 => by
    obtain ⟨ih0, ih1, ih2, ih3, ih4, ih5⟩ := kilnlaw11_TokenLong.mono_l k
    refine ⟨?_, ?_, ?_, ?_, ?_, ?_⟩
    · intro y0 y1 y2
      unfold kilnlaw11_TokenLong.j0
      repeat' first
      | (with_reducible exact ih0 _ _ _)
      | (with_reducible exact ih1 _ _)
      | (with_reducible exact ih2 _ _ _)
      | (with_reducible exact ih3 _ _)
      | (with_reducible exact ih4 _ _)
      | (with_reducible exact ih5 _ _)
      | (with_reducible exact kilnlaw11_Told.mono _)
      | (with_reducible exact kilnlaw11_cuts.mono _ _)
      | (with_reducible exact kilnlaw11_many.mono _ _ _)
      | (with_reducible exact kilnlaw11_prints.mono _ _)
      | (with_reducible exact LeO.refl _)
      | (with_reducible exact LeO.none _)
      | (with_reducible refine LeO.ite ?_ ?_)
      | (with_reducible refine LeO.bind ?_ (fun _ => ?_))
      | exact ih0 _ _ _
      | exact ih1 _ _
      | exact ih2 _ _ _
      | exact ih3 _ _
      | exact ih4 _ _
      | exact ih5 _ _
      | exact kilnlaw11_Told.mono _
      | exact kilnlaw11_cuts.mono _ _
      | exact kilnlaw11_many.mono _ _ _
      | exact kilnlaw11_prints.mono _ _
      | exact LeO.none _
      | refine LeO.ite ?_ ?_
      | refine LeO.bind ?_ (fun _ => ?_)
    · intro y0 y1
      unfold kilnlaw11_TokenLong.j1
      repeat' first
      | (with_reducible exact ih0 _ _ _)
      | (with_reducible exact ih1 _ _)
      | (with_reducible exact ih2 _ _ _)
      | (with_reducible exact ih3 _ _)
      | (with_reducible exact ih4 _ _)
      | (with_reducible exact ih5 _ _)
      | (with_reducible exact kilnlaw11_Told.mono _)
      | (with_reducible exact kilnlaw11_cuts.mono _ _)
      | (with_reducible exact kilnlaw11_many.mono _ _ _)
      | (with_reducible exact kilnlaw11_prints.mono _ _)
      | (with_reducible exact LeO.refl _)
      | (with_reducible exact LeO.none _)
      | (with_reducible refine LeO.ite ?_ ?_)
      | (with_reducible refine LeO.bind ?_ (fun _ => ?_))
      | exact ih0 _ _ _
      | exact ih1 _ _
      | exact ih2 _ _ _
      | exact ih3 _ _
      | exact ih4 _ _
      | exact ih5 _ _
      | exact kilnlaw11_Told.mono _
      | exact kilnlaw11_cuts.mono _ _
      | exact kilnlaw11_many.mono _ _ _
      | exact kilnlaw11_prints.mono _ _
      | exact LeO.none _
      | refine LeO.ite ?_ ?_
      | refine LeO.bind ?_ (fun _ => ?_)
    · intro y0 y1 y2
      unfold kilnlaw11_TokenLong.j2
      repeat' first
      | (with_reducible exact ih0 _ _ _)
      | (with_reducible exact ih1 _ _)
      | (with_reducible exact ih2 _ _ _)
      | (with_reducible exact ih3 _ _)
      | (with_reducible exact ih4 _ _)
      | (with_reducible exact ih5 _ _)
      | (with_reducible exact kilnlaw11_Told.mono _)
      | (with_reducible exact kilnlaw11_cuts.mono _ _)
      | (with_reducible exact kilnlaw11_many.mono _ _ _)
      | (with_reducible exact kilnlaw11_prints.mono _ _)
      | (with_reducible exact LeO.refl _)
      | (with_reducible exact LeO.none _)
      | (with_reducible refine LeO.ite ?_ ?_)
      | (with_reducible refine LeO.bind ?_ (fun _ => ?_))
      | exact ih0 _ _ _
      | exact ih1 _ _
      | exact ih2 _ _ _
      | exact ih3 _ _
      | exact ih4 _ _
      | exact ih5 _ _
      | exact kilnlaw11_Told.mono _
      | exact kilnlaw11_cuts.mono _ _
      | exact kilnlaw11_many.mono _ _ _
      | exact kilnlaw11_prints.mono _ _
      | exact LeO.none _
      | refine LeO.ite ?_ ?_
      | refine LeO.bind ?_ (fun _ => ?_)
    · intro y0 y1
      unfold kilnlaw11_TokenLong.j3
      repeat' first
      | (with_reducible exact ih0 _ _ _)
      | (with_reducible exact ih1 _ _)
      | (with_reducible exact ih2 _ _ _)
      | (with_reducible exact ih3 _ _)
      | (with_reducible exact ih4 _ _)
      | (with_reducible exact ih5 _ _)
      | (with_reducible exact kilnlaw11_Told.mono _)
      | (with_reducible exact kilnlaw11_cuts.mono _ _)
      | (with_reducible exact kilnlaw11_many.mono _ _ _)
      | (with_reducible exact kilnlaw11_prints.mono _ _)
      | (with_reducible exact LeO.refl _)
      | (with_reducible exact LeO.none _)
      | (with_reducible refine LeO.ite ?_ ?_)
      | (with_reducible refine LeO.bind ?_ (fun _ => ?_))
      | exact ih0 _ _ _
      | exact ih1 _ _
      | exact ih2 _ _ _
      | exact ih3 _ _
      | exact ih4 _ _
      | exact ih5 _ _
      | exact kilnlaw11_Told.mono _
      | exact kilnlaw11_cuts.mono _ _
      | exact kilnlaw11_many.mono _ _ _
      | exact kilnlaw11_prints.mono _ _
      | exact LeO.none _
      | refine LeO.ite ?_ ?_
      | refine LeO.bind ?_ (fun _ => ?_)
    · intro y0 y1
      unfold kilnlaw11_TokenLong.j4
      repeat' first
      | (with_reducible exact ih0 _ _ _)
      | (with_reducible exact ih1 _ _)
      | (with_reducible exact ih2 _ _ _)
      | (with_reducible exact ih3 _ _)
      | (with_reducible exact ih4 _ _)
      | (with_reducible exact ih5 _ _)
      | (with_reducible exact kilnlaw11_Told.mono _)
      | (with_reducible exact kilnlaw11_cuts.mono _ _)
      | (with_reducible exact kilnlaw11_many.mono _ _ _)
      | (with_reducible exact kilnlaw11_prints.mono _ _)
      | (with_reducible exact LeO.refl _)
      | (with_reducible exact LeO.none _)
      | (with_reducible refine LeO.ite ?_ ?_)
      | (with_reducible refine LeO.bind ?_ (fun _ => ?_))
      | exact ih0 _ _ _
      | exact ih1 _ _
      | exact ih2 _ _ _
      | exact ih3 _ _
      | exact ih4 _ _
      | exact ih5 _ _
      | exact kilnlaw11_Told.mono _
      | exact kilnlaw11_cuts.mono _ _
      | exact kilnlaw11_many.mono _ _ _
      | exact kilnlaw11_prints.mono _ _
      | exact LeO.none _
      | refine LeO.ite ?_ ?_
      | refine LeO.bind ?_ (fun _ => ?_)
    · intro y0 y1
      unfold kilnlaw11_TokenLong.j5
      repeat' first
      | (with_reducible exact ih0 _ _ _)
      | (with_reducible exact ih1 _ _)
      | (with_reducible exact ih2 _ _ _)
      | (with_reducible exact ih3 _ _)
      | (with_reducible exact ih4 _ _)
      | (with_reducible exact ih5 _ _)
      | (with_reducible exact kilnlaw11_Told.mono _)
      | (with_reducible exact kilnlaw11_cuts.mono _ _)
      | (with_reducible exact kilnlaw11_many.mono _ _ _)
      | (with_reducible exact kilnlaw11_prints.mono _ _)
      | (with_reducible exact LeO.refl _)
      | (with_reducible exact LeO.none _)
      | (with_reducible refine LeO.ite ?_ ?_)
      | (with_reducible refine LeO.bind ?_ (fun _ => ?_))
      | exact ih0 _ _ _
      | exact ih1 _ _
      | exact ih2 _ _ _
      | exact ih3 _ _
      | exact ih4 _ _
      | exact ih5 _ _
      | exact kilnlaw11_Told.mono _
      | exact kilnlaw11_cuts.mono _ _
      | exact kilnlaw11_many.mono _ _ _
      | exact kilnlaw11_prints.mono _ _
      | exact LeO.none _
      | refine LeO.ite ?_ ?_
      | refine LeO.bind ?_ (fun _ => ?_)
theorem kilnlaw11_TokenLong.mono : ∀ a0 a1 k, LeO (kilnlaw11_TokenLong.f k a0 a1) (kilnlaw11_TokenLong.f (k + 1) a0 a1) := by
  intro a0 a1 k
  obtain ⟨ih0, ih1, ih2, ih3, ih4, ih5⟩ := kilnlaw11_TokenLong.mono_l k
  unfold kilnlaw11_TokenLong.f
  repeat' first
      | (with_reducible exact ih0 _ _ _)
      | (with_reducible exact ih1 _ _)
      | (with_reducible exact ih2 _ _ _)
      | (with_reducible exact ih3 _ _)
      | (with_reducible exact ih4 _ _)
      | (with_reducible exact ih5 _ _)
      | (with_reducible exact kilnlaw11_Told.mono _)
      | (with_reducible exact kilnlaw11_cuts.mono _ _)
      | (with_reducible exact kilnlaw11_many.mono _ _ _)
      | (with_reducible exact kilnlaw11_prints.mono _ _)
      | (with_reducible exact LeO.refl _)
      | (with_reducible exact LeO.none _)
      | (with_reducible refine LeO.ite ?_ ?_)
      | (with_reducible refine LeO.bind ?_ (fun _ => ?_))
      | exact ih0 _ _ _
      | exact ih1 _ _
      | exact ih2 _ _ _
      | exact ih3 _ _
      | exact ih4 _ _
      | exact ih5 _ _
      | exact kilnlaw11_Told.mono _
      | exact kilnlaw11_cuts.mono _ _
      | exact kilnlaw11_many.mono _ _ _
      | exact kilnlaw11_prints.mono _ _
      | exact LeO.none _
      | refine LeO.ite ?_ ?_
      | refine LeO.bind ?_ (fun _ => ?_)
set_option maxHeartbeats 8000000 in
set_option maxRecDepth 100000 in
theorem kilnlaw11_TokenLong.calls (k : Nat) (a0 : Int) (a1 : Int) (r : Bool) (w : World) (h : kilnlaw11_TokenLong.f k a0 a1 = some r) :
    Calls Try.prog 5 #[.int .i64 a0, .int .i64 a1] w fun e w' => e = .returned (.bool r) ∧ Below w.heap.size w w' := by
  have hu27 := Try.underlying27
  have HB := Aside0.mk (Below.refl w.heap.size w)
  have H : (if a0 < 0 then (kilnlaw11_TokenLong.j0 k a0 a1 true) else (kilnlaw11_TokenLong.j0 k a0 a1 (decide (a0 > 600)))) = some r := h
  clear h
  have HC3 := Aside0.mk H
  clear H
  go_enter Try.func5, Try.ntmps5
  go_upto_region 1 with (fail)
  go_cut [13] (fun v13 wc => ∃ (kq : Nat) (x13_2 : Bool), v13 = .bool x13_2 ∧ Aside0 (kilnlaw11_TokenLong.j0 kq a0 a1 x13_2 = some r) ∧ Aside0 (kq ≤ k) ∧ Aside0 (Below w.heap.size w wc))
  case first =>
    have H := HC3.out
    clear HC3
    by_cases c4 : a0 < 0
    · rw [if_pos c4] at H
      have c4b0 : decide (a0 < 0) = true := decide_eq_true c4
      clear c4
      (first | rw [c4b0] | (simp only [i64_w, i32_w]; rw [c4b0]) | skip)
      have H' := Aside0.mk H
      clear H
      go_wp2
      go_meet
      case rel => exact ⟨_, (true), (by first | rfl | (simp; done) | (simp [*]; done)), H', ⟨by first | omega | exact Nat.le_refl _⟩, ⟨by repeat (first | (with_reducible first | exact HB.out | apply below_alloc | apply pw_below_drewN | apply below_drew1) | exact HB.out)⟩⟩
    · rw [if_neg c4] at H
      have c4b0 : decide (a0 < 0) = false := decide_eq_false c4
      clear c4
      (first | rw [c4b0] | (simp only [i64_w, i32_w]; rw [c4b0]) | skip)
      have H' := Aside0.mk H
      clear H
      go_wp2
      go_meet
      case rel => exact ⟨_, (decide (a0 > 600)), (by first | rfl | (simp; done) | (simp [*]; done)), H', ⟨by first | omega | exact Nat.le_refl _⟩, ⟨by repeat (first | (with_reducible first | exact HB.out | apply below_alloc | apply pw_below_drewN | apply below_drew1) | exact HB.out)⟩⟩
  case rest =>
    clear HC3
    try clear p2
    try clear c4
    try clear c4b0
    obtain ⟨kq, x13_2, rfl, HA, HJ2, HB⟩ := hcut
    cases kq with
    | zero => exact absurd HA.out (by simp [kilnlaw11_TokenLong.j0])
    | succ kj2 =>
      have H := HA.out
      clear HA
      simp only [kilnlaw11_TokenLong.j0] at H
      have HC5 := Aside0.mk H
      clear H
      go_upto_if 13 with (fail)
      go_cut [0] (fun v0 wc => ∃ (kq : Nat) (x0_4 : Int), v0 = .int .i64 x0_4 ∧ Aside0 (kilnlaw11_TokenLong.j1 kq x0_4 a1 = some r) ∧ Aside0 (kq ≤ kj2) ∧ Aside0 (Below w.heap.size w wc))
      case first =>
        have H := HC5.out
        clear HC5
        by_cases c6 : x13_2 = true
        · subst c6
          have H1 : (kilnlaw11_TokenLong.j1 kj2 255 a1) = some r := by rw [if_pos rfl] at H; exact H
          clear H
          have H := H1
          clear H1
          have H' := Aside0.mk H
          clear H
          go_wp2
          go_meet
          case rel => exact ⟨_, (255), (by first | rfl | (simp; done) | (simp [*]; done)), H', ⟨by have := HJ2.out; first | omega | exact Nat.le_refl _⟩, ⟨by repeat (first | (with_reducible first | exact HB.out | apply below_alloc | apply pw_below_drewN | apply below_drew1) | exact HB.out)⟩⟩
        · replace c6 := Bool.eq_false_iff.mpr c6
          subst c6
          have H1 : (kilnlaw11_TokenLong.j1 kj2 a0 a1) = some r := by rw [if_neg (show ¬ (false = true) by decide)] at H; exact H
          clear H
          have H := H1
          clear H1
          have H' := Aside0.mk H
          clear H
          go_wp2
          go_meet
          case rel => exact ⟨_, (a0), (by first | rfl | (simp; done) | (simp [*]; done)), H', ⟨by have := HJ2.out; first | omega | exact Nat.le_refl _⟩, ⟨by repeat (first | (with_reducible first | exact HB.out | apply below_alloc | apply pw_below_drewN | apply below_drew1) | exact HB.out)⟩⟩
      case rest =>
        clear HC5
        try clear p2
        try clear c4
        try clear c4b0
        try clear c5
        try clear c6
        try clear p2
        obtain ⟨kq, x0_4, rfl, HA, HJ4, HB⟩ := hcut
        cases kq with
        | zero => exact absurd HA.out (by simp [kilnlaw11_TokenLong.j1])
        | succ kj4 =>
          have H := HA.out
          clear HA
          simp only [kilnlaw11_TokenLong.j1] at H
          have HC7 := Aside0.mk H
          clear H
          go_upto_region 3 with (fail)
          go_cut [19] (fun v19 wc => ∃ (kq : Nat) (x19_6 : Bool), v19 = .bool x19_6 ∧ Aside0 (kilnlaw11_TokenLong.j2 kq x0_4 a1 x19_6 = some r) ∧ Aside0 (kq ≤ kj4) ∧ Aside0 (Below w.heap.size w wc))
          case first =>
            have H := HC7.out
            clear HC7
            by_cases c8 : a1 < (-3)
            · rw [if_pos c8] at H
              have c8b0 : decide (a1 < (-3)) = true := decide_eq_true c8
              clear c8
              (first | rw [c8b0] | (simp only [i64_w, i32_w]; rw [c8b0]) | skip)
              have H' := Aside0.mk H
              clear H
              go_wp2
              go_meet
              case rel => exact ⟨_, (true), (by first | rfl | (simp; done) | (simp [*]; done)), H', ⟨by have := HJ2.out; have := HJ4.out; first | omega | exact Nat.le_refl _⟩, ⟨by repeat (first | (with_reducible first | exact HB.out | apply below_alloc | apply pw_below_drewN | apply below_drew1) | exact HB.out)⟩⟩
            · rw [if_neg c8] at H
              have c8b0 : decide (a1 < (-3)) = false := decide_eq_false c8
              clear c8
              (first | rw [c8b0] | (simp only [i64_w, i32_w]; rw [c8b0]) | skip)
              have H' := Aside0.mk H
              clear H
              go_wp2
              go_meet
              case rel => exact ⟨_, (decide (a1 > 3)), (by first | rfl | (simp; done) | (simp [*]; done)), H', ⟨by have := HJ2.out; have := HJ4.out; first | omega | exact Nat.le_refl _⟩, ⟨by repeat (first | (with_reducible first | exact HB.out | apply below_alloc | apply pw_below_drewN | apply below_drew1) | exact HB.out)⟩⟩
          case rest =>
            clear HC7
            try clear p2
            try clear c4
            try clear c4b0
            try clear c5
            try clear c6
            try clear c8
            try clear c8b0
            try clear p2
            obtain ⟨kq, x19_6, rfl, HA, HJ6, HB⟩ := hcut
            cases kq with
            | zero => exact absurd HA.out (by simp [kilnlaw11_TokenLong.j2])
            | succ kj6 =>
              have H := HA.out
              clear HA
              simp only [kilnlaw11_TokenLong.j2] at H
              have HC9 := Aside0.mk H
              clear H
              go_upto_if 19 with (fail)
              go_cut [1] (fun v1 wc => ∃ (kq : Nat) (x1_8 : Int), v1 = .int .i64 x1_8 ∧ Aside0 (kilnlaw11_TokenLong.j3 kq x0_4 x1_8 = some r) ∧ Aside0 (kq ≤ kj6) ∧ Aside0 (Below w.heap.size w wc))
              case first =>
                have H := HC9.out
                clear HC9
                by_cases c10 : x19_6 = true
                · subst c10
                  have H1 : (kilnlaw11_TokenLong.j3 kj6 x0_4 0) = some r := by rw [if_pos rfl] at H; exact H
                  clear H
                  have H := H1
                  clear H1
                  have H' := Aside0.mk H
                  clear H
                  go_wp2
                  go_meet
                  case rel => exact ⟨_, (0), (by first | rfl | (simp; done) | (simp [*]; done)), H', ⟨by have := HJ2.out; have := HJ4.out; have := HJ6.out; first | omega | exact Nat.le_refl _⟩, ⟨by repeat (first | (with_reducible first | exact HB.out | apply below_alloc | apply pw_below_drewN | apply below_drew1) | exact HB.out)⟩⟩
                · replace c10 := Bool.eq_false_iff.mpr c10
                  subst c10
                  have H1 : (kilnlaw11_TokenLong.j3 kj6 x0_4 a1) = some r := by rw [if_neg (show ¬ (false = true) by decide)] at H; exact H
                  clear H
                  have H := H1
                  clear H1
                  have H' := Aside0.mk H
                  clear H
                  go_wp2
                  go_meet
                  case rel => exact ⟨_, (a1), (by first | rfl | (simp; done) | (simp [*]; done)), H', ⟨by have := HJ2.out; have := HJ4.out; have := HJ6.out; first | omega | exact Nat.le_refl _⟩, ⟨by repeat (first | (with_reducible first | exact HB.out | apply below_alloc | apply pw_below_drewN | apply below_drew1) | exact HB.out)⟩⟩
              case rest =>
                clear HC9
                try clear c1
                try clear p2
                try clear c4
                try clear c4b0
                try clear c5
                try clear c6
                try clear c8
                try clear c8b0
                try clear c10
                try clear p2
                obtain ⟨kq, x1_8, rfl, HA, HJ8, HB⟩ := hcut
                cases kq with
                | zero => exact absurd HA.out (by simp [kilnlaw11_TokenLong.j3])
                | succ kj8 =>
                  have H := HA.out
                  clear HA
                  simp only [kilnlaw11_TokenLong.j3] at H
                  have HC11 := Aside0.mk H
                  clear H
                  go_upto_region 5 with (fail)
                  go_cut [44] (fun v44 wc => ∃ (kq : Nat) (x44_10 : Bool), v44 = .bool x44_10 ∧ Aside0 (kilnlaw11_TokenLong.j4 kq x1_8 x44_10 = some r) ∧ Aside0 (kq ≤ kj8) ∧ Aside0 (Below w.heap.size w wc))
                  case first =>
                    have H := HC11.out
                    clear HC11
                    replace H := Option.bind_eq_some_iff.mp H
                    obtain ⟨t263, A120, H⟩ := H
                    replace H : (if t263 = true then ((kilnlaw11_many.f kj8 (⟨#[97]⟩ : ByteArray) x0_4).bind fun t264 => (if 2 + t264.size ≤ 9223372036854775807 then (if ((⟨#[120, 32]⟩ : ByteArray) ++ t264).size + 1 ≤ 9223372036854775807 then ((kilnlaw11_cuts.f kj8 (((⟨#[120, 32]⟩ : ByteArray) ++ t264) ++ (⟨#[34]⟩ : ByteArray))).bind fun t265 => (if t265 = true then ((kilnlaw11_many.f kj8 (⟨#[97]⟩ : ByteArray) x0_4).bind fun t266 => ((kilnlaw11_cuts.f kj8 t266).bind fun t267 => (if t267 = true then ((kilnlaw11_many.f kj8 (⟨#[97]⟩ : ByteArray) x0_4).bind fun t268 => ((kilnlaw11_prints.f kj8 (([(⟨1, t268, 0, 0⟩ : S27), (⟨7, (⟨#[]⟩ : ByteArray), 0, 0⟩ : S27)] : List (S27)))).bind fun t272 => (kilnlaw11_TokenLong.j4 kj8 x1_8 (!t272)))) else (kilnlaw11_TokenLong.j4 kj8 x1_8 true)))) else (kilnlaw11_TokenLong.j4 kj8 x1_8 true))) else (none)) else (none))) else (kilnlaw11_TokenLong.j4 kj8 x1_8 true)) = some r := H
                    have A12 := Aside0.mk A120
                    clear A120
                    by_cases c13 : t263 = true
                    · subst c13
                      have H1 : ((kilnlaw11_many.f kj8 (⟨#[97]⟩ : ByteArray) x0_4).bind fun t264 => (if 2 + t264.size ≤ 9223372036854775807 then (if ((⟨#[120, 32]⟩ : ByteArray) ++ t264).size + 1 ≤ 9223372036854775807 then ((kilnlaw11_cuts.f kj8 (((⟨#[120, 32]⟩ : ByteArray) ++ t264) ++ (⟨#[34]⟩ : ByteArray))).bind fun t265 => (if t265 = true then ((kilnlaw11_many.f kj8 (⟨#[97]⟩ : ByteArray) x0_4).bind fun t266 => ((kilnlaw11_cuts.f kj8 t266).bind fun t267 => (if t267 = true then ((kilnlaw11_many.f kj8 (⟨#[97]⟩ : ByteArray) x0_4).bind fun t268 => ((kilnlaw11_prints.f kj8 (([(⟨1, t268, 0, 0⟩ : S27), (⟨7, (⟨#[]⟩ : ByteArray), 0, 0⟩ : S27)] : List (S27)))).bind fun t272 => (kilnlaw11_TokenLong.j4 kj8 x1_8 (!t272)))) else (kilnlaw11_TokenLong.j4 kj8 x1_8 true)))) else (kilnlaw11_TokenLong.j4 kj8 x1_8 true))) else (none)) else (none))) = some r := by rw [if_pos rfl] at H; exact H
                      clear H
                      have H := H1
                      clear H1
                      replace H := Option.bind_eq_some_iff.mp H
                      obtain ⟨t264, A140, H⟩ := H
                      replace H : (if 2 + t264.size ≤ 9223372036854775807 then (if ((⟨#[120, 32]⟩ : ByteArray) ++ t264).size + 1 ≤ 9223372036854775807 then ((kilnlaw11_cuts.f kj8 (((⟨#[120, 32]⟩ : ByteArray) ++ t264) ++ (⟨#[34]⟩ : ByteArray))).bind fun t265 => (if t265 = true then ((kilnlaw11_many.f kj8 (⟨#[97]⟩ : ByteArray) x0_4).bind fun t266 => ((kilnlaw11_cuts.f kj8 t266).bind fun t267 => (if t267 = true then ((kilnlaw11_many.f kj8 (⟨#[97]⟩ : ByteArray) x0_4).bind fun t268 => ((kilnlaw11_prints.f kj8 (([(⟨1, t268, 0, 0⟩ : S27), (⟨7, (⟨#[]⟩ : ByteArray), 0, 0⟩ : S27)] : List (S27)))).bind fun t272 => (kilnlaw11_TokenLong.j4 kj8 x1_8 (!t272)))) else (kilnlaw11_TokenLong.j4 kj8 x1_8 true)))) else (kilnlaw11_TokenLong.j4 kj8 x1_8 true))) else (none)) else (none)) = some r := H
                      have A14 := Aside0.mk A140
                      clear A140
                      by_cases c15 : 2 + t264.size ≤ 9223372036854775807
                      · rw [if_pos c15] at H
                        have c15b0 := eq_true c15
                        have c15b1 : decide (2 + t264.size ≤ 9223372036854775807) = true := decide_eq_true c15
                        try have c15b2 : (9223372036854775807 < 2 + t264.size) = False := eq_false (Nat.not_lt.2 c15)
                        by_cases c16 : ((⟨#[120, 32]⟩ : ByteArray) ++ t264).size + 1 ≤ 9223372036854775807
                        · rw [if_pos c16] at H
                          have c16b0 := eq_true c16
                          have c16b1 : decide (((⟨#[120, 32]⟩ : ByteArray) ++ t264).size + 1 ≤ 9223372036854775807) = true := decide_eq_true c16
                          try have c16b2 : (9223372036854775807 < ((⟨#[120, 32]⟩ : ByteArray) ++ t264).size + 1) = False := eq_false (Nat.not_lt.2 c16)
                          try have c16b3 : (9223372036854775807 < 2 + t264.size + 1) = False := eq_false (by have h_ := c16; simp only [ByteArray.size_append] at h_; exact Nat.not_lt.2 h_)
                          try have c16b4 : decide (2 + t264.size + 1 ≤ 9223372036854775807) = true := decide_eq_true (by have h_ := c16; simp only [ByteArray.size_append] at h_; exact h_)
                          replace H := Option.bind_eq_some_iff.mp H
                          obtain ⟨t265, A170, H⟩ := H
                          replace H : (if t265 = true then ((kilnlaw11_many.f kj8 (⟨#[97]⟩ : ByteArray) x0_4).bind fun t266 => ((kilnlaw11_cuts.f kj8 t266).bind fun t267 => (if t267 = true then ((kilnlaw11_many.f kj8 (⟨#[97]⟩ : ByteArray) x0_4).bind fun t268 => ((kilnlaw11_prints.f kj8 (([(⟨1, t268, 0, 0⟩ : S27), (⟨7, (⟨#[]⟩ : ByteArray), 0, 0⟩ : S27)] : List (S27)))).bind fun t272 => (kilnlaw11_TokenLong.j4 kj8 x1_8 (!t272)))) else (kilnlaw11_TokenLong.j4 kj8 x1_8 true)))) else (kilnlaw11_TokenLong.j4 kj8 x1_8 true)) = some r := H
                          have A17 := Aside0.mk A170
                          clear A170
                          by_cases c18 : t265 = true
                          · subst c18
                            have H1 : ((kilnlaw11_many.f kj8 (⟨#[97]⟩ : ByteArray) x0_4).bind fun t266 => ((kilnlaw11_cuts.f kj8 t266).bind fun t267 => (if t267 = true then ((kilnlaw11_many.f kj8 (⟨#[97]⟩ : ByteArray) x0_4).bind fun t268 => ((kilnlaw11_prints.f kj8 (([(⟨1, t268, 0, 0⟩ : S27), (⟨7, (⟨#[]⟩ : ByteArray), 0, 0⟩ : S27)] : List (S27)))).bind fun t272 => (kilnlaw11_TokenLong.j4 kj8 x1_8 (!t272)))) else (kilnlaw11_TokenLong.j4 kj8 x1_8 true)))) = some r := by rw [if_pos rfl] at H; exact H
                            clear H
                            have H := H1
                            clear H1
                            replace H := Option.bind_eq_some_iff.mp H
                            obtain ⟨t266, A190, H⟩ := H
                            replace H : ((kilnlaw11_cuts.f kj8 t266).bind fun t267 => (if t267 = true then ((kilnlaw11_many.f kj8 (⟨#[97]⟩ : ByteArray) x0_4).bind fun t268 => ((kilnlaw11_prints.f kj8 (([(⟨1, t268, 0, 0⟩ : S27), (⟨7, (⟨#[]⟩ : ByteArray), 0, 0⟩ : S27)] : List (S27)))).bind fun t272 => (kilnlaw11_TokenLong.j4 kj8 x1_8 (!t272)))) else (kilnlaw11_TokenLong.j4 kj8 x1_8 true))) = some r := H
                            have A19 := Aside0.mk A190
                            clear A190
                            replace H := Option.bind_eq_some_iff.mp H
                            obtain ⟨t267, A200, H⟩ := H
                            replace H : (if t267 = true then ((kilnlaw11_many.f kj8 (⟨#[97]⟩ : ByteArray) x0_4).bind fun t268 => ((kilnlaw11_prints.f kj8 (([(⟨1, t268, 0, 0⟩ : S27), (⟨7, (⟨#[]⟩ : ByteArray), 0, 0⟩ : S27)] : List (S27)))).bind fun t272 => (kilnlaw11_TokenLong.j4 kj8 x1_8 (!t272)))) else (kilnlaw11_TokenLong.j4 kj8 x1_8 true)) = some r := H
                            have A20 := Aside0.mk A200
                            clear A200
                            by_cases c21 : t267 = true
                            · subst c21
                              have H1 : ((kilnlaw11_many.f kj8 (⟨#[97]⟩ : ByteArray) x0_4).bind fun t268 => ((kilnlaw11_prints.f kj8 (([(⟨1, t268, 0, 0⟩ : S27), (⟨7, (⟨#[]⟩ : ByteArray), 0, 0⟩ : S27)] : List (S27)))).bind fun t272 => (kilnlaw11_TokenLong.j4 kj8 x1_8 (!t272)))) = some r := by rw [if_pos rfl] at H; exact H
                              clear H
                              have H := H1
                              clear H1
                              replace H := Option.bind_eq_some_iff.mp H
                              obtain ⟨t268, A220, H⟩ := H
                              replace H : ((kilnlaw11_prints.f kj8 (([(⟨1, t268, 0, 0⟩ : S27), (⟨7, (⟨#[]⟩ : ByteArray), 0, 0⟩ : S27)] : List (S27)))).bind fun t272 => (kilnlaw11_TokenLong.j4 kj8 x1_8 (!t272))) = some r := H
                              have A22 := Aside0.mk A220
                              clear A220
                              obtain ⟨y269, hy269⟩ : ∃ y_ : List (S27), y_ = (([(⟨1, t268, 0, 0⟩ : S27), (⟨7, (⟨#[]⟩ : ByteArray), 0, 0⟩ : S27)] : List (S27))) := ⟨_, rfl⟩
                              replace H : ((kilnlaw11_prints.f kj8 y269).bind fun t272 => (kilnlaw11_TokenLong.j4 kj8 x1_8 (!t272))) = some r := by first | (rw [hy269]; with_reducible exact H) | (have H2_ := (Option.bind_some _ _).symm.trans H; rw [hy269]; with_reducible exact H2_) | (have H2_ := (Option.bind_some _ _).symm.trans H; with_reducible exact H2_) | with_reducible exact H | (rw [hy269]; exact H) | exact H
                              have Ny269 := Aside0.mk hy269
                              clear hy269
                              replace H := Option.bind_eq_some_iff.mp H
                              obtain ⟨t272, A230, H⟩ := H
                              replace H : (kilnlaw11_TokenLong.j4 kj8 x1_8 (!t272)) = some r := H
                              have A23 := Aside0.mk A230
                              clear A230
                              have H' := Aside0.mk H
                              clear H
                              go_wp2_with (first | ((with_reducible refine gate_callee (f := 14) rfl ?_); refine goesL_ (some 20) rfl rfl Try.func14 (by kernel_rfl) rfl #[] rfl (by (try simp only [List.map_toArray, List.map_cons, List.map_nil]); first | done | rfl | (simp only [List.length_drop, List.length_take]; rfl)) ?_; (with_reducible refine (kilnlaw11_Told.calls kj8  true _ A12.out).mono ?_); rintro e w24 ⟨rfl, hb⟩; refine ⟨_, rfl, ?_⟩; have n0_ := Aside0.mk (below_step (by repeat (first | (with_reducible first | exact HB.out | apply below_alloc | apply pw_below_drewN | apply below_drew1) | exact HB.out)) hb); clear HB; have HB := n0_; clear n0_; (try clear hb); (try clear hb2); (try clear hk); (try clear hi)) | ((fail_if_success (have z_ := UA14)); have UA14 := A14; go_at_call 20; (with_reducible refine (kilnlaw11_many.calls kj8 (⟨#[97]⟩ : ByteArray) x0_4 t264 _ A14.out).mono ?_); rintro e w25 ⟨rfl, hb⟩; have n0_ := Aside0.mk (below_step (by repeat (first | (with_reducible first | exact HB.out | apply below_alloc | apply pw_below_drewN | apply below_drew1) | exact HB.out)) hb); clear HB; have HB := n0_; clear n0_; (try clear hb); (try clear hb2); (try clear hk); (try clear hi)) | (go_at_call 15; (with_reducible refine (kilnlaw11_cuts.calls kj8 (((⟨#[120, 32]⟩ : ByteArray) ++ t264) ++ (⟨#[34]⟩ : ByteArray)) true _ A17.out).mono ?_); rintro e w26 ⟨rfl, hb⟩; have n0_ := Aside0.mk (below_step (by repeat (first | (with_reducible first | exact HB.out | apply below_alloc | apply pw_below_drewN | apply below_drew1) | exact HB.out)) hb); clear HB; have HB := n0_; clear n0_; (try clear hb); (try clear hb2); (try clear hk); (try clear hi)) | ((fail_if_success (have z_ := UA19)); have UA19 := A19; go_at_call 20; (with_reducible refine (kilnlaw11_many.calls kj8 (⟨#[97]⟩ : ByteArray) x0_4 t266 _ A19.out).mono ?_); rintro e w27 ⟨rfl, hb⟩; have n0_ := Aside0.mk (below_step (by repeat (first | (with_reducible first | exact HB.out | apply below_alloc | apply pw_below_drewN | apply below_drew1) | exact HB.out)) hb); clear HB; have HB := n0_; clear n0_; (try clear hb); (try clear hb2); (try clear hk); (try clear hi)) | (go_at_call 15; (with_reducible refine (kilnlaw11_cuts.calls kj8 t266 true _ A20.out).mono ?_); rintro e w28 ⟨rfl, hb⟩; have n0_ := Aside0.mk (below_step (by repeat (first | (with_reducible first | exact HB.out | apply below_alloc | apply pw_below_drewN | apply below_drew1) | exact HB.out)) hb); clear HB; have HB := n0_; clear n0_; (try clear hb); (try clear hb2); (try clear hk); (try clear hi)) | ((fail_if_success (have z_ := UA22)); have UA22 := A22; go_at_call 20; (with_reducible refine (kilnlaw11_many.calls kj8 (⟨#[97]⟩ : ByteArray) x0_4 t268 _ A22.out).mono ?_); rintro e w29 ⟨rfl, hb⟩; have n0_ := Aside0.mk (below_step (by repeat (first | (with_reducible first | exact HB.out | apply below_alloc | apply pw_below_drewN | apply below_drew1) | exact HB.out)) hb); clear HB; have HB := n0_; clear n0_; (try clear hb); (try clear hb2); (try clear hk); (try clear hi)) | ((with_reducible refine gate_dst (N := 41) rfl ?_); (try (refine gate_guard (by rfl) ?_; dsimp only)); refine Kd.R_lit k27 _ 27 ?hg (N := 41) ?hd (xs := ([(⟨1, t268, 0, 0⟩ : S27), (⟨7, (⟨#[]⟩ : ByteArray), 0, 0⟩ : S27)] : List (S27))) (inner := [.int .i64 1, .string t268, .int .i64 0, .int .i64 0, .int .i64 7, .string (⟨#[]⟩ : ByteArray), .int .i64 0, .int .i64 0]) (ok := fun _ => True) (okp := fun _ => True) ?hr ?hp (fun _ hk => hk) trivial (Below.refl _ _) (Nat.le_refl _) (by simp) ?_; (case hd => rfl); (case hg => rfl); (case hr => first | (go_simp; done) | (go_simp; rfl)); (case hp => exact (Reps.c4 (show Kd.M k27 _ _ _ (⟨1, t268, 0, 0⟩ : S27) [.int .i64 1, .string t268, .int .i64 0, .int .i64 0] from (k27_mkM _ _ _ (⟨1, t268, 0, 0⟩ : S27) )) (Reps.c4 (show Kd.M k27 _ _ _ (⟨7, (⟨#[]⟩ : ByteArray), 0, 0⟩ : S27) [.int .i64 7, .string (⟨#[]⟩ : ByteArray), .int .i64 0, .int .i64 0] from (k27_mkM _ _ _ (⟨7, (⟨#[]⟩ : ByteArray), 0, 0⟩ : S27) )) (Reps.none _ _)))); intro v270 w30 ho31 hb hg_ hnew_; clear hg_ hnew_; (first | rw [← Ny269.out] at ho31 | (simp only [Int.reduceToNat] at ho31; rw [← Ny269.out] at ho31)); have n0_ := Aside0.mk (Kd.R_lower ho31 (below_size (by repeat (first | (with_reducible first | exact HB.out | apply below_alloc | apply pw_below_drewN | apply below_drew1) | exact HB.out)))); have n1_ := Aside0.mk (below_step (by repeat (first | (with_reducible first | exact HB.out | apply below_alloc | apply pw_below_drewN | apply below_drew1) | exact HB.out)) hb); clear HB; have HO271 := n0_; have HB := n1_; clear n0_ n1_; clear hb ho31; obtain ⟨Ao32, co32, eo32⟩ := Kd.R_slice HO271.out; subst eo32) | (go_at_call 19; (with_reducible refine (kilnlaw11_prints.calls kj8 _ _ y269 t272 _ ?side1 ?side2 A23.out).mono ?_); (case side1 => repeat (first | exact (Kd.R_reads' HO271.out).2.2 | (with_reducible refine Kd.C_alloc ?_ _) | (with_reducible refine Kd.C_drewN ?_ _) | (with_reducible refine Kd.C_drew ?_))); (case side2 => exact (Kd.R_reads' HO271.out).2.1); rintro e w33 ⟨rfl, hb⟩; have n0_ := Aside0.mk (Kd.R_below (by (with_reducible repeat (first | apply Kd.R_alloc | apply Kd.R_drewN | apply Kd.R_drew)); exact HO271.out) hb); have n1_ := Aside0.mk (below_step (by repeat (first | (with_reducible first | exact HB.out | apply below_alloc | apply pw_below_drewN | apply below_drew1) | exact HB.out)) hb); clear HO271; clear HB; have HO271 := n0_; have HB := n1_; clear n0_ n1_; (try clear hb); (try clear hb2); (try clear hk); (try clear hi)))
                              go_meet
                              case rel => exact ⟨_, (!t272), (by first | rfl | (simp; done) | (simp [*]; done)), H', ⟨by have := HJ2.out; have := HJ4.out; have := HJ6.out; have := HJ8.out; first | omega | exact Nat.le_refl _⟩, ⟨by repeat (first | (with_reducible first | exact HB.out | apply below_alloc | apply pw_below_drewN | apply below_drew1) | exact HB.out)⟩⟩
                            · replace c21 := Bool.eq_false_iff.mpr c21
                              subst c21
                              have H1 : (kilnlaw11_TokenLong.j4 kj8 x1_8 true) = some r := by rw [if_neg (show ¬ (false = true) by decide)] at H; exact H
                              clear H
                              have H := H1
                              clear H1
                              have H' := Aside0.mk H
                              clear H
                              go_wp2_with (first | ((with_reducible refine gate_callee (f := 14) rfl ?_); refine goesL_ (some 20) rfl rfl Try.func14 (by kernel_rfl) rfl #[] rfl (by (try simp only [List.map_toArray, List.map_cons, List.map_nil]); first | done | rfl | (simp only [List.length_drop, List.length_take]; rfl)) ?_; (with_reducible refine (kilnlaw11_Told.calls kj8  true _ A12.out).mono ?_); rintro e w34 ⟨rfl, hb⟩; refine ⟨_, rfl, ?_⟩; have n0_ := Aside0.mk (below_step (by repeat (first | (with_reducible first | exact HB.out | apply below_alloc | apply pw_below_drewN | apply below_drew1) | exact HB.out)) hb); clear HB; have HB := n0_; clear n0_; (try clear hb); (try clear hb2); (try clear hk); (try clear hi)) | ((fail_if_success (have z_ := UA14)); have UA14 := A14; go_at_call 20; (with_reducible refine (kilnlaw11_many.calls kj8 (⟨#[97]⟩ : ByteArray) x0_4 t264 _ A14.out).mono ?_); rintro e w35 ⟨rfl, hb⟩; have n0_ := Aside0.mk (below_step (by repeat (first | (with_reducible first | exact HB.out | apply below_alloc | apply pw_below_drewN | apply below_drew1) | exact HB.out)) hb); clear HB; have HB := n0_; clear n0_; (try clear hb); (try clear hb2); (try clear hk); (try clear hi)) | (go_at_call 15; (with_reducible refine (kilnlaw11_cuts.calls kj8 (((⟨#[120, 32]⟩ : ByteArray) ++ t264) ++ (⟨#[34]⟩ : ByteArray)) true _ A17.out).mono ?_); rintro e w36 ⟨rfl, hb⟩; have n0_ := Aside0.mk (below_step (by repeat (first | (with_reducible first | exact HB.out | apply below_alloc | apply pw_below_drewN | apply below_drew1) | exact HB.out)) hb); clear HB; have HB := n0_; clear n0_; (try clear hb); (try clear hb2); (try clear hk); (try clear hi)) | ((fail_if_success (have z_ := UA19)); have UA19 := A19; go_at_call 20; (with_reducible refine (kilnlaw11_many.calls kj8 (⟨#[97]⟩ : ByteArray) x0_4 t266 _ A19.out).mono ?_); rintro e w37 ⟨rfl, hb⟩; have n0_ := Aside0.mk (below_step (by repeat (first | (with_reducible first | exact HB.out | apply below_alloc | apply pw_below_drewN | apply below_drew1) | exact HB.out)) hb); clear HB; have HB := n0_; clear n0_; (try clear hb); (try clear hb2); (try clear hk); (try clear hi)) | (go_at_call 15; (with_reducible refine (kilnlaw11_cuts.calls kj8 t266 false _ A20.out).mono ?_); rintro e w38 ⟨rfl, hb⟩; have n0_ := Aside0.mk (below_step (by repeat (first | (with_reducible first | exact HB.out | apply below_alloc | apply pw_below_drewN | apply below_drew1) | exact HB.out)) hb); clear HB; have HB := n0_; clear n0_; (try clear hb); (try clear hb2); (try clear hk); (try clear hi)))
                              go_meet
                              case rel => exact ⟨_, (true), (by first | rfl | (simp; done) | (simp [*]; done)), H', ⟨by have := HJ2.out; have := HJ4.out; have := HJ6.out; have := HJ8.out; first | omega | exact Nat.le_refl _⟩, ⟨by repeat (first | (with_reducible first | exact HB.out | apply below_alloc | apply pw_below_drewN | apply below_drew1) | exact HB.out)⟩⟩
                          · replace c18 := Bool.eq_false_iff.mpr c18
                            subst c18
                            have H1 : (kilnlaw11_TokenLong.j4 kj8 x1_8 true) = some r := by rw [if_neg (show ¬ (false = true) by decide)] at H; exact H
                            clear H
                            have H := H1
                            clear H1
                            have H' := Aside0.mk H
                            clear H
                            go_wp2_with (first | ((with_reducible refine gate_callee (f := 14) rfl ?_); refine goesL_ (some 20) rfl rfl Try.func14 (by kernel_rfl) rfl #[] rfl (by (try simp only [List.map_toArray, List.map_cons, List.map_nil]); first | done | rfl | (simp only [List.length_drop, List.length_take]; rfl)) ?_; (with_reducible refine (kilnlaw11_Told.calls kj8  true _ A12.out).mono ?_); rintro e w39 ⟨rfl, hb⟩; refine ⟨_, rfl, ?_⟩; have n0_ := Aside0.mk (below_step (by repeat (first | (with_reducible first | exact HB.out | apply below_alloc | apply pw_below_drewN | apply below_drew1) | exact HB.out)) hb); clear HB; have HB := n0_; clear n0_; (try clear hb); (try clear hb2); (try clear hk); (try clear hi)) | (go_at_call 20; (with_reducible refine (kilnlaw11_many.calls kj8 (⟨#[97]⟩ : ByteArray) x0_4 t264 _ A14.out).mono ?_); rintro e w40 ⟨rfl, hb⟩; have n0_ := Aside0.mk (below_step (by repeat (first | (with_reducible first | exact HB.out | apply below_alloc | apply pw_below_drewN | apply below_drew1) | exact HB.out)) hb); clear HB; have HB := n0_; clear n0_; (try clear hb); (try clear hb2); (try clear hk); (try clear hi)) | (go_at_call 15; (with_reducible refine (kilnlaw11_cuts.calls kj8 (((⟨#[120, 32]⟩ : ByteArray) ++ t264) ++ (⟨#[34]⟩ : ByteArray)) false _ A17.out).mono ?_); rintro e w41 ⟨rfl, hb⟩; have n0_ := Aside0.mk (below_step (by repeat (first | (with_reducible first | exact HB.out | apply below_alloc | apply pw_below_drewN | apply below_drew1) | exact HB.out)) hb); clear HB; have HB := n0_; clear n0_; (try clear hb); (try clear hb2); (try clear hk); (try clear hi)))
                            go_meet
                            case rel => exact ⟨_, (true), (by first | rfl | (simp; done) | (simp [*]; done)), H', ⟨by have := HJ2.out; have := HJ4.out; have := HJ6.out; have := HJ8.out; first | omega | exact Nat.le_refl _⟩, ⟨by repeat (first | (with_reducible first | exact HB.out | apply below_alloc | apply pw_below_drewN | apply below_drew1) | exact HB.out)⟩⟩
                        · rw [if_neg c16] at H
                          exact absurd H (by simp)
                      · rw [if_neg c15] at H
                        exact absurd H (by simp)
                    · replace c13 := Bool.eq_false_iff.mpr c13
                      subst c13
                      have H1 : (kilnlaw11_TokenLong.j4 kj8 x1_8 true) = some r := by rw [if_neg (show ¬ (false = true) by decide)] at H; exact H
                      clear H
                      have H := H1
                      clear H1
                      have H' := Aside0.mk H
                      clear H
                      go_wp2_with (first | ((with_reducible refine gate_callee (f := 14) rfl ?_); refine goesL_ (some 20) rfl rfl Try.func14 (by kernel_rfl) rfl #[] rfl (by (try simp only [List.map_toArray, List.map_cons, List.map_nil]); first | done | rfl | (simp only [List.length_drop, List.length_take]; rfl)) ?_; (with_reducible refine (kilnlaw11_Told.calls kj8  false _ A12.out).mono ?_); rintro e w42 ⟨rfl, hb⟩; refine ⟨_, rfl, ?_⟩; have n0_ := Aside0.mk (below_step (by repeat (first | (with_reducible first | exact HB.out | apply below_alloc | apply pw_below_drewN | apply below_drew1) | exact HB.out)) hb); clear HB; have HB := n0_; clear n0_; (try clear hb); (try clear hb2); (try clear hk); (try clear hi)))
                      go_meet
                      case rel => exact ⟨_, (true), (by first | rfl | (simp; done) | (simp [*]; done)), H', ⟨by have := HJ2.out; have := HJ4.out; have := HJ6.out; have := HJ8.out; first | omega | exact Nat.le_refl _⟩, ⟨by repeat (first | (with_reducible first | exact HB.out | apply below_alloc | apply pw_below_drewN | apply below_drew1) | exact HB.out)⟩⟩
                  case rest =>
                    clear HC11
                    try clear c1
                    try clear c2
                    try clear p2
                    try clear c4
                    try clear c4b0
                    try clear c5
                    try clear c6
                    try clear c8
                    try clear c8b0
                    try clear c10
                    try clear c13
                    try clear c14
                    try clear c15
                    try clear c15b0
                    try clear c15b1
                    try clear c15b2
                    try clear c16
                    try clear c16b0
                    try clear c16b1
                    try clear c16b2
                    try clear c18
                    try clear c21
                    try clear p2
                    obtain ⟨kq, x44_10, rfl, HA, HJ10, HB⟩ := hcut
                    cases kq with
                    | zero => exact absurd HA.out (by simp [kilnlaw11_TokenLong.j4])
                    | succ kj10 =>
                      have H := HA.out
                      clear HA
                      simp only [kilnlaw11_TokenLong.j4] at H
                      by_cases c43 : x44_10 = true
                      · subst c43
                        have H1 : (some false) = some r := by rw [if_pos rfl] at H; exact H
                        clear H
                        have H := H1
                        clear H1
                        obtain rfl := Option.some.inj H
                        go_wp2
                        go_ret
                        exact ⟨by first | rfl | (simp [errW_none, errW_some] <;> rfl) | (simp [*, errW_none, errW_some] <;> rfl), by repeat (first | (with_reducible first | exact HB.out | apply below_alloc | apply pw_below_drewN | apply below_drew1) | exact HB.out)⟩
                      · replace c43 := Bool.eq_false_iff.mpr c43
                        subst c43
                        have H1 : ((kilnlaw11_many.f kj10 (⟨#[98]⟩ : ByteArray) (wrap64 (65533 + x1_8))).bind fun t273 => (if 3 + t273.size ≤ 9223372036854775807 then ((kilnlaw11_cuts.f kj10 ((⟨#[97, 32, 35]⟩ : ByteArray) ++ t273)).bind fun t274 => (if t274 = true then ((kilnlaw11_many.f kj10 (⟨#[32]⟩ : ByteArray) (wrap64 (65536 + x1_8))).bind fun t275 => ((kilnlaw11_cuts.f kj10 t275).bind fun t276 => (if t276 = true then ((kilnlaw11_many.f kj10 (⟨#[10]⟩ : ByteArray) (wrap64 (65535 + x1_8))).bind fun t277 => (if t277.size + 1 ≤ 9223372036854775807 then ((kilnlaw11_cuts.f kj10 (t277 ++ (⟨#[43]⟩ : ByteArray))).bind fun t278 => (kilnlaw11_TokenLong.j5 kj10 x1_8 (!t278))) else (none))) else (kilnlaw11_TokenLong.j5 kj10 x1_8 true)))) else (kilnlaw11_TokenLong.j5 kj10 x1_8 true))) else (none))) = some r := by rw [if_neg (show ¬ (false = true) by decide)] at H; exact H
                        clear H
                        have H := H1
                        clear H1
                        have HC44 := Aside0.mk H
                        clear H
                        go_upto_region 7 with (fail)
                        go_cut [65] (fun v65 wc => ∃ (kq : Nat) (x65_43 : Bool), v65 = .bool x65_43 ∧ Aside0 (kilnlaw11_TokenLong.j5 kq x1_8 x65_43 = some r) ∧ Aside0 (kq ≤ kj10) ∧ Aside0 (Below w.heap.size w wc))
                        case first =>
                          have H := HC44.out
                          clear HC44
                          replace H := Option.bind_eq_some_iff.mp H
                          obtain ⟨t273, A450, H⟩ := H
                          replace H : (if 3 + t273.size ≤ 9223372036854775807 then ((kilnlaw11_cuts.f kj10 ((⟨#[97, 32, 35]⟩ : ByteArray) ++ t273)).bind fun t274 => (if t274 = true then ((kilnlaw11_many.f kj10 (⟨#[32]⟩ : ByteArray) (wrap64 (65536 + x1_8))).bind fun t275 => ((kilnlaw11_cuts.f kj10 t275).bind fun t276 => (if t276 = true then ((kilnlaw11_many.f kj10 (⟨#[10]⟩ : ByteArray) (wrap64 (65535 + x1_8))).bind fun t277 => (if t277.size + 1 ≤ 9223372036854775807 then ((kilnlaw11_cuts.f kj10 (t277 ++ (⟨#[43]⟩ : ByteArray))).bind fun t278 => (kilnlaw11_TokenLong.j5 kj10 x1_8 (!t278))) else (none))) else (kilnlaw11_TokenLong.j5 kj10 x1_8 true)))) else (kilnlaw11_TokenLong.j5 kj10 x1_8 true))) else (none)) = some r := H
                          have A45 := Aside0.mk A450
                          clear A450
                          by_cases c46 : 3 + t273.size ≤ 9223372036854775807
                          · rw [if_pos c46] at H
                            have c46b0 := eq_true c46
                            have c46b1 : decide (3 + t273.size ≤ 9223372036854775807) = true := decide_eq_true c46
                            try have c46b2 : (9223372036854775807 < 3 + t273.size) = False := eq_false (Nat.not_lt.2 c46)
                            replace H := Option.bind_eq_some_iff.mp H
                            obtain ⟨t274, A470, H⟩ := H
                            replace H : (if t274 = true then ((kilnlaw11_many.f kj10 (⟨#[32]⟩ : ByteArray) (wrap64 (65536 + x1_8))).bind fun t275 => ((kilnlaw11_cuts.f kj10 t275).bind fun t276 => (if t276 = true then ((kilnlaw11_many.f kj10 (⟨#[10]⟩ : ByteArray) (wrap64 (65535 + x1_8))).bind fun t277 => (if t277.size + 1 ≤ 9223372036854775807 then ((kilnlaw11_cuts.f kj10 (t277 ++ (⟨#[43]⟩ : ByteArray))).bind fun t278 => (kilnlaw11_TokenLong.j5 kj10 x1_8 (!t278))) else (none))) else (kilnlaw11_TokenLong.j5 kj10 x1_8 true)))) else (kilnlaw11_TokenLong.j5 kj10 x1_8 true)) = some r := H
                            have A47 := Aside0.mk A470
                            clear A470
                            by_cases c48 : t274 = true
                            · subst c48
                              have H1 : ((kilnlaw11_many.f kj10 (⟨#[32]⟩ : ByteArray) (wrap64 (65536 + x1_8))).bind fun t275 => ((kilnlaw11_cuts.f kj10 t275).bind fun t276 => (if t276 = true then ((kilnlaw11_many.f kj10 (⟨#[10]⟩ : ByteArray) (wrap64 (65535 + x1_8))).bind fun t277 => (if t277.size + 1 ≤ 9223372036854775807 then ((kilnlaw11_cuts.f kj10 (t277 ++ (⟨#[43]⟩ : ByteArray))).bind fun t278 => (kilnlaw11_TokenLong.j5 kj10 x1_8 (!t278))) else (none))) else (kilnlaw11_TokenLong.j5 kj10 x1_8 true)))) = some r := by rw [if_pos rfl] at H; exact H
                              clear H
                              have H := H1
                              clear H1
                              replace H := Option.bind_eq_some_iff.mp H
                              obtain ⟨t275, A490, H⟩ := H
                              replace H : ((kilnlaw11_cuts.f kj10 t275).bind fun t276 => (if t276 = true then ((kilnlaw11_many.f kj10 (⟨#[10]⟩ : ByteArray) (wrap64 (65535 + x1_8))).bind fun t277 => (if t277.size + 1 ≤ 9223372036854775807 then ((kilnlaw11_cuts.f kj10 (t277 ++ (⟨#[43]⟩ : ByteArray))).bind fun t278 => (kilnlaw11_TokenLong.j5 kj10 x1_8 (!t278))) else (none))) else (kilnlaw11_TokenLong.j5 kj10 x1_8 true))) = some r := H
                              have A49 := Aside0.mk A490
                              clear A490
                              replace H := Option.bind_eq_some_iff.mp H
                              obtain ⟨t276, A500, H⟩ := H
                              replace H : (if t276 = true then ((kilnlaw11_many.f kj10 (⟨#[10]⟩ : ByteArray) (wrap64 (65535 + x1_8))).bind fun t277 => (if t277.size + 1 ≤ 9223372036854775807 then ((kilnlaw11_cuts.f kj10 (t277 ++ (⟨#[43]⟩ : ByteArray))).bind fun t278 => (kilnlaw11_TokenLong.j5 kj10 x1_8 (!t278))) else (none))) else (kilnlaw11_TokenLong.j5 kj10 x1_8 true)) = some r := H
                              have A50 := Aside0.mk A500
                              clear A500
                              by_cases c51 : t276 = true
                              · subst c51
                                have H1 : ((kilnlaw11_many.f kj10 (⟨#[10]⟩ : ByteArray) (wrap64 (65535 + x1_8))).bind fun t277 => (if t277.size + 1 ≤ 9223372036854775807 then ((kilnlaw11_cuts.f kj10 (t277 ++ (⟨#[43]⟩ : ByteArray))).bind fun t278 => (kilnlaw11_TokenLong.j5 kj10 x1_8 (!t278))) else (none))) = some r := by rw [if_pos rfl] at H; exact H
                                clear H
                                have H := H1
                                clear H1
                                replace H := Option.bind_eq_some_iff.mp H
                                obtain ⟨t277, A520, H⟩ := H
                                replace H : (if t277.size + 1 ≤ 9223372036854775807 then ((kilnlaw11_cuts.f kj10 (t277 ++ (⟨#[43]⟩ : ByteArray))).bind fun t278 => (kilnlaw11_TokenLong.j5 kj10 x1_8 (!t278))) else (none)) = some r := H
                                have A52 := Aside0.mk A520
                                clear A520
                                by_cases c53 : t277.size + 1 ≤ 9223372036854775807
                                · rw [if_pos c53] at H
                                  have c53b0 := eq_true c53
                                  have c53b1 : decide (t277.size + 1 ≤ 9223372036854775807) = true := decide_eq_true c53
                                  try have c53b2 : (9223372036854775807 < t277.size + 1) = False := eq_false (Nat.not_lt.2 c53)
                                  replace H := Option.bind_eq_some_iff.mp H
                                  obtain ⟨t278, A540, H⟩ := H
                                  replace H : (kilnlaw11_TokenLong.j5 kj10 x1_8 (!t278)) = some r := H
                                  have A54 := Aside0.mk A540
                                  clear A540
                                  have H' := Aside0.mk H
                                  clear H
                                  go_wp2_with (first | ((with_reducible refine gate_callee (f := 20) rfl ?_); refine goesL_ (some 47) rfl rfl Try.func20 (by kernel_rfl) rfl #[.string (⟨#[98]⟩ : ByteArray), .int .i64 (wrap64 (65533 + x1_8))] rfl (by (try simp only [List.map_toArray, List.map_cons, List.map_nil]); first | done | rfl | (simp only [List.length_drop, List.length_take]; rfl)) ?_; (with_reducible refine (kilnlaw11_many.calls kj10 (⟨#[98]⟩ : ByteArray) (wrap64 (65533 + x1_8)) t273 _ A45.out).mono ?_); rintro e w55 ⟨rfl, hb⟩; refine ⟨_, rfl, ?_⟩; have n0_ := Aside0.mk (below_step (by repeat (first | (with_reducible first | exact HB.out | apply below_alloc | apply pw_below_drewN | apply below_drew1) | exact HB.out)) hb); clear HB; have HB := n0_; clear n0_; (try clear hb); (try clear hb2); (try clear hk); (try clear hi)) | ((with_reducible refine gate_callee (f := 15) rfl ?_); refine goesL_ (some 49) rfl rfl Try.func15 (by kernel_rfl) rfl #[.string ((⟨#[97, 32, 35]⟩ : ByteArray) ++ t273)] rfl (by (try simp only [List.map_toArray, List.map_cons, List.map_nil]); first | done | rfl | (simp only [List.length_drop, List.length_take]; rfl)) ?_; (with_reducible refine (kilnlaw11_cuts.calls kj10 ((⟨#[97, 32, 35]⟩ : ByteArray) ++ t273) true _ A47.out).mono ?_); rintro e w56 ⟨rfl, hb⟩; refine ⟨_, rfl, ?_⟩; have n0_ := Aside0.mk (below_step (by repeat (first | (with_reducible first | exact HB.out | apply below_alloc | apply pw_below_drewN | apply below_drew1) | exact HB.out)) hb); clear HB; have HB := n0_; clear n0_; (try clear hb); (try clear hb2); (try clear hk); (try clear hi)) | (go_at_call 20; (with_reducible refine (kilnlaw11_many.calls kj10 (⟨#[32]⟩ : ByteArray) (wrap64 (65536 + x1_8)) t275 _ A49.out).mono ?_); rintro e w57 ⟨rfl, hb⟩; have n0_ := Aside0.mk (below_step (by repeat (first | (with_reducible first | exact HB.out | apply below_alloc | apply pw_below_drewN | apply below_drew1) | exact HB.out)) hb); clear HB; have HB := n0_; clear n0_; (try clear hb); (try clear hb2); (try clear hk); (try clear hi)) | (go_at_call 15; (with_reducible refine (kilnlaw11_cuts.calls kj10 t275 true _ A50.out).mono ?_); rintro e w58 ⟨rfl, hb⟩; have n0_ := Aside0.mk (below_step (by repeat (first | (with_reducible first | exact HB.out | apply below_alloc | apply pw_below_drewN | apply below_drew1) | exact HB.out)) hb); clear HB; have HB := n0_; clear n0_; (try clear hb); (try clear hb2); (try clear hk); (try clear hi)) | (go_at_call 20; (with_reducible refine (kilnlaw11_many.calls kj10 (⟨#[10]⟩ : ByteArray) (wrap64 (65535 + x1_8)) t277 _ A52.out).mono ?_); rintro e w59 ⟨rfl, hb⟩; have n0_ := Aside0.mk (below_step (by repeat (first | (with_reducible first | exact HB.out | apply below_alloc | apply pw_below_drewN | apply below_drew1) | exact HB.out)) hb); clear HB; have HB := n0_; clear n0_; (try clear hb); (try clear hb2); (try clear hk); (try clear hi)) | (go_at_call 15; (with_reducible refine (kilnlaw11_cuts.calls kj10 (t277 ++ (⟨#[43]⟩ : ByteArray)) t278 _ A54.out).mono ?_); rintro e w60 ⟨rfl, hb⟩; have n0_ := Aside0.mk (below_step (by repeat (first | (with_reducible first | exact HB.out | apply below_alloc | apply pw_below_drewN | apply below_drew1) | exact HB.out)) hb); clear HB; have HB := n0_; clear n0_; (try clear hb); (try clear hb2); (try clear hk); (try clear hi)))
                                  go_meet
                                  case rel => exact ⟨_, (!t278), (by first | rfl | (simp; done) | (simp [*]; done)), H', ⟨by have := HJ2.out; have := HJ4.out; have := HJ6.out; have := HJ8.out; have := HJ10.out; first | omega | exact Nat.le_refl _⟩, ⟨by repeat (first | (with_reducible first | exact HB.out | apply below_alloc | apply pw_below_drewN | apply below_drew1) | exact HB.out)⟩⟩
                                · rw [if_neg c53] at H
                                  exact absurd H (by simp)
                              · replace c51 := Bool.eq_false_iff.mpr c51
                                subst c51
                                have H1 : (kilnlaw11_TokenLong.j5 kj10 x1_8 true) = some r := by rw [if_neg (show ¬ (false = true) by decide)] at H; exact H
                                clear H
                                have H := H1
                                clear H1
                                have H' := Aside0.mk H
                                clear H
                                go_wp2_with (first | ((with_reducible refine gate_callee (f := 20) rfl ?_); refine goesL_ (some 47) rfl rfl Try.func20 (by kernel_rfl) rfl #[.string (⟨#[98]⟩ : ByteArray), .int .i64 (wrap64 (65533 + x1_8))] rfl (by (try simp only [List.map_toArray, List.map_cons, List.map_nil]); first | done | rfl | (simp only [List.length_drop, List.length_take]; rfl)) ?_; (with_reducible refine (kilnlaw11_many.calls kj10 (⟨#[98]⟩ : ByteArray) (wrap64 (65533 + x1_8)) t273 _ A45.out).mono ?_); rintro e w61 ⟨rfl, hb⟩; refine ⟨_, rfl, ?_⟩; have n0_ := Aside0.mk (below_step (by repeat (first | (with_reducible first | exact HB.out | apply below_alloc | apply pw_below_drewN | apply below_drew1) | exact HB.out)) hb); clear HB; have HB := n0_; clear n0_; (try clear hb); (try clear hb2); (try clear hk); (try clear hi)) | ((with_reducible refine gate_callee (f := 15) rfl ?_); refine goesL_ (some 49) rfl rfl Try.func15 (by kernel_rfl) rfl #[.string ((⟨#[97, 32, 35]⟩ : ByteArray) ++ t273)] rfl (by (try simp only [List.map_toArray, List.map_cons, List.map_nil]); first | done | rfl | (simp only [List.length_drop, List.length_take]; rfl)) ?_; (with_reducible refine (kilnlaw11_cuts.calls kj10 ((⟨#[97, 32, 35]⟩ : ByteArray) ++ t273) true _ A47.out).mono ?_); rintro e w62 ⟨rfl, hb⟩; refine ⟨_, rfl, ?_⟩; have n0_ := Aside0.mk (below_step (by repeat (first | (with_reducible first | exact HB.out | apply below_alloc | apply pw_below_drewN | apply below_drew1) | exact HB.out)) hb); clear HB; have HB := n0_; clear n0_; (try clear hb); (try clear hb2); (try clear hk); (try clear hi)) | (go_at_call 20; (with_reducible refine (kilnlaw11_many.calls kj10 (⟨#[32]⟩ : ByteArray) (wrap64 (65536 + x1_8)) t275 _ A49.out).mono ?_); rintro e w63 ⟨rfl, hb⟩; have n0_ := Aside0.mk (below_step (by repeat (first | (with_reducible first | exact HB.out | apply below_alloc | apply pw_below_drewN | apply below_drew1) | exact HB.out)) hb); clear HB; have HB := n0_; clear n0_; (try clear hb); (try clear hb2); (try clear hk); (try clear hi)) | (go_at_call 15; (with_reducible refine (kilnlaw11_cuts.calls kj10 t275 false _ A50.out).mono ?_); rintro e w64 ⟨rfl, hb⟩; have n0_ := Aside0.mk (below_step (by repeat (first | (with_reducible first | exact HB.out | apply below_alloc | apply pw_below_drewN | apply below_drew1) | exact HB.out)) hb); clear HB; have HB := n0_; clear n0_; (try clear hb); (try clear hb2); (try clear hk); (try clear hi)))
                                go_meet
                                case rel => exact ⟨_, (true), (by first | rfl | (simp; done) | (simp [*]; done)), H', ⟨by have := HJ2.out; have := HJ4.out; have := HJ6.out; have := HJ8.out; have := HJ10.out; first | omega | exact Nat.le_refl _⟩, ⟨by repeat (first | (with_reducible first | exact HB.out | apply below_alloc | apply pw_below_drewN | apply below_drew1) | exact HB.out)⟩⟩
                            · replace c48 := Bool.eq_false_iff.mpr c48
                              subst c48
                              have H1 : (kilnlaw11_TokenLong.j5 kj10 x1_8 true) = some r := by rw [if_neg (show ¬ (false = true) by decide)] at H; exact H
                              clear H
                              have H := H1
                              clear H1
                              have H' := Aside0.mk H
                              clear H
                              go_wp2_with (first | ((with_reducible refine gate_callee (f := 20) rfl ?_); refine goesL_ (some 47) rfl rfl Try.func20 (by kernel_rfl) rfl #[.string (⟨#[98]⟩ : ByteArray), .int .i64 (wrap64 (65533 + x1_8))] rfl (by (try simp only [List.map_toArray, List.map_cons, List.map_nil]); first | done | rfl | (simp only [List.length_drop, List.length_take]; rfl)) ?_; (with_reducible refine (kilnlaw11_many.calls kj10 (⟨#[98]⟩ : ByteArray) (wrap64 (65533 + x1_8)) t273 _ A45.out).mono ?_); rintro e w65 ⟨rfl, hb⟩; refine ⟨_, rfl, ?_⟩; have n0_ := Aside0.mk (below_step (by repeat (first | (with_reducible first | exact HB.out | apply below_alloc | apply pw_below_drewN | apply below_drew1) | exact HB.out)) hb); clear HB; have HB := n0_; clear n0_; (try clear hb); (try clear hb2); (try clear hk); (try clear hi)) | ((with_reducible refine gate_callee (f := 15) rfl ?_); refine goesL_ (some 49) rfl rfl Try.func15 (by kernel_rfl) rfl #[.string ((⟨#[97, 32, 35]⟩ : ByteArray) ++ t273)] rfl (by (try simp only [List.map_toArray, List.map_cons, List.map_nil]); first | done | rfl | (simp only [List.length_drop, List.length_take]; rfl)) ?_; (with_reducible refine (kilnlaw11_cuts.calls kj10 ((⟨#[97, 32, 35]⟩ : ByteArray) ++ t273) false _ A47.out).mono ?_); rintro e w66 ⟨rfl, hb⟩; refine ⟨_, rfl, ?_⟩; have n0_ := Aside0.mk (below_step (by repeat (first | (with_reducible first | exact HB.out | apply below_alloc | apply pw_below_drewN | apply below_drew1) | exact HB.out)) hb); clear HB; have HB := n0_; clear n0_; (try clear hb); (try clear hb2); (try clear hk); (try clear hi)))
                              go_meet
                              case rel => exact ⟨_, (true), (by first | rfl | (simp; done) | (simp [*]; done)), H', ⟨by have := HJ2.out; have := HJ4.out; have := HJ6.out; have := HJ8.out; have := HJ10.out; first | omega | exact Nat.le_refl _⟩, ⟨by repeat (first | (with_reducible first | exact HB.out | apply below_alloc | apply pw_below_drewN | apply below_drew1) | exact HB.out)⟩⟩
                          · rw [if_neg c46] at H
                            exact absurd H (by simp)
                        case rest =>
                          clear HC44
                          try clear c1
                          try clear c2
                          try clear p2
                          try clear c4
                          try clear c4b0
                          try clear c5
                          try clear c6
                          try clear p6
                          try clear c8
                          try clear c8b0
                          try clear c10
                          try clear c13
                          try clear c14
                          try clear c15
                          try clear c15b0
                          try clear c15b1
                          try clear c15b2
                          try clear c16
                          try clear c16b0
                          try clear c16b1
                          try clear c16b2
                          try clear c18
                          try clear c20
                          try clear c21
                          try clear c43
                          try clear c46
                          try clear c46b0
                          try clear c46b1
                          try clear c46b2
                          try clear c48
                          try clear c51
                          try clear c53
                          try clear c53b0
                          try clear c53b1
                          try clear c53b2
                          try clear p64
                          try clear p2
                          obtain ⟨kq, x65_43, rfl, HA, HJ43, HB⟩ := hcut
                          cases kq with
                          | zero => exact absurd HA.out (by simp [kilnlaw11_TokenLong.j5])
                          | succ kj43 =>
                            have H := HA.out
                            clear HA
                            simp only [kilnlaw11_TokenLong.j5] at H
                            by_cases c67 : x65_43 = true
                            · subst c67
                              have H1 : (some false) = some r := by rw [if_pos rfl] at H; exact H
                              clear H
                              have H := H1
                              clear H1
                              obtain rfl := Option.some.inj H
                              go_wp2
                              go_ret
                              exact ⟨by first | rfl | (simp [errW_none, errW_some] <;> rfl) | (simp [*, errW_none, errW_some] <;> rfl), by repeat (first | (with_reducible first | exact HB.out | apply below_alloc | apply pw_below_drewN | apply below_drew1) | exact HB.out)⟩
                            · replace c67 := Bool.eq_false_iff.mpr c67
                              subst c67
                              have H1 : ((kilnlaw11_many.f kj43 (⟨#[99]⟩ : ByteArray) (wrap64 (65533 + x1_8))).bind fun t279 => ((kilnlaw11_many.f kj43 (⟨#[1]⟩ : ByteArray) (wrap64 (16383 + x1_8))).bind fun t283 => ((kilnlaw11_many.f kj43 (⟨#[99]⟩ : ByteArray) (wrap64 (65533 + x1_8))).bind fun t287 => ((kilnlaw11_prints.f kj43 (([(⟨2, t279, 0, 0⟩ : S27), (⟨7, (⟨#[]⟩ : ByteArray), 0, 0⟩ : S27)] : List (S27)))).bind fun t291 => (if t291 = true then ((kilnlaw11_prints.f kj43 (([(⟨2, t283, 0, 0⟩ : S27), (⟨1, (⟨#[97]⟩ : ByteArray), 0, 0⟩ : S27), (⟨7, (⟨#[]⟩ : ByteArray), 0, 0⟩ : S27)] : List (S27)))).bind fun t292 => (if t292 = true then ((kilnlaw11_prints.f kj43 (([(⟨2, t287, 0, 0⟩ : S27), (⟨1, (⟨#[97, 32, 98]⟩ : ByteArray), 0, 0⟩ : S27), (⟨7, (⟨#[]⟩ : ByteArray), 0, 0⟩ : S27)] : List (S27)))).bind fun t293 => (some t293)) else (some false))) else (some false)))))) = some r := by rw [if_neg (show ¬ (false = true) by decide)] at H; exact H
                              clear H
                              have H := H1
                              clear H1
                              replace H := Option.bind_eq_some_iff.mp H
                              obtain ⟨t279, A680, H⟩ := H
                              replace H : ((kilnlaw11_many.f kj43 (⟨#[1]⟩ : ByteArray) (wrap64 (16383 + x1_8))).bind fun t283 => ((kilnlaw11_many.f kj43 (⟨#[99]⟩ : ByteArray) (wrap64 (65533 + x1_8))).bind fun t287 => ((kilnlaw11_prints.f kj43 (([(⟨2, t279, 0, 0⟩ : S27), (⟨7, (⟨#[]⟩ : ByteArray), 0, 0⟩ : S27)] : List (S27)))).bind fun t291 => (if t291 = true then ((kilnlaw11_prints.f kj43 (([(⟨2, t283, 0, 0⟩ : S27), (⟨1, (⟨#[97]⟩ : ByteArray), 0, 0⟩ : S27), (⟨7, (⟨#[]⟩ : ByteArray), 0, 0⟩ : S27)] : List (S27)))).bind fun t292 => (if t292 = true then ((kilnlaw11_prints.f kj43 (([(⟨2, t287, 0, 0⟩ : S27), (⟨1, (⟨#[97, 32, 98]⟩ : ByteArray), 0, 0⟩ : S27), (⟨7, (⟨#[]⟩ : ByteArray), 0, 0⟩ : S27)] : List (S27)))).bind fun t293 => (some t293)) else (some false))) else (some false))))) = some r := H
                              have A68 := Aside0.mk A680
                              clear A680
                              obtain ⟨y280, hy280⟩ : ∃ y_ : List (S27), y_ = (([(⟨2, t279, 0, 0⟩ : S27), (⟨7, (⟨#[]⟩ : ByteArray), 0, 0⟩ : S27)] : List (S27))) := ⟨_, rfl⟩
                              replace H : ((kilnlaw11_many.f kj43 (⟨#[1]⟩ : ByteArray) (wrap64 (16383 + x1_8))).bind fun t283 => ((kilnlaw11_many.f kj43 (⟨#[99]⟩ : ByteArray) (wrap64 (65533 + x1_8))).bind fun t287 => ((kilnlaw11_prints.f kj43 y280).bind fun t291 => (if t291 = true then ((kilnlaw11_prints.f kj43 (([(⟨2, t283, 0, 0⟩ : S27), (⟨1, (⟨#[97]⟩ : ByteArray), 0, 0⟩ : S27), (⟨7, (⟨#[]⟩ : ByteArray), 0, 0⟩ : S27)] : List (S27)))).bind fun t292 => (if t292 = true then ((kilnlaw11_prints.f kj43 (([(⟨2, t287, 0, 0⟩ : S27), (⟨1, (⟨#[97, 32, 98]⟩ : ByteArray), 0, 0⟩ : S27), (⟨7, (⟨#[]⟩ : ByteArray), 0, 0⟩ : S27)] : List (S27)))).bind fun t293 => (some t293)) else (some false))) else (some false))))) = some r := by first | (rw [hy280]; with_reducible exact H) | (have H2_ := (Option.bind_some _ _).symm.trans H; rw [hy280]; with_reducible exact H2_) | (have H2_ := (Option.bind_some _ _).symm.trans H; with_reducible exact H2_) | with_reducible exact H | (rw [hy280]; exact H) | exact H
                              have Ny280 := Aside0.mk hy280
                              clear hy280
                              replace H := Option.bind_eq_some_iff.mp H
                              obtain ⟨t283, A690, H⟩ := H
                              replace H : ((kilnlaw11_many.f kj43 (⟨#[99]⟩ : ByteArray) (wrap64 (65533 + x1_8))).bind fun t287 => ((kilnlaw11_prints.f kj43 y280).bind fun t291 => (if t291 = true then ((kilnlaw11_prints.f kj43 (([(⟨2, t283, 0, 0⟩ : S27), (⟨1, (⟨#[97]⟩ : ByteArray), 0, 0⟩ : S27), (⟨7, (⟨#[]⟩ : ByteArray), 0, 0⟩ : S27)] : List (S27)))).bind fun t292 => (if t292 = true then ((kilnlaw11_prints.f kj43 (([(⟨2, t287, 0, 0⟩ : S27), (⟨1, (⟨#[97, 32, 98]⟩ : ByteArray), 0, 0⟩ : S27), (⟨7, (⟨#[]⟩ : ByteArray), 0, 0⟩ : S27)] : List (S27)))).bind fun t293 => (some t293)) else (some false))) else (some false)))) = some r := H
                              have A69 := Aside0.mk A690
                              clear A690
                              obtain ⟨y284, hy284⟩ : ∃ y_ : List (S27), y_ = (([(⟨2, t283, 0, 0⟩ : S27), (⟨1, (⟨#[97]⟩ : ByteArray), 0, 0⟩ : S27), (⟨7, (⟨#[]⟩ : ByteArray), 0, 0⟩ : S27)] : List (S27))) := ⟨_, rfl⟩
                              replace H : ((kilnlaw11_many.f kj43 (⟨#[99]⟩ : ByteArray) (wrap64 (65533 + x1_8))).bind fun t287 => ((kilnlaw11_prints.f kj43 y280).bind fun t291 => (if t291 = true then ((kilnlaw11_prints.f kj43 y284).bind fun t292 => (if t292 = true then ((kilnlaw11_prints.f kj43 (([(⟨2, t287, 0, 0⟩ : S27), (⟨1, (⟨#[97, 32, 98]⟩ : ByteArray), 0, 0⟩ : S27), (⟨7, (⟨#[]⟩ : ByteArray), 0, 0⟩ : S27)] : List (S27)))).bind fun t293 => (some t293)) else (some false))) else (some false)))) = some r := by first | (rw [hy284]; with_reducible exact H) | (have H2_ := (Option.bind_some _ _).symm.trans H; rw [hy284]; with_reducible exact H2_) | (have H2_ := (Option.bind_some _ _).symm.trans H; with_reducible exact H2_) | with_reducible exact H | (rw [hy284]; exact H) | exact H
                              have Ny284 := Aside0.mk hy284
                              clear hy284
                              replace H := Option.bind_eq_some_iff.mp H
                              obtain ⟨t287, A700, H⟩ := H
                              replace H : ((kilnlaw11_prints.f kj43 y280).bind fun t291 => (if t291 = true then ((kilnlaw11_prints.f kj43 y284).bind fun t292 => (if t292 = true then ((kilnlaw11_prints.f kj43 (([(⟨2, t287, 0, 0⟩ : S27), (⟨1, (⟨#[97, 32, 98]⟩ : ByteArray), 0, 0⟩ : S27), (⟨7, (⟨#[]⟩ : ByteArray), 0, 0⟩ : S27)] : List (S27)))).bind fun t293 => (some t293)) else (some false))) else (some false))) = some r := H
                              have A70 := Aside0.mk A700
                              clear A700
                              obtain ⟨y288, hy288⟩ : ∃ y_ : List (S27), y_ = (([(⟨2, t287, 0, 0⟩ : S27), (⟨1, (⟨#[97, 32, 98]⟩ : ByteArray), 0, 0⟩ : S27), (⟨7, (⟨#[]⟩ : ByteArray), 0, 0⟩ : S27)] : List (S27))) := ⟨_, rfl⟩
                              replace H : ((kilnlaw11_prints.f kj43 y280).bind fun t291 => (if t291 = true then ((kilnlaw11_prints.f kj43 y284).bind fun t292 => (if t292 = true then ((kilnlaw11_prints.f kj43 y288).bind fun t293 => (some t293)) else (some false))) else (some false))) = some r := by first | (rw [hy288]; with_reducible exact H) | (have H2_ := (Option.bind_some _ _).symm.trans H; rw [hy288]; with_reducible exact H2_) | (have H2_ := (Option.bind_some _ _).symm.trans H; with_reducible exact H2_) | with_reducible exact H | (rw [hy288]; exact H) | exact H
                              have Ny288 := Aside0.mk hy288
                              clear hy288
                              replace H := Option.bind_eq_some_iff.mp H
                              obtain ⟨t291, A710, H⟩ := H
                              replace H : (if t291 = true then ((kilnlaw11_prints.f kj43 y284).bind fun t292 => (if t292 = true then ((kilnlaw11_prints.f kj43 y288).bind fun t293 => (some t293)) else (some false))) else (some false)) = some r := H
                              have A71 := Aside0.mk A710
                              clear A710
                              by_cases c72 : t291 = true
                              · subst c72
                                have H1 : ((kilnlaw11_prints.f kj43 y284).bind fun t292 => (if t292 = true then ((kilnlaw11_prints.f kj43 y288).bind fun t293 => (some t293)) else (some false))) = some r := by rw [if_pos rfl] at H; exact H
                                clear H
                                have H := H1
                                clear H1
                                replace H := Option.bind_eq_some_iff.mp H
                                obtain ⟨t292, A730, H⟩ := H
                                replace H : (if t292 = true then ((kilnlaw11_prints.f kj43 y288).bind fun t293 => (some t293)) else (some false)) = some r := H
                                have A73 := Aside0.mk A730
                                clear A730
                                by_cases c74 : t292 = true
                                · subst c74
                                  have H1 : ((kilnlaw11_prints.f kj43 y288).bind fun t293 => (some t293)) = some r := by rw [if_pos rfl] at H; exact H
                                  clear H
                                  have H := H1
                                  clear H1
                                  replace H := Option.bind_eq_some_iff.mp H
                                  obtain ⟨t293, A750, H⟩ := H
                                  replace H : (some t293) = some r := H
                                  have A75 := Aside0.mk A750
                                  clear A750
                                  obtain rfl := Option.some.inj H
                                  go_wp2_with (first | ((fail_if_success (have z_ := UA68)); have UA68 := A68; (with_reducible refine gate_callee (f := 20) rfl ?_); refine goesL_ (some 68) rfl rfl Try.func20 (by kernel_rfl) rfl #[.string (⟨#[99]⟩ : ByteArray), .int .i64 (wrap64 (65533 + x1_8))] rfl (by (try simp only [List.map_toArray, List.map_cons, List.map_nil]); first | done | rfl | (simp only [List.length_drop, List.length_take]; rfl)) ?_; (with_reducible refine (kilnlaw11_many.calls kj43 (⟨#[99]⟩ : ByteArray) (wrap64 (65533 + x1_8)) t279 _ A68.out).mono ?_); rintro e w76 ⟨rfl, hb⟩; refine ⟨_, rfl, ?_⟩; have n0_ := Aside0.mk (below_step (by repeat (first | (with_reducible first | exact HB.out | apply below_alloc | apply pw_below_drewN | apply below_drew1) | exact HB.out)) hb); clear HB; have HB := n0_; clear n0_; (try clear hb); (try clear hb2); (try clear hk); (try clear hi)) | ((with_reducible refine gate_dst (N := 71) rfl ?_); (try (refine gate_guard (by rfl) ?_; dsimp only)); refine Kd.R_lit k27 _ 27 ?hg (N := 71) ?hd (xs := ([(⟨2, t279, 0, 0⟩ : S27), (⟨7, (⟨#[]⟩ : ByteArray), 0, 0⟩ : S27)] : List (S27))) (inner := [.int .i64 2, .string t279, .int .i64 0, .int .i64 0, .int .i64 7, .string (⟨#[]⟩ : ByteArray), .int .i64 0, .int .i64 0]) (ok := fun _ => True) (okp := fun _ => True) ?hr ?hp (fun _ hk => hk) trivial (Below.refl _ _) (Nat.le_refl _) (by simp) ?_; (case hd => rfl); (case hg => rfl); (case hr => first | (go_simp; done) | (go_simp; rfl)); (case hp => exact (Reps.c4 (show Kd.M k27 _ _ _ (⟨2, t279, 0, 0⟩ : S27) [.int .i64 2, .string t279, .int .i64 0, .int .i64 0] from (k27_mkM _ _ _ (⟨2, t279, 0, 0⟩ : S27) )) (Reps.c4 (show Kd.M k27 _ _ _ (⟨7, (⟨#[]⟩ : ByteArray), 0, 0⟩ : S27) [.int .i64 7, .string (⟨#[]⟩ : ByteArray), .int .i64 0, .int .i64 0] from (k27_mkM _ _ _ (⟨7, (⟨#[]⟩ : ByteArray), 0, 0⟩ : S27) )) (Reps.none _ _)))); intro v281 w77 ho78 hb hg_ hnew_; clear hg_ hnew_; (first | rw [← Ny280.out] at ho78 | (simp only [Int.reduceToNat] at ho78; rw [← Ny280.out] at ho78)); have n0_ := Aside0.mk (Kd.R_lower ho78 (below_size (by repeat (first | (with_reducible first | exact HB.out | apply below_alloc | apply pw_below_drewN | apply below_drew1) | exact HB.out)))); have n1_ := Aside0.mk (below_step (by repeat (first | (with_reducible first | exact HB.out | apply below_alloc | apply pw_below_drewN | apply below_drew1) | exact HB.out)) hb); clear HB; have HO282 := n0_; have HB := n1_; clear n0_ n1_; clear hb ho78) | ((with_reducible refine gate_callee (f := 20) rfl ?_); refine goesL_ (some 74) rfl rfl Try.func20 (by kernel_rfl) rfl #[.string (⟨#[1]⟩ : ByteArray), .int .i64 (wrap64 (16383 + x1_8))] rfl (by (try simp only [List.map_toArray, List.map_cons, List.map_nil]); first | done | rfl | (simp only [List.length_drop, List.length_take]; rfl)) ?_; (with_reducible refine (kilnlaw11_many.calls kj43 (⟨#[1]⟩ : ByteArray) (wrap64 (16383 + x1_8)) t283 _ A69.out).mono ?_); rintro e w79 ⟨rfl, hb⟩; refine ⟨_, rfl, ?_⟩; have n0_ := Aside0.mk (Kd.R_below (by (with_reducible repeat (first | apply Kd.R_alloc | apply Kd.R_drewN | apply Kd.R_drew)); exact HO282.out) hb); have n1_ := Aside0.mk (below_step (by repeat (first | (with_reducible first | exact HB.out | apply below_alloc | apply pw_below_drewN | apply below_drew1) | exact HB.out)) hb); clear HO282; clear HB; have HO282 := n0_; have HB := n1_; clear n0_ n1_; (try clear hb); (try clear hb2); (try clear hk); (try clear hi)) | ((with_reducible refine gate_dst (N := 78) rfl ?_); (try (refine gate_guard (by rfl) ?_; dsimp only)); refine Kd.R_lit k27 _ 27 ?hg (N := 78) ?hd (xs := ([(⟨2, t283, 0, 0⟩ : S27), (⟨1, (⟨#[97]⟩ : ByteArray), 0, 0⟩ : S27), (⟨7, (⟨#[]⟩ : ByteArray), 0, 0⟩ : S27)] : List (S27))) (inner := [.int .i64 2, .string t283, .int .i64 0, .int .i64 0, .int .i64 1, .string (⟨#[97]⟩ : ByteArray), .int .i64 0, .int .i64 0, .int .i64 7, .string (⟨#[]⟩ : ByteArray), .int .i64 0, .int .i64 0]) (ok := fun _ => True) (okp := fun _ => True) ?hr ?hp (fun _ hk => hk) trivial (Below.refl _ _) (Nat.le_refl _) (by simp) ?_; (case hd => rfl); (case hg => rfl); (case hr => first | (go_simp; done) | (go_simp; rfl)); (case hp => exact (Reps.c4 (show Kd.M k27 _ _ _ (⟨2, t283, 0, 0⟩ : S27) [.int .i64 2, .string t283, .int .i64 0, .int .i64 0] from (k27_mkM _ _ _ (⟨2, t283, 0, 0⟩ : S27) )) (Reps.c4 (show Kd.M k27 _ _ _ (⟨1, (⟨#[97]⟩ : ByteArray), 0, 0⟩ : S27) [.int .i64 1, .string (⟨#[97]⟩ : ByteArray), .int .i64 0, .int .i64 0] from (k27_mkM _ _ _ (⟨1, (⟨#[97]⟩ : ByteArray), 0, 0⟩ : S27) )) (Reps.c4 (show Kd.M k27 _ _ _ (⟨7, (⟨#[]⟩ : ByteArray), 0, 0⟩ : S27) [.int .i64 7, .string (⟨#[]⟩ : ByteArray), .int .i64 0, .int .i64 0] from (k27_mkM _ _ _ (⟨7, (⟨#[]⟩ : ByteArray), 0, 0⟩ : S27) )) (Reps.none _ _))))); intro v285 w80 ho81 hb hg_ hnew_; clear hg_ hnew_; (first | rw [← Ny284.out] at ho81 | (simp only [Int.reduceToNat] at ho81; rw [← Ny284.out] at ho81)); have n0_ := Aside0.mk (Kd.R_elder' (by (with_reducible repeat (first | apply Kd.R_alloc | apply Kd.R_drewN | apply Kd.R_drew)); exact HO282.out) (Kd.R_base ho81) hb); have n1_ := Aside0.mk (Kd.R_lower (Kd.R_new' ho81 (Kd.R_lt (by (with_reducible repeat (first | apply Kd.R_alloc | apply Kd.R_drewN | apply Kd.R_drew)); exact HO282.out))) (below_size (by repeat (first | (with_reducible first | exact HB.out | apply below_alloc | apply pw_below_drewN | apply below_drew1) | exact HB.out)))); have n2_ := Aside0.mk (below_step (by repeat (first | (with_reducible first | exact HB.out | apply below_alloc | apply pw_below_drewN | apply below_drew1) | exact HB.out)) hb); clear HO282; clear HB; have HO282 := n0_; have HO286 := n1_; have HB := n2_; clear n0_ n1_ n2_; clear hb ho81) | ((fail_if_success (have z_ := UA70)); have UA70 := A70; (with_reducible refine gate_callee (f := 20) rfl ?_); refine goesL_ (some 81) rfl rfl Try.func20 (by kernel_rfl) rfl #[.string (⟨#[99]⟩ : ByteArray), .int .i64 (wrap64 (65533 + x1_8))] rfl (by (try simp only [List.map_toArray, List.map_cons, List.map_nil]); first | done | rfl | (simp only [List.length_drop, List.length_take]; rfl)) ?_; (with_reducible refine (kilnlaw11_many.calls kj43 (⟨#[99]⟩ : ByteArray) (wrap64 (65533 + x1_8)) t287 _ A70.out).mono ?_); rintro e w82 ⟨rfl, hb⟩; refine ⟨_, rfl, ?_⟩; have n0_ := Aside0.mk (Kd.R_below (by (with_reducible repeat (first | apply Kd.R_alloc | apply Kd.R_drewN | apply Kd.R_drew)); exact HO282.out) hb); have n1_ := Aside0.mk (Kd.R_below (by (with_reducible repeat (first | apply Kd.R_alloc | apply Kd.R_drewN | apply Kd.R_drew)); exact HO286.out) hb); have n2_ := Aside0.mk (below_step (by repeat (first | (with_reducible first | exact HB.out | apply below_alloc | apply pw_below_drewN | apply below_drew1) | exact HB.out)) hb); clear HO282; clear HO286; clear HB; have HO282 := n0_; have HO286 := n1_; have HB := n2_; clear n0_ n1_ n2_; (try clear hb); (try clear hb2); (try clear hk); (try clear hi)) | ((with_reducible refine gate_dst (N := 85) rfl ?_); (try (refine gate_guard (by rfl) ?_; dsimp only)); refine Kd.R_lit k27 _ 27 ?hg (N := 85) ?hd (xs := ([(⟨2, t287, 0, 0⟩ : S27), (⟨1, (⟨#[97, 32, 98]⟩ : ByteArray), 0, 0⟩ : S27), (⟨7, (⟨#[]⟩ : ByteArray), 0, 0⟩ : S27)] : List (S27))) (inner := [.int .i64 2, .string t287, .int .i64 0, .int .i64 0, .int .i64 1, .string (⟨#[97, 32, 98]⟩ : ByteArray), .int .i64 0, .int .i64 0, .int .i64 7, .string (⟨#[]⟩ : ByteArray), .int .i64 0, .int .i64 0]) (ok := fun _ => True) (okp := fun _ => True) ?hr ?hp (fun _ hk => hk) trivial (Below.refl _ _) (Nat.le_refl _) (by simp) ?_; (case hd => rfl); (case hg => rfl); (case hr => first | (go_simp; done) | (go_simp; rfl)); (case hp => exact (Reps.c4 (show Kd.M k27 _ _ _ (⟨2, t287, 0, 0⟩ : S27) [.int .i64 2, .string t287, .int .i64 0, .int .i64 0] from (k27_mkM _ _ _ (⟨2, t287, 0, 0⟩ : S27) )) (Reps.c4 (show Kd.M k27 _ _ _ (⟨1, (⟨#[97, 32, 98]⟩ : ByteArray), 0, 0⟩ : S27) [.int .i64 1, .string (⟨#[97, 32, 98]⟩ : ByteArray), .int .i64 0, .int .i64 0] from (k27_mkM _ _ _ (⟨1, (⟨#[97, 32, 98]⟩ : ByteArray), 0, 0⟩ : S27) )) (Reps.c4 (show Kd.M k27 _ _ _ (⟨7, (⟨#[]⟩ : ByteArray), 0, 0⟩ : S27) [.int .i64 7, .string (⟨#[]⟩ : ByteArray), .int .i64 0, .int .i64 0] from (k27_mkM _ _ _ (⟨7, (⟨#[]⟩ : ByteArray), 0, 0⟩ : S27) )) (Reps.none _ _))))); intro v289 w83 ho84 hb hg_ hnew_; clear hg_ hnew_; (first | rw [← Ny288.out] at ho84 | (simp only [Int.reduceToNat] at ho84; rw [← Ny288.out] at ho84)); have n0_ := Aside0.mk (Kd.R_elder' (by (with_reducible repeat (first | apply Kd.R_alloc | apply Kd.R_drewN | apply Kd.R_drew)); exact HO282.out) (Kd.R_base ho84) hb); have n1_ := Aside0.mk (Kd.R_elder' (by (with_reducible repeat (first | apply Kd.R_alloc | apply Kd.R_drewN | apply Kd.R_drew)); exact HO286.out) (Kd.R_base ho84) hb); have n2_ := Aside0.mk (Kd.R_lower (Kd.R_new' (Kd.R_new' ho84 (Kd.R_lt (by (with_reducible repeat (first | apply Kd.R_alloc | apply Kd.R_drewN | apply Kd.R_drew)); exact HO282.out))) (Kd.R_lt (by (with_reducible repeat (first | apply Kd.R_alloc | apply Kd.R_drewN | apply Kd.R_drew)); exact HO286.out))) (below_size (by repeat (first | (with_reducible first | exact HB.out | apply below_alloc | apply pw_below_drewN | apply below_drew1) | exact HB.out)))); have n3_ := Aside0.mk (below_step (by repeat (first | (with_reducible first | exact HB.out | apply below_alloc | apply pw_below_drewN | apply below_drew1) | exact HB.out)) hb); clear HO282; clear HO286; clear HB; have HO282 := n0_; have HO286 := n1_; have HO290 := n2_; have HB := n3_; clear n0_ n1_ n2_ n3_; clear hb ho84; obtain ⟨Ao85, co85, eo85⟩ := Kd.R_slice HO282.out; subst eo85) | ((with_reducible refine gate_callee (f := 19) rfl ?_); refine goesL_ (some 87) rfl rfl Try.func19 (by kernel_rfl) rfl #[.slice Ao85 y280.length co85] rfl (by (try simp only [List.map_toArray, List.map_cons, List.map_nil]); first | done | rfl | (simp only [List.length_drop, List.length_take]; rfl)) ?_; (with_reducible refine (kilnlaw11_prints.calls kj43 _ _ y280 true _ ?side1 ?side2 A71.out).mono ?_); (case side1 => repeat (first | exact (Kd.R_reads' HO282.out).2.2 | (with_reducible refine Kd.C_alloc ?_ _) | (with_reducible refine Kd.C_drewN ?_ _) | (with_reducible refine Kd.C_drew ?_))); (case side2 => exact (Kd.R_reads' HO282.out).2.1); rintro e w86 ⟨rfl, hb⟩; refine ⟨_, rfl, ?_⟩; have n0_ := Aside0.mk (Kd.R_below (by (with_reducible repeat (first | apply Kd.R_alloc | apply Kd.R_drewN | apply Kd.R_drew)); exact HO282.out) hb); have n1_ := Aside0.mk (Kd.R_below (by (with_reducible repeat (first | apply Kd.R_alloc | apply Kd.R_drewN | apply Kd.R_drew)); exact HO286.out) hb); have n2_ := Aside0.mk (Kd.R_below (by (with_reducible repeat (first | apply Kd.R_alloc | apply Kd.R_drewN | apply Kd.R_drew)); exact HO290.out) hb); have n3_ := Aside0.mk (below_step (by repeat (first | (with_reducible first | exact HB.out | apply below_alloc | apply pw_below_drewN | apply below_drew1) | exact HB.out)) hb); clear HO282; clear HO286; clear HO290; clear HB; have HO282 := n0_; have HO286 := n1_; have HO290 := n2_; have HB := n3_; clear n0_ n1_ n2_ n3_; (try clear hb); (try clear hb2); (try clear hk); (try clear hi); obtain ⟨Ao87, co87, eo87⟩ := Kd.R_slice HO286.out; subst eo87) | (go_at_call 19; (with_reducible refine (kilnlaw11_prints.calls kj43 _ _ y284 true _ ?side1 ?side2 A73.out).mono ?_); (case side1 => repeat (first | exact (Kd.R_reads' HO286.out).2.2 | (with_reducible refine Kd.C_alloc ?_ _) | (with_reducible refine Kd.C_drewN ?_ _) | (with_reducible refine Kd.C_drew ?_))); (case side2 => exact (Kd.R_reads' HO286.out).2.1); rintro e w88 ⟨rfl, hb⟩; have n0_ := Aside0.mk (Kd.R_below (by (with_reducible repeat (first | apply Kd.R_alloc | apply Kd.R_drewN | apply Kd.R_drew)); exact HO282.out) hb); have n1_ := Aside0.mk (Kd.R_below (by (with_reducible repeat (first | apply Kd.R_alloc | apply Kd.R_drewN | apply Kd.R_drew)); exact HO286.out) hb); have n2_ := Aside0.mk (Kd.R_below (by (with_reducible repeat (first | apply Kd.R_alloc | apply Kd.R_drewN | apply Kd.R_drew)); exact HO290.out) hb); have n3_ := Aside0.mk (below_step (by repeat (first | (with_reducible first | exact HB.out | apply below_alloc | apply pw_below_drewN | apply below_drew1) | exact HB.out)) hb); clear HO282; clear HO286; clear HO290; clear HB; have HO282 := n0_; have HO286 := n1_; have HO290 := n2_; have HB := n3_; clear n0_ n1_ n2_ n3_; (try clear hb); (try clear hb2); (try clear hk); (try clear hi); obtain ⟨Ao89, co89, eo89⟩ := Kd.R_slice HO290.out; subst eo89) | (go_at_call 19; (with_reducible refine (kilnlaw11_prints.calls kj43 _ _ y288 t293 _ ?side1 ?side2 A75.out).mono ?_); (case side1 => repeat (first | exact (Kd.R_reads' HO290.out).2.2 | (with_reducible refine Kd.C_alloc ?_ _) | (with_reducible refine Kd.C_drewN ?_ _) | (with_reducible refine Kd.C_drew ?_))); (case side2 => exact (Kd.R_reads' HO290.out).2.1); rintro e w90 ⟨rfl, hb⟩; have n0_ := Aside0.mk (Kd.R_below (by (with_reducible repeat (first | apply Kd.R_alloc | apply Kd.R_drewN | apply Kd.R_drew)); exact HO282.out) hb); have n1_ := Aside0.mk (Kd.R_below (by (with_reducible repeat (first | apply Kd.R_alloc | apply Kd.R_drewN | apply Kd.R_drew)); exact HO286.out) hb); have n2_ := Aside0.mk (Kd.R_below (by (with_reducible repeat (first | apply Kd.R_alloc | apply Kd.R_drewN | apply Kd.R_drew)); exact HO290.out) hb); have n3_ := Aside0.mk (below_step (by repeat (first | (with_reducible first | exact HB.out | apply below_alloc | apply pw_below_drewN | apply below_drew1) | exact HB.out)) hb); clear HO282; clear HO286; clear HO290; clear HB; have HO282 := n0_; have HO286 := n1_; have HO290 := n2_; have HB := n3_; clear n0_ n1_ n2_ n3_; (try clear hb); (try clear hb2); (try clear hk); (try clear hi)))
                                  go_ret
                                  exact ⟨by first | rfl | (simp [errW_none, errW_some] <;> rfl) | (simp [*, errW_none, errW_some] <;> rfl), by repeat (first | (with_reducible first | exact HB.out | apply below_alloc | apply pw_below_drewN | apply below_drew1) | exact HB.out)⟩
                                · replace c74 := Bool.eq_false_iff.mpr c74
                                  subst c74
                                  have H1 : (some false) = some r := by rw [if_neg (show ¬ (false = true) by decide)] at H; exact H
                                  clear H
                                  have H := H1
                                  clear H1
                                  obtain rfl := Option.some.inj H
                                  go_wp2_with (first | ((fail_if_success (have z_ := UA68)); have UA68 := A68; (with_reducible refine gate_callee (f := 20) rfl ?_); refine goesL_ (some 68) rfl rfl Try.func20 (by kernel_rfl) rfl #[.string (⟨#[99]⟩ : ByteArray), .int .i64 (wrap64 (65533 + x1_8))] rfl (by (try simp only [List.map_toArray, List.map_cons, List.map_nil]); first | done | rfl | (simp only [List.length_drop, List.length_take]; rfl)) ?_; (with_reducible refine (kilnlaw11_many.calls kj43 (⟨#[99]⟩ : ByteArray) (wrap64 (65533 + x1_8)) t279 _ A68.out).mono ?_); rintro e w91 ⟨rfl, hb⟩; refine ⟨_, rfl, ?_⟩; have n0_ := Aside0.mk (below_step (by repeat (first | (with_reducible first | exact HB.out | apply below_alloc | apply pw_below_drewN | apply below_drew1) | exact HB.out)) hb); clear HB; have HB := n0_; clear n0_; (try clear hb); (try clear hb2); (try clear hk); (try clear hi)) | ((with_reducible refine gate_dst (N := 71) rfl ?_); (try (refine gate_guard (by rfl) ?_; dsimp only)); refine Kd.R_lit k27 _ 27 ?hg (N := 71) ?hd (xs := ([(⟨2, t279, 0, 0⟩ : S27), (⟨7, (⟨#[]⟩ : ByteArray), 0, 0⟩ : S27)] : List (S27))) (inner := [.int .i64 2, .string t279, .int .i64 0, .int .i64 0, .int .i64 7, .string (⟨#[]⟩ : ByteArray), .int .i64 0, .int .i64 0]) (ok := fun _ => True) (okp := fun _ => True) ?hr ?hp (fun _ hk => hk) trivial (Below.refl _ _) (Nat.le_refl _) (by simp) ?_; (case hd => rfl); (case hg => rfl); (case hr => first | (go_simp; done) | (go_simp; rfl)); (case hp => exact (Reps.c4 (show Kd.M k27 _ _ _ (⟨2, t279, 0, 0⟩ : S27) [.int .i64 2, .string t279, .int .i64 0, .int .i64 0] from (k27_mkM _ _ _ (⟨2, t279, 0, 0⟩ : S27) )) (Reps.c4 (show Kd.M k27 _ _ _ (⟨7, (⟨#[]⟩ : ByteArray), 0, 0⟩ : S27) [.int .i64 7, .string (⟨#[]⟩ : ByteArray), .int .i64 0, .int .i64 0] from (k27_mkM _ _ _ (⟨7, (⟨#[]⟩ : ByteArray), 0, 0⟩ : S27) )) (Reps.none _ _)))); intro v281 w92 ho93 hb hg_ hnew_; clear hg_ hnew_; (first | rw [← Ny280.out] at ho93 | (simp only [Int.reduceToNat] at ho93; rw [← Ny280.out] at ho93)); have n0_ := Aside0.mk (Kd.R_lower ho93 (below_size (by repeat (first | (with_reducible first | exact HB.out | apply below_alloc | apply pw_below_drewN | apply below_drew1) | exact HB.out)))); have n1_ := Aside0.mk (below_step (by repeat (first | (with_reducible first | exact HB.out | apply below_alloc | apply pw_below_drewN | apply below_drew1) | exact HB.out)) hb); clear HB; have HO282 := n0_; have HB := n1_; clear n0_ n1_; clear hb ho93) | ((with_reducible refine gate_callee (f := 20) rfl ?_); refine goesL_ (some 74) rfl rfl Try.func20 (by kernel_rfl) rfl #[.string (⟨#[1]⟩ : ByteArray), .int .i64 (wrap64 (16383 + x1_8))] rfl (by (try simp only [List.map_toArray, List.map_cons, List.map_nil]); first | done | rfl | (simp only [List.length_drop, List.length_take]; rfl)) ?_; (with_reducible refine (kilnlaw11_many.calls kj43 (⟨#[1]⟩ : ByteArray) (wrap64 (16383 + x1_8)) t283 _ A69.out).mono ?_); rintro e w94 ⟨rfl, hb⟩; refine ⟨_, rfl, ?_⟩; have n0_ := Aside0.mk (Kd.R_below (by (with_reducible repeat (first | apply Kd.R_alloc | apply Kd.R_drewN | apply Kd.R_drew)); exact HO282.out) hb); have n1_ := Aside0.mk (below_step (by repeat (first | (with_reducible first | exact HB.out | apply below_alloc | apply pw_below_drewN | apply below_drew1) | exact HB.out)) hb); clear HO282; clear HB; have HO282 := n0_; have HB := n1_; clear n0_ n1_; (try clear hb); (try clear hb2); (try clear hk); (try clear hi)) | ((with_reducible refine gate_dst (N := 78) rfl ?_); (try (refine gate_guard (by rfl) ?_; dsimp only)); refine Kd.R_lit k27 _ 27 ?hg (N := 78) ?hd (xs := ([(⟨2, t283, 0, 0⟩ : S27), (⟨1, (⟨#[97]⟩ : ByteArray), 0, 0⟩ : S27), (⟨7, (⟨#[]⟩ : ByteArray), 0, 0⟩ : S27)] : List (S27))) (inner := [.int .i64 2, .string t283, .int .i64 0, .int .i64 0, .int .i64 1, .string (⟨#[97]⟩ : ByteArray), .int .i64 0, .int .i64 0, .int .i64 7, .string (⟨#[]⟩ : ByteArray), .int .i64 0, .int .i64 0]) (ok := fun _ => True) (okp := fun _ => True) ?hr ?hp (fun _ hk => hk) trivial (Below.refl _ _) (Nat.le_refl _) (by simp) ?_; (case hd => rfl); (case hg => rfl); (case hr => first | (go_simp; done) | (go_simp; rfl)); (case hp => exact (Reps.c4 (show Kd.M k27 _ _ _ (⟨2, t283, 0, 0⟩ : S27) [.int .i64 2, .string t283, .int .i64 0, .int .i64 0] from (k27_mkM _ _ _ (⟨2, t283, 0, 0⟩ : S27) )) (Reps.c4 (show Kd.M k27 _ _ _ (⟨1, (⟨#[97]⟩ : ByteArray), 0, 0⟩ : S27) [.int .i64 1, .string (⟨#[97]⟩ : ByteArray), .int .i64 0, .int .i64 0] from (k27_mkM _ _ _ (⟨1, (⟨#[97]⟩ : ByteArray), 0, 0⟩ : S27) )) (Reps.c4 (show Kd.M k27 _ _ _ (⟨7, (⟨#[]⟩ : ByteArray), 0, 0⟩ : S27) [.int .i64 7, .string (⟨#[]⟩ : ByteArray), .int .i64 0, .int .i64 0] from (k27_mkM _ _ _ (⟨7, (⟨#[]⟩ : ByteArray), 0, 0⟩ : S27) )) (Reps.none _ _))))); intro v285 w95 ho96 hb hg_ hnew_; clear hg_ hnew_; (first | rw [← Ny284.out] at ho96 | (simp only [Int.reduceToNat] at ho96; rw [← Ny284.out] at ho96)); have n0_ := Aside0.mk (Kd.R_elder' (by (with_reducible repeat (first | apply Kd.R_alloc | apply Kd.R_drewN | apply Kd.R_drew)); exact HO282.out) (Kd.R_base ho96) hb); have n1_ := Aside0.mk (Kd.R_lower (Kd.R_new' ho96 (Kd.R_lt (by (with_reducible repeat (first | apply Kd.R_alloc | apply Kd.R_drewN | apply Kd.R_drew)); exact HO282.out))) (below_size (by repeat (first | (with_reducible first | exact HB.out | apply below_alloc | apply pw_below_drewN | apply below_drew1) | exact HB.out)))); have n2_ := Aside0.mk (below_step (by repeat (first | (with_reducible first | exact HB.out | apply below_alloc | apply pw_below_drewN | apply below_drew1) | exact HB.out)) hb); clear HO282; clear HB; have HO282 := n0_; have HO286 := n1_; have HB := n2_; clear n0_ n1_ n2_; clear hb ho96) | ((fail_if_success (have z_ := UA70)); have UA70 := A70; (with_reducible refine gate_callee (f := 20) rfl ?_); refine goesL_ (some 81) rfl rfl Try.func20 (by kernel_rfl) rfl #[.string (⟨#[99]⟩ : ByteArray), .int .i64 (wrap64 (65533 + x1_8))] rfl (by (try simp only [List.map_toArray, List.map_cons, List.map_nil]); first | done | rfl | (simp only [List.length_drop, List.length_take]; rfl)) ?_; (with_reducible refine (kilnlaw11_many.calls kj43 (⟨#[99]⟩ : ByteArray) (wrap64 (65533 + x1_8)) t287 _ A70.out).mono ?_); rintro e w97 ⟨rfl, hb⟩; refine ⟨_, rfl, ?_⟩; have n0_ := Aside0.mk (Kd.R_below (by (with_reducible repeat (first | apply Kd.R_alloc | apply Kd.R_drewN | apply Kd.R_drew)); exact HO282.out) hb); have n1_ := Aside0.mk (Kd.R_below (by (with_reducible repeat (first | apply Kd.R_alloc | apply Kd.R_drewN | apply Kd.R_drew)); exact HO286.out) hb); have n2_ := Aside0.mk (below_step (by repeat (first | (with_reducible first | exact HB.out | apply below_alloc | apply pw_below_drewN | apply below_drew1) | exact HB.out)) hb); clear HO282; clear HO286; clear HB; have HO282 := n0_; have HO286 := n1_; have HB := n2_; clear n0_ n1_ n2_; (try clear hb); (try clear hb2); (try clear hk); (try clear hi)) | ((with_reducible refine gate_dst (N := 85) rfl ?_); (try (refine gate_guard (by rfl) ?_; dsimp only)); refine Kd.R_lit k27 _ 27 ?hg (N := 85) ?hd (xs := ([(⟨2, t287, 0, 0⟩ : S27), (⟨1, (⟨#[97, 32, 98]⟩ : ByteArray), 0, 0⟩ : S27), (⟨7, (⟨#[]⟩ : ByteArray), 0, 0⟩ : S27)] : List (S27))) (inner := [.int .i64 2, .string t287, .int .i64 0, .int .i64 0, .int .i64 1, .string (⟨#[97, 32, 98]⟩ : ByteArray), .int .i64 0, .int .i64 0, .int .i64 7, .string (⟨#[]⟩ : ByteArray), .int .i64 0, .int .i64 0]) (ok := fun _ => True) (okp := fun _ => True) ?hr ?hp (fun _ hk => hk) trivial (Below.refl _ _) (Nat.le_refl _) (by simp) ?_; (case hd => rfl); (case hg => rfl); (case hr => first | (go_simp; done) | (go_simp; rfl)); (case hp => exact (Reps.c4 (show Kd.M k27 _ _ _ (⟨2, t287, 0, 0⟩ : S27) [.int .i64 2, .string t287, .int .i64 0, .int .i64 0] from (k27_mkM _ _ _ (⟨2, t287, 0, 0⟩ : S27) )) (Reps.c4 (show Kd.M k27 _ _ _ (⟨1, (⟨#[97, 32, 98]⟩ : ByteArray), 0, 0⟩ : S27) [.int .i64 1, .string (⟨#[97, 32, 98]⟩ : ByteArray), .int .i64 0, .int .i64 0] from (k27_mkM _ _ _ (⟨1, (⟨#[97, 32, 98]⟩ : ByteArray), 0, 0⟩ : S27) )) (Reps.c4 (show Kd.M k27 _ _ _ (⟨7, (⟨#[]⟩ : ByteArray), 0, 0⟩ : S27) [.int .i64 7, .string (⟨#[]⟩ : ByteArray), .int .i64 0, .int .i64 0] from (k27_mkM _ _ _ (⟨7, (⟨#[]⟩ : ByteArray), 0, 0⟩ : S27) )) (Reps.none _ _))))); intro v289 w98 ho99 hb hg_ hnew_; clear hg_ hnew_; (first | rw [← Ny288.out] at ho99 | (simp only [Int.reduceToNat] at ho99; rw [← Ny288.out] at ho99)); have n0_ := Aside0.mk (Kd.R_elder' (by (with_reducible repeat (first | apply Kd.R_alloc | apply Kd.R_drewN | apply Kd.R_drew)); exact HO282.out) (Kd.R_base ho99) hb); have n1_ := Aside0.mk (Kd.R_elder' (by (with_reducible repeat (first | apply Kd.R_alloc | apply Kd.R_drewN | apply Kd.R_drew)); exact HO286.out) (Kd.R_base ho99) hb); have n2_ := Aside0.mk (Kd.R_lower (Kd.R_new' (Kd.R_new' ho99 (Kd.R_lt (by (with_reducible repeat (first | apply Kd.R_alloc | apply Kd.R_drewN | apply Kd.R_drew)); exact HO282.out))) (Kd.R_lt (by (with_reducible repeat (first | apply Kd.R_alloc | apply Kd.R_drewN | apply Kd.R_drew)); exact HO286.out))) (below_size (by repeat (first | (with_reducible first | exact HB.out | apply below_alloc | apply pw_below_drewN | apply below_drew1) | exact HB.out)))); have n3_ := Aside0.mk (below_step (by repeat (first | (with_reducible first | exact HB.out | apply below_alloc | apply pw_below_drewN | apply below_drew1) | exact HB.out)) hb); clear HO282; clear HO286; clear HB; have HO282 := n0_; have HO286 := n1_; have HO290 := n2_; have HB := n3_; clear n0_ n1_ n2_ n3_; clear hb ho99; obtain ⟨Ao100, co100, eo100⟩ := Kd.R_slice HO282.out; subst eo100) | ((with_reducible refine gate_callee (f := 19) rfl ?_); refine goesL_ (some 87) rfl rfl Try.func19 (by kernel_rfl) rfl #[.slice Ao100 y280.length co100] rfl (by (try simp only [List.map_toArray, List.map_cons, List.map_nil]); first | done | rfl | (simp only [List.length_drop, List.length_take]; rfl)) ?_; (with_reducible refine (kilnlaw11_prints.calls kj43 _ _ y280 true _ ?side1 ?side2 A71.out).mono ?_); (case side1 => repeat (first | exact (Kd.R_reads' HO282.out).2.2 | (with_reducible refine Kd.C_alloc ?_ _) | (with_reducible refine Kd.C_drewN ?_ _) | (with_reducible refine Kd.C_drew ?_))); (case side2 => exact (Kd.R_reads' HO282.out).2.1); rintro e w101 ⟨rfl, hb⟩; refine ⟨_, rfl, ?_⟩; have n0_ := Aside0.mk (Kd.R_below (by (with_reducible repeat (first | apply Kd.R_alloc | apply Kd.R_drewN | apply Kd.R_drew)); exact HO282.out) hb); have n1_ := Aside0.mk (Kd.R_below (by (with_reducible repeat (first | apply Kd.R_alloc | apply Kd.R_drewN | apply Kd.R_drew)); exact HO286.out) hb); have n2_ := Aside0.mk (Kd.R_below (by (with_reducible repeat (first | apply Kd.R_alloc | apply Kd.R_drewN | apply Kd.R_drew)); exact HO290.out) hb); have n3_ := Aside0.mk (below_step (by repeat (first | (with_reducible first | exact HB.out | apply below_alloc | apply pw_below_drewN | apply below_drew1) | exact HB.out)) hb); clear HO282; clear HO286; clear HO290; clear HB; have HO282 := n0_; have HO286 := n1_; have HO290 := n2_; have HB := n3_; clear n0_ n1_ n2_ n3_; (try clear hb); (try clear hb2); (try clear hk); (try clear hi); obtain ⟨Ao102, co102, eo102⟩ := Kd.R_slice HO286.out; subst eo102) | (go_at_call 19; (with_reducible refine (kilnlaw11_prints.calls kj43 _ _ y284 false _ ?side1 ?side2 A73.out).mono ?_); (case side1 => repeat (first | exact (Kd.R_reads' HO286.out).2.2 | (with_reducible refine Kd.C_alloc ?_ _) | (with_reducible refine Kd.C_drewN ?_ _) | (with_reducible refine Kd.C_drew ?_))); (case side2 => exact (Kd.R_reads' HO286.out).2.1); rintro e w103 ⟨rfl, hb⟩; have n0_ := Aside0.mk (Kd.R_below (by (with_reducible repeat (first | apply Kd.R_alloc | apply Kd.R_drewN | apply Kd.R_drew)); exact HO282.out) hb); have n1_ := Aside0.mk (Kd.R_below (by (with_reducible repeat (first | apply Kd.R_alloc | apply Kd.R_drewN | apply Kd.R_drew)); exact HO286.out) hb); have n2_ := Aside0.mk (Kd.R_below (by (with_reducible repeat (first | apply Kd.R_alloc | apply Kd.R_drewN | apply Kd.R_drew)); exact HO290.out) hb); have n3_ := Aside0.mk (below_step (by repeat (first | (with_reducible first | exact HB.out | apply below_alloc | apply pw_below_drewN | apply below_drew1) | exact HB.out)) hb); clear HO282; clear HO286; clear HO290; clear HB; have HO282 := n0_; have HO286 := n1_; have HO290 := n2_; have HB := n3_; clear n0_ n1_ n2_ n3_; (try clear hb); (try clear hb2); (try clear hk); (try clear hi)))
                                  go_ret
                                  exact ⟨by first | rfl | (simp [errW_none, errW_some] <;> rfl) | (simp [*, errW_none, errW_some] <;> rfl), by repeat (first | (with_reducible first | exact HB.out | apply below_alloc | apply pw_below_drewN | apply below_drew1) | exact HB.out)⟩
                              · replace c72 := Bool.eq_false_iff.mpr c72
                                subst c72
                                have H1 : (some false) = some r := by rw [if_neg (show ¬ (false = true) by decide)] at H; exact H
                                clear H
                                have H := H1
                                clear H1
                                obtain rfl := Option.some.inj H
                                go_wp2_with (first | ((fail_if_success (have z_ := UA68)); have UA68 := A68; (with_reducible refine gate_callee (f := 20) rfl ?_); refine goesL_ (some 68) rfl rfl Try.func20 (by kernel_rfl) rfl #[.string (⟨#[99]⟩ : ByteArray), .int .i64 (wrap64 (65533 + x1_8))] rfl (by (try simp only [List.map_toArray, List.map_cons, List.map_nil]); first | done | rfl | (simp only [List.length_drop, List.length_take]; rfl)) ?_; (with_reducible refine (kilnlaw11_many.calls kj43 (⟨#[99]⟩ : ByteArray) (wrap64 (65533 + x1_8)) t279 _ A68.out).mono ?_); rintro e w104 ⟨rfl, hb⟩; refine ⟨_, rfl, ?_⟩; have n0_ := Aside0.mk (below_step (by repeat (first | (with_reducible first | exact HB.out | apply below_alloc | apply pw_below_drewN | apply below_drew1) | exact HB.out)) hb); clear HB; have HB := n0_; clear n0_; (try clear hb); (try clear hb2); (try clear hk); (try clear hi)) | ((with_reducible refine gate_dst (N := 71) rfl ?_); (try (refine gate_guard (by rfl) ?_; dsimp only)); refine Kd.R_lit k27 _ 27 ?hg (N := 71) ?hd (xs := ([(⟨2, t279, 0, 0⟩ : S27), (⟨7, (⟨#[]⟩ : ByteArray), 0, 0⟩ : S27)] : List (S27))) (inner := [.int .i64 2, .string t279, .int .i64 0, .int .i64 0, .int .i64 7, .string (⟨#[]⟩ : ByteArray), .int .i64 0, .int .i64 0]) (ok := fun _ => True) (okp := fun _ => True) ?hr ?hp (fun _ hk => hk) trivial (Below.refl _ _) (Nat.le_refl _) (by simp) ?_; (case hd => rfl); (case hg => rfl); (case hr => first | (go_simp; done) | (go_simp; rfl)); (case hp => exact (Reps.c4 (show Kd.M k27 _ _ _ (⟨2, t279, 0, 0⟩ : S27) [.int .i64 2, .string t279, .int .i64 0, .int .i64 0] from (k27_mkM _ _ _ (⟨2, t279, 0, 0⟩ : S27) )) (Reps.c4 (show Kd.M k27 _ _ _ (⟨7, (⟨#[]⟩ : ByteArray), 0, 0⟩ : S27) [.int .i64 7, .string (⟨#[]⟩ : ByteArray), .int .i64 0, .int .i64 0] from (k27_mkM _ _ _ (⟨7, (⟨#[]⟩ : ByteArray), 0, 0⟩ : S27) )) (Reps.none _ _)))); intro v281 w105 ho106 hb hg_ hnew_; clear hg_ hnew_; (first | rw [← Ny280.out] at ho106 | (simp only [Int.reduceToNat] at ho106; rw [← Ny280.out] at ho106)); have n0_ := Aside0.mk (Kd.R_lower ho106 (below_size (by repeat (first | (with_reducible first | exact HB.out | apply below_alloc | apply pw_below_drewN | apply below_drew1) | exact HB.out)))); have n1_ := Aside0.mk (below_step (by repeat (first | (with_reducible first | exact HB.out | apply below_alloc | apply pw_below_drewN | apply below_drew1) | exact HB.out)) hb); clear HB; have HO282 := n0_; have HB := n1_; clear n0_ n1_; clear hb ho106) | ((with_reducible refine gate_callee (f := 20) rfl ?_); refine goesL_ (some 74) rfl rfl Try.func20 (by kernel_rfl) rfl #[.string (⟨#[1]⟩ : ByteArray), .int .i64 (wrap64 (16383 + x1_8))] rfl (by (try simp only [List.map_toArray, List.map_cons, List.map_nil]); first | done | rfl | (simp only [List.length_drop, List.length_take]; rfl)) ?_; (with_reducible refine (kilnlaw11_many.calls kj43 (⟨#[1]⟩ : ByteArray) (wrap64 (16383 + x1_8)) t283 _ A69.out).mono ?_); rintro e w107 ⟨rfl, hb⟩; refine ⟨_, rfl, ?_⟩; have n0_ := Aside0.mk (Kd.R_below (by (with_reducible repeat (first | apply Kd.R_alloc | apply Kd.R_drewN | apply Kd.R_drew)); exact HO282.out) hb); have n1_ := Aside0.mk (below_step (by repeat (first | (with_reducible first | exact HB.out | apply below_alloc | apply pw_below_drewN | apply below_drew1) | exact HB.out)) hb); clear HO282; clear HB; have HO282 := n0_; have HB := n1_; clear n0_ n1_; (try clear hb); (try clear hb2); (try clear hk); (try clear hi)) | ((with_reducible refine gate_dst (N := 78) rfl ?_); (try (refine gate_guard (by rfl) ?_; dsimp only)); refine Kd.R_lit k27 _ 27 ?hg (N := 78) ?hd (xs := ([(⟨2, t283, 0, 0⟩ : S27), (⟨1, (⟨#[97]⟩ : ByteArray), 0, 0⟩ : S27), (⟨7, (⟨#[]⟩ : ByteArray), 0, 0⟩ : S27)] : List (S27))) (inner := [.int .i64 2, .string t283, .int .i64 0, .int .i64 0, .int .i64 1, .string (⟨#[97]⟩ : ByteArray), .int .i64 0, .int .i64 0, .int .i64 7, .string (⟨#[]⟩ : ByteArray), .int .i64 0, .int .i64 0]) (ok := fun _ => True) (okp := fun _ => True) ?hr ?hp (fun _ hk => hk) trivial (Below.refl _ _) (Nat.le_refl _) (by simp) ?_; (case hd => rfl); (case hg => rfl); (case hr => first | (go_simp; done) | (go_simp; rfl)); (case hp => exact (Reps.c4 (show Kd.M k27 _ _ _ (⟨2, t283, 0, 0⟩ : S27) [.int .i64 2, .string t283, .int .i64 0, .int .i64 0] from (k27_mkM _ _ _ (⟨2, t283, 0, 0⟩ : S27) )) (Reps.c4 (show Kd.M k27 _ _ _ (⟨1, (⟨#[97]⟩ : ByteArray), 0, 0⟩ : S27) [.int .i64 1, .string (⟨#[97]⟩ : ByteArray), .int .i64 0, .int .i64 0] from (k27_mkM _ _ _ (⟨1, (⟨#[97]⟩ : ByteArray), 0, 0⟩ : S27) )) (Reps.c4 (show Kd.M k27 _ _ _ (⟨7, (⟨#[]⟩ : ByteArray), 0, 0⟩ : S27) [.int .i64 7, .string (⟨#[]⟩ : ByteArray), .int .i64 0, .int .i64 0] from (k27_mkM _ _ _ (⟨7, (⟨#[]⟩ : ByteArray), 0, 0⟩ : S27) )) (Reps.none _ _))))); intro v285 w108 ho109 hb hg_ hnew_; clear hg_ hnew_; (first | rw [← Ny284.out] at ho109 | (simp only [Int.reduceToNat] at ho109; rw [← Ny284.out] at ho109)); have n0_ := Aside0.mk (Kd.R_elder' (by (with_reducible repeat (first | apply Kd.R_alloc | apply Kd.R_drewN | apply Kd.R_drew)); exact HO282.out) (Kd.R_base ho109) hb); have n1_ := Aside0.mk (Kd.R_lower (Kd.R_new' ho109 (Kd.R_lt (by (with_reducible repeat (first | apply Kd.R_alloc | apply Kd.R_drewN | apply Kd.R_drew)); exact HO282.out))) (below_size (by repeat (first | (with_reducible first | exact HB.out | apply below_alloc | apply pw_below_drewN | apply below_drew1) | exact HB.out)))); have n2_ := Aside0.mk (below_step (by repeat (first | (with_reducible first | exact HB.out | apply below_alloc | apply pw_below_drewN | apply below_drew1) | exact HB.out)) hb); clear HO282; clear HB; have HO282 := n0_; have HO286 := n1_; have HB := n2_; clear n0_ n1_ n2_; clear hb ho109) | ((fail_if_success (have z_ := UA70)); have UA70 := A70; (with_reducible refine gate_callee (f := 20) rfl ?_); refine goesL_ (some 81) rfl rfl Try.func20 (by kernel_rfl) rfl #[.string (⟨#[99]⟩ : ByteArray), .int .i64 (wrap64 (65533 + x1_8))] rfl (by (try simp only [List.map_toArray, List.map_cons, List.map_nil]); first | done | rfl | (simp only [List.length_drop, List.length_take]; rfl)) ?_; (with_reducible refine (kilnlaw11_many.calls kj43 (⟨#[99]⟩ : ByteArray) (wrap64 (65533 + x1_8)) t287 _ A70.out).mono ?_); rintro e w110 ⟨rfl, hb⟩; refine ⟨_, rfl, ?_⟩; have n0_ := Aside0.mk (Kd.R_below (by (with_reducible repeat (first | apply Kd.R_alloc | apply Kd.R_drewN | apply Kd.R_drew)); exact HO282.out) hb); have n1_ := Aside0.mk (Kd.R_below (by (with_reducible repeat (first | apply Kd.R_alloc | apply Kd.R_drewN | apply Kd.R_drew)); exact HO286.out) hb); have n2_ := Aside0.mk (below_step (by repeat (first | (with_reducible first | exact HB.out | apply below_alloc | apply pw_below_drewN | apply below_drew1) | exact HB.out)) hb); clear HO282; clear HO286; clear HB; have HO282 := n0_; have HO286 := n1_; have HB := n2_; clear n0_ n1_ n2_; (try clear hb); (try clear hb2); (try clear hk); (try clear hi)) | ((with_reducible refine gate_dst (N := 85) rfl ?_); (try (refine gate_guard (by rfl) ?_; dsimp only)); refine Kd.R_lit k27 _ 27 ?hg (N := 85) ?hd (xs := ([(⟨2, t287, 0, 0⟩ : S27), (⟨1, (⟨#[97, 32, 98]⟩ : ByteArray), 0, 0⟩ : S27), (⟨7, (⟨#[]⟩ : ByteArray), 0, 0⟩ : S27)] : List (S27))) (inner := [.int .i64 2, .string t287, .int .i64 0, .int .i64 0, .int .i64 1, .string (⟨#[97, 32, 98]⟩ : ByteArray), .int .i64 0, .int .i64 0, .int .i64 7, .string (⟨#[]⟩ : ByteArray), .int .i64 0, .int .i64 0]) (ok := fun _ => True) (okp := fun _ => True) ?hr ?hp (fun _ hk => hk) trivial (Below.refl _ _) (Nat.le_refl _) (by simp) ?_; (case hd => rfl); (case hg => rfl); (case hr => first | (go_simp; done) | (go_simp; rfl)); (case hp => exact (Reps.c4 (show Kd.M k27 _ _ _ (⟨2, t287, 0, 0⟩ : S27) [.int .i64 2, .string t287, .int .i64 0, .int .i64 0] from (k27_mkM _ _ _ (⟨2, t287, 0, 0⟩ : S27) )) (Reps.c4 (show Kd.M k27 _ _ _ (⟨1, (⟨#[97, 32, 98]⟩ : ByteArray), 0, 0⟩ : S27) [.int .i64 1, .string (⟨#[97, 32, 98]⟩ : ByteArray), .int .i64 0, .int .i64 0] from (k27_mkM _ _ _ (⟨1, (⟨#[97, 32, 98]⟩ : ByteArray), 0, 0⟩ : S27) )) (Reps.c4 (show Kd.M k27 _ _ _ (⟨7, (⟨#[]⟩ : ByteArray), 0, 0⟩ : S27) [.int .i64 7, .string (⟨#[]⟩ : ByteArray), .int .i64 0, .int .i64 0] from (k27_mkM _ _ _ (⟨7, (⟨#[]⟩ : ByteArray), 0, 0⟩ : S27) )) (Reps.none _ _))))); intro v289 w111 ho112 hb hg_ hnew_; clear hg_ hnew_; (first | rw [← Ny288.out] at ho112 | (simp only [Int.reduceToNat] at ho112; rw [← Ny288.out] at ho112)); have n0_ := Aside0.mk (Kd.R_elder' (by (with_reducible repeat (first | apply Kd.R_alloc | apply Kd.R_drewN | apply Kd.R_drew)); exact HO282.out) (Kd.R_base ho112) hb); have n1_ := Aside0.mk (Kd.R_elder' (by (with_reducible repeat (first | apply Kd.R_alloc | apply Kd.R_drewN | apply Kd.R_drew)); exact HO286.out) (Kd.R_base ho112) hb); have n2_ := Aside0.mk (Kd.R_lower (Kd.R_new' (Kd.R_new' ho112 (Kd.R_lt (by (with_reducible repeat (first | apply Kd.R_alloc | apply Kd.R_drewN | apply Kd.R_drew)); exact HO282.out))) (Kd.R_lt (by (with_reducible repeat (first | apply Kd.R_alloc | apply Kd.R_drewN | apply Kd.R_drew)); exact HO286.out))) (below_size (by repeat (first | (with_reducible first | exact HB.out | apply below_alloc | apply pw_below_drewN | apply below_drew1) | exact HB.out)))); have n3_ := Aside0.mk (below_step (by repeat (first | (with_reducible first | exact HB.out | apply below_alloc | apply pw_below_drewN | apply below_drew1) | exact HB.out)) hb); clear HO282; clear HO286; clear HB; have HO282 := n0_; have HO286 := n1_; have HO290 := n2_; have HB := n3_; clear n0_ n1_ n2_ n3_; clear hb ho112; obtain ⟨Ao113, co113, eo113⟩ := Kd.R_slice HO282.out; subst eo113) | ((with_reducible refine gate_callee (f := 19) rfl ?_); refine goesL_ (some 87) rfl rfl Try.func19 (by kernel_rfl) rfl #[.slice Ao113 y280.length co113] rfl (by (try simp only [List.map_toArray, List.map_cons, List.map_nil]); first | done | rfl | (simp only [List.length_drop, List.length_take]; rfl)) ?_; (with_reducible refine (kilnlaw11_prints.calls kj43 _ _ y280 false _ ?side1 ?side2 A71.out).mono ?_); (case side1 => repeat (first | exact (Kd.R_reads' HO282.out).2.2 | (with_reducible refine Kd.C_alloc ?_ _) | (with_reducible refine Kd.C_drewN ?_ _) | (with_reducible refine Kd.C_drew ?_))); (case side2 => exact (Kd.R_reads' HO282.out).2.1); rintro e w114 ⟨rfl, hb⟩; refine ⟨_, rfl, ?_⟩; have n0_ := Aside0.mk (Kd.R_below (by (with_reducible repeat (first | apply Kd.R_alloc | apply Kd.R_drewN | apply Kd.R_drew)); exact HO282.out) hb); have n1_ := Aside0.mk (Kd.R_below (by (with_reducible repeat (first | apply Kd.R_alloc | apply Kd.R_drewN | apply Kd.R_drew)); exact HO286.out) hb); have n2_ := Aside0.mk (Kd.R_below (by (with_reducible repeat (first | apply Kd.R_alloc | apply Kd.R_drewN | apply Kd.R_drew)); exact HO290.out) hb); have n3_ := Aside0.mk (below_step (by repeat (first | (with_reducible first | exact HB.out | apply below_alloc | apply pw_below_drewN | apply below_drew1) | exact HB.out)) hb); clear HO282; clear HO286; clear HO290; clear HB; have HO282 := n0_; have HO286 := n1_; have HO290 := n2_; have HB := n3_; clear n0_ n1_ n2_ n3_; (try clear hb); (try clear hb2); (try clear hk); (try clear hi)))
                                go_ret
                                exact ⟨by first | rfl | (simp [errW_none, errW_some] <;> rfl) | (simp [*, errW_none, errW_some] <;> rfl), by repeat (first | (with_reducible first | exact HB.out | apply below_alloc | apply pw_below_drewN | apply below_drew1) | exact HB.out)⟩

/-- THE ONE PURE STATEMENT of kilnlaw11_TokenLong: yours. -/
def kilnlaw11_TokenLong.Pure : Prop := ∀ (a0 : Int) (a1 : Int), (Lit.int .i64 a0).wf = true → (Lit.int .i64 a1).wf = true → ∃ k, kilnlaw11_TokenLong.f k a0 a1 = some true
theorem kilnlaw11_TokenLong.walk (P : kilnlaw11_TokenLong.Pure) (a0 : Int) (a1 : Int) (w : World) (w0 : (Lit.int .i64 a0).wf = true) (w1 : (Lit.int .i64 a1).wf = true) :
    Calls Try.prog 5 #[.int .i64 a0, .int .i64 a1] w fun e w' => e = .returned (.bool true) ∧ Below w.heap.size w w' := by
  obtain ⟨k, h⟩ := P a0 a1 w0 w1
  refine (kilnlaw11_TokenLong.calls k a0 a1 true w h).mono ?_
  rintro e w' ⟨rfl, hd⟩
  exact ⟨rfl, hd⟩

-- NOT PRINTED: function 6 (kilnlaw11_TokenBack)

end Go.Proofs.Ytnmmapjcphefpaa.G
