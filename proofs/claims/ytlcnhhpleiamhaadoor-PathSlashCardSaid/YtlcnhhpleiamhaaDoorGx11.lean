-- Printed by wip/graft.py out of the translation, over the kit's print; contracts that it lacks are given by hand.
import Derived.Test.YtlcnhhpleiamhaaDoorGx0
import Derived.Test.YtlcnhhpleiamhaaDoorGx1
import Derived.Test.YtlcnhhpleiamhaaDoorGx7
namespace Go.Proofs.YtlcnhhpleiamhaaDoor.G
open Go.RowKit Go.Proofs.YtlcnhhpleiamhaaDoorW.PrintWords Go.Proofs.YtlcnhhpleiamhaaDoorW.PrintLast Go.Proofs.YtlcnhhpleiamhaaDoorW.PrintMore
attribute [local go_sem] max2_int min2_int max_two min_two max_three min_three max_four min_four   -- for this text's walks alone
set_option linter.unusedVariables false
set_option linter.unusedSimpArgs false

/-! ### kilnlaw5_PathTogether: function 9 -/
mutual
def kilnlaw5_PathTogether.j0 : Nat → ByteArray → ByteArray → ByteArray → ByteArray → Option (Bool)
  | 0, _, _, _, _ => none
  | k + 1, x0, x1, x2, x3 => (path_Under.f x0 x1).bind fun t270 => (if t270 = true then ((path_Under.f x0 x3).bind fun t271 => (if t271 = true then ((path_Order.f k x1 x2).bind fun t272 => (if t272 ≤ 0 then ((path_Order.f k x2 x3).bind fun t273 => (if t273 ≤ 0 then ((path_Under.f x0 x2).bind fun t274 => (kilnlaw5_PathTogether.j1 k x0 x1 (!t274))) else (kilnlaw5_PathTogether.j1 k x0 x1 false))) else (kilnlaw5_PathTogether.j1 k x0 x1 false))) else (kilnlaw5_PathTogether.j1 k x0 x1 false))) else (kilnlaw5_PathTogether.j1 k x0 x1 false))
def kilnlaw5_PathTogether.j1 : Nat → ByteArray → ByteArray → Bool → Option (Bool)
  | 0, _, _, _ => none
  | k + 1, x0, x1, x65 => if x65 = true then (some false) else ((path_Under.f x0 x1).bind fun t275 => (if t275 = true then (if x1.toList = x0.toList then (some true) else ((path_Order.f k x0 x1).bind fun t276 => (some (t276 == (-1))))) else (some true)))
end
def kilnlaw5_PathTogether.f (k : Nat) (a0 : ByteArray) (a1 : ByteArray) (a2 : ByteArray) (a3 : ByteArray) (a4 : Bool) : Option (Bool) := (kilnlaw5_cut.f a0).bind fun t263 => ((kilnlaw5_cut.f a1).bind fun t264 => ((kilnlaw5_cut.f a2).bind fun t265 => ((kilnlaw5_cut.f a3).bind fun t266 => ((kilnlaw5_Told.f k).bind fun t267 => (if t267 = true then (if a4 = true then (if t263.size + 1 ≤ 9223372036854775807 then (if (t263 ++ (⟨#[47]⟩ : ByteArray)).size + t264.size ≤ 9223372036854775807 then (if (t263 ++ (⟨#[47]⟩ : ByteArray)).size + t266.size ≤ 9223372036854775807 then ((path_Under.f t263 ((t263 ++ (⟨#[47]⟩ : ByteArray)) ++ t264)).bind fun t268 => (if t268 = true then ((path_Under.f t263 ((t263 ++ (⟨#[47]⟩ : ByteArray)) ++ t266)).bind fun t269 => (if t269 = true then (kilnlaw5_PathTogether.j0 k t263 ((t263 ++ (⟨#[47]⟩ : ByteArray)) ++ t264) t265 ((t263 ++ (⟨#[47]⟩ : ByteArray)) ++ t266)) else (some false))) else (some false))) else (none)) else (none)) else (none)) else (kilnlaw5_PathTogether.j0 k t263 t264 t265 t266)) else (some false))))))
theorem kilnlaw5_PathTogether.mono_l : ∀ k, (∀ y0 y1 y2 y3, LeO (kilnlaw5_PathTogether.j0 k y0 y1 y2 y3) (kilnlaw5_PathTogether.j0 (k + 1) y0 y1 y2 y3)) ∧ (∀ y0 y1 y2, LeO (kilnlaw5_PathTogether.j1 k y0 y1 y2) (kilnlaw5_PathTogether.j1 (k + 1) y0 y1 y2))
  | 0 => ⟨fun _ _ _ _ r h => by simp [kilnlaw5_PathTogether.j0] at h, fun _ _ _ r h => by simp [kilnlaw5_PathTogether.j1] at h⟩
  | k + 1 => by
    obtain ⟨ih0, ih1⟩ := kilnlaw5_PathTogether.mono_l k
    refine ⟨?_, ?_⟩
    · intro y0 y1 y2 y3
      unfold kilnlaw5_PathTogether.j0
      repeat' first
      | (with_reducible exact ih0 _ _ _ _)
      | (with_reducible exact ih1 _ _ _)
      | (with_reducible exact kilnlaw5_Told.mono _)
      | (with_reducible exact path_Order.mono _ _ _)
      | (with_reducible exact LeO.refl _)
      | (with_reducible exact LeO.none _)
      | (with_reducible refine LeO.ite ?_ ?_)
      | (with_reducible refine LeO.bind ?_ (fun _ => ?_))
      | exact ih0 _ _ _ _
      | exact ih1 _ _ _
      | exact kilnlaw5_Told.mono _
      | exact path_Order.mono _ _ _
      | exact LeO.none _
      | refine LeO.ite ?_ ?_
      | refine LeO.bind ?_ (fun _ => ?_)
    · intro y0 y1 y2
      unfold kilnlaw5_PathTogether.j1
      repeat' first
      | (with_reducible exact ih0 _ _ _ _)
      | (with_reducible exact ih1 _ _ _)
      | (with_reducible exact kilnlaw5_Told.mono _)
      | (with_reducible exact path_Order.mono _ _ _)
      | (with_reducible exact LeO.refl _)
      | (with_reducible exact LeO.none _)
      | (with_reducible refine LeO.ite ?_ ?_)
      | (with_reducible refine LeO.bind ?_ (fun _ => ?_))
      | exact ih0 _ _ _ _
      | exact ih1 _ _ _
      | exact kilnlaw5_Told.mono _
      | exact path_Order.mono _ _ _
      | exact LeO.none _
      | refine LeO.ite ?_ ?_
      | refine LeO.bind ?_ (fun _ => ?_)
theorem kilnlaw5_PathTogether.mono : ∀ a0 a1 a2 a3 a4 k, LeO (kilnlaw5_PathTogether.f k a0 a1 a2 a3 a4) (kilnlaw5_PathTogether.f (k + 1) a0 a1 a2 a3 a4) := by
  intro a0 a1 a2 a3 a4 k
  obtain ⟨ih0, ih1⟩ := kilnlaw5_PathTogether.mono_l k
  unfold kilnlaw5_PathTogether.f
  repeat' first
      | (with_reducible exact ih0 _ _ _ _)
      | (with_reducible exact ih1 _ _ _)
      | (with_reducible exact kilnlaw5_Told.mono _)
      | (with_reducible exact path_Order.mono _ _ _)
      | (with_reducible exact LeO.refl _)
      | (with_reducible exact LeO.none _)
      | (with_reducible refine LeO.ite ?_ ?_)
      | (with_reducible refine LeO.bind ?_ (fun _ => ?_))
      | exact ih0 _ _ _ _
      | exact ih1 _ _ _
      | exact kilnlaw5_Told.mono _
      | exact path_Order.mono _ _ _
      | exact LeO.none _
      | refine LeO.ite ?_ ?_
      | refine LeO.bind ?_ (fun _ => ?_)
set_option maxHeartbeats 8000000 in
set_option maxRecDepth 100000 in
theorem kilnlaw5_PathTogether.calls (k : Nat) (a0 : ByteArray) (a1 : ByteArray) (a2 : ByteArray) (a3 : ByteArray) (a4 : Bool) (r : Bool) (w : World) (h : kilnlaw5_PathTogether.f k a0 a1 a2 a3 a4 = some r) :
    Calls Tryd.prog 9 #[.string a0, .string a1, .string a2, .string a3, .bool a4] w fun e w' => e = .returned (.bool r) ∧ Below w.heap.size w w' := by
  have HB := Aside0.mk (Below.refl w.heap.size w)
  have H : ((kilnlaw5_cut.f a0).bind fun t263 => ((kilnlaw5_cut.f a1).bind fun t264 => ((kilnlaw5_cut.f a2).bind fun t265 => ((kilnlaw5_cut.f a3).bind fun t266 => ((kilnlaw5_Told.f k).bind fun t267 => (if t267 = true then (if a4 = true then (if t263.size + 1 ≤ 9223372036854775807 then (if (t263 ++ (⟨#[47]⟩ : ByteArray)).size + t264.size ≤ 9223372036854775807 then (if (t263 ++ (⟨#[47]⟩ : ByteArray)).size + t266.size ≤ 9223372036854775807 then ((path_Under.f t263 ((t263 ++ (⟨#[47]⟩ : ByteArray)) ++ t264)).bind fun t268 => (if t268 = true then ((path_Under.f t263 ((t263 ++ (⟨#[47]⟩ : ByteArray)) ++ t266)).bind fun t269 => (if t269 = true then (kilnlaw5_PathTogether.j0 k t263 ((t263 ++ (⟨#[47]⟩ : ByteArray)) ++ t264) t265 ((t263 ++ (⟨#[47]⟩ : ByteArray)) ++ t266)) else (some false))) else (some false))) else (none)) else (none)) else (none)) else (kilnlaw5_PathTogether.j0 k t263 t264 t265 t266)) else (some false))))))) = some r := h
  clear h
  replace H := Option.bind_eq_some_iff.mp H
  obtain ⟨t263, A60, H⟩ := H
  replace H : ((kilnlaw5_cut.f a1).bind fun t264 => ((kilnlaw5_cut.f a2).bind fun t265 => ((kilnlaw5_cut.f a3).bind fun t266 => ((kilnlaw5_Told.f k).bind fun t267 => (if t267 = true then (if a4 = true then (if t263.size + 1 ≤ 9223372036854775807 then (if (t263 ++ (⟨#[47]⟩ : ByteArray)).size + t264.size ≤ 9223372036854775807 then (if (t263 ++ (⟨#[47]⟩ : ByteArray)).size + t266.size ≤ 9223372036854775807 then ((path_Under.f t263 ((t263 ++ (⟨#[47]⟩ : ByteArray)) ++ t264)).bind fun t268 => (if t268 = true then ((path_Under.f t263 ((t263 ++ (⟨#[47]⟩ : ByteArray)) ++ t266)).bind fun t269 => (if t269 = true then (kilnlaw5_PathTogether.j0 k t263 ((t263 ++ (⟨#[47]⟩ : ByteArray)) ++ t264) t265 ((t263 ++ (⟨#[47]⟩ : ByteArray)) ++ t266)) else (some false))) else (some false))) else (none)) else (none)) else (none)) else (kilnlaw5_PathTogether.j0 k t263 t264 t265 t266)) else (some false)))))) = some r := H
  have A6 := Aside0.mk A60
  clear A60
  replace H := Option.bind_eq_some_iff.mp H
  obtain ⟨t264, A70, H⟩ := H
  replace H : ((kilnlaw5_cut.f a2).bind fun t265 => ((kilnlaw5_cut.f a3).bind fun t266 => ((kilnlaw5_Told.f k).bind fun t267 => (if t267 = true then (if a4 = true then (if t263.size + 1 ≤ 9223372036854775807 then (if (t263 ++ (⟨#[47]⟩ : ByteArray)).size + t264.size ≤ 9223372036854775807 then (if (t263 ++ (⟨#[47]⟩ : ByteArray)).size + t266.size ≤ 9223372036854775807 then ((path_Under.f t263 ((t263 ++ (⟨#[47]⟩ : ByteArray)) ++ t264)).bind fun t268 => (if t268 = true then ((path_Under.f t263 ((t263 ++ (⟨#[47]⟩ : ByteArray)) ++ t266)).bind fun t269 => (if t269 = true then (kilnlaw5_PathTogether.j0 k t263 ((t263 ++ (⟨#[47]⟩ : ByteArray)) ++ t264) t265 ((t263 ++ (⟨#[47]⟩ : ByteArray)) ++ t266)) else (some false))) else (some false))) else (none)) else (none)) else (none)) else (kilnlaw5_PathTogether.j0 k t263 t264 t265 t266)) else (some false))))) = some r := H
  have A7 := Aside0.mk A70
  clear A70
  replace H := Option.bind_eq_some_iff.mp H
  obtain ⟨t265, A80, H⟩ := H
  replace H : ((kilnlaw5_cut.f a3).bind fun t266 => ((kilnlaw5_Told.f k).bind fun t267 => (if t267 = true then (if a4 = true then (if t263.size + 1 ≤ 9223372036854775807 then (if (t263 ++ (⟨#[47]⟩ : ByteArray)).size + t264.size ≤ 9223372036854775807 then (if (t263 ++ (⟨#[47]⟩ : ByteArray)).size + t266.size ≤ 9223372036854775807 then ((path_Under.f t263 ((t263 ++ (⟨#[47]⟩ : ByteArray)) ++ t264)).bind fun t268 => (if t268 = true then ((path_Under.f t263 ((t263 ++ (⟨#[47]⟩ : ByteArray)) ++ t266)).bind fun t269 => (if t269 = true then (kilnlaw5_PathTogether.j0 k t263 ((t263 ++ (⟨#[47]⟩ : ByteArray)) ++ t264) t265 ((t263 ++ (⟨#[47]⟩ : ByteArray)) ++ t266)) else (some false))) else (some false))) else (none)) else (none)) else (none)) else (kilnlaw5_PathTogether.j0 k t263 t264 t265 t266)) else (some false)))) = some r := H
  have A8 := Aside0.mk A80
  clear A80
  replace H := Option.bind_eq_some_iff.mp H
  obtain ⟨t266, A90, H⟩ := H
  replace H : ((kilnlaw5_Told.f k).bind fun t267 => (if t267 = true then (if a4 = true then (if t263.size + 1 ≤ 9223372036854775807 then (if (t263 ++ (⟨#[47]⟩ : ByteArray)).size + t264.size ≤ 9223372036854775807 then (if (t263 ++ (⟨#[47]⟩ : ByteArray)).size + t266.size ≤ 9223372036854775807 then ((path_Under.f t263 ((t263 ++ (⟨#[47]⟩ : ByteArray)) ++ t264)).bind fun t268 => (if t268 = true then ((path_Under.f t263 ((t263 ++ (⟨#[47]⟩ : ByteArray)) ++ t266)).bind fun t269 => (if t269 = true then (kilnlaw5_PathTogether.j0 k t263 ((t263 ++ (⟨#[47]⟩ : ByteArray)) ++ t264) t265 ((t263 ++ (⟨#[47]⟩ : ByteArray)) ++ t266)) else (some false))) else (some false))) else (none)) else (none)) else (none)) else (kilnlaw5_PathTogether.j0 k t263 t264 t265 t266)) else (some false))) = some r := H
  have A9 := Aside0.mk A90
  clear A90
  replace H := Option.bind_eq_some_iff.mp H
  obtain ⟨t267, A100, H⟩ := H
  replace H : (if t267 = true then (if a4 = true then (if t263.size + 1 ≤ 9223372036854775807 then (if (t263 ++ (⟨#[47]⟩ : ByteArray)).size + t264.size ≤ 9223372036854775807 then (if (t263 ++ (⟨#[47]⟩ : ByteArray)).size + t266.size ≤ 9223372036854775807 then ((path_Under.f t263 ((t263 ++ (⟨#[47]⟩ : ByteArray)) ++ t264)).bind fun t268 => (if t268 = true then ((path_Under.f t263 ((t263 ++ (⟨#[47]⟩ : ByteArray)) ++ t266)).bind fun t269 => (if t269 = true then (kilnlaw5_PathTogether.j0 k t263 ((t263 ++ (⟨#[47]⟩ : ByteArray)) ++ t264) t265 ((t263 ++ (⟨#[47]⟩ : ByteArray)) ++ t266)) else (some false))) else (some false))) else (none)) else (none)) else (none)) else (kilnlaw5_PathTogether.j0 k t263 t264 t265 t266)) else (some false)) = some r := H
  have A10 := Aside0.mk A100
  clear A100
  by_cases c11 : t267 = true
  · subst c11
    have H1 : (if a4 = true then (if t263.size + 1 ≤ 9223372036854775807 then (if (t263 ++ (⟨#[47]⟩ : ByteArray)).size + t264.size ≤ 9223372036854775807 then (if (t263 ++ (⟨#[47]⟩ : ByteArray)).size + t266.size ≤ 9223372036854775807 then ((path_Under.f t263 ((t263 ++ (⟨#[47]⟩ : ByteArray)) ++ t264)).bind fun t268 => (if t268 = true then ((path_Under.f t263 ((t263 ++ (⟨#[47]⟩ : ByteArray)) ++ t266)).bind fun t269 => (if t269 = true then (kilnlaw5_PathTogether.j0 k t263 ((t263 ++ (⟨#[47]⟩ : ByteArray)) ++ t264) t265 ((t263 ++ (⟨#[47]⟩ : ByteArray)) ++ t266)) else (some false))) else (some false))) else (none)) else (none)) else (none)) else (kilnlaw5_PathTogether.j0 k t263 t264 t265 t266)) = some r := by rw [if_pos rfl] at H; exact H
    clear H
    have H := H1
    clear H1
    have HC12 := Aside0.mk H
    clear H
    go_enter Tryd.func9, Tryd.ntmps9
    go_upto_if 21 with (first | ((with_reducible refine gate_callee (f := 13) rfl ?_); refine goesL_ (some 12) rfl rfl Tryd.func13 (by kernel_rfl) rfl #[.string a0] rfl (by (try simp only [List.map_toArray, List.map_cons, List.map_nil]); first | done | rfl | (simp only [List.length_drop, List.length_take]; rfl)) ?_; (with_reducible refine (kilnlaw5_cut.calls a0 t263 _ A6.out).mono ?_); rintro e w' ⟨rfl, ⟨nd, rfl⟩⟩; refine ⟨_, rfl, ?_⟩) | ((with_reducible refine gate_callee (f := 13) rfl ?_); refine goesL_ (some 14) rfl rfl Tryd.func13 (by kernel_rfl) rfl #[.string a1] rfl (by (try simp only [List.map_toArray, List.map_cons, List.map_nil]); first | done | rfl | (simp only [List.length_drop, List.length_take]; rfl)) ?_; (with_reducible refine (kilnlaw5_cut.calls a1 t264 _ A7.out).mono ?_); rintro e w' ⟨rfl, ⟨nd, rfl⟩⟩; refine ⟨_, rfl, ?_⟩) | ((with_reducible refine gate_callee (f := 13) rfl ?_); refine goesL_ (some 16) rfl rfl Tryd.func13 (by kernel_rfl) rfl #[.string a2] rfl (by (try simp only [List.map_toArray, List.map_cons, List.map_nil]); first | done | rfl | (simp only [List.length_drop, List.length_take]; rfl)) ?_; (with_reducible refine (kilnlaw5_cut.calls a2 t265 _ A8.out).mono ?_); rintro e w' ⟨rfl, ⟨nd, rfl⟩⟩; refine ⟨_, rfl, ?_⟩) | ((with_reducible refine gate_callee (f := 13) rfl ?_); refine goesL_ (some 18) rfl rfl Tryd.func13 (by kernel_rfl) rfl #[.string a3] rfl (by (try simp only [List.map_toArray, List.map_cons, List.map_nil]); first | done | rfl | (simp only [List.length_drop, List.length_take]; rfl)) ?_; (with_reducible refine (kilnlaw5_cut.calls a3 t266 _ A9.out).mono ?_); rintro e w' ⟨rfl, ⟨nd, rfl⟩⟩; refine ⟨_, rfl, ?_⟩) | ((with_reducible refine gate_callee (f := 14) rfl ?_); refine goesL_ (some 19) rfl rfl Tryd.func14 (by kernel_rfl) rfl #[] rfl (by (try simp only [List.map_toArray, List.map_cons, List.map_nil]); first | done | rfl | (simp only [List.length_drop, List.length_take]; rfl)) ?_; (with_reducible refine (kilnlaw5_Told.calls k  true _ A10.out).mono ?_); rintro e w13 ⟨rfl, hb⟩; refine ⟨_, rfl, ?_⟩; have n0_ := Aside0.mk (below_step (by repeat (first | (with_reducible first | exact HB.out | apply below_alloc | apply pw_below_drewN | apply below_drew1) | exact HB.out)) hb); clear HB; have HB := n0_; clear n0_; (try clear hb); (try clear hb2); (try clear hk); (try clear hi)))
    (try simp only [Act.put, List.setIfInBounds_toArray, List.set_cons_zero, List.set_cons_succ])
    go_cut [1, 3] (fun v1 v3 wc => ∃ (kq : Nat) (x1_11 : ByteArray) (x3_11 : ByteArray), v1 = .string x1_11 ∧ v3 = .string x3_11 ∧ Aside0 (kilnlaw5_PathTogether.j0 kq t263 x1_11 t265 x3_11 = some r) ∧ Aside0 (kq ≤ k) ∧ Aside0 (Below w.heap.size w wc))
    case first =>
      have H := HC12.out
      clear HC12
      by_cases c14 : a4 = true
      · subst c14
        have H1 : (if t263.size + 1 ≤ 9223372036854775807 then (if (t263 ++ (⟨#[47]⟩ : ByteArray)).size + t264.size ≤ 9223372036854775807 then (if (t263 ++ (⟨#[47]⟩ : ByteArray)).size + t266.size ≤ 9223372036854775807 then ((path_Under.f t263 ((t263 ++ (⟨#[47]⟩ : ByteArray)) ++ t264)).bind fun t268 => (if t268 = true then ((path_Under.f t263 ((t263 ++ (⟨#[47]⟩ : ByteArray)) ++ t266)).bind fun t269 => (if t269 = true then (kilnlaw5_PathTogether.j0 k t263 ((t263 ++ (⟨#[47]⟩ : ByteArray)) ++ t264) t265 ((t263 ++ (⟨#[47]⟩ : ByteArray)) ++ t266)) else (some false))) else (some false))) else (none)) else (none)) else (none)) = some r := by rw [if_pos rfl] at H; exact H
        clear H
        have H := H1
        clear H1
        by_cases c15 : t263.size + 1 ≤ 9223372036854775807
        · rw [if_pos c15] at H
          have c15b0 := eq_true c15
          have c15b1 : decide (t263.size + 1 ≤ 9223372036854775807) = true := decide_eq_true c15
          try have c15b2 : (9223372036854775807 < t263.size + 1) = False := eq_false (Nat.not_lt.2 c15)
          by_cases c16 : (t263 ++ (⟨#[47]⟩ : ByteArray)).size + t264.size ≤ 9223372036854775807
          · rw [if_pos c16] at H
            have c16b0 := eq_true c16
            have c16b1 : decide ((t263 ++ (⟨#[47]⟩ : ByteArray)).size + t264.size ≤ 9223372036854775807) = true := decide_eq_true c16
            try have c16b2 : (9223372036854775807 < (t263 ++ (⟨#[47]⟩ : ByteArray)).size + t264.size) = False := eq_false (Nat.not_lt.2 c16)
            try have c16b3 : (9223372036854775807 < t263.size + 1 + t264.size) = False := eq_false (by have h_ := c16; simp only [ByteArray.size_append] at h_; exact Nat.not_lt.2 h_)
            try have c16b4 : decide (t263.size + 1 + t264.size ≤ 9223372036854775807) = true := decide_eq_true (by have h_ := c16; simp only [ByteArray.size_append] at h_; exact h_)
            by_cases c17 : (t263 ++ (⟨#[47]⟩ : ByteArray)).size + t266.size ≤ 9223372036854775807
            · rw [if_pos c17] at H
              have c17b0 := eq_true c17
              have c17b1 : decide ((t263 ++ (⟨#[47]⟩ : ByteArray)).size + t266.size ≤ 9223372036854775807) = true := decide_eq_true c17
              try have c17b2 : (9223372036854775807 < (t263 ++ (⟨#[47]⟩ : ByteArray)).size + t266.size) = False := eq_false (Nat.not_lt.2 c17)
              try have c17b3 : (9223372036854775807 < t263.size + 1 + t266.size) = False := eq_false (by have h_ := c17; simp only [ByteArray.size_append] at h_; exact Nat.not_lt.2 h_)
              try have c17b4 : decide (t263.size + 1 + t266.size ≤ 9223372036854775807) = true := decide_eq_true (by have h_ := c17; simp only [ByteArray.size_append] at h_; exact h_)
              replace H := Option.bind_eq_some_iff.mp H
              obtain ⟨t268, A180, H⟩ := H
              replace H : (if t268 = true then ((path_Under.f t263 ((t263 ++ (⟨#[47]⟩ : ByteArray)) ++ t266)).bind fun t269 => (if t269 = true then (kilnlaw5_PathTogether.j0 k t263 ((t263 ++ (⟨#[47]⟩ : ByteArray)) ++ t264) t265 ((t263 ++ (⟨#[47]⟩ : ByteArray)) ++ t266)) else (some false))) else (some false)) = some r := H
              have A18 := Aside0.mk A180
              clear A180
              by_cases c19 : t268 = true
              · subst c19
                have H1 : ((path_Under.f t263 ((t263 ++ (⟨#[47]⟩ : ByteArray)) ++ t266)).bind fun t269 => (if t269 = true then (kilnlaw5_PathTogether.j0 k t263 ((t263 ++ (⟨#[47]⟩ : ByteArray)) ++ t264) t265 ((t263 ++ (⟨#[47]⟩ : ByteArray)) ++ t266)) else (some false))) = some r := by rw [if_pos rfl] at H; exact H
                clear H
                have H := H1
                clear H1
                replace H := Option.bind_eq_some_iff.mp H
                obtain ⟨t269, A200, H⟩ := H
                replace H : (if t269 = true then (kilnlaw5_PathTogether.j0 k t263 ((t263 ++ (⟨#[47]⟩ : ByteArray)) ++ t264) t265 ((t263 ++ (⟨#[47]⟩ : ByteArray)) ++ t266)) else (some false)) = some r := H
                have A20 := Aside0.mk A200
                clear A200
                by_cases c21 : t269 = true
                · subst c21
                  have H1 : (kilnlaw5_PathTogether.j0 k t263 ((t263 ++ (⟨#[47]⟩ : ByteArray)) ++ t264) t265 ((t263 ++ (⟨#[47]⟩ : ByteArray)) ++ t266)) = some r := by rw [if_pos rfl] at H; exact H
                  clear H
                  have H := H1
                  clear H1
                  have H' := Aside0.mk H
                  clear H
                  go_wp2_with (first | ((with_reducible refine gate_callee (f := 22) rfl ?_); refine goesL_ (some 32) rfl rfl Tryd.func22 (by kernel_rfl) rfl #[.string t263, .string ((t263 ++ (⟨#[47]⟩ : ByteArray)) ++ t264)] rfl (by (try simp only [List.map_toArray, List.map_cons, List.map_nil]); first | done | rfl | (simp only [List.length_drop, List.length_take]; rfl)) ?_; (with_reducible refine (path_Under.calls t263 ((t263 ++ (⟨#[47]⟩ : ByteArray)) ++ t264) true _ A18.out).mono ?_); rintro e w' ⟨rfl, ⟨nd, rfl⟩⟩; refine ⟨_, rfl, ?_⟩) | (go_at_call 22; (with_reducible refine (path_Under.calls t263 ((t263 ++ (⟨#[47]⟩ : ByteArray)) ++ t266) true _ A20.out).mono ?_); rintro e w' ⟨rfl, ⟨nd, rfl⟩⟩))
                  go_meet
                  case rel => exact ⟨_, ((t263 ++ (⟨#[47]⟩ : ByteArray)) ++ t264), ((t263 ++ (⟨#[47]⟩ : ByteArray)) ++ t266), (by first | rfl | (simp; done) | (simp [*]; done)), (by first | rfl | (simp; done) | (simp [*]; done)), H', ⟨by first | omega | exact Nat.le_refl _⟩, ⟨by repeat (first | (with_reducible first | exact HB.out | apply below_alloc | apply pw_below_drewN | apply below_drew1) | exact HB.out)⟩⟩
                · replace c21 := Bool.eq_false_iff.mpr c21
                  subst c21
                  have H1 : (some false) = some r := by rw [if_neg (show ¬ (false = true) by decide)] at H; exact H
                  clear H
                  have H := H1
                  clear H1
                  obtain rfl := Option.some.inj H
                  go_wp2_with (first | ((with_reducible refine gate_callee (f := 22) rfl ?_); refine goesL_ (some 32) rfl rfl Tryd.func22 (by kernel_rfl) rfl #[.string t263, .string ((t263 ++ (⟨#[47]⟩ : ByteArray)) ++ t264)] rfl (by (try simp only [List.map_toArray, List.map_cons, List.map_nil]); first | done | rfl | (simp only [List.length_drop, List.length_take]; rfl)) ?_; (with_reducible refine (path_Under.calls t263 ((t263 ++ (⟨#[47]⟩ : ByteArray)) ++ t264) true _ A18.out).mono ?_); rintro e w' ⟨rfl, ⟨nd, rfl⟩⟩; refine ⟨_, rfl, ?_⟩) | (go_at_call 22; (with_reducible refine (path_Under.calls t263 ((t263 ++ (⟨#[47]⟩ : ByteArray)) ++ t266) false _ A20.out).mono ?_); rintro e w' ⟨rfl, ⟨nd, rfl⟩⟩))
                  go_ret
                  exact ⟨by first | rfl | (simp [errW_none, errW_some] <;> rfl) | (simp [*, errW_none, errW_some] <;> rfl), by repeat (first | (with_reducible first | exact HB.out | apply below_alloc | apply pw_below_drewN | apply below_drew1) | exact HB.out)⟩
              · replace c19 := Bool.eq_false_iff.mpr c19
                subst c19
                have H1 : (some false) = some r := by rw [if_neg (show ¬ (false = true) by decide)] at H; exact H
                clear H
                have H := H1
                clear H1
                obtain rfl := Option.some.inj H
                go_wp2_with (first | ((with_reducible refine gate_callee (f := 22) rfl ?_); refine goesL_ (some 32) rfl rfl Tryd.func22 (by kernel_rfl) rfl #[.string t263, .string ((t263 ++ (⟨#[47]⟩ : ByteArray)) ++ t264)] rfl (by (try simp only [List.map_toArray, List.map_cons, List.map_nil]); first | done | rfl | (simp only [List.length_drop, List.length_take]; rfl)) ?_; (with_reducible refine (path_Under.calls t263 ((t263 ++ (⟨#[47]⟩ : ByteArray)) ++ t264) false _ A18.out).mono ?_); rintro e w' ⟨rfl, ⟨nd, rfl⟩⟩; refine ⟨_, rfl, ?_⟩))
                go_ret
                exact ⟨by first | rfl | (simp [errW_none, errW_some] <;> rfl) | (simp [*, errW_none, errW_some] <;> rfl), by repeat (first | (with_reducible first | exact HB.out | apply below_alloc | apply pw_below_drewN | apply below_drew1) | exact HB.out)⟩
            · rw [if_neg c17] at H
              exact absurd H (by simp)
          · rw [if_neg c16] at H
            exact absurd H (by simp)
        · rw [if_neg c15] at H
          exact absurd H (by simp)
      · replace c14 := Bool.eq_false_iff.mpr c14
        subst c14
        have H1 : (kilnlaw5_PathTogether.j0 k t263 t264 t265 t266) = some r := by rw [if_neg (show ¬ (false = true) by decide)] at H; exact H
        clear H
        have H := H1
        clear H1
        have H' := Aside0.mk H
        clear H
        go_wp2
        go_meet
        case rel => exact ⟨_, (t264), (t266), (by first | rfl | (simp; done) | (simp [*]; done)), (by first | rfl | (simp; done) | (simp [*]; done)), H', ⟨by first | omega | exact Nat.le_refl _⟩, ⟨by repeat (first | (with_reducible first | exact HB.out | apply below_alloc | apply pw_below_drewN | apply below_drew1) | exact HB.out)⟩⟩
    case rest =>
      clear HC12
      try clear c1
      try clear c2
      try clear p2
      try clear c9
      try clear c11
      try clear c13
      try clear c14
      try clear c15
      try clear c15b0
      try clear c15b1
      try clear c15b2
      try clear c16
      try clear c16b0
      try clear c16b1
      try clear c16b2
      try clear c17
      try clear c17b0
      try clear c17b1
      try clear c17b2
      try clear c19
      try clear c21
      obtain ⟨kq, x1_11, x3_11, rfl, rfl, HA, HJ11, HB⟩ := hcut
      cases kq with
      | zero => exact absurd HA.out (by simp [kilnlaw5_PathTogether.j0])
      | succ kj11 =>
        have H := HA.out
        clear HA
        simp only [kilnlaw5_PathTogether.j0] at H
        have HC22 := Aside0.mk H
        clear H
        go_upto_region 8 with (fail)
        go_cut [65] (fun v65 wc => ∃ (kq : Nat) (x65_21 : Bool), v65 = .bool x65_21 ∧ Aside0 (kilnlaw5_PathTogether.j1 kq t263 x1_11 x65_21 = some r) ∧ Aside0 (kq ≤ kj11) ∧ Aside0 (Below w.heap.size w wc))
        case first =>
          have H := HC22.out
          clear HC22
          replace H := Option.bind_eq_some_iff.mp H
          obtain ⟨t270, A230, H⟩ := H
          replace H : (if t270 = true then ((path_Under.f t263 x3_11).bind fun t271 => (if t271 = true then ((path_Order.f kj11 x1_11 t265).bind fun t272 => (if t272 ≤ 0 then ((path_Order.f kj11 t265 x3_11).bind fun t273 => (if t273 ≤ 0 then ((path_Under.f t263 t265).bind fun t274 => (kilnlaw5_PathTogether.j1 kj11 t263 x1_11 (!t274))) else (kilnlaw5_PathTogether.j1 kj11 t263 x1_11 false))) else (kilnlaw5_PathTogether.j1 kj11 t263 x1_11 false))) else (kilnlaw5_PathTogether.j1 kj11 t263 x1_11 false))) else (kilnlaw5_PathTogether.j1 kj11 t263 x1_11 false)) = some r := H
          have A23 := Aside0.mk A230
          clear A230
          by_cases c24 : t270 = true
          · subst c24
            have H1 : ((path_Under.f t263 x3_11).bind fun t271 => (if t271 = true then ((path_Order.f kj11 x1_11 t265).bind fun t272 => (if t272 ≤ 0 then ((path_Order.f kj11 t265 x3_11).bind fun t273 => (if t273 ≤ 0 then ((path_Under.f t263 t265).bind fun t274 => (kilnlaw5_PathTogether.j1 kj11 t263 x1_11 (!t274))) else (kilnlaw5_PathTogether.j1 kj11 t263 x1_11 false))) else (kilnlaw5_PathTogether.j1 kj11 t263 x1_11 false))) else (kilnlaw5_PathTogether.j1 kj11 t263 x1_11 false))) = some r := by rw [if_pos rfl] at H; exact H
            clear H
            have H := H1
            clear H1
            replace H := Option.bind_eq_some_iff.mp H
            obtain ⟨t271, A250, H⟩ := H
            replace H : (if t271 = true then ((path_Order.f kj11 x1_11 t265).bind fun t272 => (if t272 ≤ 0 then ((path_Order.f kj11 t265 x3_11).bind fun t273 => (if t273 ≤ 0 then ((path_Under.f t263 t265).bind fun t274 => (kilnlaw5_PathTogether.j1 kj11 t263 x1_11 (!t274))) else (kilnlaw5_PathTogether.j1 kj11 t263 x1_11 false))) else (kilnlaw5_PathTogether.j1 kj11 t263 x1_11 false))) else (kilnlaw5_PathTogether.j1 kj11 t263 x1_11 false)) = some r := H
            have A25 := Aside0.mk A250
            clear A250
            by_cases c26 : t271 = true
            · subst c26
              have H1 : ((path_Order.f kj11 x1_11 t265).bind fun t272 => (if t272 ≤ 0 then ((path_Order.f kj11 t265 x3_11).bind fun t273 => (if t273 ≤ 0 then ((path_Under.f t263 t265).bind fun t274 => (kilnlaw5_PathTogether.j1 kj11 t263 x1_11 (!t274))) else (kilnlaw5_PathTogether.j1 kj11 t263 x1_11 false))) else (kilnlaw5_PathTogether.j1 kj11 t263 x1_11 false))) = some r := by rw [if_pos rfl] at H; exact H
              clear H
              have H := H1
              clear H1
              replace H := Option.bind_eq_some_iff.mp H
              obtain ⟨t272, A270, H⟩ := H
              replace H : (if t272 ≤ 0 then ((path_Order.f kj11 t265 x3_11).bind fun t273 => (if t273 ≤ 0 then ((path_Under.f t263 t265).bind fun t274 => (kilnlaw5_PathTogether.j1 kj11 t263 x1_11 (!t274))) else (kilnlaw5_PathTogether.j1 kj11 t263 x1_11 false))) else (kilnlaw5_PathTogether.j1 kj11 t263 x1_11 false)) = some r := H
              have A27 := Aside0.mk A270
              clear A270
              by_cases c28 : t272 ≤ 0
              · rw [if_pos c28] at H
                have c28b0 : decide (t272 ≤ 0) = true := decide_eq_true c28
                clear c28
                (first | rw [c28b0] | (simp only [i64_w, i32_w]; rw [c28b0]) | skip)
                replace H := Option.bind_eq_some_iff.mp H
                obtain ⟨t273, A290, H⟩ := H
                replace H : (if t273 ≤ 0 then ((path_Under.f t263 t265).bind fun t274 => (kilnlaw5_PathTogether.j1 kj11 t263 x1_11 (!t274))) else (kilnlaw5_PathTogether.j1 kj11 t263 x1_11 false)) = some r := H
                have A29 := Aside0.mk A290
                clear A290
                by_cases c30 : t273 ≤ 0
                · rw [if_pos c30] at H
                  have c30b0 : decide (t273 ≤ 0) = true := decide_eq_true c30
                  clear c30
                  replace H := Option.bind_eq_some_iff.mp H
                  obtain ⟨t274, A310, H⟩ := H
                  replace H : (kilnlaw5_PathTogether.j1 kj11 t263 x1_11 (!t274)) = some r := H
                  have A31 := Aside0.mk A310
                  clear A310
                  have H' := Aside0.mk H
                  clear H
                  go_wp2_with (first | ((with_reducible refine gate_callee (f := 22) rfl ?_); refine goesL_ (some 42) rfl rfl Tryd.func22 (by kernel_rfl) rfl #[.string t263, .string x1_11] rfl (by (try simp only [List.map_toArray, List.map_cons, List.map_nil]); first | done | rfl | (simp only [List.length_drop, List.length_take]; rfl)) ?_; (with_reducible refine (path_Under.calls t263 x1_11 true _ A23.out).mono ?_); rintro e w' ⟨rfl, ⟨nd, rfl⟩⟩; refine ⟨_, rfl, ?_⟩) | (go_at_call 22; (with_reducible refine (path_Under.calls t263 x3_11 true _ A25.out).mono ?_); rintro e w' ⟨rfl, ⟨nd, rfl⟩⟩) | (go_at_call 20; (with_reducible refine (path_Order.calls kj11 x1_11 t265 t272 _ A27.out).mono ?_); rintro e w' ⟨rfl, ⟨nd, rfl⟩⟩) | (go_at_call 20; (with_reducible refine (path_Order.calls kj11 t265 x3_11 t273 _ A29.out).mono ?_); rintro e w' ⟨rfl, ⟨nd, rfl⟩⟩) | (go_at_call 22; (with_reducible refine (path_Under.calls t263 t265 t274 _ A31.out).mono ?_); rintro e w' ⟨rfl, ⟨nd, rfl⟩⟩))
                  go_meet
                  case rel => exact ⟨_, (!t274), (by first | rfl | (simp; done) | (simp [*]; done)), H', ⟨by have := HJ11.out; first | omega | exact Nat.le_refl _⟩, ⟨by repeat (first | (with_reducible first | exact HB.out | apply below_alloc | apply pw_below_drewN | apply below_drew1) | exact HB.out)⟩⟩
                · rw [if_neg c30] at H
                  have c30b0 : decide (t273 ≤ 0) = false := decide_eq_false c30
                  clear c30
                  have H' := Aside0.mk H
                  clear H
                  go_wp2_with (first | ((with_reducible refine gate_callee (f := 22) rfl ?_); refine goesL_ (some 42) rfl rfl Tryd.func22 (by kernel_rfl) rfl #[.string t263, .string x1_11] rfl (by (try simp only [List.map_toArray, List.map_cons, List.map_nil]); first | done | rfl | (simp only [List.length_drop, List.length_take]; rfl)) ?_; (with_reducible refine (path_Under.calls t263 x1_11 true _ A23.out).mono ?_); rintro e w' ⟨rfl, ⟨nd, rfl⟩⟩; refine ⟨_, rfl, ?_⟩) | (go_at_call 22; (with_reducible refine (path_Under.calls t263 x3_11 true _ A25.out).mono ?_); rintro e w' ⟨rfl, ⟨nd, rfl⟩⟩) | (go_at_call 20; (with_reducible refine (path_Order.calls kj11 x1_11 t265 t272 _ A27.out).mono ?_); rintro e w' ⟨rfl, ⟨nd, rfl⟩⟩) | (go_at_call 20; (with_reducible refine (path_Order.calls kj11 t265 x3_11 t273 _ A29.out).mono ?_); rintro e w' ⟨rfl, ⟨nd, rfl⟩⟩))
                  go_meet
                  case rel => exact ⟨_, (false), (by first | rfl | (simp; done) | (simp [*]; done)), H', ⟨by have := HJ11.out; first | omega | exact Nat.le_refl _⟩, ⟨by repeat (first | (with_reducible first | exact HB.out | apply below_alloc | apply pw_below_drewN | apply below_drew1) | exact HB.out)⟩⟩
              · rw [if_neg c28] at H
                have c28b0 : decide (t272 ≤ 0) = false := decide_eq_false c28
                clear c28
                (first | rw [c28b0] | (simp only [i64_w, i32_w]; rw [c28b0]) | skip)
                have H' := Aside0.mk H
                clear H
                go_wp2_with (first | ((with_reducible refine gate_callee (f := 22) rfl ?_); refine goesL_ (some 42) rfl rfl Tryd.func22 (by kernel_rfl) rfl #[.string t263, .string x1_11] rfl (by (try simp only [List.map_toArray, List.map_cons, List.map_nil]); first | done | rfl | (simp only [List.length_drop, List.length_take]; rfl)) ?_; (with_reducible refine (path_Under.calls t263 x1_11 true _ A23.out).mono ?_); rintro e w' ⟨rfl, ⟨nd, rfl⟩⟩; refine ⟨_, rfl, ?_⟩) | (go_at_call 22; (with_reducible refine (path_Under.calls t263 x3_11 true _ A25.out).mono ?_); rintro e w' ⟨rfl, ⟨nd, rfl⟩⟩) | (go_at_call 20; (with_reducible refine (path_Order.calls kj11 x1_11 t265 t272 _ A27.out).mono ?_); rintro e w' ⟨rfl, ⟨nd, rfl⟩⟩))
                go_meet
                case rel => exact ⟨_, (false), (by first | rfl | (simp; done) | (simp [*]; done)), H', ⟨by have := HJ11.out; first | omega | exact Nat.le_refl _⟩, ⟨by repeat (first | (with_reducible first | exact HB.out | apply below_alloc | apply pw_below_drewN | apply below_drew1) | exact HB.out)⟩⟩
            · replace c26 := Bool.eq_false_iff.mpr c26
              subst c26
              have H1 : (kilnlaw5_PathTogether.j1 kj11 t263 x1_11 false) = some r := by rw [if_neg (show ¬ (false = true) by decide)] at H; exact H
              clear H
              have H := H1
              clear H1
              have H' := Aside0.mk H
              clear H
              go_wp2_with (first | ((with_reducible refine gate_callee (f := 22) rfl ?_); refine goesL_ (some 42) rfl rfl Tryd.func22 (by kernel_rfl) rfl #[.string t263, .string x1_11] rfl (by (try simp only [List.map_toArray, List.map_cons, List.map_nil]); first | done | rfl | (simp only [List.length_drop, List.length_take]; rfl)) ?_; (with_reducible refine (path_Under.calls t263 x1_11 true _ A23.out).mono ?_); rintro e w' ⟨rfl, ⟨nd, rfl⟩⟩; refine ⟨_, rfl, ?_⟩) | (go_at_call 22; (with_reducible refine (path_Under.calls t263 x3_11 false _ A25.out).mono ?_); rintro e w' ⟨rfl, ⟨nd, rfl⟩⟩))
              go_meet
              case rel => exact ⟨_, (false), (by first | rfl | (simp; done) | (simp [*]; done)), H', ⟨by have := HJ11.out; first | omega | exact Nat.le_refl _⟩, ⟨by repeat (first | (with_reducible first | exact HB.out | apply below_alloc | apply pw_below_drewN | apply below_drew1) | exact HB.out)⟩⟩
          · replace c24 := Bool.eq_false_iff.mpr c24
            subst c24
            have H1 : (kilnlaw5_PathTogether.j1 kj11 t263 x1_11 false) = some r := by rw [if_neg (show ¬ (false = true) by decide)] at H; exact H
            clear H
            have H := H1
            clear H1
            have H' := Aside0.mk H
            clear H
            go_wp2_with (first | ((with_reducible refine gate_callee (f := 22) rfl ?_); refine goesL_ (some 42) rfl rfl Tryd.func22 (by kernel_rfl) rfl #[.string t263, .string x1_11] rfl (by (try simp only [List.map_toArray, List.map_cons, List.map_nil]); first | done | rfl | (simp only [List.length_drop, List.length_take]; rfl)) ?_; (with_reducible refine (path_Under.calls t263 x1_11 false _ A23.out).mono ?_); rintro e w' ⟨rfl, ⟨nd, rfl⟩⟩; refine ⟨_, rfl, ?_⟩))
            go_meet
            case rel => exact ⟨_, (false), (by first | rfl | (simp; done) | (simp [*]; done)), H', ⟨by have := HJ11.out; first | omega | exact Nat.le_refl _⟩, ⟨by repeat (first | (with_reducible first | exact HB.out | apply below_alloc | apply pw_below_drewN | apply below_drew1) | exact HB.out)⟩⟩
        case rest =>
          clear HC22
          try clear c1
          try clear c2
          try clear p2
          try clear c3
          try clear c9
          try clear c11
          try clear c13
          try clear c14
          try clear c15
          try clear c15b0
          try clear c15b1
          try clear c15b2
          try clear c16
          try clear c16b0
          try clear c16b1
          try clear c16b2
          try clear c17
          try clear c17b0
          try clear c17b1
          try clear c17b2
          try clear c19
          try clear c21
          try clear c22
          try clear c24
          try clear c26
          try clear c28
          try clear c28b0
          try clear c30
          try clear c30b0
          try clear p2
          obtain ⟨kq, x65_21, rfl, HA, HJ21, HB⟩ := hcut
          cases kq with
          | zero => exact absurd HA.out (by simp [kilnlaw5_PathTogether.j1])
          | succ kj21 =>
            have H := HA.out
            clear HA
            simp only [kilnlaw5_PathTogether.j1] at H
            by_cases c32 : x65_21 = true
            · subst c32
              have H1 : (some false) = some r := by rw [if_pos rfl] at H; exact H
              clear H
              have H := H1
              clear H1
              obtain rfl := Option.some.inj H
              go_wp2
              go_ret
              exact ⟨by first | rfl | (simp [errW_none, errW_some] <;> rfl) | (simp [*, errW_none, errW_some] <;> rfl), by repeat (first | (with_reducible first | exact HB.out | apply below_alloc | apply pw_below_drewN | apply below_drew1) | exact HB.out)⟩
            · replace c32 := Bool.eq_false_iff.mpr c32
              subst c32
              have H1 : ((path_Under.f t263 x1_11).bind fun t275 => (if t275 = true then (if x1_11.toList = t263.toList then (some true) else ((path_Order.f kj21 t263 x1_11).bind fun t276 => (some (t276 == (-1))))) else (some true))) = some r := by rw [if_neg (show ¬ (false = true) by decide)] at H; exact H
              clear H
              have H := H1
              clear H1
              replace H := Option.bind_eq_some_iff.mp H
              obtain ⟨t275, A330, H⟩ := H
              replace H : (if t275 = true then (if x1_11.toList = t263.toList then (some true) else ((path_Order.f kj21 t263 x1_11).bind fun t276 => (some (t276 == (-1))))) else (some true)) = some r := H
              have A33 := Aside0.mk A330
              clear A330
              by_cases c34 : t275 = true
              · subst c34
                have H1 : (if x1_11.toList = t263.toList then (some true) else ((path_Order.f kj21 t263 x1_11).bind fun t276 => (some (t276 == (-1))))) = some r := by rw [if_pos rfl] at H; exact H
                clear H
                have H := H1
                clear H1
                by_cases c35 : x1_11.toList = t263.toList
                · rw [if_pos c35] at H
                  have c35b0 : (x1_11.toList == t263.toList) = true := beq_iff_eq.mpr c35
                  have c35b1 : (x1_11.toList != t263.toList) = false := bne_eq_false_iff_eq.mpr c35
                  clear c35
                  obtain rfl := Option.some.inj H
                  go_wp2_with (first | ((with_reducible refine gate_callee (f := 22) rfl ?_); refine goesL_ (some 68) rfl rfl Tryd.func22 (by kernel_rfl) rfl #[.string t263, .string x1_11] rfl (by (try simp only [List.map_toArray, List.map_cons, List.map_nil]); first | done | rfl | (simp only [List.length_drop, List.length_take]; rfl)) ?_; (with_reducible refine (path_Under.calls t263 x1_11 true _ A33.out).mono ?_); rintro e w' ⟨rfl, ⟨nd, rfl⟩⟩; refine ⟨_, rfl, ?_⟩))
                  go_ret
                  exact ⟨by first | rfl | (simp [errW_none, errW_some] <;> rfl) | (simp [*, errW_none, errW_some] <;> rfl), by repeat (first | (with_reducible first | exact HB.out | apply below_alloc | apply pw_below_drewN | apply below_drew1) | exact HB.out)⟩
                · rw [if_neg c35] at H
                  have c35b0 : (x1_11.toList == t263.toList) = false := beq_eq_false_iff_ne.mpr c35
                  have c35b1 : (x1_11.toList != t263.toList) = true := bne_iff_ne.mpr c35
                  replace H := Option.bind_eq_some_iff.mp H
                  obtain ⟨t276, A360, H⟩ := H
                  replace H : (some (t276 == (-1))) = some r := H
                  have A36 := Aside0.mk A360
                  clear A360
                  obtain rfl := Option.some.inj H
                  go_wp2_with (first | ((with_reducible refine gate_callee (f := 22) rfl ?_); refine goesL_ (some 68) rfl rfl Tryd.func22 (by kernel_rfl) rfl #[.string t263, .string x1_11] rfl (by (try simp only [List.map_toArray, List.map_cons, List.map_nil]); first | done | rfl | (simp only [List.length_drop, List.length_take]; rfl)) ?_; (with_reducible refine (path_Under.calls t263 x1_11 true _ A33.out).mono ?_); rintro e w' ⟨rfl, ⟨nd, rfl⟩⟩; refine ⟨_, rfl, ?_⟩) | (go_at_call 20; (with_reducible refine (path_Order.calls kj21 t263 x1_11 t276 _ A36.out).mono ?_); rintro e w' ⟨rfl, ⟨nd, rfl⟩⟩))
                  go_ret
                  exact ⟨by first | rfl | (simp [errW_none, errW_some] <;> rfl) | (simp [*, errW_none, errW_some] <;> rfl), by repeat (first | (with_reducible first | exact HB.out | apply below_alloc | apply pw_below_drewN | apply below_drew1) | exact HB.out)⟩
              · replace c34 := Bool.eq_false_iff.mpr c34
                subst c34
                have H1 : (some true) = some r := by rw [if_neg (show ¬ (false = true) by decide)] at H; exact H
                clear H
                have H := H1
                clear H1
                obtain rfl := Option.some.inj H
                go_wp2_with (first | ((with_reducible refine gate_callee (f := 22) rfl ?_); refine goesL_ (some 68) rfl rfl Tryd.func22 (by kernel_rfl) rfl #[.string t263, .string x1_11] rfl (by (try simp only [List.map_toArray, List.map_cons, List.map_nil]); first | done | rfl | (simp only [List.length_drop, List.length_take]; rfl)) ?_; (with_reducible refine (path_Under.calls t263 x1_11 false _ A33.out).mono ?_); rintro e w' ⟨rfl, ⟨nd, rfl⟩⟩; refine ⟨_, rfl, ?_⟩))
                go_ret
                exact ⟨by first | rfl | (simp [errW_none, errW_some] <;> rfl) | (simp [*, errW_none, errW_some] <;> rfl), by repeat (first | (with_reducible first | exact HB.out | apply below_alloc | apply pw_below_drewN | apply below_drew1) | exact HB.out)⟩
  · replace c11 := Bool.eq_false_iff.mpr c11
    subst c11
    have H1 : (some false) = some r := by rw [if_neg (show ¬ (false = true) by decide)] at H; exact H
    clear H
    have H := H1
    clear H1
    obtain rfl := Option.some.inj H
    go_enter Tryd.func9, Tryd.ntmps9
    go_wp2_with (first | ((with_reducible refine gate_callee (f := 13) rfl ?_); refine goesL_ (some 12) rfl rfl Tryd.func13 (by kernel_rfl) rfl #[.string a0] rfl (by (try simp only [List.map_toArray, List.map_cons, List.map_nil]); first | done | rfl | (simp only [List.length_drop, List.length_take]; rfl)) ?_; (with_reducible refine (kilnlaw5_cut.calls a0 t263 _ A6.out).mono ?_); rintro e w' ⟨rfl, ⟨nd, rfl⟩⟩; refine ⟨_, rfl, ?_⟩) | ((with_reducible refine gate_callee (f := 13) rfl ?_); refine goesL_ (some 14) rfl rfl Tryd.func13 (by kernel_rfl) rfl #[.string a1] rfl (by (try simp only [List.map_toArray, List.map_cons, List.map_nil]); first | done | rfl | (simp only [List.length_drop, List.length_take]; rfl)) ?_; (with_reducible refine (kilnlaw5_cut.calls a1 t264 _ A7.out).mono ?_); rintro e w' ⟨rfl, ⟨nd, rfl⟩⟩; refine ⟨_, rfl, ?_⟩) | ((with_reducible refine gate_callee (f := 13) rfl ?_); refine goesL_ (some 16) rfl rfl Tryd.func13 (by kernel_rfl) rfl #[.string a2] rfl (by (try simp only [List.map_toArray, List.map_cons, List.map_nil]); first | done | rfl | (simp only [List.length_drop, List.length_take]; rfl)) ?_; (with_reducible refine (kilnlaw5_cut.calls a2 t265 _ A8.out).mono ?_); rintro e w' ⟨rfl, ⟨nd, rfl⟩⟩; refine ⟨_, rfl, ?_⟩) | ((with_reducible refine gate_callee (f := 13) rfl ?_); refine goesL_ (some 18) rfl rfl Tryd.func13 (by kernel_rfl) rfl #[.string a3] rfl (by (try simp only [List.map_toArray, List.map_cons, List.map_nil]); first | done | rfl | (simp only [List.length_drop, List.length_take]; rfl)) ?_; (with_reducible refine (kilnlaw5_cut.calls a3 t266 _ A9.out).mono ?_); rintro e w' ⟨rfl, ⟨nd, rfl⟩⟩; refine ⟨_, rfl, ?_⟩) | ((with_reducible refine gate_callee (f := 14) rfl ?_); refine goesL_ (some 19) rfl rfl Tryd.func14 (by kernel_rfl) rfl #[] rfl (by (try simp only [List.map_toArray, List.map_cons, List.map_nil]); first | done | rfl | (simp only [List.length_drop, List.length_take]; rfl)) ?_; (with_reducible refine (kilnlaw5_Told.calls k  false _ A10.out).mono ?_); rintro e w37 ⟨rfl, hb⟩; refine ⟨_, rfl, ?_⟩; have n0_ := Aside0.mk (below_step (by repeat (first | (with_reducible first | exact HB.out | apply below_alloc | apply pw_below_drewN | apply below_drew1) | exact HB.out)) hb); clear HB; have HB := n0_; clear n0_; (try clear hb); (try clear hb2); (try clear hk); (try clear hi)))
    go_ret
    exact ⟨by first | rfl | (simp [errW_none, errW_some] <;> rfl) | (simp [*, errW_none, errW_some] <;> rfl), by repeat (first | (with_reducible first | exact HB.out | apply below_alloc | apply pw_below_drewN | apply below_drew1) | exact HB.out)⟩

/-- THE ONE PURE STATEMENT of kilnlaw5_PathTogether: yours. -/
def kilnlaw5_PathTogether.Pure : Prop := ∀ (a0 : ByteArray) (a1 : ByteArray) (a2 : ByteArray) (a3 : ByteArray) (a4 : Bool), a0.size ≤ 140737488351232 → a1.size ≤ 140737488351232 → a2.size ≤ 140737488351232 → a3.size ≤ 140737488351232 → ∃ k, kilnlaw5_PathTogether.f k a0 a1 a2 a3 a4 = some true
theorem kilnlaw5_PathTogether.walk (P : kilnlaw5_PathTogether.Pure) (a0 : ByteArray) (a1 : ByteArray) (a2 : ByteArray) (a3 : ByteArray) (a4 : Bool) (w : World) (w0 : a0.size ≤ 140737488351232) (w1 : a1.size ≤ 140737488351232) (w2 : a2.size ≤ 140737488351232) (w3 : a3.size ≤ 140737488351232) :
    Calls Tryd.prog 9 #[.string a0, .string a1, .string a2, .string a3, .bool a4] w fun e w' => e = .returned (.bool true) ∧ Below w.heap.size w w' := by
  obtain ⟨k, h⟩ := P a0 a1 a2 a3 a4 w0 w1 w2 w3
  refine (kilnlaw5_PathTogether.calls k a0 a1 a2 a3 a4 true w h).mono ?_
  rintro e w' ⟨rfl, hd⟩
  exact ⟨rfl, hd⟩

/-! ### kilnlaw5_below: function 28 -/
def kilnlaw5_below.f (a0 : Int) : Option (Int) := if a0 = 47 then (some (-1)) else (some (wrap64 (a0)))
set_option maxHeartbeats 8000000 in
set_option maxRecDepth 100000 in
theorem kilnlaw5_below.calls (a0 : Int) (r : Int) (w : World) (h : kilnlaw5_below.f a0 = some r) :
    Calls Tryd.prog 28 #[.int .u8 a0] w fun e w' => e = .returned (.int .i64 r) ∧ Drawn0 w w' := by
  have H : (if a0 = 47 then (some (-1)) else (some (wrap64 (a0)))) = some r := h
  clear h
  by_cases c2 : a0 = 47
  · rw [if_pos c2] at H
    have c2b0 : (a0 == 47) = true := beq_iff_eq.mpr c2
    have c2b1 : (a0 != 47) = false := bne_eq_false_iff_eq.mpr c2
    clear c2
    obtain rfl := Option.some.inj H
    go_enter Tryd.func28, Tryd.ntmps28
    go_wp2
    go_ret
    exact ⟨by first | rfl | (simp; done) | (simp [*]; done), by repeat (first | exact Drawn0.refl _ | apply Drawn0.step)⟩
  · rw [if_neg c2] at H
    have c2b0 : (a0 == 47) = false := beq_eq_false_iff_ne.mpr c2
    have c2b1 : (a0 != 47) = true := bne_iff_ne.mpr c2
    obtain rfl := Option.some.inj H
    go_enter Tryd.func28, Tryd.ntmps28
    go_wp2
    go_ret
    exact ⟨by first | rfl | (simp; done) | (simp [*]; done), by repeat (first | exact Drawn0.refl _ | apply Drawn0.step)⟩

end Go.Proofs.YtlcnhhpleiamhaaDoor.G
