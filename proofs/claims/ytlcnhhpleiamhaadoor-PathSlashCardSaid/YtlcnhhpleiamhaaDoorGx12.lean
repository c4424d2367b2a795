-- Printed by wip/graft.py out of the translation, over the kit's print; contracts that it lacks are given by hand.
import Derived.Test.YtlcnhhpleiamhaaDoorGx0
import Derived.Test.YtlcnhhpleiamhaaDoorGx1
import Derived.Test.YtlcnhhpleiamhaaDoorGx11
import Derived.Test.YtlcnhhpleiamhaaDoorGx7
namespace Go.Proofs.YtlcnhhpleiamhaaDoor.G
open Go.RowKit Go.Proofs.YtlcnhhpleiamhaaDoorW.PrintWords Go.Proofs.YtlcnhhpleiamhaaDoorW.PrintLast Go.Proofs.YtlcnhhpleiamhaaDoorW.PrintMore
attribute [local go_sem] max2_int min2_int max_two min_two max_three min_three max_four min_four   -- for this text's walks alone
set_option linter.unusedVariables false
set_option linter.unusedSimpArgs false

/-! ### kilnlaw5_PathSlash: function 10 -/
mutual
def kilnlaw5_PathSlash.l0 : Nat → ByteArray → ByteArray → Int → Int → Option (Bool)
  | 0, _, _, _, _ => none
  | k + 1, x0, x1, x5, x6 => if x6 < (x0.size : Int) then (if x6 < (x1.size : Int) then (kilnlaw5_PathSlash.j1 k x0 x1 x5 x6 (x5 == 0)) else (kilnlaw5_PathSlash.j1 k x0 x1 x5 x6 false)) else (kilnlaw5_PathSlash.j1 k x0 x1 x5 x6 false)
def kilnlaw5_PathSlash.j1 : Nat → ByteArray → ByteArray → Int → Int → Bool → Option (Bool)
  | 0, _, _, _, _, _ => none
  | k + 1, x0, x1, x5, x6, x25 => if x25 = true then (if 0 ≤ x6 then (if x6 < (x0.size : Int) then ((kilnlaw5_below.f (bt x0 x6)).bind fun t279 => (if x6 < (x1.size : Int) then ((kilnlaw5_below.f (bt x1 x6)).bind fun t280 => (if t279 < t280 then (kilnlaw5_PathSlash.j2 k x0 x1 (-1) x6) else (kilnlaw5_PathSlash.j2 k x0 x1 x5 x6))) else (none))) else (none)) else (none)) else (if x5 = 0 then (kilnlaw5_PathSlash.j3 k x0 x1 x5 (decide ((x0.size : Int) < (x1.size : Int)))) else (kilnlaw5_PathSlash.j3 k x0 x1 x5 false))
def kilnlaw5_PathSlash.j2 : Nat → ByteArray → ByteArray → Int → Int → Option (Bool)
  | 0, _, _, _, _ => none
  | k + 1, x0, x1, x5, x6 => if 0 ≤ x6 then (if x6 < (x0.size : Int) then ((kilnlaw5_below.f (bt x0 x6)).bind fun t281 => (if x6 < (x1.size : Int) then ((kilnlaw5_below.f (bt x1 x6)).bind fun t282 => (if t281 > t282 then (kilnlaw5_PathSlash.l0 k x0 x1 1 (wrap64 (x6 + 1))) else (kilnlaw5_PathSlash.l0 k x0 x1 x5 (wrap64 (x6 + 1))))) else (none))) else (none)) else (none)
def kilnlaw5_PathSlash.j3 : Nat → ByteArray → ByteArray → Int → Bool → Option (Bool)
  | 0, _, _, _, _ => none
  | k + 1, x0, x1, x5, x54 => if x54 = true then (kilnlaw5_PathSlash.j4 k x0 x1 (-1)) else (kilnlaw5_PathSlash.j4 k x0 x1 x5)
def kilnlaw5_PathSlash.j4 : Nat → ByteArray → ByteArray → Int → Option (Bool)
  | 0, _, _, _ => none
  | k + 1, x0, x1, x5 => if x5 = 0 then (kilnlaw5_PathSlash.j5 k x0 x1 x5 (decide ((x0.size : Int) > (x1.size : Int)))) else (kilnlaw5_PathSlash.j5 k x0 x1 x5 false)
def kilnlaw5_PathSlash.j5 : Nat → ByteArray → ByteArray → Int → Bool → Option (Bool)
  | 0, _, _, _, _ => none
  | k + 1, x0, x1, x5, x63 => if x63 = true then (if x0.toList = ([] : List UInt8) then ((kilnlaw5_Told.f k).bind fun t283 => (if t283 = true then ((path_Order.f k x0 x1).bind fun t284 => (if t284 = 1 then ((path_Under.f x0 x1).bind fun t285 => (some (t285 == true))) else (some false))) else (some false))) else (if x0.toList = x1.toList then ((kilnlaw5_Told.f k).bind fun t286 => (if t286 = true then ((path_Order.f k x0 x1).bind fun t287 => (if t287 = 1 then ((path_Under.f x0 x1).bind fun t288 => (some (t288 == true))) else (some false))) else (some false))) else (if (x1.size : Int) > (x0.size : Int) then (if 0 ≤ (x0.size : Int) then (if (x0.size : Int) ≤ (x1.size : Int) then (if (x1.extract 0 ((x0.size : Int) : Int).toNat).toList = x0.toList then (if (x0.size : Int) < (x1.size : Int) then ((kilnlaw5_Told.f k).bind fun t289 => (if t289 = true then ((path_Order.f k x0 x1).bind fun t290 => (if t290 = 1 then ((path_Under.f x0 x1).bind fun t291 => (some (t291 == ((bt x1 (x0.size : Int)) == 47)))) else (some false))) else (some false))) else (none)) else ((kilnlaw5_Told.f k).bind fun t292 => (if t292 = true then ((path_Order.f k x0 x1).bind fun t293 => (if t293 = 1 then ((path_Under.f x0 x1).bind fun t294 => (some (t294 == false))) else (some false))) else (some false)))) else (none)) else (none)) else ((kilnlaw5_Told.f k).bind fun t295 => (if t295 = true then ((path_Order.f k x0 x1).bind fun t296 => (if t296 = 1 then ((path_Under.f x0 x1).bind fun t297 => (some (t297 == false))) else (some false))) else (some false)))))) else (if x0.toList = ([] : List UInt8) then ((kilnlaw5_Told.f k).bind fun t298 => (if t298 = true then ((path_Order.f k x0 x1).bind fun t299 => (if t299 = x5 then ((path_Under.f x0 x1).bind fun t300 => (some (t300 == true))) else (some false))) else (some false))) else (if x0.toList = x1.toList then ((kilnlaw5_Told.f k).bind fun t301 => (if t301 = true then ((path_Order.f k x0 x1).bind fun t302 => (if t302 = x5 then ((path_Under.f x0 x1).bind fun t303 => (some (t303 == true))) else (some false))) else (some false))) else (if (x1.size : Int) > (x0.size : Int) then (if 0 ≤ (x0.size : Int) then (if (x0.size : Int) ≤ (x1.size : Int) then (if (x1.extract 0 ((x0.size : Int) : Int).toNat).toList = x0.toList then (if (x0.size : Int) < (x1.size : Int) then ((kilnlaw5_Told.f k).bind fun t304 => (if t304 = true then ((path_Order.f k x0 x1).bind fun t305 => (if t305 = x5 then ((path_Under.f x0 x1).bind fun t306 => (some (t306 == ((bt x1 (x0.size : Int)) == 47)))) else (some false))) else (some false))) else (none)) else ((kilnlaw5_Told.f k).bind fun t307 => (if t307 = true then ((path_Order.f k x0 x1).bind fun t308 => (if t308 = x5 then ((path_Under.f x0 x1).bind fun t309 => (some (t309 == false))) else (some false))) else (some false)))) else (none)) else (none)) else ((kilnlaw5_Told.f k).bind fun t310 => (if t310 = true then ((path_Order.f k x0 x1).bind fun t311 => (if t311 = x5 then ((path_Under.f x0 x1).bind fun t312 => (some (t312 == false))) else (some false))) else (some false))))))
end
def kilnlaw5_PathSlash.f (k : Nat) (a0 : ByteArray) (a1 : ByteArray) : Option (Bool) := (kilnlaw5_cut.f a0).bind fun t277 => ((kilnlaw5_cut.f a1).bind fun t278 => (kilnlaw5_PathSlash.l0 k t277 t278 0 0))
theorem kilnlaw5_PathSlash.mono_l : ∀ k, (∀ y0 y1 y2 y3, LeO (kilnlaw5_PathSlash.l0 k y0 y1 y2 y3) (kilnlaw5_PathSlash.l0 (k + 1) y0 y1 y2 y3)) ∧ (∀ y0 y1 y2 y3 y4, LeO (kilnlaw5_PathSlash.j1 k y0 y1 y2 y3 y4) (kilnlaw5_PathSlash.j1 (k + 1) y0 y1 y2 y3 y4)) ∧ (∀ y0 y1 y2 y3, LeO (kilnlaw5_PathSlash.j2 k y0 y1 y2 y3) (kilnlaw5_PathSlash.j2 (k + 1) y0 y1 y2 y3)) ∧ (∀ y0 y1 y2 y3, LeO (kilnlaw5_PathSlash.j3 k y0 y1 y2 y3) (kilnlaw5_PathSlash.j3 (k + 1) y0 y1 y2 y3)) ∧ (∀ y0 y1 y2, LeO (kilnlaw5_PathSlash.j4 k y0 y1 y2) (kilnlaw5_PathSlash.j4 (k + 1) y0 y1 y2)) ∧ (∀ y0 y1 y2 y3, LeO (kilnlaw5_PathSlash.j5 k y0 y1 y2 y3) (kilnlaw5_PathSlash.j5 (k + 1) y0 y1 y2 y3))
  | 0 => ⟨fun _ _ _ _ r h => by simp [kilnlaw5_PathSlash.l0] at h, fun _ _ _ _ _ r h => by simp [kilnlaw5_PathSlash.j1] at h, fun _ _ _ _ r h => by simp [kilnlaw5_PathSlash.j2] at h, fun _ _ _ _ r h => by simp [kilnlaw5_PathSlash.j3] at h, fun _ _ _ r h => by simp [kilnlaw5_PathSlash.j4] at h, fun _ _ _ _ r h => by simp [kilnlaw5_PathSlash.j5] at h⟩
  | k + 1 => by
    obtain ⟨ih0, ih1, ih2, ih3, ih4, ih5⟩ := kilnlaw5_PathSlash.mono_l k
    refine ⟨?_, ?_, ?_, ?_, ?_, ?_⟩
    · intro y0 y1 y2 y3
      unfold kilnlaw5_PathSlash.l0
      repeat' first
      | (with_reducible exact ih0 _ _ _ _)
      | (with_reducible exact ih1 _ _ _ _ _)
      | (with_reducible exact ih2 _ _ _ _)
      | (with_reducible exact ih3 _ _ _ _)
      | (with_reducible exact ih4 _ _ _)
      | (with_reducible exact ih5 _ _ _ _)
      | (with_reducible exact kilnlaw5_Told.mono _)
      | (with_reducible exact path_Order.mono _ _ _)
      | (with_reducible exact LeO.refl _)
      | (with_reducible exact LeO.none _)
      | (with_reducible refine LeO.ite ?_ ?_)
      | (with_reducible refine LeO.bind ?_ (fun _ => ?_))
      | exact ih0 _ _ _ _
      | exact ih1 _ _ _ _ _
      | exact ih2 _ _ _ _
      | exact ih3 _ _ _ _
      | exact ih4 _ _ _
      | exact ih5 _ _ _ _
      | exact kilnlaw5_Told.mono _
      | exact path_Order.mono _ _ _
      | exact LeO.none _
      | refine LeO.ite ?_ ?_
      | refine LeO.bind ?_ (fun _ => ?_)
    · intro y0 y1 y2 y3 y4
      unfold kilnlaw5_PathSlash.j1
      repeat' first
      | (with_reducible exact ih0 _ _ _ _)
      | (with_reducible exact ih1 _ _ _ _ _)
      | (with_reducible exact ih2 _ _ _ _)
      | (with_reducible exact ih3 _ _ _ _)
      | (with_reducible exact ih4 _ _ _)
      | (with_reducible exact ih5 _ _ _ _)
      | (with_reducible exact kilnlaw5_Told.mono _)
      | (with_reducible exact path_Order.mono _ _ _)
      | (with_reducible exact LeO.refl _)
      | (with_reducible exact LeO.none _)
      | (with_reducible refine LeO.ite ?_ ?_)
      | (with_reducible refine LeO.bind ?_ (fun _ => ?_))
      | exact ih0 _ _ _ _
      | exact ih1 _ _ _ _ _
      | exact ih2 _ _ _ _
      | exact ih3 _ _ _ _
      | exact ih4 _ _ _
      | exact ih5 _ _ _ _
      | exact kilnlaw5_Told.mono _
      | exact path_Order.mono _ _ _
      | exact LeO.none _
      | refine LeO.ite ?_ ?_
      | refine LeO.bind ?_ (fun _ => ?_)
    · intro y0 y1 y2 y3
      unfold kilnlaw5_PathSlash.j2
      repeat' first
      | (with_reducible exact ih0 _ _ _ _)
      | (with_reducible exact ih1 _ _ _ _ _)
      | (with_reducible exact ih2 _ _ _ _)
      | (with_reducible exact ih3 _ _ _ _)
      | (with_reducible exact ih4 _ _ _)
      | (with_reducible exact ih5 _ _ _ _)
      | (with_reducible exact kilnlaw5_Told.mono _)
      | (with_reducible exact path_Order.mono _ _ _)
      | (with_reducible exact LeO.refl _)
      | (with_reducible exact LeO.none _)
      | (with_reducible refine LeO.ite ?_ ?_)
      | (with_reducible refine LeO.bind ?_ (fun _ => ?_))
      | exact ih0 _ _ _ _
      | exact ih1 _ _ _ _ _
      | exact ih2 _ _ _ _
      | exact ih3 _ _ _ _
      | exact ih4 _ _ _
      | exact ih5 _ _ _ _
      | exact kilnlaw5_Told.mono _
      | exact path_Order.mono _ _ _
      | exact LeO.none _
      | refine LeO.ite ?_ ?_
      | refine LeO.bind ?_ (fun _ => ?_)
    · intro y0 y1 y2 y3
      unfold kilnlaw5_PathSlash.j3
      repeat' first
      | (with_reducible exact ih0 _ _ _ _)
      | (with_reducible exact ih1 _ _ _ _ _)
      | (with_reducible exact ih2 _ _ _ _)
      | (with_reducible exact ih3 _ _ _ _)
      | (with_reducible exact ih4 _ _ _)
      | (with_reducible exact ih5 _ _ _ _)
      | (with_reducible exact kilnlaw5_Told.mono _)
      | (with_reducible exact path_Order.mono _ _ _)
      | (with_reducible exact LeO.refl _)
      | (with_reducible exact LeO.none _)
      | (with_reducible refine LeO.ite ?_ ?_)
      | (with_reducible refine LeO.bind ?_ (fun _ => ?_))
      | exact ih0 _ _ _ _
      | exact ih1 _ _ _ _ _
      | exact ih2 _ _ _ _
      | exact ih3 _ _ _ _
      | exact ih4 _ _ _
      | exact ih5 _ _ _ _
      | exact kilnlaw5_Told.mono _
      | exact path_Order.mono _ _ _
      | exact LeO.none _
      | refine LeO.ite ?_ ?_
      | refine LeO.bind ?_ (fun _ => ?_)
    · intro y0 y1 y2
      unfold kilnlaw5_PathSlash.j4
      repeat' first
      | (with_reducible exact ih0 _ _ _ _)
      | (with_reducible exact ih1 _ _ _ _ _)
      | (with_reducible exact ih2 _ _ _ _)
      | (with_reducible exact ih3 _ _ _ _)
      | (with_reducible exact ih4 _ _ _)
      | (with_reducible exact ih5 _ _ _ _)
      | (with_reducible exact kilnlaw5_Told.mono _)
      | (with_reducible exact path_Order.mono _ _ _)
      | (with_reducible exact LeO.refl _)
      | (with_reducible exact LeO.none _)
      | (with_reducible refine LeO.ite ?_ ?_)
      | (with_reducible refine LeO.bind ?_ (fun _ => ?_))
      | exact ih0 _ _ _ _
      | exact ih1 _ _ _ _ _
      | exact ih2 _ _ _ _
      | exact ih3 _ _ _ _
      | exact ih4 _ _ _
      | exact ih5 _ _ _ _
      | exact kilnlaw5_Told.mono _
      | exact path_Order.mono _ _ _
      | exact LeO.none _
      | refine LeO.ite ?_ ?_
      | refine LeO.bind ?_ (fun _ => ?_)
    · intro y0 y1 y2 y3
      unfold kilnlaw5_PathSlash.j5
      repeat' first
      | (with_reducible exact ih0 _ _ _ _)
      | (with_reducible exact ih1 _ _ _ _ _)
      | (with_reducible exact ih2 _ _ _ _)
      | (with_reducible exact ih3 _ _ _ _)
      | (with_reducible exact ih4 _ _ _)
      | (with_reducible exact ih5 _ _ _ _)
      | (with_reducible exact kilnlaw5_Told.mono _)
      | (with_reducible exact path_Order.mono _ _ _)
      | (with_reducible exact LeO.refl _)
      | (with_reducible exact LeO.none _)
      | (with_reducible refine LeO.ite ?_ ?_)
      | (with_reducible refine LeO.bind ?_ (fun _ => ?_))
      | exact ih0 _ _ _ _
      | exact ih1 _ _ _ _ _
      | exact ih2 _ _ _ _
      | exact ih3 _ _ _ _
      | exact ih4 _ _ _
      | exact ih5 _ _ _ _
      | exact kilnlaw5_Told.mono _
      | exact path_Order.mono _ _ _
      | exact LeO.none _
      | refine LeO.ite ?_ ?_
      | refine LeO.bind ?_ (fun _ => ?_)
theorem kilnlaw5_PathSlash.mono : ∀ a0 a1 k, LeO (kilnlaw5_PathSlash.f k a0 a1) (kilnlaw5_PathSlash.f (k + 1) a0 a1) := by
  intro a0 a1 k
  obtain ⟨ih0, ih1, ih2, ih3, ih4, ih5⟩ := kilnlaw5_PathSlash.mono_l k
  unfold kilnlaw5_PathSlash.f
  repeat' first
      | (with_reducible exact ih0 _ _ _ _)
      | (with_reducible exact ih1 _ _ _ _ _)
      | (with_reducible exact ih2 _ _ _ _)
      | (with_reducible exact ih3 _ _ _ _)
      | (with_reducible exact ih4 _ _ _)
      | (with_reducible exact ih5 _ _ _ _)
      | (with_reducible exact kilnlaw5_Told.mono _)
      | (with_reducible exact path_Order.mono _ _ _)
      | (with_reducible exact LeO.refl _)
      | (with_reducible exact LeO.none _)
      | (with_reducible refine LeO.ite ?_ ?_)
      | (with_reducible refine LeO.bind ?_ (fun _ => ?_))
      | exact ih0 _ _ _ _
      | exact ih1 _ _ _ _ _
      | exact ih2 _ _ _ _
      | exact ih3 _ _ _ _
      | exact ih4 _ _ _
      | exact ih5 _ _ _ _
      | exact kilnlaw5_Told.mono _
      | exact path_Order.mono _ _ _
      | exact LeO.none _
      | refine LeO.ite ?_ ?_
      | refine LeO.bind ?_ (fun _ => ?_)
set_option maxHeartbeats 8000000 in
set_option maxRecDepth 100000 in
theorem kilnlaw5_PathSlash.calls (k : Nat) (a0 : ByteArray) (a1 : ByteArray) (r : Bool) (w : World) (h : kilnlaw5_PathSlash.f k a0 a1 = some r) :
    Calls Tryd.prog 10 #[.string a0, .string a1] w fun e w' => e = .returned (.bool r) ∧ Below w.heap.size w w' := by
  have HB := Aside0.mk (Below.refl w.heap.size w)
  have H : ((kilnlaw5_cut.f a0).bind fun t277 => ((kilnlaw5_cut.f a1).bind fun t278 => (kilnlaw5_PathSlash.l0 k t277 t278 0 0))) = some r := h
  clear h
  replace H := Option.bind_eq_some_iff.mp H
  obtain ⟨t277, A30, H⟩ := H
  replace H : ((kilnlaw5_cut.f a1).bind fun t278 => (kilnlaw5_PathSlash.l0 k t277 t278 0 0)) = some r := H
  have A3 := Aside0.mk A30
  clear A30
  replace H := Option.bind_eq_some_iff.mp H
  obtain ⟨t278, A40, H⟩ := H
  replace H : (kilnlaw5_PathSlash.l0 k t277 t278 0 0) = some r := H
  have A4 := Aside0.mk A40
  clear A40
  have H' := Aside0.mk H
  clear H
  go_enter Tryd.func10, Tryd.ntmps10
  go_wp2_with (first | (go_at_call 13; (with_reducible refine (kilnlaw5_cut.calls a0 t277 _ A3.out).mono ?_); rintro e w' ⟨rfl, ⟨nd, rfl⟩⟩; (try first | exact ⟨rfl, _, World.drewN_drewN _ _ _⟩ | exact ⟨rfl, _, Eq.trans (World.drewN_drewN _ _ _) (congrArg (World.drewN _) (Nat.add_assoc _ _ _))⟩)) | (go_at_call 13; (with_reducible refine (kilnlaw5_cut.calls a1 t278 _ A4.out).mono ?_); rintro e w' ⟨rfl, ⟨nd, rfl⟩⟩; (try first | exact ⟨rfl, _, World.drewN_drewN _ _ _⟩ | exact ⟨rfl, _, Eq.trans (World.drewN_drewN _ _ _) (congrArg (World.drewN _) (Nat.add_assoc _ _ _))⟩)))
  repeat (go_quiet (first | (go_at_call 13; (with_reducible refine (kilnlaw5_cut.calls a0 t277 _ A3.out).mono ?_); rintro e w' ⟨rfl, ⟨nd, rfl⟩⟩; (try first | exact ⟨rfl, _, World.drewN_drewN _ _ _⟩ | exact ⟨rfl, _, Eq.trans (World.drewN_drewN _ _ _) (congrArg (World.drewN _) (Nat.add_assoc _ _ _))⟩)) | (go_at_call 13; (with_reducible refine (kilnlaw5_cut.calls a1 t278 _ A4.out).mono ?_); rintro e w' ⟨rfl, ⟨nd, rfl⟩⟩; (try first | exact ⟨rfl, _, World.drewN_drewN _ _ _⟩ | exact ⟨rfl, _, Eq.trans (World.drewN_drewN _ _ _) (congrArg (World.drewN _) (Nat.add_assoc _ _ _))⟩))); try go_wp2_with (first | (go_at_call 13; (with_reducible refine (kilnlaw5_cut.calls a0 t277 _ A3.out).mono ?_); rintro e w' ⟨rfl, ⟨nd, rfl⟩⟩; (try first | exact ⟨rfl, _, World.drewN_drewN _ _ _⟩ | exact ⟨rfl, _, Eq.trans (World.drewN_drewN _ _ _) (congrArg (World.drewN _) (Nat.add_assoc _ _ _))⟩)) | (go_at_call 13; (with_reducible refine (kilnlaw5_cut.calls a1 t278 _ A4.out).mono ?_); rintro e w' ⟨rfl, ⟨nd, rfl⟩⟩; (try first | exact ⟨rfl, _, World.drewN_drewN _ _ _⟩ | exact ⟨rfl, _, Eq.trans (World.drewN_drewN _ _ _) (congrArg (World.drewN _) (Nat.add_assoc _ _ _))⟩))))
  go_loopg [5, 6] k (fun kq v5 v6 w' => ∃ (x5_1 : Int) (x6_1 : Int), v5 = .int .i64 x5_1 ∧ v6 = .int .i64 x6_1 ∧ Aside0 (kilnlaw5_PathSlash.l0 kq t277 t278 x5_1 x6_1 = some r) ∧ Aside0 (kq ≤ k) ∧ Aside0 (Below w.heap.size w w'))
  case atStart => exact ⟨(0), (0), (by first | rfl | (simp; done) | (simp [*]; done)), (by first | rfl | (simp; done) | (simp [*]; done)), H', ⟨Nat.le_refl _⟩, ⟨by repeat (first | (with_reducible first | exact HB.out | apply below_alloc | apply pw_below_drewN | apply below_drew1) | exact HB.out)⟩⟩
  case round =>
    clear H'
    try clear c1
    try clear p2
    obtain ⟨x5_1, x6_1, rfl, rfl, HA, HK1, HB⟩ := hrel
    cases gk with
    | zero => exact absurd HA.out (by simp [kilnlaw5_PathSlash.l0])
    | succ k1 =>
      have H := HA.out
      clear HA
      simp only [kilnlaw5_PathSlash.l0] at H
      have HC5 := Aside0.mk H
      clear H
      go_upto_region 4 with (fail)
      repeat (go_quiet (fail); go_upto_region 4 with (fail))
      go_cut [25] (fun v25 wc => ∃ (kq : Nat) (x25_4 : Bool), v25 = .bool x25_4 ∧ Aside0 (kilnlaw5_PathSlash.j1 kq t277 t278 x5_1 x6_1 x25_4 = some r) ∧ Aside0 (kq ≤ k1) ∧ Aside0 (Below w.heap.size w wc))
      case first =>
        have H := HC5.out
        clear HC5
        by_cases c6 : x6_1 < (t277.size : Int)
        · rw [if_pos c6] at H
          have c6b0 : decide (x6_1 < (t277.size : Int)) = true := decide_eq_true c6
          clear c6
          (first | rw [c6b0] | (simp only [i64_w, i32_w]; rw [c6b0]) | skip)
          by_cases c7 : x6_1 < (t278.size : Int)
          · rw [if_pos c7] at H
            have c7b0 : decide (x6_1 < (t278.size : Int)) = true := decide_eq_true c7
            clear c7
            have H' := Aside0.mk H
            clear H
            go_wp2
            repeat (go_quiet (fail); try go_wp2)
            go_meet
            case rel => exact ⟨_, ((x5_1 == 0)), (by first | rfl | (simp; done) | (simp [*]; done)), H', ⟨by have := HK1.out; first | omega | exact Nat.le_refl _⟩, ⟨by repeat (first | (with_reducible first | exact HB.out | apply below_alloc | apply pw_below_drewN | apply below_drew1) | exact HB.out)⟩⟩
          · rw [if_neg c7] at H
            have c7b0 : decide (x6_1 < (t278.size : Int)) = false := decide_eq_false c7
            clear c7
            have H' := Aside0.mk H
            clear H
            go_wp2
            repeat (go_quiet (fail); try go_wp2)
            go_meet
            case rel => exact ⟨_, (false), (by first | rfl | (simp; done) | (simp [*]; done)), H', ⟨by have := HK1.out; first | omega | exact Nat.le_refl _⟩, ⟨by repeat (first | (with_reducible first | exact HB.out | apply below_alloc | apply pw_below_drewN | apply below_drew1) | exact HB.out)⟩⟩
        · rw [if_neg c6] at H
          have c6b0 : decide (x6_1 < (t277.size : Int)) = false := decide_eq_false c6
          clear c6
          (first | rw [c6b0] | (simp only [i64_w, i32_w]; rw [c6b0]) | skip)
          have H' := Aside0.mk H
          clear H
          go_wp2
          repeat (go_quiet (fail); try go_wp2)
          go_meet
          case rel => exact ⟨_, (false), (by first | rfl | (simp; done) | (simp [*]; done)), H', ⟨by have := HK1.out; first | omega | exact Nat.le_refl _⟩, ⟨by repeat (first | (with_reducible first | exact HB.out | apply below_alloc | apply pw_below_drewN | apply below_drew1) | exact HB.out)⟩⟩
      case rest =>
        clear HC5
        try clear c1
        try clear p2
        try clear c6
        try clear c6b0
        try clear c7
        try clear c7b0
        try clear p2
        obtain ⟨kq, x25_4, rfl, HA, HJ4, HB⟩ := hcut
        cases kq with
        | zero => exact absurd HA.out (by simp [kilnlaw5_PathSlash.j1])
        | succ kj4 =>
          have H := HA.out
          clear HA
          simp only [kilnlaw5_PathSlash.j1] at H
          by_cases c8 : x25_4 = true
          · subst c8
            have H1 : (if 0 ≤ x6_1 then (if x6_1 < (t277.size : Int) then ((kilnlaw5_below.f (bt t277 x6_1)).bind fun t279 => (if x6_1 < (t278.size : Int) then ((kilnlaw5_below.f (bt t278 x6_1)).bind fun t280 => (if t279 < t280 then (kilnlaw5_PathSlash.j2 kj4 t277 t278 (-1) x6_1) else (kilnlaw5_PathSlash.j2 kj4 t277 t278 x5_1 x6_1))) else (none))) else (none)) else (none)) = some r := by rw [if_pos rfl] at H; exact H
            clear H
            have H := H1
            clear H1
            by_cases c9 : 0 ≤ x6_1
            · rw [if_pos c9] at H
              have c9b0 : decide (0 ≤ x6_1) = true := decide_eq_true c9
              clear c9
              by_cases c10 : x6_1 < (t277.size : Int)
              · rw [if_pos c10] at H
                have c10b0 : decide (x6_1 < (t277.size : Int)) = true := decide_eq_true c10
                clear c10
                replace H := Option.bind_eq_some_iff.mp H
                obtain ⟨t279, A120, H⟩ := H
                replace H : (if x6_1 < (t278.size : Int) then ((kilnlaw5_below.f (bt t278 x6_1)).bind fun t280 => (if t279 < t280 then (kilnlaw5_PathSlash.j2 kj4 t277 t278 (-1) x6_1) else (kilnlaw5_PathSlash.j2 kj4 t277 t278 x5_1 x6_1))) else (none)) = some r := H
                have A12 := Aside0.mk A120
                clear A120
                by_cases c13 : x6_1 < (t278.size : Int)
                · rw [if_pos c13] at H
                  have c13b0 : decide (x6_1 < (t278.size : Int)) = true := decide_eq_true c13
                  clear c13
                  replace H := Option.bind_eq_some_iff.mp H
                  obtain ⟨t280, A150, H⟩ := H
                  replace H : (if t279 < t280 then (kilnlaw5_PathSlash.j2 kj4 t277 t278 (-1) x6_1) else (kilnlaw5_PathSlash.j2 kj4 t277 t278 x5_1 x6_1)) = some r := H
                  have A15 := Aside0.mk A150
                  clear A150
                  have HC16 := Aside0.mk H
                  clear H
                  have p11 : 0 ≤ (x6_1 : Int) := of_decide_eq_true (by first | (with_reducible assumption) | assumption)
                  have q11 : x6_1 < (t277.size : Int) := of_decide_eq_true (by first | (with_reducible assumption) | assumption)
                  have hx11 := bt_at t277 x6_1
                  replace p11 := eq_true p11
                  replace q11 := eq_true q11
                  go_upto_if 36 with (first | (go_at_call 28; (with_reducible refine (kilnlaw5_below.calls (bt t277 x6_1) t279 _ A12.out).mono ?_); rintro e w' ⟨rfl, ⟨nd, rfl⟩⟩; (try first | exact ⟨rfl, _, World.drewN_drewN _ _ _⟩ | exact ⟨rfl, _, Eq.trans (World.drewN_drewN _ _ _) (congrArg (World.drewN _) (Nat.add_assoc _ _ _))⟩); have p14 : 0 ≤ (x6_1 : Int) := of_decide_eq_true (by first | (with_reducible assumption) | assumption); have q14 : x6_1 < (t278.size : Int) := of_decide_eq_true (by first | (with_reducible assumption) | assumption); have hx14 := bt_at t278 x6_1; replace p14 := eq_true p14; replace q14 := eq_true q14) | (go_at_call 28; (with_reducible refine (kilnlaw5_below.calls (bt t278 x6_1) t280 _ A15.out).mono ?_); rintro e w' ⟨rfl, ⟨nd, rfl⟩⟩; (try first | exact ⟨rfl, _, World.drewN_drewN _ _ _⟩ | exact ⟨rfl, _, Eq.trans (World.drewN_drewN _ _ _) (congrArg (World.drewN _) (Nat.add_assoc _ _ _))⟩)))
                  repeat (go_quiet (first | (go_at_call 28; (with_reducible refine (kilnlaw5_below.calls (bt t277 x6_1) t279 _ A12.out).mono ?_); rintro e w' ⟨rfl, ⟨nd, rfl⟩⟩; (try first | exact ⟨rfl, _, World.drewN_drewN _ _ _⟩ | exact ⟨rfl, _, Eq.trans (World.drewN_drewN _ _ _) (congrArg (World.drewN _) (Nat.add_assoc _ _ _))⟩); have p14 : 0 ≤ (x6_1 : Int) := of_decide_eq_true (by first | (with_reducible assumption) | assumption); have q14 : x6_1 < (t278.size : Int) := of_decide_eq_true (by first | (with_reducible assumption) | assumption); have hx14 := bt_at t278 x6_1; replace p14 := eq_true p14; replace q14 := eq_true q14) | (go_at_call 28; (with_reducible refine (kilnlaw5_below.calls (bt t278 x6_1) t280 _ A15.out).mono ?_); rintro e w' ⟨rfl, ⟨nd, rfl⟩⟩; (try first | exact ⟨rfl, _, World.drewN_drewN _ _ _⟩ | exact ⟨rfl, _, Eq.trans (World.drewN_drewN _ _ _) (congrArg (World.drewN _) (Nat.add_assoc _ _ _))⟩))); go_upto_if 36 with (first | (go_at_call 28; (with_reducible refine (kilnlaw5_below.calls (bt t277 x6_1) t279 _ A12.out).mono ?_); rintro e w' ⟨rfl, ⟨nd, rfl⟩⟩; (try first | exact ⟨rfl, _, World.drewN_drewN _ _ _⟩ | exact ⟨rfl, _, Eq.trans (World.drewN_drewN _ _ _) (congrArg (World.drewN _) (Nat.add_assoc _ _ _))⟩); have p14 : 0 ≤ (x6_1 : Int) := of_decide_eq_true (by first | (with_reducible assumption) | assumption); have q14 : x6_1 < (t278.size : Int) := of_decide_eq_true (by first | (with_reducible assumption) | assumption); have hx14 := bt_at t278 x6_1; replace p14 := eq_true p14; replace q14 := eq_true q14) | (go_at_call 28; (with_reducible refine (kilnlaw5_below.calls (bt t278 x6_1) t280 _ A15.out).mono ?_); rintro e w' ⟨rfl, ⟨nd, rfl⟩⟩; (try first | exact ⟨rfl, _, World.drewN_drewN _ _ _⟩ | exact ⟨rfl, _, Eq.trans (World.drewN_drewN _ _ _) (congrArg (World.drewN _) (Nat.add_assoc _ _ _))⟩))))
                  (try simp only [Act.put, List.setIfInBounds_toArray, List.set_cons_zero, List.set_cons_succ])
                  go_cut [5] (fun v5 wc => ∃ (kq : Nat) (x5_15 : Int), v5 = .int .i64 x5_15 ∧ Aside0 (kilnlaw5_PathSlash.j2 kq t277 t278 x5_15 x6_1 = some r) ∧ Aside0 (kq ≤ kj4) ∧ Aside0 (Below w.heap.size w wc))
                  case first =>
                    have H := HC16.out
                    clear HC16
                    by_cases c17 : t279 < t280
                    · rw [if_pos c17] at H
                      have c17b0 : decide (t279 < t280) = true := decide_eq_true c17
                      clear c17
                      (first | rw [c17b0] | (simp only [i64_w, i32_w]; rw [c17b0]) | skip)
                      have H' := Aside0.mk H
                      clear H
                      go_wp2
                      repeat (go_quiet (fail); try go_wp2)
                      go_meet
                      case rel => exact ⟨_, ((-1)), (by first | rfl | (simp; done) | (simp [*]; done)), H', ⟨by have := HK1.out; have := HJ4.out; first | omega | exact Nat.le_refl _⟩, ⟨by repeat (first | (with_reducible first | exact HB.out | apply below_alloc | apply pw_below_drewN | apply below_drew1) | exact HB.out)⟩⟩
                    · rw [if_neg c17] at H
                      have c17b0 : decide (t279 < t280) = false := decide_eq_false c17
                      clear c17
                      (first | rw [c17b0] | (simp only [i64_w, i32_w]; rw [c17b0]) | skip)
                      have H' := Aside0.mk H
                      clear H
                      go_wp2
                      repeat (go_quiet (fail); try go_wp2)
                      go_meet
                      case rel => exact ⟨_, (x5_1), (by first | rfl | (simp; done) | (simp [*]; done)), H', ⟨by have := HK1.out; have := HJ4.out; first | omega | exact Nat.le_refl _⟩, ⟨by repeat (first | (with_reducible first | exact HB.out | apply below_alloc | apply pw_below_drewN | apply below_drew1) | exact HB.out)⟩⟩
                  case rest =>
                    clear HC16
                    try clear c1
                    try clear p1
                    try clear q1
                    try clear hx1
                    try clear p2
                    try clear c6
                    try clear c6b0
                    try clear c7
                    try clear c7b0
                    try clear c8
                    try clear c9
                    try clear c9b0
                    try clear c10
                    try clear c10b0
                    try clear p11
                    try clear q11
                    try clear hx11
                    try clear c13
                    try clear c13b0
                    try clear p14
                    try clear q14
                    try clear hx14
                    try clear c17
                    try clear c17b0
                    try clear p11
                    try clear p14
                    try clear p2
                    try clear q11
                    try clear q14
                    obtain ⟨kq, x5_15, rfl, HA, HJ15, HB⟩ := hcut
                    cases kq with
                    | zero => exact absurd HA.out (by simp [kilnlaw5_PathSlash.j2])
                    | succ kj15 =>
                      have H := HA.out
                      clear HA
                      simp only [kilnlaw5_PathSlash.j2] at H
                      by_cases c18 : 0 ≤ x6_1
                      · rw [if_pos c18] at H
                        have c18b0 : decide (0 ≤ x6_1) = true := decide_eq_true c18
                        clear c18
                        by_cases c19 : x6_1 < (t277.size : Int)
                        · rw [if_pos c19] at H
                          have c19b0 : decide (x6_1 < (t277.size : Int)) = true := decide_eq_true c19
                          clear c19
                          replace H := Option.bind_eq_some_iff.mp H
                          obtain ⟨t281, A210, H⟩ := H
                          replace H : (if x6_1 < (t278.size : Int) then ((kilnlaw5_below.f (bt t278 x6_1)).bind fun t282 => (if t281 > t282 then (kilnlaw5_PathSlash.l0 kj15 t277 t278 1 (wrap64 (x6_1 + 1))) else (kilnlaw5_PathSlash.l0 kj15 t277 t278 x5_15 (wrap64 (x6_1 + 1))))) else (none)) = some r := H
                          have A21 := Aside0.mk A210
                          clear A210
                          by_cases c22 : x6_1 < (t278.size : Int)
                          · rw [if_pos c22] at H
                            have c22b0 : decide (x6_1 < (t278.size : Int)) = true := decide_eq_true c22
                            clear c22
                            replace H := Option.bind_eq_some_iff.mp H
                            obtain ⟨t282, A240, H⟩ := H
                            replace H : (if t281 > t282 then (kilnlaw5_PathSlash.l0 kj15 t277 t278 1 (wrap64 (x6_1 + 1))) else (kilnlaw5_PathSlash.l0 kj15 t277 t278 x5_15 (wrap64 (x6_1 + 1)))) = some r := H
                            have A24 := Aside0.mk A240
                            clear A240
                            by_cases c25 : t281 > t282
                            · rw [if_pos c25] at H
                              have c25b0 : decide (t282 < t281) = true := decide_eq_true c25
                              clear c25
                              have H' := Aside0.mk H
                              clear H
                              have p20 : 0 ≤ (x6_1 : Int) := of_decide_eq_true (by first | (with_reducible assumption) | assumption)
                              have q20 : x6_1 < (t277.size : Int) := of_decide_eq_true (by first | (with_reducible assumption) | assumption)
                              have hx20 := bt_at t277 x6_1
                              replace p20 := eq_true p20
                              replace q20 := eq_true q20
                              go_wp2_with (first | (go_at_call 28; (with_reducible refine (kilnlaw5_below.calls (bt t277 x6_1) t281 _ A21.out).mono ?_); rintro e w' ⟨rfl, ⟨nd, rfl⟩⟩; (try first | exact ⟨rfl, _, World.drewN_drewN _ _ _⟩ | exact ⟨rfl, _, Eq.trans (World.drewN_drewN _ _ _) (congrArg (World.drewN _) (Nat.add_assoc _ _ _))⟩); have p23 : 0 ≤ (x6_1 : Int) := of_decide_eq_true (by first | (with_reducible assumption) | assumption); have q23 : x6_1 < (t278.size : Int) := of_decide_eq_true (by first | (with_reducible assumption) | assumption); have hx23 := bt_at t278 x6_1; replace p23 := eq_true p23; replace q23 := eq_true q23) | (go_at_call 28; (with_reducible refine (kilnlaw5_below.calls (bt t278 x6_1) t282 _ A24.out).mono ?_); rintro e w' ⟨rfl, ⟨nd, rfl⟩⟩; (try first | exact ⟨rfl, _, World.drewN_drewN _ _ _⟩ | exact ⟨rfl, _, Eq.trans (World.drewN_drewN _ _ _) (congrArg (World.drewN _) (Nat.add_assoc _ _ _))⟩)))
                              repeat (go_quiet (first | (go_at_call 28; (with_reducible refine (kilnlaw5_below.calls (bt t277 x6_1) t281 _ A21.out).mono ?_); rintro e w' ⟨rfl, ⟨nd, rfl⟩⟩; (try first | exact ⟨rfl, _, World.drewN_drewN _ _ _⟩ | exact ⟨rfl, _, Eq.trans (World.drewN_drewN _ _ _) (congrArg (World.drewN _) (Nat.add_assoc _ _ _))⟩); have p23 : 0 ≤ (x6_1 : Int) := of_decide_eq_true (by first | (with_reducible assumption) | assumption); have q23 : x6_1 < (t278.size : Int) := of_decide_eq_true (by first | (with_reducible assumption) | assumption); have hx23 := bt_at t278 x6_1; replace p23 := eq_true p23; replace q23 := eq_true q23) | (go_at_call 28; (with_reducible refine (kilnlaw5_below.calls (bt t278 x6_1) t282 _ A24.out).mono ?_); rintro e w' ⟨rfl, ⟨nd, rfl⟩⟩; (try first | exact ⟨rfl, _, World.drewN_drewN _ _ _⟩ | exact ⟨rfl, _, Eq.trans (World.drewN_drewN _ _ _) (congrArg (World.drewN _) (Nat.add_assoc _ _ _))⟩))); try go_wp2_with (first | (go_at_call 28; (with_reducible refine (kilnlaw5_below.calls (bt t277 x6_1) t281 _ A21.out).mono ?_); rintro e w' ⟨rfl, ⟨nd, rfl⟩⟩; (try first | exact ⟨rfl, _, World.drewN_drewN _ _ _⟩ | exact ⟨rfl, _, Eq.trans (World.drewN_drewN _ _ _) (congrArg (World.drewN _) (Nat.add_assoc _ _ _))⟩); have p23 : 0 ≤ (x6_1 : Int) := of_decide_eq_true (by first | (with_reducible assumption) | assumption); have q23 : x6_1 < (t278.size : Int) := of_decide_eq_true (by first | (with_reducible assumption) | assumption); have hx23 := bt_at t278 x6_1; replace p23 := eq_true p23; replace q23 := eq_true q23) | (go_at_call 28; (with_reducible refine (kilnlaw5_below.calls (bt t278 x6_1) t282 _ A24.out).mono ?_); rintro e w' ⟨rfl, ⟨nd, rfl⟩⟩; (try first | exact ⟨rfl, _, World.drewN_drewN _ _ _⟩ | exact ⟨rfl, _, Eq.trans (World.drewN_drewN _ _ _) (congrArg (World.drewN _) (Nat.add_assoc _ _ _))⟩))))
                              go_roundg kj15
                              case measure => have := HK1.out; have := HJ4.out; have := HJ15.out; omega
                              case rel => exact ⟨(1), (wrap64 (x6_1 + 1)), (by first | rfl | (simp; done) | (simp [*]; done)), (by first | rfl | (simp; done) | (simp [*]; done)), H', ⟨by have := HK1.out; have := HJ4.out; have := HJ15.out; omega⟩, ⟨by repeat (first | (with_reducible first | exact HB.out | apply below_alloc | apply pw_below_drewN | apply below_drew1) | exact HB.out)⟩⟩
                            · rw [if_neg c25] at H
                              have c25b0 : decide (t282 < t281) = false := decide_eq_false c25
                              clear c25
                              have H' := Aside0.mk H
                              clear H
                              have p20 : 0 ≤ (x6_1 : Int) := of_decide_eq_true (by first | (with_reducible assumption) | assumption)
                              have q20 : x6_1 < (t277.size : Int) := of_decide_eq_true (by first | (with_reducible assumption) | assumption)
                              have hx20 := bt_at t277 x6_1
                              replace p20 := eq_true p20
                              replace q20 := eq_true q20
                              go_wp2_with (first | (go_at_call 28; (with_reducible refine (kilnlaw5_below.calls (bt t277 x6_1) t281 _ A21.out).mono ?_); rintro e w' ⟨rfl, ⟨nd, rfl⟩⟩; (try first | exact ⟨rfl, _, World.drewN_drewN _ _ _⟩ | exact ⟨rfl, _, Eq.trans (World.drewN_drewN _ _ _) (congrArg (World.drewN _) (Nat.add_assoc _ _ _))⟩); have p23 : 0 ≤ (x6_1 : Int) := of_decide_eq_true (by first | (with_reducible assumption) | assumption); have q23 : x6_1 < (t278.size : Int) := of_decide_eq_true (by first | (with_reducible assumption) | assumption); have hx23 := bt_at t278 x6_1; replace p23 := eq_true p23; replace q23 := eq_true q23) | (go_at_call 28; (with_reducible refine (kilnlaw5_below.calls (bt t278 x6_1) t282 _ A24.out).mono ?_); rintro e w' ⟨rfl, ⟨nd, rfl⟩⟩; (try first | exact ⟨rfl, _, World.drewN_drewN _ _ _⟩ | exact ⟨rfl, _, Eq.trans (World.drewN_drewN _ _ _) (congrArg (World.drewN _) (Nat.add_assoc _ _ _))⟩)))
                              repeat (go_quiet (first | (go_at_call 28; (with_reducible refine (kilnlaw5_below.calls (bt t277 x6_1) t281 _ A21.out).mono ?_); rintro e w' ⟨rfl, ⟨nd, rfl⟩⟩; (try first | exact ⟨rfl, _, World.drewN_drewN _ _ _⟩ | exact ⟨rfl, _, Eq.trans (World.drewN_drewN _ _ _) (congrArg (World.drewN _) (Nat.add_assoc _ _ _))⟩); have p23 : 0 ≤ (x6_1 : Int) := of_decide_eq_true (by first | (with_reducible assumption) | assumption); have q23 : x6_1 < (t278.size : Int) := of_decide_eq_true (by first | (with_reducible assumption) | assumption); have hx23 := bt_at t278 x6_1; replace p23 := eq_true p23; replace q23 := eq_true q23) | (go_at_call 28; (with_reducible refine (kilnlaw5_below.calls (bt t278 x6_1) t282 _ A24.out).mono ?_); rintro e w' ⟨rfl, ⟨nd, rfl⟩⟩; (try first | exact ⟨rfl, _, World.drewN_drewN _ _ _⟩ | exact ⟨rfl, _, Eq.trans (World.drewN_drewN _ _ _) (congrArg (World.drewN _) (Nat.add_assoc _ _ _))⟩))); try go_wp2_with (first | (go_at_call 28; (with_reducible refine (kilnlaw5_below.calls (bt t277 x6_1) t281 _ A21.out).mono ?_); rintro e w' ⟨rfl, ⟨nd, rfl⟩⟩; (try first | exact ⟨rfl, _, World.drewN_drewN _ _ _⟩ | exact ⟨rfl, _, Eq.trans (World.drewN_drewN _ _ _) (congrArg (World.drewN _) (Nat.add_assoc _ _ _))⟩); have p23 : 0 ≤ (x6_1 : Int) := of_decide_eq_true (by first | (with_reducible assumption) | assumption); have q23 : x6_1 < (t278.size : Int) := of_decide_eq_true (by first | (with_reducible assumption) | assumption); have hx23 := bt_at t278 x6_1; replace p23 := eq_true p23; replace q23 := eq_true q23) | (go_at_call 28; (with_reducible refine (kilnlaw5_below.calls (bt t278 x6_1) t282 _ A24.out).mono ?_); rintro e w' ⟨rfl, ⟨nd, rfl⟩⟩; (try first | exact ⟨rfl, _, World.drewN_drewN _ _ _⟩ | exact ⟨rfl, _, Eq.trans (World.drewN_drewN _ _ _) (congrArg (World.drewN _) (Nat.add_assoc _ _ _))⟩))))
                              go_roundg kj15
                              case measure => have := HK1.out; have := HJ4.out; have := HJ15.out; omega
                              case rel => exact ⟨(x5_15), (wrap64 (x6_1 + 1)), (by first | rfl | (simp; done) | (simp [*]; done)), (by first | rfl | (simp; done) | (simp [*]; done)), H', ⟨by have := HK1.out; have := HJ4.out; have := HJ15.out; omega⟩, ⟨by repeat (first | (with_reducible first | exact HB.out | apply below_alloc | apply pw_below_drewN | apply below_drew1) | exact HB.out)⟩⟩
                          · rw [if_neg c22] at H
                            exact absurd H (by simp)
                        · rw [if_neg c19] at H
                          exact absurd H (by simp)
                      · rw [if_neg c18] at H
                        exact absurd H (by simp)
                · rw [if_neg c13] at H
                  exact absurd H (by simp)
              · rw [if_neg c10] at H
                exact absurd H (by simp)
            · rw [if_neg c9] at H
              exact absurd H (by simp)
          · replace c8 := Bool.eq_false_iff.mpr c8
            subst c8
            have H1 : (if x5_1 = 0 then (kilnlaw5_PathSlash.j3 kj4 t277 t278 x5_1 (decide ((t277.size : Int) < (t278.size : Int)))) else (kilnlaw5_PathSlash.j3 kj4 t277 t278 x5_1 false)) = some r := by rw [if_neg (show ¬ (false = true) by decide)] at H; exact H
            clear H
            have H := H1
            clear H1
            have HC26 := Aside0.mk H
            clear H
            go_upto_region 10 with (fail)
            repeat (go_quiet (fail); go_upto_region 10 with (fail))
            go_cut [54] (fun v54 wc => ∃ (kq : Nat) (x54_25 : Bool), v54 = .bool x54_25 ∧ Aside0 (kilnlaw5_PathSlash.j3 kq t277 t278 x5_1 x54_25 = some r) ∧ Aside0 (kq ≤ kj4) ∧ Aside0 (Below w.heap.size w wc))
            case first =>
              have H := HC26.out
              clear HC26
              by_cases c27 : x5_1 = 0
              · rw [if_pos c27] at H
                have c27b0 : (x5_1 == 0) = true := beq_iff_eq.mpr c27
                have c27b1 : (x5_1 != 0) = false := bne_eq_false_iff_eq.mpr c27
                clear c27
                (first | rw [c27b0] | (simp only [i64_w, i32_w]; rw [c27b0]) | skip)
                have H' := Aside0.mk H
                clear H
                go_wp2
                repeat (go_quiet (fail); try go_wp2)
                go_meet
                case rel => exact ⟨_, (decide ((t277.size : Int) < (t278.size : Int))), (by first | rfl | (simp; done) | (simp [*]; done)), H', ⟨by have := HK1.out; have := HJ4.out; first | omega | exact Nat.le_refl _⟩, ⟨by repeat (first | (with_reducible first | exact HB.out | apply below_alloc | apply pw_below_drewN | apply below_drew1) | exact HB.out)⟩⟩
              · rw [if_neg c27] at H
                have c27b0 : (x5_1 == 0) = false := beq_eq_false_iff_ne.mpr c27
                have c27b1 : (x5_1 != 0) = true := bne_iff_ne.mpr c27
                (first | rw [c27b0] | (simp only [i64_w, i32_w]; rw [c27b0]) | skip)
                have H' := Aside0.mk H
                clear H
                go_wp2
                repeat (go_quiet (fail); try go_wp2)
                go_meet
                case rel => exact ⟨_, (false), (by first | rfl | (simp; done) | (simp [*]; done)), H', ⟨by have := HK1.out; have := HJ4.out; first | omega | exact Nat.le_refl _⟩, ⟨by repeat (first | (with_reducible first | exact HB.out | apply below_alloc | apply pw_below_drewN | apply below_drew1) | exact HB.out)⟩⟩
            case rest =>
              clear HC26
              try clear c1
              try clear p1
              try clear q1
              try clear hx1
              try clear c2
              try clear p2
              try clear q2
              try clear hx2
              try clear c6
              try clear c6b0
              try clear p6
              try clear c7
              try clear c7b0
              try clear c8
              try clear c9
              try clear c9b0
              try clear c10
              try clear c10b0
              try clear p11
              try clear q11
              try clear hx11
              try clear c13
              try clear c13b0
              try clear p14
              try clear q14
              try clear hx14
              try clear c17
              try clear c17b0
              try clear c18
              try clear c18b0
              try clear c19
              try clear c19b0
              try clear p20
              try clear q20
              try clear hx20
              try clear c22
              try clear c22b0
              try clear p23
              try clear q23
              try clear hx23
              try clear c25
              try clear c25b0
              try clear c27
              try clear c27b0
              try clear c27b1
              try clear p1
              try clear p11
              try clear p14
              try clear p2
              try clear p20
              try clear p23
              try clear q1
              try clear q11
              try clear q14
              try clear q20
              try clear q23
              obtain ⟨kq, x54_25, rfl, HA, HJ25, HB⟩ := hcut
              cases kq with
              | zero => exact absurd HA.out (by simp [kilnlaw5_PathSlash.j3])
              | succ kj25 =>
                have H := HA.out
                clear HA
                simp only [kilnlaw5_PathSlash.j3] at H
                have HC28 := Aside0.mk H
                clear H
                go_upto_if 54 with (fail)
                repeat (go_quiet (fail); go_upto_if 54 with (fail))
                go_cut [5] (fun v5 wc => ∃ (kq : Nat) (x5_27 : Int), v5 = .int .i64 x5_27 ∧ Aside0 (kilnlaw5_PathSlash.j4 kq t277 t278 x5_27 = some r) ∧ Aside0 (kq ≤ kj25) ∧ Aside0 (Below w.heap.size w wc))
                case first =>
                  have H := HC28.out
                  clear HC28
                  by_cases c29 : x54_25 = true
                  · subst c29
                    have H1 : (kilnlaw5_PathSlash.j4 kj25 t277 t278 (-1)) = some r := by rw [if_pos rfl] at H; exact H
                    clear H
                    have H := H1
                    clear H1
                    have H' := Aside0.mk H
                    clear H
                    go_wp2
                    repeat (go_quiet (fail); try go_wp2)
                    go_meet
                    case rel => exact ⟨_, ((-1)), (by first | rfl | (simp; done) | (simp [*]; done)), H', ⟨by have := HK1.out; have := HJ4.out; have := HJ25.out; first | omega | exact Nat.le_refl _⟩, ⟨by repeat (first | (with_reducible first | exact HB.out | apply below_alloc | apply pw_below_drewN | apply below_drew1) | exact HB.out)⟩⟩
                  · replace c29 := Bool.eq_false_iff.mpr c29
                    subst c29
                    have H1 : (kilnlaw5_PathSlash.j4 kj25 t277 t278 x5_1) = some r := by rw [if_neg (show ¬ (false = true) by decide)] at H; exact H
                    clear H
                    have H := H1
                    clear H1
                    have H' := Aside0.mk H
                    clear H
                    go_wp2
                    repeat (go_quiet (fail); try go_wp2)
                    go_meet
                    case rel => exact ⟨_, (x5_1), (by first | rfl | (simp; done) | (simp [*]; done)), H', ⟨by have := HK1.out; have := HJ4.out; have := HJ25.out; first | omega | exact Nat.le_refl _⟩, ⟨by repeat (first | (with_reducible first | exact HB.out | apply below_alloc | apply pw_below_drewN | apply below_drew1) | exact HB.out)⟩⟩
                case rest =>
                  clear HC28
                  try clear c1
                  try clear p1
                  try clear q1
                  try clear hx1
                  try clear c2
                  try clear p2
                  try clear q2
                  try clear hx2
                  try clear c6
                  try clear c6b0
                  try clear p6
                  try clear c7
                  try clear c7b0
                  try clear c8
                  try clear c9
                  try clear c9b0
                  try clear c10
                  try clear c10b0
                  try clear p11
                  try clear q11
                  try clear hx11
                  try clear c13
                  try clear c13b0
                  try clear p14
                  try clear q14
                  try clear hx14
                  try clear c17
                  try clear c17b0
                  try clear c18
                  try clear c18b0
                  try clear c19
                  try clear c19b0
                  try clear p20
                  try clear q20
                  try clear hx20
                  try clear c22
                  try clear c22b0
                  try clear p23
                  try clear q23
                  try clear hx23
                  try clear c25
                  try clear c25b0
                  try clear c27
                  try clear c27b0
                  try clear c27b1
                  try clear c29
                  try clear p1
                  try clear p11
                  try clear p14
                  try clear p2
                  try clear p20
                  try clear p23
                  try clear p6
                  try clear q1
                  try clear q11
                  try clear q14
                  try clear q2
                  try clear q20
                  try clear q23
                  obtain ⟨kq, x5_27, rfl, HA, HJ27, HB⟩ := hcut
                  cases kq with
                  | zero => exact absurd HA.out (by simp [kilnlaw5_PathSlash.j4])
                  | succ kj27 =>
                    have H := HA.out
                    clear HA
                    simp only [kilnlaw5_PathSlash.j4] at H
                    have HC30 := Aside0.mk H
                    clear H
                    go_upto_region 12 with (fail)
                    repeat (go_quiet (fail); go_upto_region 12 with (fail))
                    go_cut [63] (fun v63 wc => ∃ (kq : Nat) (x63_29 : Bool), v63 = .bool x63_29 ∧ Aside0 (kilnlaw5_PathSlash.j5 kq t277 t278 x5_27 x63_29 = some r) ∧ Aside0 (kq ≤ kj27) ∧ Aside0 (Below w.heap.size w wc))
                    case first =>
                      have H := HC30.out
                      clear HC30
                      by_cases c31 : x5_27 = 0
                      · rw [if_pos c31] at H
                        have c31b0 : (x5_27 == 0) = true := beq_iff_eq.mpr c31
                        have c31b1 : (x5_27 != 0) = false := bne_eq_false_iff_eq.mpr c31
                        clear c31
                        (first | rw [c31b0] | (simp only [i64_w, i32_w]; rw [c31b0]) | skip)
                        have H' := Aside0.mk H
                        clear H
                        go_wp2
                        repeat (go_quiet (fail); try go_wp2)
                        go_meet
                        case rel => exact ⟨_, (decide ((t277.size : Int) > (t278.size : Int))), (by first | rfl | (simp; done) | (simp [*]; done)), H', ⟨by have := HK1.out; have := HJ4.out; have := HJ25.out; have := HJ27.out; first | omega | exact Nat.le_refl _⟩, ⟨by repeat (first | (with_reducible first | exact HB.out | apply below_alloc | apply pw_below_drewN | apply below_drew1) | exact HB.out)⟩⟩
                      · rw [if_neg c31] at H
                        have c31b0 : (x5_27 == 0) = false := beq_eq_false_iff_ne.mpr c31
                        have c31b1 : (x5_27 != 0) = true := bne_iff_ne.mpr c31
                        (first | rw [c31b0] | (simp only [i64_w, i32_w]; rw [c31b0]) | skip)
                        have H' := Aside0.mk H
                        clear H
                        go_wp2
                        repeat (go_quiet (fail); try go_wp2)
                        go_meet
                        case rel => exact ⟨_, (false), (by first | rfl | (simp; done) | (simp [*]; done)), H', ⟨by have := HK1.out; have := HJ4.out; have := HJ25.out; have := HJ27.out; first | omega | exact Nat.le_refl _⟩, ⟨by repeat (first | (with_reducible first | exact HB.out | apply below_alloc | apply pw_below_drewN | apply below_drew1) | exact HB.out)⟩⟩
                    case rest =>
                      clear HC30
                      try clear c1
                      try clear p1
                      try clear q1
                      try clear hx1
                      try clear c2
                      try clear p2
                      try clear q2
                      try clear hx2
                      try clear c3
                      try clear c6
                      try clear c6b0
                      try clear p6
                      try clear c7
                      try clear c7b0
                      try clear c8
                      try clear c9
                      try clear c9b0
                      try clear c10
                      try clear c10b0
                      try clear p11
                      try clear q11
                      try clear hx11
                      try clear c13
                      try clear c13b0
                      try clear p14
                      try clear q14
                      try clear hx14
                      try clear c17
                      try clear c17b0
                      try clear c18
                      try clear c18b0
                      try clear c19
                      try clear c19b0
                      try clear p20
                      try clear q20
                      try clear hx20
                      try clear c22
                      try clear c22b0
                      try clear p23
                      try clear q23
                      try clear hx23
                      try clear c25
                      try clear c25b0
                      try clear c27
                      try clear c27b0
                      try clear c27b1
                      try clear c29
                      try clear c31
                      try clear c31b0
                      try clear c31b1
                      try clear p1
                      try clear p11
                      try clear p14
                      try clear p2
                      try clear p20
                      try clear p23
                      try clear p6
                      try clear q1
                      try clear q11
                      try clear q14
                      try clear q2
                      try clear q20
                      try clear q23
                      obtain ⟨kq, x63_29, rfl, HA, HJ29, HB⟩ := hcut
                      cases kq with
                      | zero => exact absurd HA.out (by simp [kilnlaw5_PathSlash.j5])
                      | succ kj29 =>
                        have H := HA.out
                        clear HA
                        simp only [kilnlaw5_PathSlash.j5] at H
                        by_cases c32 : x63_29 = true
                        · subst c32
                          have H1 : (if t277.toList = ([] : List UInt8) then ((kilnlaw5_Told.f kj29).bind fun t283 => (if t283 = true then ((path_Order.f kj29 t277 t278).bind fun t284 => (if t284 = 1 then ((path_Under.f t277 t278).bind fun t285 => (some (t285 == true))) else (some false))) else (some false))) else (if t277.toList = t278.toList then ((kilnlaw5_Told.f kj29).bind fun t286 => (if t286 = true then ((path_Order.f kj29 t277 t278).bind fun t287 => (if t287 = 1 then ((path_Under.f t277 t278).bind fun t288 => (some (t288 == true))) else (some false))) else (some false))) else (if (t278.size : Int) > (t277.size : Int) then (if 0 ≤ (t277.size : Int) then (if (t277.size : Int) ≤ (t278.size : Int) then (if (t278.extract 0 ((t277.size : Int) : Int).toNat).toList = t277.toList then (if (t277.size : Int) < (t278.size : Int) then ((kilnlaw5_Told.f kj29).bind fun t289 => (if t289 = true then ((path_Order.f kj29 t277 t278).bind fun t290 => (if t290 = 1 then ((path_Under.f t277 t278).bind fun t291 => (some (t291 == ((bt t278 (t277.size : Int)) == 47)))) else (some false))) else (some false))) else (none)) else ((kilnlaw5_Told.f kj29).bind fun t292 => (if t292 = true then ((path_Order.f kj29 t277 t278).bind fun t293 => (if t293 = 1 then ((path_Under.f t277 t278).bind fun t294 => (some (t294 == false))) else (some false))) else (some false)))) else (none)) else (none)) else ((kilnlaw5_Told.f kj29).bind fun t295 => (if t295 = true then ((path_Order.f kj29 t277 t278).bind fun t296 => (if t296 = 1 then ((path_Under.f t277 t278).bind fun t297 => (some (t297 == false))) else (some false))) else (some false)))))) = some r := by rw [if_pos rfl] at H; exact H
                          clear H
                          have H := H1
                          clear H1
                          by_cases c33 : t277.toList = ([] : List UInt8)
                          · rw [if_pos c33] at H
                            have c33b0 : (t277.toList == ([] : List UInt8)) = true := beq_iff_eq.mpr c33
                            have c33b1 : (t277.toList != ([] : List UInt8)) = false := bne_eq_false_iff_eq.mpr c33
                            clear c33
                            replace H := Option.bind_eq_some_iff.mp H
                            obtain ⟨t283, A340, H⟩ := H
                            replace H : (if t283 = true then ((path_Order.f kj29 t277 t278).bind fun t284 => (if t284 = 1 then ((path_Under.f t277 t278).bind fun t285 => (some (t285 == true))) else (some false))) else (some false)) = some r := H
                            have A34 := Aside0.mk A340
                            clear A340
                            by_cases c35 : t283 = true
                            · subst c35
                              have H1 : ((path_Order.f kj29 t277 t278).bind fun t284 => (if t284 = 1 then ((path_Under.f t277 t278).bind fun t285 => (some (t285 == true))) else (some false))) = some r := by rw [if_pos rfl] at H; exact H
                              clear H
                              have H := H1
                              clear H1
                              replace H := Option.bind_eq_some_iff.mp H
                              obtain ⟨t284, A360, H⟩ := H
                              replace H : (if t284 = 1 then ((path_Under.f t277 t278).bind fun t285 => (some (t285 == true))) else (some false)) = some r := H
                              have A36 := Aside0.mk A360
                              clear A360
                              by_cases c37 : t284 = 1
                              · rw [if_pos c37] at H
                                have c37b0 : (t284 == 1) = true := beq_iff_eq.mpr c37
                                have c37b1 : (t284 != 1) = false := bne_eq_false_iff_eq.mpr c37
                                clear c37
                                replace H := Option.bind_eq_some_iff.mp H
                                obtain ⟨t285, A380, H⟩ := H
                                replace H : (some (t285 == true)) = some r := H
                                have A38 := Aside0.mk A380
                                clear A380
                                obtain rfl := Option.some.inj H
                                go_wp2_with (first | (go_at_call 14; (with_reducible refine (kilnlaw5_Told.calls kj29  true _ A34.out).mono ?_); rintro e w39 ⟨rfl, hb⟩; have n0_ := Aside0.mk (below_step (by repeat (first | (with_reducible first | exact HB.out | apply below_alloc | apply pw_below_drewN | apply below_drew1) | exact HB.out)) hb); clear HB; have HB := n0_; clear n0_; (try clear hb); (try clear hb2); (try clear hk); (try clear hi)) | (go_at_call 20; (with_reducible refine (path_Order.calls kj29 t277 t278 t284 _ A36.out).mono ?_); rintro e w' ⟨rfl, ⟨nd, rfl⟩⟩; (try first | exact ⟨rfl, _, World.drewN_drewN _ _ _⟩ | exact ⟨rfl, _, Eq.trans (World.drewN_drewN _ _ _) (congrArg (World.drewN _) (Nat.add_assoc _ _ _))⟩)) | (go_at_call 22; (with_reducible refine (path_Under.calls t277 t278 t285 _ A38.out).mono ?_); rintro e w' ⟨rfl, ⟨nd, rfl⟩⟩; (try first | exact ⟨rfl, _, World.drewN_drewN _ _ _⟩ | exact ⟨rfl, _, Eq.trans (World.drewN_drewN _ _ _) (congrArg (World.drewN _) (Nat.add_assoc _ _ _))⟩)))
                                repeat (go_quiet (first | (go_at_call 14; (with_reducible refine (kilnlaw5_Told.calls kj29  true _ A34.out).mono ?_); rintro e w39 ⟨rfl, hb⟩; have n0_ := Aside0.mk (below_step (by repeat (first | (with_reducible first | exact HB.out | apply below_alloc | apply pw_below_drewN | apply below_drew1) | exact HB.out)) hb); clear HB; have HB := n0_; clear n0_; (try clear hb); (try clear hb2); (try clear hk); (try clear hi)) | (go_at_call 20; (with_reducible refine (path_Order.calls kj29 t277 t278 t284 _ A36.out).mono ?_); rintro e w' ⟨rfl, ⟨nd, rfl⟩⟩; (try first | exact ⟨rfl, _, World.drewN_drewN _ _ _⟩ | exact ⟨rfl, _, Eq.trans (World.drewN_drewN _ _ _) (congrArg (World.drewN _) (Nat.add_assoc _ _ _))⟩)) | (go_at_call 22; (with_reducible refine (path_Under.calls t277 t278 t285 _ A38.out).mono ?_); rintro e w' ⟨rfl, ⟨nd, rfl⟩⟩; (try first | exact ⟨rfl, _, World.drewN_drewN _ _ _⟩ | exact ⟨rfl, _, Eq.trans (World.drewN_drewN _ _ _) (congrArg (World.drewN _) (Nat.add_assoc _ _ _))⟩))); try go_wp2_with (first | (go_at_call 14; (with_reducible refine (kilnlaw5_Told.calls kj29  true _ A34.out).mono ?_); rintro e w39 ⟨rfl, hb⟩; have n0_ := Aside0.mk (below_step (by repeat (first | (with_reducible first | exact HB.out | apply below_alloc | apply pw_below_drewN | apply below_drew1) | exact HB.out)) hb); clear HB; have HB := n0_; clear n0_; (try clear hb); (try clear hb2); (try clear hk); (try clear hi)) | (go_at_call 20; (with_reducible refine (path_Order.calls kj29 t277 t278 t284 _ A36.out).mono ?_); rintro e w' ⟨rfl, ⟨nd, rfl⟩⟩; (try first | exact ⟨rfl, _, World.drewN_drewN _ _ _⟩ | exact ⟨rfl, _, Eq.trans (World.drewN_drewN _ _ _) (congrArg (World.drewN _) (Nat.add_assoc _ _ _))⟩)) | (go_at_call 22; (with_reducible refine (path_Under.calls t277 t278 t285 _ A38.out).mono ?_); rintro e w' ⟨rfl, ⟨nd, rfl⟩⟩; (try first | exact ⟨rfl, _, World.drewN_drewN _ _ _⟩ | exact ⟨rfl, _, Eq.trans (World.drewN_drewN _ _ _) (congrArg (World.drewN _) (Nat.add_assoc _ _ _))⟩))))
                                go_ret
                                exact ⟨by first | rfl | (simp [errW_none, errW_some] <;> rfl) | (simp [*, errW_none, errW_some] <;> rfl), by repeat (first | (with_reducible first | exact HB.out | apply below_alloc | apply pw_below_drewN | apply below_drew1) | exact HB.out)⟩
                              · rw [if_neg c37] at H
                                have c37b0 : (t284 == 1) = false := beq_eq_false_iff_ne.mpr c37
                                have c37b1 : (t284 != 1) = true := bne_iff_ne.mpr c37
                                obtain rfl := Option.some.inj H
                                go_wp2_with (first | (go_at_call 14; (with_reducible refine (kilnlaw5_Told.calls kj29  true _ A34.out).mono ?_); rintro e w40 ⟨rfl, hb⟩; have n0_ := Aside0.mk (below_step (by repeat (first | (with_reducible first | exact HB.out | apply below_alloc | apply pw_below_drewN | apply below_drew1) | exact HB.out)) hb); clear HB; have HB := n0_; clear n0_; (try clear hb); (try clear hb2); (try clear hk); (try clear hi)) | (go_at_call 20; (with_reducible refine (path_Order.calls kj29 t277 t278 t284 _ A36.out).mono ?_); rintro e w' ⟨rfl, ⟨nd, rfl⟩⟩; (try first | exact ⟨rfl, _, World.drewN_drewN _ _ _⟩ | exact ⟨rfl, _, Eq.trans (World.drewN_drewN _ _ _) (congrArg (World.drewN _) (Nat.add_assoc _ _ _))⟩)))
                                repeat (go_quiet (first | (go_at_call 14; (with_reducible refine (kilnlaw5_Told.calls kj29  true _ A34.out).mono ?_); rintro e w40 ⟨rfl, hb⟩; have n0_ := Aside0.mk (below_step (by repeat (first | (with_reducible first | exact HB.out | apply below_alloc | apply pw_below_drewN | apply below_drew1) | exact HB.out)) hb); clear HB; have HB := n0_; clear n0_; (try clear hb); (try clear hb2); (try clear hk); (try clear hi)) | (go_at_call 20; (with_reducible refine (path_Order.calls kj29 t277 t278 t284 _ A36.out).mono ?_); rintro e w' ⟨rfl, ⟨nd, rfl⟩⟩; (try first | exact ⟨rfl, _, World.drewN_drewN _ _ _⟩ | exact ⟨rfl, _, Eq.trans (World.drewN_drewN _ _ _) (congrArg (World.drewN _) (Nat.add_assoc _ _ _))⟩))); try go_wp2_with (first | (go_at_call 14; (with_reducible refine (kilnlaw5_Told.calls kj29  true _ A34.out).mono ?_); rintro e w40 ⟨rfl, hb⟩; have n0_ := Aside0.mk (below_step (by repeat (first | (with_reducible first | exact HB.out | apply below_alloc | apply pw_below_drewN | apply below_drew1) | exact HB.out)) hb); clear HB; have HB := n0_; clear n0_; (try clear hb); (try clear hb2); (try clear hk); (try clear hi)) | (go_at_call 20; (with_reducible refine (path_Order.calls kj29 t277 t278 t284 _ A36.out).mono ?_); rintro e w' ⟨rfl, ⟨nd, rfl⟩⟩; (try first | exact ⟨rfl, _, World.drewN_drewN _ _ _⟩ | exact ⟨rfl, _, Eq.trans (World.drewN_drewN _ _ _) (congrArg (World.drewN _) (Nat.add_assoc _ _ _))⟩))))
                                go_ret
                                exact ⟨by first | rfl | (simp [errW_none, errW_some] <;> rfl) | (simp [*, errW_none, errW_some] <;> rfl), by repeat (first | (with_reducible first | exact HB.out | apply below_alloc | apply pw_below_drewN | apply below_drew1) | exact HB.out)⟩
                            · replace c35 := Bool.eq_false_iff.mpr c35
                              subst c35
                              have H1 : (some false) = some r := by rw [if_neg (show ¬ (false = true) by decide)] at H; exact H
                              clear H
                              have H := H1
                              clear H1
                              obtain rfl := Option.some.inj H
                              go_wp2_with (first | (go_at_call 14; (with_reducible refine (kilnlaw5_Told.calls kj29  false _ A34.out).mono ?_); rintro e w41 ⟨rfl, hb⟩; have n0_ := Aside0.mk (below_step (by repeat (first | (with_reducible first | exact HB.out | apply below_alloc | apply pw_below_drewN | apply below_drew1) | exact HB.out)) hb); clear HB; have HB := n0_; clear n0_; (try clear hb); (try clear hb2); (try clear hk); (try clear hi)))
                              repeat (go_quiet (first | (go_at_call 14; (with_reducible refine (kilnlaw5_Told.calls kj29  false _ A34.out).mono ?_); rintro e w41 ⟨rfl, hb⟩; have n0_ := Aside0.mk (below_step (by repeat (first | (with_reducible first | exact HB.out | apply below_alloc | apply pw_below_drewN | apply below_drew1) | exact HB.out)) hb); clear HB; have HB := n0_; clear n0_; (try clear hb); (try clear hb2); (try clear hk); (try clear hi))); try go_wp2_with (first | (go_at_call 14; (with_reducible refine (kilnlaw5_Told.calls kj29  false _ A34.out).mono ?_); rintro e w41 ⟨rfl, hb⟩; have n0_ := Aside0.mk (below_step (by repeat (first | (with_reducible first | exact HB.out | apply below_alloc | apply pw_below_drewN | apply below_drew1) | exact HB.out)) hb); clear HB; have HB := n0_; clear n0_; (try clear hb); (try clear hb2); (try clear hk); (try clear hi))))
                              go_ret
                              exact ⟨by first | rfl | (simp [errW_none, errW_some] <;> rfl) | (simp [*, errW_none, errW_some] <;> rfl), by repeat (first | (with_reducible first | exact HB.out | apply below_alloc | apply pw_below_drewN | apply below_drew1) | exact HB.out)⟩
                          · rw [if_neg c33] at H
                            have c33b0 : (t277.toList == ([] : List UInt8)) = false := beq_eq_false_iff_ne.mpr c33
                            have c33b1 : (t277.toList != ([] : List UInt8)) = true := bne_iff_ne.mpr c33
                            by_cases c42 : t277.toList = t278.toList
                            · rw [if_pos c42] at H
                              have c42b0 : (t277.toList == t278.toList) = true := beq_iff_eq.mpr c42
                              have c42b1 : (t277.toList != t278.toList) = false := bne_eq_false_iff_eq.mpr c42
                              clear c42
                              replace H := Option.bind_eq_some_iff.mp H
                              obtain ⟨t286, A430, H⟩ := H
                              replace H : (if t286 = true then ((path_Order.f kj29 t277 t278).bind fun t287 => (if t287 = 1 then ((path_Under.f t277 t278).bind fun t288 => (some (t288 == true))) else (some false))) else (some false)) = some r := H
                              have A43 := Aside0.mk A430
                              clear A430
                              by_cases c44 : t286 = true
                              · subst c44
                                have H1 : ((path_Order.f kj29 t277 t278).bind fun t287 => (if t287 = 1 then ((path_Under.f t277 t278).bind fun t288 => (some (t288 == true))) else (some false))) = some r := by rw [if_pos rfl] at H; exact H
                                clear H
                                have H := H1
                                clear H1
                                replace H := Option.bind_eq_some_iff.mp H
                                obtain ⟨t287, A450, H⟩ := H
                                replace H : (if t287 = 1 then ((path_Under.f t277 t278).bind fun t288 => (some (t288 == true))) else (some false)) = some r := H
                                have A45 := Aside0.mk A450
                                clear A450
                                by_cases c46 : t287 = 1
                                · rw [if_pos c46] at H
                                  have c46b0 : (t287 == 1) = true := beq_iff_eq.mpr c46
                                  have c46b1 : (t287 != 1) = false := bne_eq_false_iff_eq.mpr c46
                                  clear c46
                                  replace H := Option.bind_eq_some_iff.mp H
                                  obtain ⟨t288, A470, H⟩ := H
                                  replace H : (some (t288 == true)) = some r := H
                                  have A47 := Aside0.mk A470
                                  clear A470
                                  obtain rfl := Option.some.inj H
                                  go_wp2_with (first | (go_at_call 14; (with_reducible refine (kilnlaw5_Told.calls kj29  true _ A43.out).mono ?_); rintro e w48 ⟨rfl, hb⟩; have n0_ := Aside0.mk (below_step (by repeat (first | (with_reducible first | exact HB.out | apply below_alloc | apply pw_below_drewN | apply below_drew1) | exact HB.out)) hb); clear HB; have HB := n0_; clear n0_; (try clear hb); (try clear hb2); (try clear hk); (try clear hi)) | (go_at_call 20; (with_reducible refine (path_Order.calls kj29 t277 t278 t287 _ A45.out).mono ?_); rintro e w' ⟨rfl, ⟨nd, rfl⟩⟩; (try first | exact ⟨rfl, _, World.drewN_drewN _ _ _⟩ | exact ⟨rfl, _, Eq.trans (World.drewN_drewN _ _ _) (congrArg (World.drewN _) (Nat.add_assoc _ _ _))⟩)) | (go_at_call 22; (with_reducible refine (path_Under.calls t277 t278 t288 _ A47.out).mono ?_); rintro e w' ⟨rfl, ⟨nd, rfl⟩⟩; (try first | exact ⟨rfl, _, World.drewN_drewN _ _ _⟩ | exact ⟨rfl, _, Eq.trans (World.drewN_drewN _ _ _) (congrArg (World.drewN _) (Nat.add_assoc _ _ _))⟩)))
                                  repeat (go_quiet (first | (go_at_call 14; (with_reducible refine (kilnlaw5_Told.calls kj29  true _ A43.out).mono ?_); rintro e w48 ⟨rfl, hb⟩; have n0_ := Aside0.mk (below_step (by repeat (first | (with_reducible first | exact HB.out | apply below_alloc | apply pw_below_drewN | apply below_drew1) | exact HB.out)) hb); clear HB; have HB := n0_; clear n0_; (try clear hb); (try clear hb2); (try clear hk); (try clear hi)) | (go_at_call 20; (with_reducible refine (path_Order.calls kj29 t277 t278 t287 _ A45.out).mono ?_); rintro e w' ⟨rfl, ⟨nd, rfl⟩⟩; (try first | exact ⟨rfl, _, World.drewN_drewN _ _ _⟩ | exact ⟨rfl, _, Eq.trans (World.drewN_drewN _ _ _) (congrArg (World.drewN _) (Nat.add_assoc _ _ _))⟩)) | (go_at_call 22; (with_reducible refine (path_Under.calls t277 t278 t288 _ A47.out).mono ?_); rintro e w' ⟨rfl, ⟨nd, rfl⟩⟩; (try first | exact ⟨rfl, _, World.drewN_drewN _ _ _⟩ | exact ⟨rfl, _, Eq.trans (World.drewN_drewN _ _ _) (congrArg (World.drewN _) (Nat.add_assoc _ _ _))⟩))); try go_wp2_with (first | (go_at_call 14; (with_reducible refine (kilnlaw5_Told.calls kj29  true _ A43.out).mono ?_); rintro e w48 ⟨rfl, hb⟩; have n0_ := Aside0.mk (below_step (by repeat (first | (with_reducible first | exact HB.out | apply below_alloc | apply pw_below_drewN | apply below_drew1) | exact HB.out)) hb); clear HB; have HB := n0_; clear n0_; (try clear hb); (try clear hb2); (try clear hk); (try clear hi)) | (go_at_call 20; (with_reducible refine (path_Order.calls kj29 t277 t278 t287 _ A45.out).mono ?_); rintro e w' ⟨rfl, ⟨nd, rfl⟩⟩; (try first | exact ⟨rfl, _, World.drewN_drewN _ _ _⟩ | exact ⟨rfl, _, Eq.trans (World.drewN_drewN _ _ _) (congrArg (World.drewN _) (Nat.add_assoc _ _ _))⟩)) | (go_at_call 22; (with_reducible refine (path_Under.calls t277 t278 t288 _ A47.out).mono ?_); rintro e w' ⟨rfl, ⟨nd, rfl⟩⟩; (try first | exact ⟨rfl, _, World.drewN_drewN _ _ _⟩ | exact ⟨rfl, _, Eq.trans (World.drewN_drewN _ _ _) (congrArg (World.drewN _) (Nat.add_assoc _ _ _))⟩))))
                                  go_ret
                                  exact ⟨by first | rfl | (simp [errW_none, errW_some] <;> rfl) | (simp [*, errW_none, errW_some] <;> rfl), by repeat (first | (with_reducible first | exact HB.out | apply below_alloc | apply pw_below_drewN | apply below_drew1) | exact HB.out)⟩
                                · rw [if_neg c46] at H
                                  have c46b0 : (t287 == 1) = false := beq_eq_false_iff_ne.mpr c46
                                  have c46b1 : (t287 != 1) = true := bne_iff_ne.mpr c46
                                  obtain rfl := Option.some.inj H
                                  go_wp2_with (first | (go_at_call 14; (with_reducible refine (kilnlaw5_Told.calls kj29  true _ A43.out).mono ?_); rintro e w49 ⟨rfl, hb⟩; have n0_ := Aside0.mk (below_step (by repeat (first | (with_reducible first | exact HB.out | apply below_alloc | apply pw_below_drewN | apply below_drew1) | exact HB.out)) hb); clear HB; have HB := n0_; clear n0_; (try clear hb); (try clear hb2); (try clear hk); (try clear hi)) | (go_at_call 20; (with_reducible refine (path_Order.calls kj29 t277 t278 t287 _ A45.out).mono ?_); rintro e w' ⟨rfl, ⟨nd, rfl⟩⟩; (try first | exact ⟨rfl, _, World.drewN_drewN _ _ _⟩ | exact ⟨rfl, _, Eq.trans (World.drewN_drewN _ _ _) (congrArg (World.drewN _) (Nat.add_assoc _ _ _))⟩)))
                                  repeat (go_quiet (first | (go_at_call 14; (with_reducible refine (kilnlaw5_Told.calls kj29  true _ A43.out).mono ?_); rintro e w49 ⟨rfl, hb⟩; have n0_ := Aside0.mk (below_step (by repeat (first | (with_reducible first | exact HB.out | apply below_alloc | apply pw_below_drewN | apply below_drew1) | exact HB.out)) hb); clear HB; have HB := n0_; clear n0_; (try clear hb); (try clear hb2); (try clear hk); (try clear hi)) | (go_at_call 20; (with_reducible refine (path_Order.calls kj29 t277 t278 t287 _ A45.out).mono ?_); rintro e w' ⟨rfl, ⟨nd, rfl⟩⟩; (try first | exact ⟨rfl, _, World.drewN_drewN _ _ _⟩ | exact ⟨rfl, _, Eq.trans (World.drewN_drewN _ _ _) (congrArg (World.drewN _) (Nat.add_assoc _ _ _))⟩))); try go_wp2_with (first | (go_at_call 14; (with_reducible refine (kilnlaw5_Told.calls kj29  true _ A43.out).mono ?_); rintro e w49 ⟨rfl, hb⟩; have n0_ := Aside0.mk (below_step (by repeat (first | (with_reducible first | exact HB.out | apply below_alloc | apply pw_below_drewN | apply below_drew1) | exact HB.out)) hb); clear HB; have HB := n0_; clear n0_; (try clear hb); (try clear hb2); (try clear hk); (try clear hi)) | (go_at_call 20; (with_reducible refine (path_Order.calls kj29 t277 t278 t287 _ A45.out).mono ?_); rintro e w' ⟨rfl, ⟨nd, rfl⟩⟩; (try first | exact ⟨rfl, _, World.drewN_drewN _ _ _⟩ | exact ⟨rfl, _, Eq.trans (World.drewN_drewN _ _ _) (congrArg (World.drewN _) (Nat.add_assoc _ _ _))⟩))))
                                  go_ret
                                  exact ⟨by first | rfl | (simp [errW_none, errW_some] <;> rfl) | (simp [*, errW_none, errW_some] <;> rfl), by repeat (first | (with_reducible first | exact HB.out | apply below_alloc | apply pw_below_drewN | apply below_drew1) | exact HB.out)⟩
                              · replace c44 := Bool.eq_false_iff.mpr c44
                                subst c44
                                have H1 : (some false) = some r := by rw [if_neg (show ¬ (false = true) by decide)] at H; exact H
                                clear H
                                have H := H1
                                clear H1
                                obtain rfl := Option.some.inj H
                                go_wp2_with (first | (go_at_call 14; (with_reducible refine (kilnlaw5_Told.calls kj29  false _ A43.out).mono ?_); rintro e w50 ⟨rfl, hb⟩; have n0_ := Aside0.mk (below_step (by repeat (first | (with_reducible first | exact HB.out | apply below_alloc | apply pw_below_drewN | apply below_drew1) | exact HB.out)) hb); clear HB; have HB := n0_; clear n0_; (try clear hb); (try clear hb2); (try clear hk); (try clear hi)))
                                repeat (go_quiet (first | (go_at_call 14; (with_reducible refine (kilnlaw5_Told.calls kj29  false _ A43.out).mono ?_); rintro e w50 ⟨rfl, hb⟩; have n0_ := Aside0.mk (below_step (by repeat (first | (with_reducible first | exact HB.out | apply below_alloc | apply pw_below_drewN | apply below_drew1) | exact HB.out)) hb); clear HB; have HB := n0_; clear n0_; (try clear hb); (try clear hb2); (try clear hk); (try clear hi))); try go_wp2_with (first | (go_at_call 14; (with_reducible refine (kilnlaw5_Told.calls kj29  false _ A43.out).mono ?_); rintro e w50 ⟨rfl, hb⟩; have n0_ := Aside0.mk (below_step (by repeat (first | (with_reducible first | exact HB.out | apply below_alloc | apply pw_below_drewN | apply below_drew1) | exact HB.out)) hb); clear HB; have HB := n0_; clear n0_; (try clear hb); (try clear hb2); (try clear hk); (try clear hi))))
                                go_ret
                                exact ⟨by first | rfl | (simp [errW_none, errW_some] <;> rfl) | (simp [*, errW_none, errW_some] <;> rfl), by repeat (first | (with_reducible first | exact HB.out | apply below_alloc | apply pw_below_drewN | apply below_drew1) | exact HB.out)⟩
                            · rw [if_neg c42] at H
                              have c42b0 : (t277.toList == t278.toList) = false := beq_eq_false_iff_ne.mpr c42
                              have c42b1 : (t277.toList != t278.toList) = true := bne_iff_ne.mpr c42
                              by_cases c51 : (t278.size : Int) > (t277.size : Int)
                              · rw [if_pos c51] at H
                                have c51b0 : decide ((t277.size : Int) < (t278.size : Int)) = true := decide_eq_true c51
                                have c51b1 : decide (t277.size < t278.size) = true := decide_eq_true (Int.ofNat_lt.mp c51)
                                clear c51
                                by_cases c52 : 0 ≤ (t277.size : Int)
                                · rw [if_pos c52] at H
                                  have c52b0 := eq_true c52
                                  have c52b1 : decide (0 ≤ (t277.size : Int)) = true := decide_eq_true c52
                                  clear c52
                                  by_cases c53 : (t277.size : Int) ≤ (t278.size : Int)
                                  · rw [if_pos c53] at H
                                    have c53b0 := eq_true c53
                                    have c53b1 : decide ((t277.size : Int) ≤ (t278.size : Int)) = true := decide_eq_true c53
                                    clear c53
                                    by_cases c54 : (t278.extract 0 ((t277.size : Int) : Int).toNat).toList = t277.toList
                                    · rw [if_pos c54] at H
                                      have c54b0 : ((t278.extract 0 ((t277.size : Int) : Int).toNat).toList == t277.toList) = true := beq_iff_eq.mpr c54
                                      have c54b0n := c54b0
                                      try simp only [Int.toNat_natCast] at c54b0n
                                      have c54b1 : ((t278.extract 0 ((t277.size : Int) : Int).toNat).toList != t277.toList) = false := bne_eq_false_iff_eq.mpr c54
                                      have c54b1n := c54b1
                                      try simp only [Int.toNat_natCast] at c54b1n
                                      clear c54
                                      by_cases c55 : (t277.size : Int) < (t278.size : Int)
                                      · rw [if_pos c55] at H
                                        have c55b0 : decide ((t277.size : Int) < (t278.size : Int)) = true := decide_eq_true c55
                                        have c55b1 : decide (t277.size < t278.size) = true := decide_eq_true (Int.ofNat_lt.mp c55)
                                        clear c55
                                        replace H := Option.bind_eq_some_iff.mp H
                                        obtain ⟨t289, A570, H⟩ := H
                                        replace H : (if t289 = true then ((path_Order.f kj29 t277 t278).bind fun t290 => (if t290 = 1 then ((path_Under.f t277 t278).bind fun t291 => (some (t291 == ((bt t278 (t277.size : Int)) == 47)))) else (some false))) else (some false)) = some r := H
                                        have A57 := Aside0.mk A570
                                        clear A570
                                        by_cases c58 : t289 = true
                                        · subst c58
                                          have H1 : ((path_Order.f kj29 t277 t278).bind fun t290 => (if t290 = 1 then ((path_Under.f t277 t278).bind fun t291 => (some (t291 == ((bt t278 (t277.size : Int)) == 47)))) else (some false))) = some r := by rw [if_pos rfl] at H; exact H
                                          clear H
                                          have H := H1
                                          clear H1
                                          replace H := Option.bind_eq_some_iff.mp H
                                          obtain ⟨t290, A590, H⟩ := H
                                          replace H : (if t290 = 1 then ((path_Under.f t277 t278).bind fun t291 => (some (t291 == ((bt t278 (t277.size : Int)) == 47)))) else (some false)) = some r := H
                                          have A59 := Aside0.mk A590
                                          clear A590
                                          by_cases c60 : t290 = 1
                                          · rw [if_pos c60] at H
                                            have c60b0 : (t290 == 1) = true := beq_iff_eq.mpr c60
                                            have c60b1 : (t290 != 1) = false := bne_eq_false_iff_eq.mpr c60
                                            clear c60
                                            replace H := Option.bind_eq_some_iff.mp H
                                            obtain ⟨t291, A610, H⟩ := H
                                            replace H : (some (t291 == ((bt t278 (t277.size : Int)) == 47))) = some r := H
                                            have A61 := Aside0.mk A610
                                            clear A610
                                            obtain rfl := Option.some.inj H
                                            have p56 : 0 ≤ ((t277.size : Int) : Int) := of_decide_eq_true (by first | (with_reducible assumption) | assumption)
                                            have q56 : (t277.size : Int) < (t278.size : Int) := of_decide_eq_true (by first | (with_reducible assumption) | assumption)
                                            have hx56 := bt_at t278 (t277.size : Int)
                                            have hx56n := hx56 (by omega)
                                            simp only [Int.toNat_natCast] at hx56n
                                            replace p56 := eq_true p56
                                            replace q56 := eq_true q56
                                            go_wp2_with (first | (go_at_call 14; (with_reducible refine (kilnlaw5_Told.calls kj29  true _ A57.out).mono ?_); rintro e w62 ⟨rfl, hb⟩; have n0_ := Aside0.mk (below_step (by repeat (first | (with_reducible first | exact HB.out | apply below_alloc | apply pw_below_drewN | apply below_drew1) | exact HB.out)) hb); clear HB; have HB := n0_; clear n0_; (try clear hb); (try clear hb2); (try clear hk); (try clear hi)) | (go_at_call 20; (with_reducible refine (path_Order.calls kj29 t277 t278 t290 _ A59.out).mono ?_); rintro e w' ⟨rfl, ⟨nd, rfl⟩⟩; (try first | exact ⟨rfl, _, World.drewN_drewN _ _ _⟩ | exact ⟨rfl, _, Eq.trans (World.drewN_drewN _ _ _) (congrArg (World.drewN _) (Nat.add_assoc _ _ _))⟩)) | (go_at_call 22; (with_reducible refine (path_Under.calls t277 t278 t291 _ A61.out).mono ?_); rintro e w' ⟨rfl, ⟨nd, rfl⟩⟩; (try first | exact ⟨rfl, _, World.drewN_drewN _ _ _⟩ | exact ⟨rfl, _, Eq.trans (World.drewN_drewN _ _ _) (congrArg (World.drewN _) (Nat.add_assoc _ _ _))⟩)))
                                            repeat (go_quiet (first | (go_at_call 14; (with_reducible refine (kilnlaw5_Told.calls kj29  true _ A57.out).mono ?_); rintro e w62 ⟨rfl, hb⟩; have n0_ := Aside0.mk (below_step (by repeat (first | (with_reducible first | exact HB.out | apply below_alloc | apply pw_below_drewN | apply below_drew1) | exact HB.out)) hb); clear HB; have HB := n0_; clear n0_; (try clear hb); (try clear hb2); (try clear hk); (try clear hi)) | (go_at_call 20; (with_reducible refine (path_Order.calls kj29 t277 t278 t290 _ A59.out).mono ?_); rintro e w' ⟨rfl, ⟨nd, rfl⟩⟩; (try first | exact ⟨rfl, _, World.drewN_drewN _ _ _⟩ | exact ⟨rfl, _, Eq.trans (World.drewN_drewN _ _ _) (congrArg (World.drewN _) (Nat.add_assoc _ _ _))⟩)) | (go_at_call 22; (with_reducible refine (path_Under.calls t277 t278 t291 _ A61.out).mono ?_); rintro e w' ⟨rfl, ⟨nd, rfl⟩⟩; (try first | exact ⟨rfl, _, World.drewN_drewN _ _ _⟩ | exact ⟨rfl, _, Eq.trans (World.drewN_drewN _ _ _) (congrArg (World.drewN _) (Nat.add_assoc _ _ _))⟩))); try go_wp2_with (first | (go_at_call 14; (with_reducible refine (kilnlaw5_Told.calls kj29  true _ A57.out).mono ?_); rintro e w62 ⟨rfl, hb⟩; have n0_ := Aside0.mk (below_step (by repeat (first | (with_reducible first | exact HB.out | apply below_alloc | apply pw_below_drewN | apply below_drew1) | exact HB.out)) hb); clear HB; have HB := n0_; clear n0_; (try clear hb); (try clear hb2); (try clear hk); (try clear hi)) | (go_at_call 20; (with_reducible refine (path_Order.calls kj29 t277 t278 t290 _ A59.out).mono ?_); rintro e w' ⟨rfl, ⟨nd, rfl⟩⟩; (try first | exact ⟨rfl, _, World.drewN_drewN _ _ _⟩ | exact ⟨rfl, _, Eq.trans (World.drewN_drewN _ _ _) (congrArg (World.drewN _) (Nat.add_assoc _ _ _))⟩)) | (go_at_call 22; (with_reducible refine (path_Under.calls t277 t278 t291 _ A61.out).mono ?_); rintro e w' ⟨rfl, ⟨nd, rfl⟩⟩; (try first | exact ⟨rfl, _, World.drewN_drewN _ _ _⟩ | exact ⟨rfl, _, Eq.trans (World.drewN_drewN _ _ _) (congrArg (World.drewN _) (Nat.add_assoc _ _ _))⟩))))
                                            go_ret
                                            exact ⟨by first | rfl | (simp [errW_none, errW_some] <;> rfl) | (simp [*, errW_none, errW_some] <;> rfl), by repeat (first | (with_reducible first | exact HB.out | apply below_alloc | apply pw_below_drewN | apply below_drew1) | exact HB.out)⟩
                                          · rw [if_neg c60] at H
                                            have c60b0 : (t290 == 1) = false := beq_eq_false_iff_ne.mpr c60
                                            have c60b1 : (t290 != 1) = true := bne_iff_ne.mpr c60
                                            obtain rfl := Option.some.inj H
                                            have p56 : 0 ≤ ((t277.size : Int) : Int) := of_decide_eq_true (by first | (with_reducible assumption) | assumption)
                                            have q56 : (t277.size : Int) < (t278.size : Int) := of_decide_eq_true (by first | (with_reducible assumption) | assumption)
                                            have hx56 := bt_at t278 (t277.size : Int)
                                            have hx56n := hx56 (by omega)
                                            simp only [Int.toNat_natCast] at hx56n
                                            replace p56 := eq_true p56
                                            replace q56 := eq_true q56
                                            go_wp2_with (first | (go_at_call 14; (with_reducible refine (kilnlaw5_Told.calls kj29  true _ A57.out).mono ?_); rintro e w63 ⟨rfl, hb⟩; have n0_ := Aside0.mk (below_step (by repeat (first | (with_reducible first | exact HB.out | apply below_alloc | apply pw_below_drewN | apply below_drew1) | exact HB.out)) hb); clear HB; have HB := n0_; clear n0_; (try clear hb); (try clear hb2); (try clear hk); (try clear hi)) | (go_at_call 20; (with_reducible refine (path_Order.calls kj29 t277 t278 t290 _ A59.out).mono ?_); rintro e w' ⟨rfl, ⟨nd, rfl⟩⟩; (try first | exact ⟨rfl, _, World.drewN_drewN _ _ _⟩ | exact ⟨rfl, _, Eq.trans (World.drewN_drewN _ _ _) (congrArg (World.drewN _) (Nat.add_assoc _ _ _))⟩)))
                                            repeat (go_quiet (first | (go_at_call 14; (with_reducible refine (kilnlaw5_Told.calls kj29  true _ A57.out).mono ?_); rintro e w63 ⟨rfl, hb⟩; have n0_ := Aside0.mk (below_step (by repeat (first | (with_reducible first | exact HB.out | apply below_alloc | apply pw_below_drewN | apply below_drew1) | exact HB.out)) hb); clear HB; have HB := n0_; clear n0_; (try clear hb); (try clear hb2); (try clear hk); (try clear hi)) | (go_at_call 20; (with_reducible refine (path_Order.calls kj29 t277 t278 t290 _ A59.out).mono ?_); rintro e w' ⟨rfl, ⟨nd, rfl⟩⟩; (try first | exact ⟨rfl, _, World.drewN_drewN _ _ _⟩ | exact ⟨rfl, _, Eq.trans (World.drewN_drewN _ _ _) (congrArg (World.drewN _) (Nat.add_assoc _ _ _))⟩))); try go_wp2_with (first | (go_at_call 14; (with_reducible refine (kilnlaw5_Told.calls kj29  true _ A57.out).mono ?_); rintro e w63 ⟨rfl, hb⟩; have n0_ := Aside0.mk (below_step (by repeat (first | (with_reducible first | exact HB.out | apply below_alloc | apply pw_below_drewN | apply below_drew1) | exact HB.out)) hb); clear HB; have HB := n0_; clear n0_; (try clear hb); (try clear hb2); (try clear hk); (try clear hi)) | (go_at_call 20; (with_reducible refine (path_Order.calls kj29 t277 t278 t290 _ A59.out).mono ?_); rintro e w' ⟨rfl, ⟨nd, rfl⟩⟩; (try first | exact ⟨rfl, _, World.drewN_drewN _ _ _⟩ | exact ⟨rfl, _, Eq.trans (World.drewN_drewN _ _ _) (congrArg (World.drewN _) (Nat.add_assoc _ _ _))⟩))))
                                            go_ret
                                            exact ⟨by first | rfl | (simp [errW_none, errW_some] <;> rfl) | (simp [*, errW_none, errW_some] <;> rfl), by repeat (first | (with_reducible first | exact HB.out | apply below_alloc | apply pw_below_drewN | apply below_drew1) | exact HB.out)⟩
                                        · replace c58 := Bool.eq_false_iff.mpr c58
                                          subst c58
                                          have H1 : (some false) = some r := by rw [if_neg (show ¬ (false = true) by decide)] at H; exact H
                                          clear H
                                          have H := H1
                                          clear H1
                                          obtain rfl := Option.some.inj H
                                          have p56 : 0 ≤ ((t277.size : Int) : Int) := of_decide_eq_true (by first | (with_reducible assumption) | assumption)
                                          have q56 : (t277.size : Int) < (t278.size : Int) := of_decide_eq_true (by first | (with_reducible assumption) | assumption)
                                          have hx56 := bt_at t278 (t277.size : Int)
                                          have hx56n := hx56 (by omega)
                                          simp only [Int.toNat_natCast] at hx56n
                                          replace p56 := eq_true p56
                                          replace q56 := eq_true q56
                                          go_wp2_with (first | (go_at_call 14; (with_reducible refine (kilnlaw5_Told.calls kj29  false _ A57.out).mono ?_); rintro e w64 ⟨rfl, hb⟩; have n0_ := Aside0.mk (below_step (by repeat (first | (with_reducible first | exact HB.out | apply below_alloc | apply pw_below_drewN | apply below_drew1) | exact HB.out)) hb); clear HB; have HB := n0_; clear n0_; (try clear hb); (try clear hb2); (try clear hk); (try clear hi)))
                                          repeat (go_quiet (first | (go_at_call 14; (with_reducible refine (kilnlaw5_Told.calls kj29  false _ A57.out).mono ?_); rintro e w64 ⟨rfl, hb⟩; have n0_ := Aside0.mk (below_step (by repeat (first | (with_reducible first | exact HB.out | apply below_alloc | apply pw_below_drewN | apply below_drew1) | exact HB.out)) hb); clear HB; have HB := n0_; clear n0_; (try clear hb); (try clear hb2); (try clear hk); (try clear hi))); try go_wp2_with (first | (go_at_call 14; (with_reducible refine (kilnlaw5_Told.calls kj29  false _ A57.out).mono ?_); rintro e w64 ⟨rfl, hb⟩; have n0_ := Aside0.mk (below_step (by repeat (first | (with_reducible first | exact HB.out | apply below_alloc | apply pw_below_drewN | apply below_drew1) | exact HB.out)) hb); clear HB; have HB := n0_; clear n0_; (try clear hb); (try clear hb2); (try clear hk); (try clear hi))))
                                          go_ret
                                          exact ⟨by first | rfl | (simp [errW_none, errW_some] <;> rfl) | (simp [*, errW_none, errW_some] <;> rfl), by repeat (first | (with_reducible first | exact HB.out | apply below_alloc | apply pw_below_drewN | apply below_drew1) | exact HB.out)⟩
                                      · rw [if_neg c55] at H
                                        exact absurd H (by simp)
                                    · rw [if_neg c54] at H
                                      have c54b0 : ((t278.extract 0 ((t277.size : Int) : Int).toNat).toList == t277.toList) = false := beq_eq_false_iff_ne.mpr c54
                                      have c54b0n := c54b0
                                      try simp only [Int.toNat_natCast] at c54b0n
                                      have c54b1 : ((t278.extract 0 ((t277.size : Int) : Int).toNat).toList != t277.toList) = true := bne_iff_ne.mpr c54
                                      have c54b1n := c54b1
                                      try simp only [Int.toNat_natCast] at c54b1n
                                      replace H := Option.bind_eq_some_iff.mp H
                                      obtain ⟨t292, A650, H⟩ := H
                                      replace H : (if t292 = true then ((path_Order.f kj29 t277 t278).bind fun t293 => (if t293 = 1 then ((path_Under.f t277 t278).bind fun t294 => (some (t294 == false))) else (some false))) else (some false)) = some r := H
                                      have A65 := Aside0.mk A650
                                      clear A650
                                      by_cases c66 : t292 = true
                                      · subst c66
                                        have H1 : ((path_Order.f kj29 t277 t278).bind fun t293 => (if t293 = 1 then ((path_Under.f t277 t278).bind fun t294 => (some (t294 == false))) else (some false))) = some r := by rw [if_pos rfl] at H; exact H
                                        clear H
                                        have H := H1
                                        clear H1
                                        replace H := Option.bind_eq_some_iff.mp H
                                        obtain ⟨t293, A670, H⟩ := H
                                        replace H : (if t293 = 1 then ((path_Under.f t277 t278).bind fun t294 => (some (t294 == false))) else (some false)) = some r := H
                                        have A67 := Aside0.mk A670
                                        clear A670
                                        by_cases c68 : t293 = 1
                                        · rw [if_pos c68] at H
                                          have c68b0 : (t293 == 1) = true := beq_iff_eq.mpr c68
                                          have c68b1 : (t293 != 1) = false := bne_eq_false_iff_eq.mpr c68
                                          clear c68
                                          replace H := Option.bind_eq_some_iff.mp H
                                          obtain ⟨t294, A690, H⟩ := H
                                          replace H : (some (t294 == false)) = some r := H
                                          have A69 := Aside0.mk A690
                                          clear A690
                                          obtain rfl := Option.some.inj H
                                          go_wp2_with (first | (go_at_call 14; (with_reducible refine (kilnlaw5_Told.calls kj29  true _ A65.out).mono ?_); rintro e w70 ⟨rfl, hb⟩; have n0_ := Aside0.mk (below_step (by repeat (first | (with_reducible first | exact HB.out | apply below_alloc | apply pw_below_drewN | apply below_drew1) | exact HB.out)) hb); clear HB; have HB := n0_; clear n0_; (try clear hb); (try clear hb2); (try clear hk); (try clear hi)) | (go_at_call 20; (with_reducible refine (path_Order.calls kj29 t277 t278 t293 _ A67.out).mono ?_); rintro e w' ⟨rfl, ⟨nd, rfl⟩⟩; (try first | exact ⟨rfl, _, World.drewN_drewN _ _ _⟩ | exact ⟨rfl, _, Eq.trans (World.drewN_drewN _ _ _) (congrArg (World.drewN _) (Nat.add_assoc _ _ _))⟩)) | (go_at_call 22; (with_reducible refine (path_Under.calls t277 t278 t294 _ A69.out).mono ?_); rintro e w' ⟨rfl, ⟨nd, rfl⟩⟩; (try first | exact ⟨rfl, _, World.drewN_drewN _ _ _⟩ | exact ⟨rfl, _, Eq.trans (World.drewN_drewN _ _ _) (congrArg (World.drewN _) (Nat.add_assoc _ _ _))⟩)))
                                          repeat (go_quiet (first | (go_at_call 14; (with_reducible refine (kilnlaw5_Told.calls kj29  true _ A65.out).mono ?_); rintro e w70 ⟨rfl, hb⟩; have n0_ := Aside0.mk (below_step (by repeat (first | (with_reducible first | exact HB.out | apply below_alloc | apply pw_below_drewN | apply below_drew1) | exact HB.out)) hb); clear HB; have HB := n0_; clear n0_; (try clear hb); (try clear hb2); (try clear hk); (try clear hi)) | (go_at_call 20; (with_reducible refine (path_Order.calls kj29 t277 t278 t293 _ A67.out).mono ?_); rintro e w' ⟨rfl, ⟨nd, rfl⟩⟩; (try first | exact ⟨rfl, _, World.drewN_drewN _ _ _⟩ | exact ⟨rfl, _, Eq.trans (World.drewN_drewN _ _ _) (congrArg (World.drewN _) (Nat.add_assoc _ _ _))⟩)) | (go_at_call 22; (with_reducible refine (path_Under.calls t277 t278 t294 _ A69.out).mono ?_); rintro e w' ⟨rfl, ⟨nd, rfl⟩⟩; (try first | exact ⟨rfl, _, World.drewN_drewN _ _ _⟩ | exact ⟨rfl, _, Eq.trans (World.drewN_drewN _ _ _) (congrArg (World.drewN _) (Nat.add_assoc _ _ _))⟩))); try go_wp2_with (first | (go_at_call 14; (with_reducible refine (kilnlaw5_Told.calls kj29  true _ A65.out).mono ?_); rintro e w70 ⟨rfl, hb⟩; have n0_ := Aside0.mk (below_step (by repeat (first | (with_reducible first | exact HB.out | apply below_alloc | apply pw_below_drewN | apply below_drew1) | exact HB.out)) hb); clear HB; have HB := n0_; clear n0_; (try clear hb); (try clear hb2); (try clear hk); (try clear hi)) | (go_at_call 20; (with_reducible refine (path_Order.calls kj29 t277 t278 t293 _ A67.out).mono ?_); rintro e w' ⟨rfl, ⟨nd, rfl⟩⟩; (try first | exact ⟨rfl, _, World.drewN_drewN _ _ _⟩ | exact ⟨rfl, _, Eq.trans (World.drewN_drewN _ _ _) (congrArg (World.drewN _) (Nat.add_assoc _ _ _))⟩)) | (go_at_call 22; (with_reducible refine (path_Under.calls t277 t278 t294 _ A69.out).mono ?_); rintro e w' ⟨rfl, ⟨nd, rfl⟩⟩; (try first | exact ⟨rfl, _, World.drewN_drewN _ _ _⟩ | exact ⟨rfl, _, Eq.trans (World.drewN_drewN _ _ _) (congrArg (World.drewN _) (Nat.add_assoc _ _ _))⟩))))
                                          go_ret
                                          exact ⟨by first | rfl | (simp [errW_none, errW_some] <;> rfl) | (simp [*, errW_none, errW_some] <;> rfl), by repeat (first | (with_reducible first | exact HB.out | apply below_alloc | apply pw_below_drewN | apply below_drew1) | exact HB.out)⟩
                                        · rw [if_neg c68] at H
                                          have c68b0 : (t293 == 1) = false := beq_eq_false_iff_ne.mpr c68
                                          have c68b1 : (t293 != 1) = true := bne_iff_ne.mpr c68
                                          obtain rfl := Option.some.inj H
                                          go_wp2_with (first | (go_at_call 14; (with_reducible refine (kilnlaw5_Told.calls kj29  true _ A65.out).mono ?_); rintro e w71 ⟨rfl, hb⟩; have n0_ := Aside0.mk (below_step (by repeat (first | (with_reducible first | exact HB.out | apply below_alloc | apply pw_below_drewN | apply below_drew1) | exact HB.out)) hb); clear HB; have HB := n0_; clear n0_; (try clear hb); (try clear hb2); (try clear hk); (try clear hi)) | (go_at_call 20; (with_reducible refine (path_Order.calls kj29 t277 t278 t293 _ A67.out).mono ?_); rintro e w' ⟨rfl, ⟨nd, rfl⟩⟩; (try first | exact ⟨rfl, _, World.drewN_drewN _ _ _⟩ | exact ⟨rfl, _, Eq.trans (World.drewN_drewN _ _ _) (congrArg (World.drewN _) (Nat.add_assoc _ _ _))⟩)))
                                          repeat (go_quiet (first | (go_at_call 14; (with_reducible refine (kilnlaw5_Told.calls kj29  true _ A65.out).mono ?_); rintro e w71 ⟨rfl, hb⟩; have n0_ := Aside0.mk (below_step (by repeat (first | (with_reducible first | exact HB.out | apply below_alloc | apply pw_below_drewN | apply below_drew1) | exact HB.out)) hb); clear HB; have HB := n0_; clear n0_; (try clear hb); (try clear hb2); (try clear hk); (try clear hi)) | (go_at_call 20; (with_reducible refine (path_Order.calls kj29 t277 t278 t293 _ A67.out).mono ?_); rintro e w' ⟨rfl, ⟨nd, rfl⟩⟩; (try first | exact ⟨rfl, _, World.drewN_drewN _ _ _⟩ | exact ⟨rfl, _, Eq.trans (World.drewN_drewN _ _ _) (congrArg (World.drewN _) (Nat.add_assoc _ _ _))⟩))); try go_wp2_with (first | (go_at_call 14; (with_reducible refine (kilnlaw5_Told.calls kj29  true _ A65.out).mono ?_); rintro e w71 ⟨rfl, hb⟩; have n0_ := Aside0.mk (below_step (by repeat (first | (with_reducible first | exact HB.out | apply below_alloc | apply pw_below_drewN | apply below_drew1) | exact HB.out)) hb); clear HB; have HB := n0_; clear n0_; (try clear hb); (try clear hb2); (try clear hk); (try clear hi)) | (go_at_call 20; (with_reducible refine (path_Order.calls kj29 t277 t278 t293 _ A67.out).mono ?_); rintro e w' ⟨rfl, ⟨nd, rfl⟩⟩; (try first | exact ⟨rfl, _, World.drewN_drewN _ _ _⟩ | exact ⟨rfl, _, Eq.trans (World.drewN_drewN _ _ _) (congrArg (World.drewN _) (Nat.add_assoc _ _ _))⟩))))
                                          go_ret
                                          exact ⟨by first | rfl | (simp [errW_none, errW_some] <;> rfl) | (simp [*, errW_none, errW_some] <;> rfl), by repeat (first | (with_reducible first | exact HB.out | apply below_alloc | apply pw_below_drewN | apply below_drew1) | exact HB.out)⟩
                                      · replace c66 := Bool.eq_false_iff.mpr c66
                                        subst c66
                                        have H1 : (some false) = some r := by rw [if_neg (show ¬ (false = true) by decide)] at H; exact H
                                        clear H
                                        have H := H1
                                        clear H1
                                        obtain rfl := Option.some.inj H
                                        go_wp2_with (first | (go_at_call 14; (with_reducible refine (kilnlaw5_Told.calls kj29  false _ A65.out).mono ?_); rintro e w72 ⟨rfl, hb⟩; have n0_ := Aside0.mk (below_step (by repeat (first | (with_reducible first | exact HB.out | apply below_alloc | apply pw_below_drewN | apply below_drew1) | exact HB.out)) hb); clear HB; have HB := n0_; clear n0_; (try clear hb); (try clear hb2); (try clear hk); (try clear hi)))
                                        repeat (go_quiet (first | (go_at_call 14; (with_reducible refine (kilnlaw5_Told.calls kj29  false _ A65.out).mono ?_); rintro e w72 ⟨rfl, hb⟩; have n0_ := Aside0.mk (below_step (by repeat (first | (with_reducible first | exact HB.out | apply below_alloc | apply pw_below_drewN | apply below_drew1) | exact HB.out)) hb); clear HB; have HB := n0_; clear n0_; (try clear hb); (try clear hb2); (try clear hk); (try clear hi))); try go_wp2_with (first | (go_at_call 14; (with_reducible refine (kilnlaw5_Told.calls kj29  false _ A65.out).mono ?_); rintro e w72 ⟨rfl, hb⟩; have n0_ := Aside0.mk (below_step (by repeat (first | (with_reducible first | exact HB.out | apply below_alloc | apply pw_below_drewN | apply below_drew1) | exact HB.out)) hb); clear HB; have HB := n0_; clear n0_; (try clear hb); (try clear hb2); (try clear hk); (try clear hi))))
                                        go_ret
                                        exact ⟨by first | rfl | (simp [errW_none, errW_some] <;> rfl) | (simp [*, errW_none, errW_some] <;> rfl), by repeat (first | (with_reducible first | exact HB.out | apply below_alloc | apply pw_below_drewN | apply below_drew1) | exact HB.out)⟩
                                  · rw [if_neg c53] at H
                                    exact absurd H (by simp)
                                · rw [if_neg c52] at H
                                  exact absurd H (by simp)
                              · rw [if_neg c51] at H
                                have c51b0 : decide ((t277.size : Int) < (t278.size : Int)) = false := decide_eq_false c51
                                have c51b1 : decide (t277.size < t278.size) = false := decide_eq_false (fun h => c51 (Int.ofNat_lt.mpr h))
                                clear c51
                                replace H := Option.bind_eq_some_iff.mp H
                                obtain ⟨t295, A730, H⟩ := H
                                replace H : (if t295 = true then ((path_Order.f kj29 t277 t278).bind fun t296 => (if t296 = 1 then ((path_Under.f t277 t278).bind fun t297 => (some (t297 == false))) else (some false))) else (some false)) = some r := H
                                have A73 := Aside0.mk A730
                                clear A730
                                by_cases c74 : t295 = true
                                · subst c74
                                  have H1 : ((path_Order.f kj29 t277 t278).bind fun t296 => (if t296 = 1 then ((path_Under.f t277 t278).bind fun t297 => (some (t297 == false))) else (some false))) = some r := by rw [if_pos rfl] at H; exact H
                                  clear H
                                  have H := H1
                                  clear H1
                                  replace H := Option.bind_eq_some_iff.mp H
                                  obtain ⟨t296, A750, H⟩ := H
                                  replace H : (if t296 = 1 then ((path_Under.f t277 t278).bind fun t297 => (some (t297 == false))) else (some false)) = some r := H
                                  have A75 := Aside0.mk A750
                                  clear A750
                                  by_cases c76 : t296 = 1
                                  · rw [if_pos c76] at H
                                    have c76b0 : (t296 == 1) = true := beq_iff_eq.mpr c76
                                    have c76b1 : (t296 != 1) = false := bne_eq_false_iff_eq.mpr c76
                                    clear c76
                                    replace H := Option.bind_eq_some_iff.mp H
                                    obtain ⟨t297, A770, H⟩ := H
                                    replace H : (some (t297 == false)) = some r := H
                                    have A77 := Aside0.mk A770
                                    clear A770
                                    obtain rfl := Option.some.inj H
                                    go_wp2_with (first | (go_at_call 14; (with_reducible refine (kilnlaw5_Told.calls kj29  true _ A73.out).mono ?_); rintro e w78 ⟨rfl, hb⟩; have n0_ := Aside0.mk (below_step (by repeat (first | (with_reducible first | exact HB.out | apply below_alloc | apply pw_below_drewN | apply below_drew1) | exact HB.out)) hb); clear HB; have HB := n0_; clear n0_; (try clear hb); (try clear hb2); (try clear hk); (try clear hi)) | (go_at_call 20; (with_reducible refine (path_Order.calls kj29 t277 t278 t296 _ A75.out).mono ?_); rintro e w' ⟨rfl, ⟨nd, rfl⟩⟩; (try first | exact ⟨rfl, _, World.drewN_drewN _ _ _⟩ | exact ⟨rfl, _, Eq.trans (World.drewN_drewN _ _ _) (congrArg (World.drewN _) (Nat.add_assoc _ _ _))⟩)) | (go_at_call 22; (with_reducible refine (path_Under.calls t277 t278 t297 _ A77.out).mono ?_); rintro e w' ⟨rfl, ⟨nd, rfl⟩⟩; (try first | exact ⟨rfl, _, World.drewN_drewN _ _ _⟩ | exact ⟨rfl, _, Eq.trans (World.drewN_drewN _ _ _) (congrArg (World.drewN _) (Nat.add_assoc _ _ _))⟩)))
                                    repeat (go_quiet (first | (go_at_call 14; (with_reducible refine (kilnlaw5_Told.calls kj29  true _ A73.out).mono ?_); rintro e w78 ⟨rfl, hb⟩; have n0_ := Aside0.mk (below_step (by repeat (first | (with_reducible first | exact HB.out | apply below_alloc | apply pw_below_drewN | apply below_drew1) | exact HB.out)) hb); clear HB; have HB := n0_; clear n0_; (try clear hb); (try clear hb2); (try clear hk); (try clear hi)) | (go_at_call 20; (with_reducible refine (path_Order.calls kj29 t277 t278 t296 _ A75.out).mono ?_); rintro e w' ⟨rfl, ⟨nd, rfl⟩⟩; (try first | exact ⟨rfl, _, World.drewN_drewN _ _ _⟩ | exact ⟨rfl, _, Eq.trans (World.drewN_drewN _ _ _) (congrArg (World.drewN _) (Nat.add_assoc _ _ _))⟩)) | (go_at_call 22; (with_reducible refine (path_Under.calls t277 t278 t297 _ A77.out).mono ?_); rintro e w' ⟨rfl, ⟨nd, rfl⟩⟩; (try first | exact ⟨rfl, _, World.drewN_drewN _ _ _⟩ | exact ⟨rfl, _, Eq.trans (World.drewN_drewN _ _ _) (congrArg (World.drewN _) (Nat.add_assoc _ _ _))⟩))); try go_wp2_with (first | (go_at_call 14; (with_reducible refine (kilnlaw5_Told.calls kj29  true _ A73.out).mono ?_); rintro e w78 ⟨rfl, hb⟩; have n0_ := Aside0.mk (below_step (by repeat (first | (with_reducible first | exact HB.out | apply below_alloc | apply pw_below_drewN | apply below_drew1) | exact HB.out)) hb); clear HB; have HB := n0_; clear n0_; (try clear hb); (try clear hb2); (try clear hk); (try clear hi)) | (go_at_call 20; (with_reducible refine (path_Order.calls kj29 t277 t278 t296 _ A75.out).mono ?_); rintro e w' ⟨rfl, ⟨nd, rfl⟩⟩; (try first | exact ⟨rfl, _, World.drewN_drewN _ _ _⟩ | exact ⟨rfl, _, Eq.trans (World.drewN_drewN _ _ _) (congrArg (World.drewN _) (Nat.add_assoc _ _ _))⟩)) | (go_at_call 22; (with_reducible refine (path_Under.calls t277 t278 t297 _ A77.out).mono ?_); rintro e w' ⟨rfl, ⟨nd, rfl⟩⟩; (try first | exact ⟨rfl, _, World.drewN_drewN _ _ _⟩ | exact ⟨rfl, _, Eq.trans (World.drewN_drewN _ _ _) (congrArg (World.drewN _) (Nat.add_assoc _ _ _))⟩))))
                                    go_ret
                                    exact ⟨by first | rfl | (simp [errW_none, errW_some] <;> rfl) | (simp [*, errW_none, errW_some] <;> rfl), by repeat (first | (with_reducible first | exact HB.out | apply below_alloc | apply pw_below_drewN | apply below_drew1) | exact HB.out)⟩
                                  · rw [if_neg c76] at H
                                    have c76b0 : (t296 == 1) = false := beq_eq_false_iff_ne.mpr c76
                                    have c76b1 : (t296 != 1) = true := bne_iff_ne.mpr c76
                                    obtain rfl := Option.some.inj H
                                    go_wp2_with (first | (go_at_call 14; (with_reducible refine (kilnlaw5_Told.calls kj29  true _ A73.out).mono ?_); rintro e w79 ⟨rfl, hb⟩; have n0_ := Aside0.mk (below_step (by repeat (first | (with_reducible first | exact HB.out | apply below_alloc | apply pw_below_drewN | apply below_drew1) | exact HB.out)) hb); clear HB; have HB := n0_; clear n0_; (try clear hb); (try clear hb2); (try clear hk); (try clear hi)) | (go_at_call 20; (with_reducible refine (path_Order.calls kj29 t277 t278 t296 _ A75.out).mono ?_); rintro e w' ⟨rfl, ⟨nd, rfl⟩⟩; (try first | exact ⟨rfl, _, World.drewN_drewN _ _ _⟩ | exact ⟨rfl, _, Eq.trans (World.drewN_drewN _ _ _) (congrArg (World.drewN _) (Nat.add_assoc _ _ _))⟩)))
                                    repeat (go_quiet (first | (go_at_call 14; (with_reducible refine (kilnlaw5_Told.calls kj29  true _ A73.out).mono ?_); rintro e w79 ⟨rfl, hb⟩; have n0_ := Aside0.mk (below_step (by repeat (first | (with_reducible first | exact HB.out | apply below_alloc | apply pw_below_drewN | apply below_drew1) | exact HB.out)) hb); clear HB; have HB := n0_; clear n0_; (try clear hb); (try clear hb2); (try clear hk); (try clear hi)) | (go_at_call 20; (with_reducible refine (path_Order.calls kj29 t277 t278 t296 _ A75.out).mono ?_); rintro e w' ⟨rfl, ⟨nd, rfl⟩⟩; (try first | exact ⟨rfl, _, World.drewN_drewN _ _ _⟩ | exact ⟨rfl, _, Eq.trans (World.drewN_drewN _ _ _) (congrArg (World.drewN _) (Nat.add_assoc _ _ _))⟩))); try go_wp2_with (first | (go_at_call 14; (with_reducible refine (kilnlaw5_Told.calls kj29  true _ A73.out).mono ?_); rintro e w79 ⟨rfl, hb⟩; have n0_ := Aside0.mk (below_step (by repeat (first | (with_reducible first | exact HB.out | apply below_alloc | apply pw_below_drewN | apply below_drew1) | exact HB.out)) hb); clear HB; have HB := n0_; clear n0_; (try clear hb); (try clear hb2); (try clear hk); (try clear hi)) | (go_at_call 20; (with_reducible refine (path_Order.calls kj29 t277 t278 t296 _ A75.out).mono ?_); rintro e w' ⟨rfl, ⟨nd, rfl⟩⟩; (try first | exact ⟨rfl, _, World.drewN_drewN _ _ _⟩ | exact ⟨rfl, _, Eq.trans (World.drewN_drewN _ _ _) (congrArg (World.drewN _) (Nat.add_assoc _ _ _))⟩))))
                                    go_ret
                                    exact ⟨by first | rfl | (simp [errW_none, errW_some] <;> rfl) | (simp [*, errW_none, errW_some] <;> rfl), by repeat (first | (with_reducible first | exact HB.out | apply below_alloc | apply pw_below_drewN | apply below_drew1) | exact HB.out)⟩
                                · replace c74 := Bool.eq_false_iff.mpr c74
                                  subst c74
                                  have H1 : (some false) = some r := by rw [if_neg (show ¬ (false = true) by decide)] at H; exact H
                                  clear H
                                  have H := H1
                                  clear H1
                                  obtain rfl := Option.some.inj H
                                  go_wp2_with (first | (go_at_call 14; (with_reducible refine (kilnlaw5_Told.calls kj29  false _ A73.out).mono ?_); rintro e w80 ⟨rfl, hb⟩; have n0_ := Aside0.mk (below_step (by repeat (first | (with_reducible first | exact HB.out | apply below_alloc | apply pw_below_drewN | apply below_drew1) | exact HB.out)) hb); clear HB; have HB := n0_; clear n0_; (try clear hb); (try clear hb2); (try clear hk); (try clear hi)))
                                  repeat (go_quiet (first | (go_at_call 14; (with_reducible refine (kilnlaw5_Told.calls kj29  false _ A73.out).mono ?_); rintro e w80 ⟨rfl, hb⟩; have n0_ := Aside0.mk (below_step (by repeat (first | (with_reducible first | exact HB.out | apply below_alloc | apply pw_below_drewN | apply below_drew1) | exact HB.out)) hb); clear HB; have HB := n0_; clear n0_; (try clear hb); (try clear hb2); (try clear hk); (try clear hi))); try go_wp2_with (first | (go_at_call 14; (with_reducible refine (kilnlaw5_Told.calls kj29  false _ A73.out).mono ?_); rintro e w80 ⟨rfl, hb⟩; have n0_ := Aside0.mk (below_step (by repeat (first | (with_reducible first | exact HB.out | apply below_alloc | apply pw_below_drewN | apply below_drew1) | exact HB.out)) hb); clear HB; have HB := n0_; clear n0_; (try clear hb); (try clear hb2); (try clear hk); (try clear hi))))
                                  go_ret
                                  exact ⟨by first | rfl | (simp [errW_none, errW_some] <;> rfl) | (simp [*, errW_none, errW_some] <;> rfl), by repeat (first | (with_reducible first | exact HB.out | apply below_alloc | apply pw_below_drewN | apply below_drew1) | exact HB.out)⟩
                        · replace c32 := Bool.eq_false_iff.mpr c32
                          subst c32
                          have H1 : (if t277.toList = ([] : List UInt8) then ((kilnlaw5_Told.f kj29).bind fun t298 => (if t298 = true then ((path_Order.f kj29 t277 t278).bind fun t299 => (if t299 = x5_27 then ((path_Under.f t277 t278).bind fun t300 => (some (t300 == true))) else (some false))) else (some false))) else (if t277.toList = t278.toList then ((kilnlaw5_Told.f kj29).bind fun t301 => (if t301 = true then ((path_Order.f kj29 t277 t278).bind fun t302 => (if t302 = x5_27 then ((path_Under.f t277 t278).bind fun t303 => (some (t303 == true))) else (some false))) else (some false))) else (if (t278.size : Int) > (t277.size : Int) then (if 0 ≤ (t277.size : Int) then (if (t277.size : Int) ≤ (t278.size : Int) then (if (t278.extract 0 ((t277.size : Int) : Int).toNat).toList = t277.toList then (if (t277.size : Int) < (t278.size : Int) then ((kilnlaw5_Told.f kj29).bind fun t304 => (if t304 = true then ((path_Order.f kj29 t277 t278).bind fun t305 => (if t305 = x5_27 then ((path_Under.f t277 t278).bind fun t306 => (some (t306 == ((bt t278 (t277.size : Int)) == 47)))) else (some false))) else (some false))) else (none)) else ((kilnlaw5_Told.f kj29).bind fun t307 => (if t307 = true then ((path_Order.f kj29 t277 t278).bind fun t308 => (if t308 = x5_27 then ((path_Under.f t277 t278).bind fun t309 => (some (t309 == false))) else (some false))) else (some false)))) else (none)) else (none)) else ((kilnlaw5_Told.f kj29).bind fun t310 => (if t310 = true then ((path_Order.f kj29 t277 t278).bind fun t311 => (if t311 = x5_27 then ((path_Under.f t277 t278).bind fun t312 => (some (t312 == false))) else (some false))) else (some false)))))) = some r := by rw [if_neg (show ¬ (false = true) by decide)] at H; exact H
                          clear H
                          have H := H1
                          clear H1
                          by_cases c81 : t277.toList = ([] : List UInt8)
                          · rw [if_pos c81] at H
                            have c81b0 : (t277.toList == ([] : List UInt8)) = true := beq_iff_eq.mpr c81
                            have c81b1 : (t277.toList != ([] : List UInt8)) = false := bne_eq_false_iff_eq.mpr c81
                            clear c81
                            replace H := Option.bind_eq_some_iff.mp H
                            obtain ⟨t298, A820, H⟩ := H
                            replace H : (if t298 = true then ((path_Order.f kj29 t277 t278).bind fun t299 => (if t299 = x5_27 then ((path_Under.f t277 t278).bind fun t300 => (some (t300 == true))) else (some false))) else (some false)) = some r := H
                            have A82 := Aside0.mk A820
                            clear A820
                            by_cases c83 : t298 = true
                            · subst c83
                              have H1 : ((path_Order.f kj29 t277 t278).bind fun t299 => (if t299 = x5_27 then ((path_Under.f t277 t278).bind fun t300 => (some (t300 == true))) else (some false))) = some r := by rw [if_pos rfl] at H; exact H
                              clear H
                              have H := H1
                              clear H1
                              replace H := Option.bind_eq_some_iff.mp H
                              obtain ⟨t299, A840, H⟩ := H
                              replace H : (if t299 = x5_27 then ((path_Under.f t277 t278).bind fun t300 => (some (t300 == true))) else (some false)) = some r := H
                              have A84 := Aside0.mk A840
                              clear A840
                              by_cases c85 : t299 = x5_27
                              · rw [if_pos c85] at H
                                have c85b0 : (t299 == x5_27) = true := beq_iff_eq.mpr c85
                                have c85b1 : (t299 != x5_27) = false := bne_eq_false_iff_eq.mpr c85
                                clear c85
                                replace H := Option.bind_eq_some_iff.mp H
                                obtain ⟨t300, A860, H⟩ := H
                                replace H : (some (t300 == true)) = some r := H
                                have A86 := Aside0.mk A860
                                clear A860
                                obtain rfl := Option.some.inj H
                                go_wp2_with (first | (go_at_call 14; (with_reducible refine (kilnlaw5_Told.calls kj29  true _ A82.out).mono ?_); rintro e w87 ⟨rfl, hb⟩; have n0_ := Aside0.mk (below_step (by repeat (first | (with_reducible first | exact HB.out | apply below_alloc | apply pw_below_drewN | apply below_drew1) | exact HB.out)) hb); clear HB; have HB := n0_; clear n0_; (try clear hb); (try clear hb2); (try clear hk); (try clear hi)) | (go_at_call 20; (with_reducible refine (path_Order.calls kj29 t277 t278 t299 _ A84.out).mono ?_); rintro e w' ⟨rfl, ⟨nd, rfl⟩⟩; (try first | exact ⟨rfl, _, World.drewN_drewN _ _ _⟩ | exact ⟨rfl, _, Eq.trans (World.drewN_drewN _ _ _) (congrArg (World.drewN _) (Nat.add_assoc _ _ _))⟩)) | (go_at_call 22; (with_reducible refine (path_Under.calls t277 t278 t300 _ A86.out).mono ?_); rintro e w' ⟨rfl, ⟨nd, rfl⟩⟩; (try first | exact ⟨rfl, _, World.drewN_drewN _ _ _⟩ | exact ⟨rfl, _, Eq.trans (World.drewN_drewN _ _ _) (congrArg (World.drewN _) (Nat.add_assoc _ _ _))⟩)))
                                repeat (go_quiet (first | (go_at_call 14; (with_reducible refine (kilnlaw5_Told.calls kj29  true _ A82.out).mono ?_); rintro e w87 ⟨rfl, hb⟩; have n0_ := Aside0.mk (below_step (by repeat (first | (with_reducible first | exact HB.out | apply below_alloc | apply pw_below_drewN | apply below_drew1) | exact HB.out)) hb); clear HB; have HB := n0_; clear n0_; (try clear hb); (try clear hb2); (try clear hk); (try clear hi)) | (go_at_call 20; (with_reducible refine (path_Order.calls kj29 t277 t278 t299 _ A84.out).mono ?_); rintro e w' ⟨rfl, ⟨nd, rfl⟩⟩; (try first | exact ⟨rfl, _, World.drewN_drewN _ _ _⟩ | exact ⟨rfl, _, Eq.trans (World.drewN_drewN _ _ _) (congrArg (World.drewN _) (Nat.add_assoc _ _ _))⟩)) | (go_at_call 22; (with_reducible refine (path_Under.calls t277 t278 t300 _ A86.out).mono ?_); rintro e w' ⟨rfl, ⟨nd, rfl⟩⟩; (try first | exact ⟨rfl, _, World.drewN_drewN _ _ _⟩ | exact ⟨rfl, _, Eq.trans (World.drewN_drewN _ _ _) (congrArg (World.drewN _) (Nat.add_assoc _ _ _))⟩))); try go_wp2_with (first | (go_at_call 14; (with_reducible refine (kilnlaw5_Told.calls kj29  true _ A82.out).mono ?_); rintro e w87 ⟨rfl, hb⟩; have n0_ := Aside0.mk (below_step (by repeat (first | (with_reducible first | exact HB.out | apply below_alloc | apply pw_below_drewN | apply below_drew1) | exact HB.out)) hb); clear HB; have HB := n0_; clear n0_; (try clear hb); (try clear hb2); (try clear hk); (try clear hi)) | (go_at_call 20; (with_reducible refine (path_Order.calls kj29 t277 t278 t299 _ A84.out).mono ?_); rintro e w' ⟨rfl, ⟨nd, rfl⟩⟩; (try first | exact ⟨rfl, _, World.drewN_drewN _ _ _⟩ | exact ⟨rfl, _, Eq.trans (World.drewN_drewN _ _ _) (congrArg (World.drewN _) (Nat.add_assoc _ _ _))⟩)) | (go_at_call 22; (with_reducible refine (path_Under.calls t277 t278 t300 _ A86.out).mono ?_); rintro e w' ⟨rfl, ⟨nd, rfl⟩⟩; (try first | exact ⟨rfl, _, World.drewN_drewN _ _ _⟩ | exact ⟨rfl, _, Eq.trans (World.drewN_drewN _ _ _) (congrArg (World.drewN _) (Nat.add_assoc _ _ _))⟩))))
                                go_ret
                                exact ⟨by first | rfl | (simp [errW_none, errW_some] <;> rfl) | (simp [*, errW_none, errW_some] <;> rfl), by repeat (first | (with_reducible first | exact HB.out | apply below_alloc | apply pw_below_drewN | apply below_drew1) | exact HB.out)⟩
                              · rw [if_neg c85] at H
                                have c85b0 : (t299 == x5_27) = false := beq_eq_false_iff_ne.mpr c85
                                have c85b1 : (t299 != x5_27) = true := bne_iff_ne.mpr c85
                                obtain rfl := Option.some.inj H
                                go_wp2_with (first | (go_at_call 14; (with_reducible refine (kilnlaw5_Told.calls kj29  true _ A82.out).mono ?_); rintro e w88 ⟨rfl, hb⟩; have n0_ := Aside0.mk (below_step (by repeat (first | (with_reducible first | exact HB.out | apply below_alloc | apply pw_below_drewN | apply below_drew1) | exact HB.out)) hb); clear HB; have HB := n0_; clear n0_; (try clear hb); (try clear hb2); (try clear hk); (try clear hi)) | (go_at_call 20; (with_reducible refine (path_Order.calls kj29 t277 t278 t299 _ A84.out).mono ?_); rintro e w' ⟨rfl, ⟨nd, rfl⟩⟩; (try first | exact ⟨rfl, _, World.drewN_drewN _ _ _⟩ | exact ⟨rfl, _, Eq.trans (World.drewN_drewN _ _ _) (congrArg (World.drewN _) (Nat.add_assoc _ _ _))⟩)))
                                repeat (go_quiet (first | (go_at_call 14; (with_reducible refine (kilnlaw5_Told.calls kj29  true _ A82.out).mono ?_); rintro e w88 ⟨rfl, hb⟩; have n0_ := Aside0.mk (below_step (by repeat (first | (with_reducible first | exact HB.out | apply below_alloc | apply pw_below_drewN | apply below_drew1) | exact HB.out)) hb); clear HB; have HB := n0_; clear n0_; (try clear hb); (try clear hb2); (try clear hk); (try clear hi)) | (go_at_call 20; (with_reducible refine (path_Order.calls kj29 t277 t278 t299 _ A84.out).mono ?_); rintro e w' ⟨rfl, ⟨nd, rfl⟩⟩; (try first | exact ⟨rfl, _, World.drewN_drewN _ _ _⟩ | exact ⟨rfl, _, Eq.trans (World.drewN_drewN _ _ _) (congrArg (World.drewN _) (Nat.add_assoc _ _ _))⟩))); try go_wp2_with (first | (go_at_call 14; (with_reducible refine (kilnlaw5_Told.calls kj29  true _ A82.out).mono ?_); rintro e w88 ⟨rfl, hb⟩; have n0_ := Aside0.mk (below_step (by repeat (first | (with_reducible first | exact HB.out | apply below_alloc | apply pw_below_drewN | apply below_drew1) | exact HB.out)) hb); clear HB; have HB := n0_; clear n0_; (try clear hb); (try clear hb2); (try clear hk); (try clear hi)) | (go_at_call 20; (with_reducible refine (path_Order.calls kj29 t277 t278 t299 _ A84.out).mono ?_); rintro e w' ⟨rfl, ⟨nd, rfl⟩⟩; (try first | exact ⟨rfl, _, World.drewN_drewN _ _ _⟩ | exact ⟨rfl, _, Eq.trans (World.drewN_drewN _ _ _) (congrArg (World.drewN _) (Nat.add_assoc _ _ _))⟩))))
                                go_ret
                                exact ⟨by first | rfl | (simp [errW_none, errW_some] <;> rfl) | (simp [*, errW_none, errW_some] <;> rfl), by repeat (first | (with_reducible first | exact HB.out | apply below_alloc | apply pw_below_drewN | apply below_drew1) | exact HB.out)⟩
                            · replace c83 := Bool.eq_false_iff.mpr c83
                              subst c83
                              have H1 : (some false) = some r := by rw [if_neg (show ¬ (false = true) by decide)] at H; exact H
                              clear H
                              have H := H1
                              clear H1
                              obtain rfl := Option.some.inj H
                              go_wp2_with (first | (go_at_call 14; (with_reducible refine (kilnlaw5_Told.calls kj29  false _ A82.out).mono ?_); rintro e w89 ⟨rfl, hb⟩; have n0_ := Aside0.mk (below_step (by repeat (first | (with_reducible first | exact HB.out | apply below_alloc | apply pw_below_drewN | apply below_drew1) | exact HB.out)) hb); clear HB; have HB := n0_; clear n0_; (try clear hb); (try clear hb2); (try clear hk); (try clear hi)))
                              repeat (go_quiet (first | (go_at_call 14; (with_reducible refine (kilnlaw5_Told.calls kj29  false _ A82.out).mono ?_); rintro e w89 ⟨rfl, hb⟩; have n0_ := Aside0.mk (below_step (by repeat (first | (with_reducible first | exact HB.out | apply below_alloc | apply pw_below_drewN | apply below_drew1) | exact HB.out)) hb); clear HB; have HB := n0_; clear n0_; (try clear hb); (try clear hb2); (try clear hk); (try clear hi))); try go_wp2_with (first | (go_at_call 14; (with_reducible refine (kilnlaw5_Told.calls kj29  false _ A82.out).mono ?_); rintro e w89 ⟨rfl, hb⟩; have n0_ := Aside0.mk (below_step (by repeat (first | (with_reducible first | exact HB.out | apply below_alloc | apply pw_below_drewN | apply below_drew1) | exact HB.out)) hb); clear HB; have HB := n0_; clear n0_; (try clear hb); (try clear hb2); (try clear hk); (try clear hi))))
                              go_ret
                              exact ⟨by first | rfl | (simp [errW_none, errW_some] <;> rfl) | (simp [*, errW_none, errW_some] <;> rfl), by repeat (first | (with_reducible first | exact HB.out | apply below_alloc | apply pw_below_drewN | apply below_drew1) | exact HB.out)⟩
                          · rw [if_neg c81] at H
                            have c81b0 : (t277.toList == ([] : List UInt8)) = false := beq_eq_false_iff_ne.mpr c81
                            have c81b1 : (t277.toList != ([] : List UInt8)) = true := bne_iff_ne.mpr c81
                            by_cases c90 : t277.toList = t278.toList
                            · rw [if_pos c90] at H
                              have c90b0 : (t277.toList == t278.toList) = true := beq_iff_eq.mpr c90
                              have c90b1 : (t277.toList != t278.toList) = false := bne_eq_false_iff_eq.mpr c90
                              clear c90
                              replace H := Option.bind_eq_some_iff.mp H
                              obtain ⟨t301, A910, H⟩ := H
                              replace H : (if t301 = true then ((path_Order.f kj29 t277 t278).bind fun t302 => (if t302 = x5_27 then ((path_Under.f t277 t278).bind fun t303 => (some (t303 == true))) else (some false))) else (some false)) = some r := H
                              have A91 := Aside0.mk A910
                              clear A910
                              by_cases c92 : t301 = true
                              · subst c92
                                have H1 : ((path_Order.f kj29 t277 t278).bind fun t302 => (if t302 = x5_27 then ((path_Under.f t277 t278).bind fun t303 => (some (t303 == true))) else (some false))) = some r := by rw [if_pos rfl] at H; exact H
                                clear H
                                have H := H1
                                clear H1
                                replace H := Option.bind_eq_some_iff.mp H
                                obtain ⟨t302, A930, H⟩ := H
                                replace H : (if t302 = x5_27 then ((path_Under.f t277 t278).bind fun t303 => (some (t303 == true))) else (some false)) = some r := H
                                have A93 := Aside0.mk A930
                                clear A930
                                by_cases c94 : t302 = x5_27
                                · rw [if_pos c94] at H
                                  have c94b0 : (t302 == x5_27) = true := beq_iff_eq.mpr c94
                                  have c94b1 : (t302 != x5_27) = false := bne_eq_false_iff_eq.mpr c94
                                  clear c94
                                  replace H := Option.bind_eq_some_iff.mp H
                                  obtain ⟨t303, A950, H⟩ := H
                                  replace H : (some (t303 == true)) = some r := H
                                  have A95 := Aside0.mk A950
                                  clear A950
                                  obtain rfl := Option.some.inj H
                                  go_wp2_with (first | (go_at_call 14; (with_reducible refine (kilnlaw5_Told.calls kj29  true _ A91.out).mono ?_); rintro e w96 ⟨rfl, hb⟩; have n0_ := Aside0.mk (below_step (by repeat (first | (with_reducible first | exact HB.out | apply below_alloc | apply pw_below_drewN | apply below_drew1) | exact HB.out)) hb); clear HB; have HB := n0_; clear n0_; (try clear hb); (try clear hb2); (try clear hk); (try clear hi)) | (go_at_call 20; (with_reducible refine (path_Order.calls kj29 t277 t278 t302 _ A93.out).mono ?_); rintro e w' ⟨rfl, ⟨nd, rfl⟩⟩; (try first | exact ⟨rfl, _, World.drewN_drewN _ _ _⟩ | exact ⟨rfl, _, Eq.trans (World.drewN_drewN _ _ _) (congrArg (World.drewN _) (Nat.add_assoc _ _ _))⟩)) | (go_at_call 22; (with_reducible refine (path_Under.calls t277 t278 t303 _ A95.out).mono ?_); rintro e w' ⟨rfl, ⟨nd, rfl⟩⟩; (try first | exact ⟨rfl, _, World.drewN_drewN _ _ _⟩ | exact ⟨rfl, _, Eq.trans (World.drewN_drewN _ _ _) (congrArg (World.drewN _) (Nat.add_assoc _ _ _))⟩)))
                                  repeat (go_quiet (first | (go_at_call 14; (with_reducible refine (kilnlaw5_Told.calls kj29  true _ A91.out).mono ?_); rintro e w96 ⟨rfl, hb⟩; have n0_ := Aside0.mk (below_step (by repeat (first | (with_reducible first | exact HB.out | apply below_alloc | apply pw_below_drewN | apply below_drew1) | exact HB.out)) hb); clear HB; have HB := n0_; clear n0_; (try clear hb); (try clear hb2); (try clear hk); (try clear hi)) | (go_at_call 20; (with_reducible refine (path_Order.calls kj29 t277 t278 t302 _ A93.out).mono ?_); rintro e w' ⟨rfl, ⟨nd, rfl⟩⟩; (try first | exact ⟨rfl, _, World.drewN_drewN _ _ _⟩ | exact ⟨rfl, _, Eq.trans (World.drewN_drewN _ _ _) (congrArg (World.drewN _) (Nat.add_assoc _ _ _))⟩)) | (go_at_call 22; (with_reducible refine (path_Under.calls t277 t278 t303 _ A95.out).mono ?_); rintro e w' ⟨rfl, ⟨nd, rfl⟩⟩; (try first | exact ⟨rfl, _, World.drewN_drewN _ _ _⟩ | exact ⟨rfl, _, Eq.trans (World.drewN_drewN _ _ _) (congrArg (World.drewN _) (Nat.add_assoc _ _ _))⟩))); try go_wp2_with (first | (go_at_call 14; (with_reducible refine (kilnlaw5_Told.calls kj29  true _ A91.out).mono ?_); rintro e w96 ⟨rfl, hb⟩; have n0_ := Aside0.mk (below_step (by repeat (first | (with_reducible first | exact HB.out | apply below_alloc | apply pw_below_drewN | apply below_drew1) | exact HB.out)) hb); clear HB; have HB := n0_; clear n0_; (try clear hb); (try clear hb2); (try clear hk); (try clear hi)) | (go_at_call 20; (with_reducible refine (path_Order.calls kj29 t277 t278 t302 _ A93.out).mono ?_); rintro e w' ⟨rfl, ⟨nd, rfl⟩⟩; (try first | exact ⟨rfl, _, World.drewN_drewN _ _ _⟩ | exact ⟨rfl, _, Eq.trans (World.drewN_drewN _ _ _) (congrArg (World.drewN _) (Nat.add_assoc _ _ _))⟩)) | (go_at_call 22; (with_reducible refine (path_Under.calls t277 t278 t303 _ A95.out).mono ?_); rintro e w' ⟨rfl, ⟨nd, rfl⟩⟩; (try first | exact ⟨rfl, _, World.drewN_drewN _ _ _⟩ | exact ⟨rfl, _, Eq.trans (World.drewN_drewN _ _ _) (congrArg (World.drewN _) (Nat.add_assoc _ _ _))⟩))))
                                  go_ret
                                  exact ⟨by first | rfl | (simp [errW_none, errW_some] <;> rfl) | (simp [*, errW_none, errW_some] <;> rfl), by repeat (first | (with_reducible first | exact HB.out | apply below_alloc | apply pw_below_drewN | apply below_drew1) | exact HB.out)⟩
                                · rw [if_neg c94] at H
                                  have c94b0 : (t302 == x5_27) = false := beq_eq_false_iff_ne.mpr c94
                                  have c94b1 : (t302 != x5_27) = true := bne_iff_ne.mpr c94
                                  obtain rfl := Option.some.inj H
                                  go_wp2_with (first | (go_at_call 14; (with_reducible refine (kilnlaw5_Told.calls kj29  true _ A91.out).mono ?_); rintro e w97 ⟨rfl, hb⟩; have n0_ := Aside0.mk (below_step (by repeat (first | (with_reducible first | exact HB.out | apply below_alloc | apply pw_below_drewN | apply below_drew1) | exact HB.out)) hb); clear HB; have HB := n0_; clear n0_; (try clear hb); (try clear hb2); (try clear hk); (try clear hi)) | (go_at_call 20; (with_reducible refine (path_Order.calls kj29 t277 t278 t302 _ A93.out).mono ?_); rintro e w' ⟨rfl, ⟨nd, rfl⟩⟩; (try first | exact ⟨rfl, _, World.drewN_drewN _ _ _⟩ | exact ⟨rfl, _, Eq.trans (World.drewN_drewN _ _ _) (congrArg (World.drewN _) (Nat.add_assoc _ _ _))⟩)))
                                  repeat (go_quiet (first | (go_at_call 14; (with_reducible refine (kilnlaw5_Told.calls kj29  true _ A91.out).mono ?_); rintro e w97 ⟨rfl, hb⟩; have n0_ := Aside0.mk (below_step (by repeat (first | (with_reducible first | exact HB.out | apply below_alloc | apply pw_below_drewN | apply below_drew1) | exact HB.out)) hb); clear HB; have HB := n0_; clear n0_; (try clear hb); (try clear hb2); (try clear hk); (try clear hi)) | (go_at_call 20; (with_reducible refine (path_Order.calls kj29 t277 t278 t302 _ A93.out).mono ?_); rintro e w' ⟨rfl, ⟨nd, rfl⟩⟩; (try first | exact ⟨rfl, _, World.drewN_drewN _ _ _⟩ | exact ⟨rfl, _, Eq.trans (World.drewN_drewN _ _ _) (congrArg (World.drewN _) (Nat.add_assoc _ _ _))⟩))); try go_wp2_with (first | (go_at_call 14; (with_reducible refine (kilnlaw5_Told.calls kj29  true _ A91.out).mono ?_); rintro e w97 ⟨rfl, hb⟩; have n0_ := Aside0.mk (below_step (by repeat (first | (with_reducible first | exact HB.out | apply below_alloc | apply pw_below_drewN | apply below_drew1) | exact HB.out)) hb); clear HB; have HB := n0_; clear n0_; (try clear hb); (try clear hb2); (try clear hk); (try clear hi)) | (go_at_call 20; (with_reducible refine (path_Order.calls kj29 t277 t278 t302 _ A93.out).mono ?_); rintro e w' ⟨rfl, ⟨nd, rfl⟩⟩; (try first | exact ⟨rfl, _, World.drewN_drewN _ _ _⟩ | exact ⟨rfl, _, Eq.trans (World.drewN_drewN _ _ _) (congrArg (World.drewN _) (Nat.add_assoc _ _ _))⟩))))
                                  go_ret
                                  exact ⟨by first | rfl | (simp [errW_none, errW_some] <;> rfl) | (simp [*, errW_none, errW_some] <;> rfl), by repeat (first | (with_reducible first | exact HB.out | apply below_alloc | apply pw_below_drewN | apply below_drew1) | exact HB.out)⟩
                              · replace c92 := Bool.eq_false_iff.mpr c92
                                subst c92
                                have H1 : (some false) = some r := by rw [if_neg (show ¬ (false = true) by decide)] at H; exact H
                                clear H
                                have H := H1
                                clear H1
                                obtain rfl := Option.some.inj H
                                go_wp2_with (first | (go_at_call 14; (with_reducible refine (kilnlaw5_Told.calls kj29  false _ A91.out).mono ?_); rintro e w98 ⟨rfl, hb⟩; have n0_ := Aside0.mk (below_step (by repeat (first | (with_reducible first | exact HB.out | apply below_alloc | apply pw_below_drewN | apply below_drew1) | exact HB.out)) hb); clear HB; have HB := n0_; clear n0_; (try clear hb); (try clear hb2); (try clear hk); (try clear hi)))
                                repeat (go_quiet (first | (go_at_call 14; (with_reducible refine (kilnlaw5_Told.calls kj29  false _ A91.out).mono ?_); rintro e w98 ⟨rfl, hb⟩; have n0_ := Aside0.mk (below_step (by repeat (first | (with_reducible first | exact HB.out | apply below_alloc | apply pw_below_drewN | apply below_drew1) | exact HB.out)) hb); clear HB; have HB := n0_; clear n0_; (try clear hb); (try clear hb2); (try clear hk); (try clear hi))); try go_wp2_with (first | (go_at_call 14; (with_reducible refine (kilnlaw5_Told.calls kj29  false _ A91.out).mono ?_); rintro e w98 ⟨rfl, hb⟩; have n0_ := Aside0.mk (below_step (by repeat (first | (with_reducible first | exact HB.out | apply below_alloc | apply pw_below_drewN | apply below_drew1) | exact HB.out)) hb); clear HB; have HB := n0_; clear n0_; (try clear hb); (try clear hb2); (try clear hk); (try clear hi))))
                                go_ret
                                exact ⟨by first | rfl | (simp [errW_none, errW_some] <;> rfl) | (simp [*, errW_none, errW_some] <;> rfl), by repeat (first | (with_reducible first | exact HB.out | apply below_alloc | apply pw_below_drewN | apply below_drew1) | exact HB.out)⟩
                            · rw [if_neg c90] at H
                              have c90b0 : (t277.toList == t278.toList) = false := beq_eq_false_iff_ne.mpr c90
                              have c90b1 : (t277.toList != t278.toList) = true := bne_iff_ne.mpr c90
                              by_cases c99 : (t278.size : Int) > (t277.size : Int)
                              · rw [if_pos c99] at H
                                have c99b0 : decide ((t277.size : Int) < (t278.size : Int)) = true := decide_eq_true c99
                                have c99b1 : decide (t277.size < t278.size) = true := decide_eq_true (Int.ofNat_lt.mp c99)
                                clear c99
                                by_cases c100 : 0 ≤ (t277.size : Int)
                                · rw [if_pos c100] at H
                                  have c100b0 := eq_true c100
                                  have c100b1 : decide (0 ≤ (t277.size : Int)) = true := decide_eq_true c100
                                  clear c100
                                  by_cases c101 : (t277.size : Int) ≤ (t278.size : Int)
                                  · rw [if_pos c101] at H
                                    have c101b0 := eq_true c101
                                    have c101b1 : decide ((t277.size : Int) ≤ (t278.size : Int)) = true := decide_eq_true c101
                                    clear c101
                                    by_cases c102 : (t278.extract 0 ((t277.size : Int) : Int).toNat).toList = t277.toList
                                    · rw [if_pos c102] at H
                                      have c102b0 : ((t278.extract 0 ((t277.size : Int) : Int).toNat).toList == t277.toList) = true := beq_iff_eq.mpr c102
                                      have c102b0n := c102b0
                                      try simp only [Int.toNat_natCast] at c102b0n
                                      have c102b1 : ((t278.extract 0 ((t277.size : Int) : Int).toNat).toList != t277.toList) = false := bne_eq_false_iff_eq.mpr c102
                                      have c102b1n := c102b1
                                      try simp only [Int.toNat_natCast] at c102b1n
                                      clear c102
                                      by_cases c103 : (t277.size : Int) < (t278.size : Int)
                                      · rw [if_pos c103] at H
                                        have c103b0 : decide ((t277.size : Int) < (t278.size : Int)) = true := decide_eq_true c103
                                        have c103b1 : decide (t277.size < t278.size) = true := decide_eq_true (Int.ofNat_lt.mp c103)
                                        clear c103
                                        replace H := Option.bind_eq_some_iff.mp H
                                        obtain ⟨t304, A1050, H⟩ := H
                                        replace H : (if t304 = true then ((path_Order.f kj29 t277 t278).bind fun t305 => (if t305 = x5_27 then ((path_Under.f t277 t278).bind fun t306 => (some (t306 == ((bt t278 (t277.size : Int)) == 47)))) else (some false))) else (some false)) = some r := H
                                        have A105 := Aside0.mk A1050
                                        clear A1050
                                        by_cases c106 : t304 = true
                                        · subst c106
                                          have H1 : ((path_Order.f kj29 t277 t278).bind fun t305 => (if t305 = x5_27 then ((path_Under.f t277 t278).bind fun t306 => (some (t306 == ((bt t278 (t277.size : Int)) == 47)))) else (some false))) = some r := by rw [if_pos rfl] at H; exact H
                                          clear H
                                          have H := H1
                                          clear H1
                                          replace H := Option.bind_eq_some_iff.mp H
                                          obtain ⟨t305, A1070, H⟩ := H
                                          replace H : (if t305 = x5_27 then ((path_Under.f t277 t278).bind fun t306 => (some (t306 == ((bt t278 (t277.size : Int)) == 47)))) else (some false)) = some r := H
                                          have A107 := Aside0.mk A1070
                                          clear A1070
                                          by_cases c108 : t305 = x5_27
                                          · rw [if_pos c108] at H
                                            have c108b0 : (t305 == x5_27) = true := beq_iff_eq.mpr c108
                                            have c108b1 : (t305 != x5_27) = false := bne_eq_false_iff_eq.mpr c108
                                            clear c108
                                            replace H := Option.bind_eq_some_iff.mp H
                                            obtain ⟨t306, A1090, H⟩ := H
                                            replace H : (some (t306 == ((bt t278 (t277.size : Int)) == 47))) = some r := H
                                            have A109 := Aside0.mk A1090
                                            clear A1090
                                            obtain rfl := Option.some.inj H
                                            have p104 : 0 ≤ ((t277.size : Int) : Int) := of_decide_eq_true (by first | (with_reducible assumption) | assumption)
                                            have q104 : (t277.size : Int) < (t278.size : Int) := of_decide_eq_true (by first | (with_reducible assumption) | assumption)
                                            have hx104 := bt_at t278 (t277.size : Int)
                                            have hx104n := hx104 (by omega)
                                            simp only [Int.toNat_natCast] at hx104n
                                            replace p104 := eq_true p104
                                            replace q104 := eq_true q104
                                            go_wp2_with (first | (go_at_call 14; (with_reducible refine (kilnlaw5_Told.calls kj29  true _ A105.out).mono ?_); rintro e w110 ⟨rfl, hb⟩; have n0_ := Aside0.mk (below_step (by repeat (first | (with_reducible first | exact HB.out | apply below_alloc | apply pw_below_drewN | apply below_drew1) | exact HB.out)) hb); clear HB; have HB := n0_; clear n0_; (try clear hb); (try clear hb2); (try clear hk); (try clear hi)) | (go_at_call 20; (with_reducible refine (path_Order.calls kj29 t277 t278 t305 _ A107.out).mono ?_); rintro e w' ⟨rfl, ⟨nd, rfl⟩⟩; (try first | exact ⟨rfl, _, World.drewN_drewN _ _ _⟩ | exact ⟨rfl, _, Eq.trans (World.drewN_drewN _ _ _) (congrArg (World.drewN _) (Nat.add_assoc _ _ _))⟩)) | (go_at_call 22; (with_reducible refine (path_Under.calls t277 t278 t306 _ A109.out).mono ?_); rintro e w' ⟨rfl, ⟨nd, rfl⟩⟩; (try first | exact ⟨rfl, _, World.drewN_drewN _ _ _⟩ | exact ⟨rfl, _, Eq.trans (World.drewN_drewN _ _ _) (congrArg (World.drewN _) (Nat.add_assoc _ _ _))⟩)))
                                            repeat (go_quiet (first | (go_at_call 14; (with_reducible refine (kilnlaw5_Told.calls kj29  true _ A105.out).mono ?_); rintro e w110 ⟨rfl, hb⟩; have n0_ := Aside0.mk (below_step (by repeat (first | (with_reducible first | exact HB.out | apply below_alloc | apply pw_below_drewN | apply below_drew1) | exact HB.out)) hb); clear HB; have HB := n0_; clear n0_; (try clear hb); (try clear hb2); (try clear hk); (try clear hi)) | (go_at_call 20; (with_reducible refine (path_Order.calls kj29 t277 t278 t305 _ A107.out).mono ?_); rintro e w' ⟨rfl, ⟨nd, rfl⟩⟩; (try first | exact ⟨rfl, _, World.drewN_drewN _ _ _⟩ | exact ⟨rfl, _, Eq.trans (World.drewN_drewN _ _ _) (congrArg (World.drewN _) (Nat.add_assoc _ _ _))⟩)) | (go_at_call 22; (with_reducible refine (path_Under.calls t277 t278 t306 _ A109.out).mono ?_); rintro e w' ⟨rfl, ⟨nd, rfl⟩⟩; (try first | exact ⟨rfl, _, World.drewN_drewN _ _ _⟩ | exact ⟨rfl, _, Eq.trans (World.drewN_drewN _ _ _) (congrArg (World.drewN _) (Nat.add_assoc _ _ _))⟩))); try go_wp2_with (first | (go_at_call 14; (with_reducible refine (kilnlaw5_Told.calls kj29  true _ A105.out).mono ?_); rintro e w110 ⟨rfl, hb⟩; have n0_ := Aside0.mk (below_step (by repeat (first | (with_reducible first | exact HB.out | apply below_alloc | apply pw_below_drewN | apply below_drew1) | exact HB.out)) hb); clear HB; have HB := n0_; clear n0_; (try clear hb); (try clear hb2); (try clear hk); (try clear hi)) | (go_at_call 20; (with_reducible refine (path_Order.calls kj29 t277 t278 t305 _ A107.out).mono ?_); rintro e w' ⟨rfl, ⟨nd, rfl⟩⟩; (try first | exact ⟨rfl, _, World.drewN_drewN _ _ _⟩ | exact ⟨rfl, _, Eq.trans (World.drewN_drewN _ _ _) (congrArg (World.drewN _) (Nat.add_assoc _ _ _))⟩)) | (go_at_call 22; (with_reducible refine (path_Under.calls t277 t278 t306 _ A109.out).mono ?_); rintro e w' ⟨rfl, ⟨nd, rfl⟩⟩; (try first | exact ⟨rfl, _, World.drewN_drewN _ _ _⟩ | exact ⟨rfl, _, Eq.trans (World.drewN_drewN _ _ _) (congrArg (World.drewN _) (Nat.add_assoc _ _ _))⟩))))
                                            go_ret
                                            exact ⟨by first | rfl | (simp [errW_none, errW_some] <;> rfl) | (simp [*, errW_none, errW_some] <;> rfl), by repeat (first | (with_reducible first | exact HB.out | apply below_alloc | apply pw_below_drewN | apply below_drew1) | exact HB.out)⟩
                                          · rw [if_neg c108] at H
                                            have c108b0 : (t305 == x5_27) = false := beq_eq_false_iff_ne.mpr c108
                                            have c108b1 : (t305 != x5_27) = true := bne_iff_ne.mpr c108
                                            obtain rfl := Option.some.inj H
                                            have p104 : 0 ≤ ((t277.size : Int) : Int) := of_decide_eq_true (by first | (with_reducible assumption) | assumption)
                                            have q104 : (t277.size : Int) < (t278.size : Int) := of_decide_eq_true (by first | (with_reducible assumption) | assumption)
                                            have hx104 := bt_at t278 (t277.size : Int)
                                            have hx104n := hx104 (by omega)
                                            simp only [Int.toNat_natCast] at hx104n
                                            replace p104 := eq_true p104
                                            replace q104 := eq_true q104
                                            go_wp2_with (first | (go_at_call 14; (with_reducible refine (kilnlaw5_Told.calls kj29  true _ A105.out).mono ?_); rintro e w111 ⟨rfl, hb⟩; have n0_ := Aside0.mk (below_step (by repeat (first | (with_reducible first | exact HB.out | apply below_alloc | apply pw_below_drewN | apply below_drew1) | exact HB.out)) hb); clear HB; have HB := n0_; clear n0_; (try clear hb); (try clear hb2); (try clear hk); (try clear hi)) | (go_at_call 20; (with_reducible refine (path_Order.calls kj29 t277 t278 t305 _ A107.out).mono ?_); rintro e w' ⟨rfl, ⟨nd, rfl⟩⟩; (try first | exact ⟨rfl, _, World.drewN_drewN _ _ _⟩ | exact ⟨rfl, _, Eq.trans (World.drewN_drewN _ _ _) (congrArg (World.drewN _) (Nat.add_assoc _ _ _))⟩)))
                                            repeat (go_quiet (first | (go_at_call 14; (with_reducible refine (kilnlaw5_Told.calls kj29  true _ A105.out).mono ?_); rintro e w111 ⟨rfl, hb⟩; have n0_ := Aside0.mk (below_step (by repeat (first | (with_reducible first | exact HB.out | apply below_alloc | apply pw_below_drewN | apply below_drew1) | exact HB.out)) hb); clear HB; have HB := n0_; clear n0_; (try clear hb); (try clear hb2); (try clear hk); (try clear hi)) | (go_at_call 20; (with_reducible refine (path_Order.calls kj29 t277 t278 t305 _ A107.out).mono ?_); rintro e w' ⟨rfl, ⟨nd, rfl⟩⟩; (try first | exact ⟨rfl, _, World.drewN_drewN _ _ _⟩ | exact ⟨rfl, _, Eq.trans (World.drewN_drewN _ _ _) (congrArg (World.drewN _) (Nat.add_assoc _ _ _))⟩))); try go_wp2_with (first | (go_at_call 14; (with_reducible refine (kilnlaw5_Told.calls kj29  true _ A105.out).mono ?_); rintro e w111 ⟨rfl, hb⟩; have n0_ := Aside0.mk (below_step (by repeat (first | (with_reducible first | exact HB.out | apply below_alloc | apply pw_below_drewN | apply below_drew1) | exact HB.out)) hb); clear HB; have HB := n0_; clear n0_; (try clear hb); (try clear hb2); (try clear hk); (try clear hi)) | (go_at_call 20; (with_reducible refine (path_Order.calls kj29 t277 t278 t305 _ A107.out).mono ?_); rintro e w' ⟨rfl, ⟨nd, rfl⟩⟩; (try first | exact ⟨rfl, _, World.drewN_drewN _ _ _⟩ | exact ⟨rfl, _, Eq.trans (World.drewN_drewN _ _ _) (congrArg (World.drewN _) (Nat.add_assoc _ _ _))⟩))))
                                            go_ret
                                            exact ⟨by first | rfl | (simp [errW_none, errW_some] <;> rfl) | (simp [*, errW_none, errW_some] <;> rfl), by repeat (first | (with_reducible first | exact HB.out | apply below_alloc | apply pw_below_drewN | apply below_drew1) | exact HB.out)⟩
                                        · replace c106 := Bool.eq_false_iff.mpr c106
                                          subst c106
                                          have H1 : (some false) = some r := by rw [if_neg (show ¬ (false = true) by decide)] at H; exact H
                                          clear H
                                          have H := H1
                                          clear H1
                                          obtain rfl := Option.some.inj H
                                          have p104 : 0 ≤ ((t277.size : Int) : Int) := of_decide_eq_true (by first | (with_reducible assumption) | assumption)
                                          have q104 : (t277.size : Int) < (t278.size : Int) := of_decide_eq_true (by first | (with_reducible assumption) | assumption)
                                          have hx104 := bt_at t278 (t277.size : Int)
                                          have hx104n := hx104 (by omega)
                                          simp only [Int.toNat_natCast] at hx104n
                                          replace p104 := eq_true p104
                                          replace q104 := eq_true q104
                                          go_wp2_with (first | (go_at_call 14; (with_reducible refine (kilnlaw5_Told.calls kj29  false _ A105.out).mono ?_); rintro e w112 ⟨rfl, hb⟩; have n0_ := Aside0.mk (below_step (by repeat (first | (with_reducible first | exact HB.out | apply below_alloc | apply pw_below_drewN | apply below_drew1) | exact HB.out)) hb); clear HB; have HB := n0_; clear n0_; (try clear hb); (try clear hb2); (try clear hk); (try clear hi)))
                                          repeat (go_quiet (first | (go_at_call 14; (with_reducible refine (kilnlaw5_Told.calls kj29  false _ A105.out).mono ?_); rintro e w112 ⟨rfl, hb⟩; have n0_ := Aside0.mk (below_step (by repeat (first | (with_reducible first | exact HB.out | apply below_alloc | apply pw_below_drewN | apply below_drew1) | exact HB.out)) hb); clear HB; have HB := n0_; clear n0_; (try clear hb); (try clear hb2); (try clear hk); (try clear hi))); try go_wp2_with (first | (go_at_call 14; (with_reducible refine (kilnlaw5_Told.calls kj29  false _ A105.out).mono ?_); rintro e w112 ⟨rfl, hb⟩; have n0_ := Aside0.mk (below_step (by repeat (first | (with_reducible first | exact HB.out | apply below_alloc | apply pw_below_drewN | apply below_drew1) | exact HB.out)) hb); clear HB; have HB := n0_; clear n0_; (try clear hb); (try clear hb2); (try clear hk); (try clear hi))))
                                          go_ret
                                          exact ⟨by first | rfl | (simp [errW_none, errW_some] <;> rfl) | (simp [*, errW_none, errW_some] <;> rfl), by repeat (first | (with_reducible first | exact HB.out | apply below_alloc | apply pw_below_drewN | apply below_drew1) | exact HB.out)⟩
                                      · rw [if_neg c103] at H
                                        exact absurd H (by simp)
                                    · rw [if_neg c102] at H
                                      have c102b0 : ((t278.extract 0 ((t277.size : Int) : Int).toNat).toList == t277.toList) = false := beq_eq_false_iff_ne.mpr c102
                                      have c102b0n := c102b0
                                      try simp only [Int.toNat_natCast] at c102b0n
                                      have c102b1 : ((t278.extract 0 ((t277.size : Int) : Int).toNat).toList != t277.toList) = true := bne_iff_ne.mpr c102
                                      have c102b1n := c102b1
                                      try simp only [Int.toNat_natCast] at c102b1n
                                      replace H := Option.bind_eq_some_iff.mp H
                                      obtain ⟨t307, A1130, H⟩ := H
                                      replace H : (if t307 = true then ((path_Order.f kj29 t277 t278).bind fun t308 => (if t308 = x5_27 then ((path_Under.f t277 t278).bind fun t309 => (some (t309 == false))) else (some false))) else (some false)) = some r := H
                                      have A113 := Aside0.mk A1130
                                      clear A1130
                                      by_cases c114 : t307 = true
                                      · subst c114
                                        have H1 : ((path_Order.f kj29 t277 t278).bind fun t308 => (if t308 = x5_27 then ((path_Under.f t277 t278).bind fun t309 => (some (t309 == false))) else (some false))) = some r := by rw [if_pos rfl] at H; exact H
                                        clear H
                                        have H := H1
                                        clear H1
                                        replace H := Option.bind_eq_some_iff.mp H
                                        obtain ⟨t308, A1150, H⟩ := H
                                        replace H : (if t308 = x5_27 then ((path_Under.f t277 t278).bind fun t309 => (some (t309 == false))) else (some false)) = some r := H
                                        have A115 := Aside0.mk A1150
                                        clear A1150
                                        by_cases c116 : t308 = x5_27
                                        · rw [if_pos c116] at H
                                          have c116b0 : (t308 == x5_27) = true := beq_iff_eq.mpr c116
                                          have c116b1 : (t308 != x5_27) = false := bne_eq_false_iff_eq.mpr c116
                                          clear c116
                                          replace H := Option.bind_eq_some_iff.mp H
                                          obtain ⟨t309, A1170, H⟩ := H
                                          replace H : (some (t309 == false)) = some r := H
                                          have A117 := Aside0.mk A1170
                                          clear A1170
                                          obtain rfl := Option.some.inj H
                                          go_wp2_with (first | (go_at_call 14; (with_reducible refine (kilnlaw5_Told.calls kj29  true _ A113.out).mono ?_); rintro e w118 ⟨rfl, hb⟩; have n0_ := Aside0.mk (below_step (by repeat (first | (with_reducible first | exact HB.out | apply below_alloc | apply pw_below_drewN | apply below_drew1) | exact HB.out)) hb); clear HB; have HB := n0_; clear n0_; (try clear hb); (try clear hb2); (try clear hk); (try clear hi)) | (go_at_call 20; (with_reducible refine (path_Order.calls kj29 t277 t278 t308 _ A115.out).mono ?_); rintro e w' ⟨rfl, ⟨nd, rfl⟩⟩; (try first | exact ⟨rfl, _, World.drewN_drewN _ _ _⟩ | exact ⟨rfl, _, Eq.trans (World.drewN_drewN _ _ _) (congrArg (World.drewN _) (Nat.add_assoc _ _ _))⟩)) | (go_at_call 22; (with_reducible refine (path_Under.calls t277 t278 t309 _ A117.out).mono ?_); rintro e w' ⟨rfl, ⟨nd, rfl⟩⟩; (try first | exact ⟨rfl, _, World.drewN_drewN _ _ _⟩ | exact ⟨rfl, _, Eq.trans (World.drewN_drewN _ _ _) (congrArg (World.drewN _) (Nat.add_assoc _ _ _))⟩)))
                                          repeat (go_quiet (first | (go_at_call 14; (with_reducible refine (kilnlaw5_Told.calls kj29  true _ A113.out).mono ?_); rintro e w118 ⟨rfl, hb⟩; have n0_ := Aside0.mk (below_step (by repeat (first | (with_reducible first | exact HB.out | apply below_alloc | apply pw_below_drewN | apply below_drew1) | exact HB.out)) hb); clear HB; have HB := n0_; clear n0_; (try clear hb); (try clear hb2); (try clear hk); (try clear hi)) | (go_at_call 20; (with_reducible refine (path_Order.calls kj29 t277 t278 t308 _ A115.out).mono ?_); rintro e w' ⟨rfl, ⟨nd, rfl⟩⟩; (try first | exact ⟨rfl, _, World.drewN_drewN _ _ _⟩ | exact ⟨rfl, _, Eq.trans (World.drewN_drewN _ _ _) (congrArg (World.drewN _) (Nat.add_assoc _ _ _))⟩)) | (go_at_call 22; (with_reducible refine (path_Under.calls t277 t278 t309 _ A117.out).mono ?_); rintro e w' ⟨rfl, ⟨nd, rfl⟩⟩; (try first | exact ⟨rfl, _, World.drewN_drewN _ _ _⟩ | exact ⟨rfl, _, Eq.trans (World.drewN_drewN _ _ _) (congrArg (World.drewN _) (Nat.add_assoc _ _ _))⟩))); try go_wp2_with (first | (go_at_call 14; (with_reducible refine (kilnlaw5_Told.calls kj29  true _ A113.out).mono ?_); rintro e w118 ⟨rfl, hb⟩; have n0_ := Aside0.mk (below_step (by repeat (first | (with_reducible first | exact HB.out | apply below_alloc | apply pw_below_drewN | apply below_drew1) | exact HB.out)) hb); clear HB; have HB := n0_; clear n0_; (try clear hb); (try clear hb2); (try clear hk); (try clear hi)) | (go_at_call 20; (with_reducible refine (path_Order.calls kj29 t277 t278 t308 _ A115.out).mono ?_); rintro e w' ⟨rfl, ⟨nd, rfl⟩⟩; (try first | exact ⟨rfl, _, World.drewN_drewN _ _ _⟩ | exact ⟨rfl, _, Eq.trans (World.drewN_drewN _ _ _) (congrArg (World.drewN _) (Nat.add_assoc _ _ _))⟩)) | (go_at_call 22; (with_reducible refine (path_Under.calls t277 t278 t309 _ A117.out).mono ?_); rintro e w' ⟨rfl, ⟨nd, rfl⟩⟩; (try first | exact ⟨rfl, _, World.drewN_drewN _ _ _⟩ | exact ⟨rfl, _, Eq.trans (World.drewN_drewN _ _ _) (congrArg (World.drewN _) (Nat.add_assoc _ _ _))⟩))))
                                          go_ret
                                          exact ⟨by first | rfl | (simp [errW_none, errW_some] <;> rfl) | (simp [*, errW_none, errW_some] <;> rfl), by repeat (first | (with_reducible first | exact HB.out | apply below_alloc | apply pw_below_drewN | apply below_drew1) | exact HB.out)⟩
                                        · rw [if_neg c116] at H
                                          have c116b0 : (t308 == x5_27) = false := beq_eq_false_iff_ne.mpr c116
                                          have c116b1 : (t308 != x5_27) = true := bne_iff_ne.mpr c116
                                          obtain rfl := Option.some.inj H
                                          go_wp2_with (first | (go_at_call 14; (with_reducible refine (kilnlaw5_Told.calls kj29  true _ A113.out).mono ?_); rintro e w119 ⟨rfl, hb⟩; have n0_ := Aside0.mk (below_step (by repeat (first | (with_reducible first | exact HB.out | apply below_alloc | apply pw_below_drewN | apply below_drew1) | exact HB.out)) hb); clear HB; have HB := n0_; clear n0_; (try clear hb); (try clear hb2); (try clear hk); (try clear hi)) | (go_at_call 20; (with_reducible refine (path_Order.calls kj29 t277 t278 t308 _ A115.out).mono ?_); rintro e w' ⟨rfl, ⟨nd, rfl⟩⟩; (try first | exact ⟨rfl, _, World.drewN_drewN _ _ _⟩ | exact ⟨rfl, _, Eq.trans (World.drewN_drewN _ _ _) (congrArg (World.drewN _) (Nat.add_assoc _ _ _))⟩)))
                                          repeat (go_quiet (first | (go_at_call 14; (with_reducible refine (kilnlaw5_Told.calls kj29  true _ A113.out).mono ?_); rintro e w119 ⟨rfl, hb⟩; have n0_ := Aside0.mk (below_step (by repeat (first | (with_reducible first | exact HB.out | apply below_alloc | apply pw_below_drewN | apply below_drew1) | exact HB.out)) hb); clear HB; have HB := n0_; clear n0_; (try clear hb); (try clear hb2); (try clear hk); (try clear hi)) | (go_at_call 20; (with_reducible refine (path_Order.calls kj29 t277 t278 t308 _ A115.out).mono ?_); rintro e w' ⟨rfl, ⟨nd, rfl⟩⟩; (try first | exact ⟨rfl, _, World.drewN_drewN _ _ _⟩ | exact ⟨rfl, _, Eq.trans (World.drewN_drewN _ _ _) (congrArg (World.drewN _) (Nat.add_assoc _ _ _))⟩))); try go_wp2_with (first | (go_at_call 14; (with_reducible refine (kilnlaw5_Told.calls kj29  true _ A113.out).mono ?_); rintro e w119 ⟨rfl, hb⟩; have n0_ := Aside0.mk (below_step (by repeat (first | (with_reducible first | exact HB.out | apply below_alloc | apply pw_below_drewN | apply below_drew1) | exact HB.out)) hb); clear HB; have HB := n0_; clear n0_; (try clear hb); (try clear hb2); (try clear hk); (try clear hi)) | (go_at_call 20; (with_reducible refine (path_Order.calls kj29 t277 t278 t308 _ A115.out).mono ?_); rintro e w' ⟨rfl, ⟨nd, rfl⟩⟩; (try first | exact ⟨rfl, _, World.drewN_drewN _ _ _⟩ | exact ⟨rfl, _, Eq.trans (World.drewN_drewN _ _ _) (congrArg (World.drewN _) (Nat.add_assoc _ _ _))⟩))))
                                          go_ret
                                          exact ⟨by first | rfl | (simp [errW_none, errW_some] <;> rfl) | (simp [*, errW_none, errW_some] <;> rfl), by repeat (first | (with_reducible first | exact HB.out | apply below_alloc | apply pw_below_drewN | apply below_drew1) | exact HB.out)⟩
                                      · replace c114 := Bool.eq_false_iff.mpr c114
                                        subst c114
                                        have H1 : (some false) = some r := by rw [if_neg (show ¬ (false = true) by decide)] at H; exact H
                                        clear H
                                        have H := H1
                                        clear H1
                                        obtain rfl := Option.some.inj H
                                        go_wp2_with (first | (go_at_call 14; (with_reducible refine (kilnlaw5_Told.calls kj29  false _ A113.out).mono ?_); rintro e w120 ⟨rfl, hb⟩; have n0_ := Aside0.mk (below_step (by repeat (first | (with_reducible first | exact HB.out | apply below_alloc | apply pw_below_drewN | apply below_drew1) | exact HB.out)) hb); clear HB; have HB := n0_; clear n0_; (try clear hb); (try clear hb2); (try clear hk); (try clear hi)))
                                        repeat (go_quiet (first | (go_at_call 14; (with_reducible refine (kilnlaw5_Told.calls kj29  false _ A113.out).mono ?_); rintro e w120 ⟨rfl, hb⟩; have n0_ := Aside0.mk (below_step (by repeat (first | (with_reducible first | exact HB.out | apply below_alloc | apply pw_below_drewN | apply below_drew1) | exact HB.out)) hb); clear HB; have HB := n0_; clear n0_; (try clear hb); (try clear hb2); (try clear hk); (try clear hi))); try go_wp2_with (first | (go_at_call 14; (with_reducible refine (kilnlaw5_Told.calls kj29  false _ A113.out).mono ?_); rintro e w120 ⟨rfl, hb⟩; have n0_ := Aside0.mk (below_step (by repeat (first | (with_reducible first | exact HB.out | apply below_alloc | apply pw_below_drewN | apply below_drew1) | exact HB.out)) hb); clear HB; have HB := n0_; clear n0_; (try clear hb); (try clear hb2); (try clear hk); (try clear hi))))
                                        go_ret
                                        exact ⟨by first | rfl | (simp [errW_none, errW_some] <;> rfl) | (simp [*, errW_none, errW_some] <;> rfl), by repeat (first | (with_reducible first | exact HB.out | apply below_alloc | apply pw_below_drewN | apply below_drew1) | exact HB.out)⟩
                                  · rw [if_neg c101] at H
                                    exact absurd H (by simp)
                                · rw [if_neg c100] at H
                                  exact absurd H (by simp)
                              · rw [if_neg c99] at H
                                have c99b0 : decide ((t277.size : Int) < (t278.size : Int)) = false := decide_eq_false c99
                                have c99b1 : decide (t277.size < t278.size) = false := decide_eq_false (fun h => c99 (Int.ofNat_lt.mpr h))
                                clear c99
                                replace H := Option.bind_eq_some_iff.mp H
                                obtain ⟨t310, A1210, H⟩ := H
                                replace H : (if t310 = true then ((path_Order.f kj29 t277 t278).bind fun t311 => (if t311 = x5_27 then ((path_Under.f t277 t278).bind fun t312 => (some (t312 == false))) else (some false))) else (some false)) = some r := H
                                have A121 := Aside0.mk A1210
                                clear A1210
                                by_cases c122 : t310 = true
                                · subst c122
                                  have H1 : ((path_Order.f kj29 t277 t278).bind fun t311 => (if t311 = x5_27 then ((path_Under.f t277 t278).bind fun t312 => (some (t312 == false))) else (some false))) = some r := by rw [if_pos rfl] at H; exact H
                                  clear H
                                  have H := H1
                                  clear H1
                                  replace H := Option.bind_eq_some_iff.mp H
                                  obtain ⟨t311, A1230, H⟩ := H
                                  replace H : (if t311 = x5_27 then ((path_Under.f t277 t278).bind fun t312 => (some (t312 == false))) else (some false)) = some r := H
                                  have A123 := Aside0.mk A1230
                                  clear A1230
                                  by_cases c124 : t311 = x5_27
                                  · rw [if_pos c124] at H
                                    have c124b0 : (t311 == x5_27) = true := beq_iff_eq.mpr c124
                                    have c124b1 : (t311 != x5_27) = false := bne_eq_false_iff_eq.mpr c124
                                    clear c124
                                    replace H := Option.bind_eq_some_iff.mp H
                                    obtain ⟨t312, A1250, H⟩ := H
                                    replace H : (some (t312 == false)) = some r := H
                                    have A125 := Aside0.mk A1250
                                    clear A1250
                                    obtain rfl := Option.some.inj H
                                    go_wp2_with (first | (go_at_call 14; (with_reducible refine (kilnlaw5_Told.calls kj29  true _ A121.out).mono ?_); rintro e w126 ⟨rfl, hb⟩; have n0_ := Aside0.mk (below_step (by repeat (first | (with_reducible first | exact HB.out | apply below_alloc | apply pw_below_drewN | apply below_drew1) | exact HB.out)) hb); clear HB; have HB := n0_; clear n0_; (try clear hb); (try clear hb2); (try clear hk); (try clear hi)) | (go_at_call 20; (with_reducible refine (path_Order.calls kj29 t277 t278 t311 _ A123.out).mono ?_); rintro e w' ⟨rfl, ⟨nd, rfl⟩⟩; (try first | exact ⟨rfl, _, World.drewN_drewN _ _ _⟩ | exact ⟨rfl, _, Eq.trans (World.drewN_drewN _ _ _) (congrArg (World.drewN _) (Nat.add_assoc _ _ _))⟩)) | (go_at_call 22; (with_reducible refine (path_Under.calls t277 t278 t312 _ A125.out).mono ?_); rintro e w' ⟨rfl, ⟨nd, rfl⟩⟩; (try first | exact ⟨rfl, _, World.drewN_drewN _ _ _⟩ | exact ⟨rfl, _, Eq.trans (World.drewN_drewN _ _ _) (congrArg (World.drewN _) (Nat.add_assoc _ _ _))⟩)))
                                    repeat (go_quiet (first | (go_at_call 14; (with_reducible refine (kilnlaw5_Told.calls kj29  true _ A121.out).mono ?_); rintro e w126 ⟨rfl, hb⟩; have n0_ := Aside0.mk (below_step (by repeat (first | (with_reducible first | exact HB.out | apply below_alloc | apply pw_below_drewN | apply below_drew1) | exact HB.out)) hb); clear HB; have HB := n0_; clear n0_; (try clear hb); (try clear hb2); (try clear hk); (try clear hi)) | (go_at_call 20; (with_reducible refine (path_Order.calls kj29 t277 t278 t311 _ A123.out).mono ?_); rintro e w' ⟨rfl, ⟨nd, rfl⟩⟩; (try first | exact ⟨rfl, _, World.drewN_drewN _ _ _⟩ | exact ⟨rfl, _, Eq.trans (World.drewN_drewN _ _ _) (congrArg (World.drewN _) (Nat.add_assoc _ _ _))⟩)) | (go_at_call 22; (with_reducible refine (path_Under.calls t277 t278 t312 _ A125.out).mono ?_); rintro e w' ⟨rfl, ⟨nd, rfl⟩⟩; (try first | exact ⟨rfl, _, World.drewN_drewN _ _ _⟩ | exact ⟨rfl, _, Eq.trans (World.drewN_drewN _ _ _) (congrArg (World.drewN _) (Nat.add_assoc _ _ _))⟩))); try go_wp2_with (first | (go_at_call 14; (with_reducible refine (kilnlaw5_Told.calls kj29  true _ A121.out).mono ?_); rintro e w126 ⟨rfl, hb⟩; have n0_ := Aside0.mk (below_step (by repeat (first | (with_reducible first | exact HB.out | apply below_alloc | apply pw_below_drewN | apply below_drew1) | exact HB.out)) hb); clear HB; have HB := n0_; clear n0_; (try clear hb); (try clear hb2); (try clear hk); (try clear hi)) | (go_at_call 20; (with_reducible refine (path_Order.calls kj29 t277 t278 t311 _ A123.out).mono ?_); rintro e w' ⟨rfl, ⟨nd, rfl⟩⟩; (try first | exact ⟨rfl, _, World.drewN_drewN _ _ _⟩ | exact ⟨rfl, _, Eq.trans (World.drewN_drewN _ _ _) (congrArg (World.drewN _) (Nat.add_assoc _ _ _))⟩)) | (go_at_call 22; (with_reducible refine (path_Under.calls t277 t278 t312 _ A125.out).mono ?_); rintro e w' ⟨rfl, ⟨nd, rfl⟩⟩; (try first | exact ⟨rfl, _, World.drewN_drewN _ _ _⟩ | exact ⟨rfl, _, Eq.trans (World.drewN_drewN _ _ _) (congrArg (World.drewN _) (Nat.add_assoc _ _ _))⟩))))
                                    go_ret
                                    exact ⟨by first | rfl | (simp [errW_none, errW_some] <;> rfl) | (simp [*, errW_none, errW_some] <;> rfl), by repeat (first | (with_reducible first | exact HB.out | apply below_alloc | apply pw_below_drewN | apply below_drew1) | exact HB.out)⟩
                                  · rw [if_neg c124] at H
                                    have c124b0 : (t311 == x5_27) = false := beq_eq_false_iff_ne.mpr c124
                                    have c124b1 : (t311 != x5_27) = true := bne_iff_ne.mpr c124
                                    obtain rfl := Option.some.inj H
                                    go_wp2_with (first | (go_at_call 14; (with_reducible refine (kilnlaw5_Told.calls kj29  true _ A121.out).mono ?_); rintro e w127 ⟨rfl, hb⟩; have n0_ := Aside0.mk (below_step (by repeat (first | (with_reducible first | exact HB.out | apply below_alloc | apply pw_below_drewN | apply below_drew1) | exact HB.out)) hb); clear HB; have HB := n0_; clear n0_; (try clear hb); (try clear hb2); (try clear hk); (try clear hi)) | (go_at_call 20; (with_reducible refine (path_Order.calls kj29 t277 t278 t311 _ A123.out).mono ?_); rintro e w' ⟨rfl, ⟨nd, rfl⟩⟩; (try first | exact ⟨rfl, _, World.drewN_drewN _ _ _⟩ | exact ⟨rfl, _, Eq.trans (World.drewN_drewN _ _ _) (congrArg (World.drewN _) (Nat.add_assoc _ _ _))⟩)))
                                    repeat (go_quiet (first | (go_at_call 14; (with_reducible refine (kilnlaw5_Told.calls kj29  true _ A121.out).mono ?_); rintro e w127 ⟨rfl, hb⟩; have n0_ := Aside0.mk (below_step (by repeat (first | (with_reducible first | exact HB.out | apply below_alloc | apply pw_below_drewN | apply below_drew1) | exact HB.out)) hb); clear HB; have HB := n0_; clear n0_; (try clear hb); (try clear hb2); (try clear hk); (try clear hi)) | (go_at_call 20; (with_reducible refine (path_Order.calls kj29 t277 t278 t311 _ A123.out).mono ?_); rintro e w' ⟨rfl, ⟨nd, rfl⟩⟩; (try first | exact ⟨rfl, _, World.drewN_drewN _ _ _⟩ | exact ⟨rfl, _, Eq.trans (World.drewN_drewN _ _ _) (congrArg (World.drewN _) (Nat.add_assoc _ _ _))⟩))); try go_wp2_with (first | (go_at_call 14; (with_reducible refine (kilnlaw5_Told.calls kj29  true _ A121.out).mono ?_); rintro e w127 ⟨rfl, hb⟩; have n0_ := Aside0.mk (below_step (by repeat (first | (with_reducible first | exact HB.out | apply below_alloc | apply pw_below_drewN | apply below_drew1) | exact HB.out)) hb); clear HB; have HB := n0_; clear n0_; (try clear hb); (try clear hb2); (try clear hk); (try clear hi)) | (go_at_call 20; (with_reducible refine (path_Order.calls kj29 t277 t278 t311 _ A123.out).mono ?_); rintro e w' ⟨rfl, ⟨nd, rfl⟩⟩; (try first | exact ⟨rfl, _, World.drewN_drewN _ _ _⟩ | exact ⟨rfl, _, Eq.trans (World.drewN_drewN _ _ _) (congrArg (World.drewN _) (Nat.add_assoc _ _ _))⟩))))
                                    go_ret
                                    exact ⟨by first | rfl | (simp [errW_none, errW_some] <;> rfl) | (simp [*, errW_none, errW_some] <;> rfl), by repeat (first | (with_reducible first | exact HB.out | apply below_alloc | apply pw_below_drewN | apply below_drew1) | exact HB.out)⟩
                                · replace c122 := Bool.eq_false_iff.mpr c122
                                  subst c122
                                  have H1 : (some false) = some r := by rw [if_neg (show ¬ (false = true) by decide)] at H; exact H
                                  clear H
                                  have H := H1
                                  clear H1
                                  obtain rfl := Option.some.inj H
                                  go_wp2_with (first | (go_at_call 14; (with_reducible refine (kilnlaw5_Told.calls kj29  false _ A121.out).mono ?_); rintro e w128 ⟨rfl, hb⟩; have n0_ := Aside0.mk (below_step (by repeat (first | (with_reducible first | exact HB.out | apply below_alloc | apply pw_below_drewN | apply below_drew1) | exact HB.out)) hb); clear HB; have HB := n0_; clear n0_; (try clear hb); (try clear hb2); (try clear hk); (try clear hi)))
                                  repeat (go_quiet (first | (go_at_call 14; (with_reducible refine (kilnlaw5_Told.calls kj29  false _ A121.out).mono ?_); rintro e w128 ⟨rfl, hb⟩; have n0_ := Aside0.mk (below_step (by repeat (first | (with_reducible first | exact HB.out | apply below_alloc | apply pw_below_drewN | apply below_drew1) | exact HB.out)) hb); clear HB; have HB := n0_; clear n0_; (try clear hb); (try clear hb2); (try clear hk); (try clear hi))); try go_wp2_with (first | (go_at_call 14; (with_reducible refine (kilnlaw5_Told.calls kj29  false _ A121.out).mono ?_); rintro e w128 ⟨rfl, hb⟩; have n0_ := Aside0.mk (below_step (by repeat (first | (with_reducible first | exact HB.out | apply below_alloc | apply pw_below_drewN | apply below_drew1) | exact HB.out)) hb); clear HB; have HB := n0_; clear n0_; (try clear hb); (try clear hb2); (try clear hk); (try clear hi))))
                                  go_ret
                                  exact ⟨by first | rfl | (simp [errW_none, errW_some] <;> rfl) | (simp [*, errW_none, errW_some] <;> rfl), by repeat (first | (with_reducible first | exact HB.out | apply below_alloc | apply pw_below_drewN | apply below_drew1) | exact HB.out)⟩

/-- THE ONE PURE STATEMENT of kilnlaw5_PathSlash: yours. -/
def kilnlaw5_PathSlash.Pure : Prop := ∀ (a0 : ByteArray) (a1 : ByteArray), a0.size ≤ 140737488351232 → a1.size ≤ 140737488351232 → ∃ k, kilnlaw5_PathSlash.f k a0 a1 = some true
theorem kilnlaw5_PathSlash.walk (P : kilnlaw5_PathSlash.Pure) (a0 : ByteArray) (a1 : ByteArray) (w : World) (w0 : a0.size ≤ 140737488351232) (w1 : a1.size ≤ 140737488351232) :
    Calls Tryd.prog 10 #[.string a0, .string a1] w fun e w' => e = .returned (.bool true) ∧ Below w.heap.size w w' := by
  obtain ⟨k, h⟩ := P a0 a1 w0 w1
  refine (kilnlaw5_PathSlash.calls k a0 a1 true w h).mono ?_
  rintro e w' ⟨rfl, hd⟩
  exact ⟨rfl, hd⟩

end Go.Proofs.YtlcnhhpleiamhaaDoor.G
