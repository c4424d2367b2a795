-- Printed by wip/graft.py out of the translation, over the kit's print; contracts that it lacks are given by hand.
import Derived.Test.YtnmmapjcphefpaaGx0
import Derived.Test.YtnmmapjcphefpaaGx7
import Derived.Test.YtnmmapjcphefpaaGxhkilnlaw11prints
namespace Go.Proofs.Ytnmmapjcphefpaa.G
open Go.RowKit Go.Proofs.YtnmmapjcphefpaaW.PrintWords Go.Proofs.YtnmmapjcphefpaaW.PrintLast Go.Proofs.YtnmmapjcphefpaaW.PrintMore
attribute [local go_sem] max2_int min2_int max_two min_two max_three min_three max_four min_four   -- for this text's walks alone
set_option linter.unusedVariables false
set_option linter.unusedSimpArgs false

/-! ### kilnlaw11_Told: function 14 -/
def kilnlaw11_Told.f (k : Nat)  : Option (Bool) := (kilnlaw11_cuts.f k (⟨#[111, 117, 116, 32, 97, 32, 61, 32, 105, 110, 40, 98, 41, 32, 35, 32, 99]⟩ : ByteArray)).bind fun t245 => (if t245 = true then ((kilnlaw11_cuts.f k (⟨#[97, 10, 43]⟩ : ByteArray)).bind fun t246 => (if t246 = true then ((kilnlaw11_prints.f k (([(⟨1, (⟨#[97]⟩ : ByteArray), 0, 0⟩ : S27), (⟨2, (⟨#[98, 34]⟩ : ByteArray), 0, 0⟩ : S27), (⟨7, (⟨#[]⟩ : ByteArray), 0, 0⟩ : S27)] : List (S27)))).bind fun t250 => (if t250 = true then ((token_Quote.f k (⟨#[0, 34]⟩ : ByteArray)).bind fun t251 => (some (t251.toList == ([34, 92, 120, 48, 48, 92, 34, 34] : List UInt8)))) else (some false))) else (some false))) else (some false))
theorem kilnlaw11_Told.mono : ∀ k, LeO (kilnlaw11_Told.f k ) (kilnlaw11_Told.f (k + 1) ) := by
  intro  k
  unfold kilnlaw11_Told.f
  repeat' first
      | (with_reducible exact kilnlaw11_cuts.mono _ _)
      | (with_reducible exact kilnlaw11_prints.mono _ _)
      | (with_reducible exact token_Quote.mono _ _)
      | (with_reducible exact LeO.refl _)
      | (with_reducible exact LeO.none _)
      | (with_reducible refine LeO.ite ?_ ?_)
      | (with_reducible refine LeO.bind ?_ (fun _ => ?_))
      | exact kilnlaw11_cuts.mono _ _
      | exact kilnlaw11_prints.mono _ _
      | exact token_Quote.mono _ _
      | exact LeO.none _
      | refine LeO.ite ?_ ?_
      | refine LeO.bind ?_ (fun _ => ?_)
set_option maxHeartbeats 8000000 in
set_option maxRecDepth 100000 in
theorem kilnlaw11_Told.calls (k : Nat)  (r : Bool) (w : World) (h : kilnlaw11_Told.f k  = some r) :
    Calls Try.prog 14 #[] w fun e w' => e = .returned (.bool r) ∧ Below w.heap.size w w' := by
  have hu27 := Try.underlying27
  have HB := Aside0.mk (Below.refl w.heap.size w)
  have H : ((kilnlaw11_cuts.f k (⟨#[111, 117, 116, 32, 97, 32, 61, 32, 105, 110, 40, 98, 41, 32, 35, 32, 99]⟩ : ByteArray)).bind fun t245 => (if t245 = true then ((kilnlaw11_cuts.f k (⟨#[97, 10, 43]⟩ : ByteArray)).bind fun t246 => (if t246 = true then ((kilnlaw11_prints.f k (([(⟨1, (⟨#[97]⟩ : ByteArray), 0, 0⟩ : S27), (⟨2, (⟨#[98, 34]⟩ : ByteArray), 0, 0⟩ : S27), (⟨7, (⟨#[]⟩ : ByteArray), 0, 0⟩ : S27)] : List (S27)))).bind fun t250 => (if t250 = true then ((token_Quote.f k (⟨#[0, 34]⟩ : ByteArray)).bind fun t251 => (some (t251.toList == ([34, 92, 120, 48, 48, 92, 34, 34] : List UInt8)))) else (some false))) else (some false))) else (some false))) = some r := h
  clear h
  replace H := Option.bind_eq_some_iff.mp H
  obtain ⟨t245, A10, H⟩ := H
  replace H : (if t245 = true then ((kilnlaw11_cuts.f k (⟨#[97, 10, 43]⟩ : ByteArray)).bind fun t246 => (if t246 = true then ((kilnlaw11_prints.f k (([(⟨1, (⟨#[97]⟩ : ByteArray), 0, 0⟩ : S27), (⟨2, (⟨#[98, 34]⟩ : ByteArray), 0, 0⟩ : S27), (⟨7, (⟨#[]⟩ : ByteArray), 0, 0⟩ : S27)] : List (S27)))).bind fun t250 => (if t250 = true then ((token_Quote.f k (⟨#[0, 34]⟩ : ByteArray)).bind fun t251 => (some (t251.toList == ([34, 92, 120, 48, 48, 92, 34, 34] : List UInt8)))) else (some false))) else (some false))) else (some false)) = some r := H
  have A1 := Aside0.mk A10
  clear A10
  by_cases c2 : t245 = true
  · subst c2
    have H1 : ((kilnlaw11_cuts.f k (⟨#[97, 10, 43]⟩ : ByteArray)).bind fun t246 => (if t246 = true then ((kilnlaw11_prints.f k (([(⟨1, (⟨#[97]⟩ : ByteArray), 0, 0⟩ : S27), (⟨2, (⟨#[98, 34]⟩ : ByteArray), 0, 0⟩ : S27), (⟨7, (⟨#[]⟩ : ByteArray), 0, 0⟩ : S27)] : List (S27)))).bind fun t250 => (if t250 = true then ((token_Quote.f k (⟨#[0, 34]⟩ : ByteArray)).bind fun t251 => (some (t251.toList == ([34, 92, 120, 48, 48, 92, 34, 34] : List UInt8)))) else (some false))) else (some false))) = some r := by rw [if_pos rfl] at H; exact H
    clear H
    have H := H1
    clear H1
    replace H := Option.bind_eq_some_iff.mp H
    obtain ⟨t246, A30, H⟩ := H
    replace H : (if t246 = true then ((kilnlaw11_prints.f k (([(⟨1, (⟨#[97]⟩ : ByteArray), 0, 0⟩ : S27), (⟨2, (⟨#[98, 34]⟩ : ByteArray), 0, 0⟩ : S27), (⟨7, (⟨#[]⟩ : ByteArray), 0, 0⟩ : S27)] : List (S27)))).bind fun t250 => (if t250 = true then ((token_Quote.f k (⟨#[0, 34]⟩ : ByteArray)).bind fun t251 => (some (t251.toList == ([34, 92, 120, 48, 48, 92, 34, 34] : List UInt8)))) else (some false))) else (some false)) = some r := H
    have A3 := Aside0.mk A30
    clear A30
    by_cases c4 : t246 = true
    · subst c4
      have H1 : ((kilnlaw11_prints.f k (([(⟨1, (⟨#[97]⟩ : ByteArray), 0, 0⟩ : S27), (⟨2, (⟨#[98, 34]⟩ : ByteArray), 0, 0⟩ : S27), (⟨7, (⟨#[]⟩ : ByteArray), 0, 0⟩ : S27)] : List (S27)))).bind fun t250 => (if t250 = true then ((token_Quote.f k (⟨#[0, 34]⟩ : ByteArray)).bind fun t251 => (some (t251.toList == ([34, 92, 120, 48, 48, 92, 34, 34] : List UInt8)))) else (some false))) = some r := by rw [if_pos rfl] at H; exact H
      clear H
      have H := H1
      clear H1
      obtain ⟨y247, hy247⟩ : ∃ y_ : List (S27), y_ = (([(⟨1, (⟨#[97]⟩ : ByteArray), 0, 0⟩ : S27), (⟨2, (⟨#[98, 34]⟩ : ByteArray), 0, 0⟩ : S27), (⟨7, (⟨#[]⟩ : ByteArray), 0, 0⟩ : S27)] : List (S27))) := ⟨_, rfl⟩
      replace H : ((kilnlaw11_prints.f k y247).bind fun t250 => (if t250 = true then ((token_Quote.f k (⟨#[0, 34]⟩ : ByteArray)).bind fun t251 => (some (t251.toList == ([34, 92, 120, 48, 48, 92, 34, 34] : List UInt8)))) else (some false))) = some r := by first | (rw [hy247]; with_reducible exact H) | (have H2_ := (Option.bind_some _ _).symm.trans H; rw [hy247]; with_reducible exact H2_) | (have H2_ := (Option.bind_some _ _).symm.trans H; with_reducible exact H2_) | with_reducible exact H | (rw [hy247]; exact H) | exact H
      have Ny247 := Aside0.mk hy247
      clear hy247
      replace H := Option.bind_eq_some_iff.mp H
      obtain ⟨t250, A50, H⟩ := H
      replace H : (if t250 = true then ((token_Quote.f k (⟨#[0, 34]⟩ : ByteArray)).bind fun t251 => (some (t251.toList == ([34, 92, 120, 48, 48, 92, 34, 34] : List UInt8)))) else (some false)) = some r := H
      have A5 := Aside0.mk A50
      clear A50
      by_cases c6 : t250 = true
      · subst c6
        have H1 : ((token_Quote.f k (⟨#[0, 34]⟩ : ByteArray)).bind fun t251 => (some (t251.toList == ([34, 92, 120, 48, 48, 92, 34, 34] : List UInt8)))) = some r := by rw [if_pos rfl] at H; exact H
        clear H
        have H := H1
        clear H1
        replace H := Option.bind_eq_some_iff.mp H
        obtain ⟨t251, A70, H⟩ := H
        replace H : (some (t251.toList == ([34, 92, 120, 48, 48, 92, 34, 34] : List UInt8))) = some r := H
        have A7 := Aside0.mk A70
        clear A70
        obtain rfl := Option.some.inj H
        go_enter Try.func14, Try.ntmps14
        go_wp2_with (first | ((with_reducible refine gate_callee (f := 15) rfl ?_); refine goesL_ (some 1) rfl rfl Try.func15 (by kernel_rfl) rfl #[.string (⟨#[111, 117, 116, 32, 97, 32, 61, 32, 105, 110, 40, 98, 41, 32, 35, 32, 99]⟩ : ByteArray)] rfl (by (try simp only [List.map_toArray, List.map_cons, List.map_nil]); first | done | rfl | (simp only [List.length_drop, List.length_take]; rfl)) ?_; (with_reducible refine (kilnlaw11_cuts.calls k (⟨#[111, 117, 116, 32, 97, 32, 61, 32, 105, 110, 40, 98, 41, 32, 35, 32, 99]⟩ : ByteArray) true _ A1.out).mono ?_); rintro e w8 ⟨rfl, hb⟩; refine ⟨_, rfl, ?_⟩; have n0_ := Aside0.mk (below_step (by repeat (first | (with_reducible first | exact HB.out | apply below_alloc | apply pw_below_drewN | apply below_drew1) | exact HB.out)) hb); clear HB; have HB := n0_; clear n0_; (try clear hb); (try clear hb2); (try clear hk); (try clear hi)) | (go_at_call 15; (with_reducible refine (kilnlaw11_cuts.calls k (⟨#[97, 10, 43]⟩ : ByteArray) true _ A3.out).mono ?_); rintro e w9 ⟨rfl, hb⟩; have n0_ := Aside0.mk (below_step (by repeat (first | (with_reducible first | exact HB.out | apply below_alloc | apply pw_below_drewN | apply below_drew1) | exact HB.out)) hb); clear HB; have HB := n0_; clear n0_; (try clear hb); (try clear hb2); (try clear hk); (try clear hi)) | ((with_reducible refine gate_dst (N := 9) rfl ?_); (try (refine gate_guard (by rfl) ?_; dsimp only)); refine Kd.R_lit k27 _ 27 ?hg (N := 9) ?hd (xs := ([(⟨1, (⟨#[97]⟩ : ByteArray), 0, 0⟩ : S27), (⟨2, (⟨#[98, 34]⟩ : ByteArray), 0, 0⟩ : S27), (⟨7, (⟨#[]⟩ : ByteArray), 0, 0⟩ : S27)] : List (S27))) (inner := [.int .i64 1, .string (⟨#[97]⟩ : ByteArray), .int .i64 0, .int .i64 0, .int .i64 2, .string (⟨#[98, 34]⟩ : ByteArray), .int .i64 0, .int .i64 0, .int .i64 7, .string (⟨#[]⟩ : ByteArray), .int .i64 0, .int .i64 0]) (ok := fun _ => True) (okp := fun _ => True) ?hr ?hp (fun _ hk => hk) trivial (Below.refl _ _) (Nat.le_refl _) (by simp) ?_; (case hd => rfl); (case hg => rfl); (case hr => first | (go_simp; done) | (go_simp; rfl)); (case hp => exact (Reps.c4 (show Kd.M k27 _ _ _ (⟨1, (⟨#[97]⟩ : ByteArray), 0, 0⟩ : S27) [.int .i64 1, .string (⟨#[97]⟩ : ByteArray), .int .i64 0, .int .i64 0] from (k27_mkM _ _ _ (⟨1, (⟨#[97]⟩ : ByteArray), 0, 0⟩ : S27) )) (Reps.c4 (show Kd.M k27 _ _ _ (⟨2, (⟨#[98, 34]⟩ : ByteArray), 0, 0⟩ : S27) [.int .i64 2, .string (⟨#[98, 34]⟩ : ByteArray), .int .i64 0, .int .i64 0] from (k27_mkM _ _ _ (⟨2, (⟨#[98, 34]⟩ : ByteArray), 0, 0⟩ : S27) )) (Reps.c4 (show Kd.M k27 _ _ _ (⟨7, (⟨#[]⟩ : ByteArray), 0, 0⟩ : S27) [.int .i64 7, .string (⟨#[]⟩ : ByteArray), .int .i64 0, .int .i64 0] from (k27_mkM _ _ _ (⟨7, (⟨#[]⟩ : ByteArray), 0, 0⟩ : S27) )) (Reps.none _ _))))); intro v248 w10 ho11 hb hg_ hnew_; clear hg_ hnew_; (first | rw [← Ny247.out] at ho11 | (simp only [Int.reduceToNat] at ho11; rw [← Ny247.out] at ho11)); have n0_ := Aside0.mk (Kd.R_lower ho11 (below_size (by repeat (first | (with_reducible first | exact HB.out | apply below_alloc | apply pw_below_drewN | apply below_drew1) | exact HB.out)))); have n1_ := Aside0.mk (below_step (by repeat (first | (with_reducible first | exact HB.out | apply below_alloc | apply pw_below_drewN | apply below_drew1) | exact HB.out)) hb); clear HB; have HO249 := n0_; have HB := n1_; clear n0_ n1_; clear hb ho11; obtain ⟨Ao12, co12, eo12⟩ := Kd.R_slice HO249.out; subst eo12) | (go_at_call 19; (with_reducible refine (kilnlaw11_prints.calls k _ _ y247 true _ ?side1 ?side2 A5.out).mono ?_); (case side1 => repeat (first | exact (Kd.R_reads' HO249.out).2.2 | (with_reducible refine Kd.C_alloc ?_ _) | (with_reducible refine Kd.C_drewN ?_ _) | (with_reducible refine Kd.C_drew ?_))); (case side2 => exact (Kd.R_reads' HO249.out).2.1); rintro e w13 ⟨rfl, hb⟩; have n0_ := Aside0.mk (Kd.R_below (by (with_reducible repeat (first | apply Kd.R_alloc | apply Kd.R_drewN | apply Kd.R_drew)); exact HO249.out) hb); have n1_ := Aside0.mk (below_step (by repeat (first | (with_reducible first | exact HB.out | apply below_alloc | apply pw_below_drewN | apply below_drew1) | exact HB.out)) hb); clear HO249; clear HB; have HO249 := n0_; have HB := n1_; clear n0_ n1_; (try clear hb); (try clear hb2); (try clear hk); (try clear hi)) | (go_at_call 17; (with_reducible refine (token_Quote.calls k (⟨#[0, 34]⟩ : ByteArray) t251 _ A7.out).mono ?_); rintro e w14 ⟨rfl, hb⟩; have n0_ := Aside0.mk (Kd.R_below (by (with_reducible repeat (first | apply Kd.R_alloc | apply Kd.R_drewN | apply Kd.R_drew)); exact HO249.out) hb); have n1_ := Aside0.mk (below_step (by repeat (first | (with_reducible first | exact HB.out | apply below_alloc | apply pw_below_drewN | apply below_drew1) | exact HB.out)) hb); clear HO249; clear HB; have HO249 := n0_; have HB := n1_; clear n0_ n1_; (try clear hb); (try clear hb2); (try clear hk); (try clear hi)))
        go_ret
        exact ⟨by first | rfl | (simp [errW_none, errW_some] <;> rfl) | (simp [*, errW_none, errW_some] <;> rfl), by repeat (first | (with_reducible first | exact HB.out | apply below_alloc | apply pw_below_drewN | apply below_drew1) | exact HB.out)⟩
      · replace c6 := Bool.eq_false_iff.mpr c6
        subst c6
        have H1 : (some false) = some r := by rw [if_neg (show ¬ (false = true) by decide)] at H; exact H
        clear H
        have H := H1
        clear H1
        obtain rfl := Option.some.inj H
        go_enter Try.func14, Try.ntmps14
        go_wp2_with (first | ((with_reducible refine gate_callee (f := 15) rfl ?_); refine goesL_ (some 1) rfl rfl Try.func15 (by kernel_rfl) rfl #[.string (⟨#[111, 117, 116, 32, 97, 32, 61, 32, 105, 110, 40, 98, 41, 32, 35, 32, 99]⟩ : ByteArray)] rfl (by (try simp only [List.map_toArray, List.map_cons, List.map_nil]); first | done | rfl | (simp only [List.length_drop, List.length_take]; rfl)) ?_; (with_reducible refine (kilnlaw11_cuts.calls k (⟨#[111, 117, 116, 32, 97, 32, 61, 32, 105, 110, 40, 98, 41, 32, 35, 32, 99]⟩ : ByteArray) true _ A1.out).mono ?_); rintro e w15 ⟨rfl, hb⟩; refine ⟨_, rfl, ?_⟩; have n0_ := Aside0.mk (below_step (by repeat (first | (with_reducible first | exact HB.out | apply below_alloc | apply pw_below_drewN | apply below_drew1) | exact HB.out)) hb); clear HB; have HB := n0_; clear n0_; (try clear hb); (try clear hb2); (try clear hk); (try clear hi)) | (go_at_call 15; (with_reducible refine (kilnlaw11_cuts.calls k (⟨#[97, 10, 43]⟩ : ByteArray) true _ A3.out).mono ?_); rintro e w16 ⟨rfl, hb⟩; have n0_ := Aside0.mk (below_step (by repeat (first | (with_reducible first | exact HB.out | apply below_alloc | apply pw_below_drewN | apply below_drew1) | exact HB.out)) hb); clear HB; have HB := n0_; clear n0_; (try clear hb); (try clear hb2); (try clear hk); (try clear hi)) | ((with_reducible refine gate_dst (N := 9) rfl ?_); (try (refine gate_guard (by rfl) ?_; dsimp only)); refine Kd.R_lit k27 _ 27 ?hg (N := 9) ?hd (xs := ([(⟨1, (⟨#[97]⟩ : ByteArray), 0, 0⟩ : S27), (⟨2, (⟨#[98, 34]⟩ : ByteArray), 0, 0⟩ : S27), (⟨7, (⟨#[]⟩ : ByteArray), 0, 0⟩ : S27)] : List (S27))) (inner := [.int .i64 1, .string (⟨#[97]⟩ : ByteArray), .int .i64 0, .int .i64 0, .int .i64 2, .string (⟨#[98, 34]⟩ : ByteArray), .int .i64 0, .int .i64 0, .int .i64 7, .string (⟨#[]⟩ : ByteArray), .int .i64 0, .int .i64 0]) (ok := fun _ => True) (okp := fun _ => True) ?hr ?hp (fun _ hk => hk) trivial (Below.refl _ _) (Nat.le_refl _) (by simp) ?_; (case hd => rfl); (case hg => rfl); (case hr => first | (go_simp; done) | (go_simp; rfl)); (case hp => exact (Reps.c4 (show Kd.M k27 _ _ _ (⟨1, (⟨#[97]⟩ : ByteArray), 0, 0⟩ : S27) [.int .i64 1, .string (⟨#[97]⟩ : ByteArray), .int .i64 0, .int .i64 0] from (k27_mkM _ _ _ (⟨1, (⟨#[97]⟩ : ByteArray), 0, 0⟩ : S27) )) (Reps.c4 (show Kd.M k27 _ _ _ (⟨2, (⟨#[98, 34]⟩ : ByteArray), 0, 0⟩ : S27) [.int .i64 2, .string (⟨#[98, 34]⟩ : ByteArray), .int .i64 0, .int .i64 0] from (k27_mkM _ _ _ (⟨2, (⟨#[98, 34]⟩ : ByteArray), 0, 0⟩ : S27) )) (Reps.c4 (show Kd.M k27 _ _ _ (⟨7, (⟨#[]⟩ : ByteArray), 0, 0⟩ : S27) [.int .i64 7, .string (⟨#[]⟩ : ByteArray), .int .i64 0, .int .i64 0] from (k27_mkM _ _ _ (⟨7, (⟨#[]⟩ : ByteArray), 0, 0⟩ : S27) )) (Reps.none _ _))))); intro v248 w17 ho18 hb hg_ hnew_; clear hg_ hnew_; (first | rw [← Ny247.out] at ho18 | (simp only [Int.reduceToNat] at ho18; rw [← Ny247.out] at ho18)); have n0_ := Aside0.mk (Kd.R_lower ho18 (below_size (by repeat (first | (with_reducible first | exact HB.out | apply below_alloc | apply pw_below_drewN | apply below_drew1) | exact HB.out)))); have n1_ := Aside0.mk (below_step (by repeat (first | (with_reducible first | exact HB.out | apply below_alloc | apply pw_below_drewN | apply below_drew1) | exact HB.out)) hb); clear HB; have HO249 := n0_; have HB := n1_; clear n0_ n1_; clear hb ho18; obtain ⟨Ao19, co19, eo19⟩ := Kd.R_slice HO249.out; subst eo19) | (go_at_call 19; (with_reducible refine (kilnlaw11_prints.calls k _ _ y247 false _ ?side1 ?side2 A5.out).mono ?_); (case side1 => repeat (first | exact (Kd.R_reads' HO249.out).2.2 | (with_reducible refine Kd.C_alloc ?_ _) | (with_reducible refine Kd.C_drewN ?_ _) | (with_reducible refine Kd.C_drew ?_))); (case side2 => exact (Kd.R_reads' HO249.out).2.1); rintro e w20 ⟨rfl, hb⟩; have n0_ := Aside0.mk (Kd.R_below (by (with_reducible repeat (first | apply Kd.R_alloc | apply Kd.R_drewN | apply Kd.R_drew)); exact HO249.out) hb); have n1_ := Aside0.mk (below_step (by repeat (first | (with_reducible first | exact HB.out | apply below_alloc | apply pw_below_drewN | apply below_drew1) | exact HB.out)) hb); clear HO249; clear HB; have HO249 := n0_; have HB := n1_; clear n0_ n1_; (try clear hb); (try clear hb2); (try clear hk); (try clear hi)))
        go_ret
        exact ⟨by first | rfl | (simp [errW_none, errW_some] <;> rfl) | (simp [*, errW_none, errW_some] <;> rfl), by repeat (first | (with_reducible first | exact HB.out | apply below_alloc | apply pw_below_drewN | apply below_drew1) | exact HB.out)⟩
    · replace c4 := Bool.eq_false_iff.mpr c4
      subst c4
      have H1 : (some false) = some r := by rw [if_neg (show ¬ (false = true) by decide)] at H; exact H
      clear H
      have H := H1
      clear H1
      obtain rfl := Option.some.inj H
      go_enter Try.func14, Try.ntmps14
      go_wp2_with (first | ((with_reducible refine gate_callee (f := 15) rfl ?_); refine goesL_ (some 1) rfl rfl Try.func15 (by kernel_rfl) rfl #[.string (⟨#[111, 117, 116, 32, 97, 32, 61, 32, 105, 110, 40, 98, 41, 32, 35, 32, 99]⟩ : ByteArray)] rfl (by (try simp only [List.map_toArray, List.map_cons, List.map_nil]); first | done | rfl | (simp only [List.length_drop, List.length_take]; rfl)) ?_; (with_reducible refine (kilnlaw11_cuts.calls k (⟨#[111, 117, 116, 32, 97, 32, 61, 32, 105, 110, 40, 98, 41, 32, 35, 32, 99]⟩ : ByteArray) true _ A1.out).mono ?_); rintro e w21 ⟨rfl, hb⟩; refine ⟨_, rfl, ?_⟩; have n0_ := Aside0.mk (below_step (by repeat (first | (with_reducible first | exact HB.out | apply below_alloc | apply pw_below_drewN | apply below_drew1) | exact HB.out)) hb); clear HB; have HB := n0_; clear n0_; (try clear hb); (try clear hb2); (try clear hk); (try clear hi)) | (go_at_call 15; (with_reducible refine (kilnlaw11_cuts.calls k (⟨#[97, 10, 43]⟩ : ByteArray) false _ A3.out).mono ?_); rintro e w22 ⟨rfl, hb⟩; have n0_ := Aside0.mk (below_step (by repeat (first | (with_reducible first | exact HB.out | apply below_alloc | apply pw_below_drewN | apply below_drew1) | exact HB.out)) hb); clear HB; have HB := n0_; clear n0_; (try clear hb); (try clear hb2); (try clear hk); (try clear hi)))
      go_ret
      exact ⟨by first | rfl | (simp [errW_none, errW_some] <;> rfl) | (simp [*, errW_none, errW_some] <;> rfl), by repeat (first | (with_reducible first | exact HB.out | apply below_alloc | apply pw_below_drewN | apply below_drew1) | exact HB.out)⟩
  · replace c2 := Bool.eq_false_iff.mpr c2
    subst c2
    have H1 : (some false) = some r := by rw [if_neg (show ¬ (false = true) by decide)] at H; exact H
    clear H
    have H := H1
    clear H1
    obtain rfl := Option.some.inj H
    go_enter Try.func14, Try.ntmps14
    go_wp2_with (first | ((with_reducible refine gate_callee (f := 15) rfl ?_); refine goesL_ (some 1) rfl rfl Try.func15 (by kernel_rfl) rfl #[.string (⟨#[111, 117, 116, 32, 97, 32, 61, 32, 105, 110, 40, 98, 41, 32, 35, 32, 99]⟩ : ByteArray)] rfl (by (try simp only [List.map_toArray, List.map_cons, List.map_nil]); first | done | rfl | (simp only [List.length_drop, List.length_take]; rfl)) ?_; (with_reducible refine (kilnlaw11_cuts.calls k (⟨#[111, 117, 116, 32, 97, 32, 61, 32, 105, 110, 40, 98, 41, 32, 35, 32, 99]⟩ : ByteArray) false _ A1.out).mono ?_); rintro e w23 ⟨rfl, hb⟩; refine ⟨_, rfl, ?_⟩; have n0_ := Aside0.mk (below_step (by repeat (first | (with_reducible first | exact HB.out | apply below_alloc | apply pw_below_drewN | apply below_drew1) | exact HB.out)) hb); clear HB; have HB := n0_; clear n0_; (try clear hb); (try clear hb2); (try clear hk); (try clear hi)))
    go_ret
    exact ⟨by first | rfl | (simp [errW_none, errW_some] <;> rfl) | (simp [*, errW_none, errW_some] <;> rfl), by repeat (first | (with_reducible first | exact HB.out | apply below_alloc | apply pw_below_drewN | apply below_drew1) | exact HB.out)⟩

/-! ### kilnlaw11_cut: function 16 -/
def kilnlaw11_cut.f (a0 : ByteArray) (a1 : Int) : Option (ByteArray) := if (a0.size : Int) > a1 then (if 0 ≤ a1 then (if a1 ≤ (a0.size : Int) then (some (a0.extract 0 (a1 : Int).toNat)) else (none)) else (none)) else (some a0)
set_option maxHeartbeats 8000000 in
set_option maxRecDepth 100000 in
theorem kilnlaw11_cut.calls (a0 : ByteArray) (a1 : Int) (r : ByteArray) (w : World) (h : kilnlaw11_cut.f a0 a1 = some r) :
    Calls Try.prog 16 #[.string a0, .int .i64 a1] w fun e w' => e = .returned (.string r) ∧ Drawn0 w w' := by
  have H : (if (a0.size : Int) > a1 then (if 0 ≤ a1 then (if a1 ≤ (a0.size : Int) then (some (a0.extract 0 (a1 : Int).toNat)) else (none)) else (none)) else (some a0)) = some r := h
  clear h
  by_cases c3 : (a0.size : Int) > a1
  · rw [if_pos c3] at H
    have c3b0 : decide (a1 < (a0.size : Int)) = true := decide_eq_true c3
    clear c3
    by_cases c4 : 0 ≤ a1
    · rw [if_pos c4] at H
      have c4b0 := eq_true c4
      have c4b1 : decide (0 ≤ a1) = true := decide_eq_true c4
      clear c4
      by_cases c5 : a1 ≤ (a0.size : Int)
      · rw [if_pos c5] at H
        have c5b0 := eq_true c5
        have c5b1 : decide (a1 ≤ (a0.size : Int)) = true := decide_eq_true c5
        clear c5
        obtain rfl := Option.some.inj H
        go_enter Try.func16, Try.ntmps16
        go_wp2
        go_ret
        exact ⟨by first | rfl | (simp; done) | (simp [*]; done), by repeat (first | exact Drawn0.refl _ | apply Drawn0.step)⟩
      · rw [if_neg c5] at H
        exact absurd H (by simp)
    · rw [if_neg c4] at H
      exact absurd H (by simp)
  · rw [if_neg c3] at H
    have c3b0 : decide (a1 < (a0.size : Int)) = false := decide_eq_false c3
    clear c3
    obtain rfl := Option.some.inj H
    go_enter Try.func16, Try.ntmps16
    go_wp2
    go_ret
    exact ⟨by first | rfl | (simp; done) | (simp [*]; done), by repeat (first | exact Drawn0.refl _ | apply Drawn0.step)⟩

/-! ### kilnlaw11_TokenCuts: function 3 -/
def kilnlaw11_TokenCuts.f (k : Nat) (a0 : ByteArray) : Option (Bool) := (kilnlaw11_Told.f k).bind fun t252 => (if t252 = true then ((kilnlaw11_cut.f a0 70000).bind fun t253 => ((kilnlaw11_cuts.f k t253).bind fun t254 => (some t254))) else (some false))
theorem kilnlaw11_TokenCuts.mono : ∀ a0 k, LeO (kilnlaw11_TokenCuts.f k a0) (kilnlaw11_TokenCuts.f (k + 1) a0) := by
  intro a0 k
  unfold kilnlaw11_TokenCuts.f
  repeat' first
      | (with_reducible exact kilnlaw11_Told.mono _)
      | (with_reducible exact kilnlaw11_cuts.mono _ _)
      | (with_reducible exact LeO.refl _)
      | (with_reducible exact LeO.none _)
      | (with_reducible refine LeO.ite ?_ ?_)
      | (with_reducible refine LeO.bind ?_ (fun _ => ?_))
      | exact kilnlaw11_Told.mono _
      | exact kilnlaw11_cuts.mono _ _
      | exact LeO.none _
      | refine LeO.ite ?_ ?_
      | refine LeO.bind ?_ (fun _ => ?_)
set_option maxHeartbeats 8000000 in
set_option maxRecDepth 100000 in
theorem kilnlaw11_TokenCuts.calls (k : Nat) (a0 : ByteArray) (r : Bool) (w : World) (h : kilnlaw11_TokenCuts.f k a0 = some r) :
    Calls Try.prog 3 #[.string a0] w fun e w' => e = .returned (.bool r) ∧ Below w.heap.size w w' := by
  have HB := Aside0.mk (Below.refl w.heap.size w)
  have H : ((kilnlaw11_Told.f k).bind fun t252 => (if t252 = true then ((kilnlaw11_cut.f a0 70000).bind fun t253 => ((kilnlaw11_cuts.f k t253).bind fun t254 => (some t254))) else (some false))) = some r := h
  clear h
  replace H := Option.bind_eq_some_iff.mp H
  obtain ⟨t252, A20, H⟩ := H
  replace H : (if t252 = true then ((kilnlaw11_cut.f a0 70000).bind fun t253 => ((kilnlaw11_cuts.f k t253).bind fun t254 => (some t254))) else (some false)) = some r := H
  have A2 := Aside0.mk A20
  clear A20
  by_cases c3 : t252 = true
  · subst c3
    have H1 : ((kilnlaw11_cut.f a0 70000).bind fun t253 => ((kilnlaw11_cuts.f k t253).bind fun t254 => (some t254))) = some r := by rw [if_pos rfl] at H; exact H
    clear H
    have H := H1
    clear H1
    replace H := Option.bind_eq_some_iff.mp H
    obtain ⟨t253, A40, H⟩ := H
    replace H : ((kilnlaw11_cuts.f k t253).bind fun t254 => (some t254)) = some r := H
    have A4 := Aside0.mk A40
    clear A40
    replace H := Option.bind_eq_some_iff.mp H
    obtain ⟨t254, A50, H⟩ := H
    replace H : (some t254) = some r := H
    have A5 := Aside0.mk A50
    clear A50
    obtain rfl := Option.some.inj H
    go_enter Try.func3, Try.ntmps3
    go_wp2_with (first | ((with_reducible refine gate_callee (f := 14) rfl ?_); refine goesL_ (some 3) rfl rfl Try.func14 (by kernel_rfl) rfl #[] rfl (by (try simp only [List.map_toArray, List.map_cons, List.map_nil]); first | done | rfl | (simp only [List.length_drop, List.length_take]; rfl)) ?_; (with_reducible refine (kilnlaw11_Told.calls k  true _ A2.out).mono ?_); rintro e w6 ⟨rfl, hb⟩; refine ⟨_, rfl, ?_⟩; have n0_ := Aside0.mk (below_step (by repeat (first | (with_reducible first | exact HB.out | apply below_alloc | apply pw_below_drewN | apply below_drew1) | exact HB.out)) hb); clear HB; have HB := n0_; clear n0_; (try clear hb); (try clear hb2); (try clear hk); (try clear hi)) | (go_at_call 16; (with_reducible refine (kilnlaw11_cut.calls a0 70000 t253 _ A4.out).mono ?_); rintro e w' ⟨rfl, ⟨nd, rfl⟩⟩) | (go_at_call 15; (with_reducible refine (kilnlaw11_cuts.calls k t253 t254 _ A5.out).mono ?_); rintro e w7 ⟨rfl, hb⟩; have n0_ := Aside0.mk (below_step (by repeat (first | (with_reducible first | exact HB.out | apply below_alloc | apply pw_below_drewN | apply below_drew1) | exact HB.out)) hb); clear HB; have HB := n0_; clear n0_; (try clear hb); (try clear hb2); (try clear hk); (try clear hi)))
    go_ret
    exact ⟨by first | rfl | (simp [errW_none, errW_some] <;> rfl) | (simp [*, errW_none, errW_some] <;> rfl), by repeat (first | (with_reducible first | exact HB.out | apply below_alloc | apply pw_below_drewN | apply below_drew1) | exact HB.out)⟩
  · replace c3 := Bool.eq_false_iff.mpr c3
    subst c3
    have H1 : (some false) = some r := by rw [if_neg (show ¬ (false = true) by decide)] at H; exact H
    clear H
    have H := H1
    clear H1
    obtain rfl := Option.some.inj H
    go_enter Try.func3, Try.ntmps3
    go_wp2_with (first | ((with_reducible refine gate_callee (f := 14) rfl ?_); refine goesL_ (some 3) rfl rfl Try.func14 (by kernel_rfl) rfl #[] rfl (by (try simp only [List.map_toArray, List.map_cons, List.map_nil]); first | done | rfl | (simp only [List.length_drop, List.length_take]; rfl)) ?_; (with_reducible refine (kilnlaw11_Told.calls k  false _ A2.out).mono ?_); rintro e w8 ⟨rfl, hb⟩; refine ⟨_, rfl, ?_⟩; have n0_ := Aside0.mk (below_step (by repeat (first | (with_reducible first | exact HB.out | apply below_alloc | apply pw_below_drewN | apply below_drew1) | exact HB.out)) hb); clear HB; have HB := n0_; clear n0_; (try clear hb); (try clear hb2); (try clear hk); (try clear hi)))
    go_ret
    exact ⟨by first | rfl | (simp [errW_none, errW_some] <;> rfl) | (simp [*, errW_none, errW_some] <;> rfl), by repeat (first | (with_reducible first | exact HB.out | apply below_alloc | apply pw_below_drewN | apply below_drew1) | exact HB.out)⟩

/-- THE ONE PURE STATEMENT of kilnlaw11_TokenCuts: yours. -/
def kilnlaw11_TokenCuts.Pure : Prop := ∀ (a0 : ByteArray), a0.size ≤ 140737488351232 → ∃ k, kilnlaw11_TokenCuts.f k a0 = some true
theorem kilnlaw11_TokenCuts.walk (P : kilnlaw11_TokenCuts.Pure) (a0 : ByteArray) (w : World) (w0 : a0.size ≤ 140737488351232) :
    Calls Try.prog 3 #[.string a0] w fun e w' => e = .returned (.bool true) ∧ Below w.heap.size w w' := by
  obtain ⟨k, h⟩ := P a0 w0
  refine (kilnlaw11_TokenCuts.calls k a0 true w h).mono ?_
  rintro e w' ⟨rfl, hd⟩
  exact ⟨rfl, hd⟩

-- NOT PRINTED: function 4 (kilnlaw11_TokenPrints)

/-! ### kilnlaw11_many: function 20 -/
def kilnlaw11_many.l0 : Nat → ByteArray → Int → List Int → Int → Option (ByteArray)
  | 0, _, _, _, _ => none
  | k + 1, x0, x1, x5, x6 => if x6 < x1 then (if x5.length + x0.size < 140737488355328 then (kilnlaw11_many.l0 k x0 x1 (x5 ++ bytesOf x0) (wrap64 (x6 + 1))) else (none)) else (some (strOfNums x5))
def kilnlaw11_many.f (k : Nat) (a0 : ByteArray) (a1 : Int) : Option (ByteArray) := kilnlaw11_many.l0 k a0 a1 ([] : List Int) 0
theorem kilnlaw11_many.mono_l : ∀ k, (∀ y0 y1 y2 y3, LeO (kilnlaw11_many.l0 k y0 y1 y2 y3) (kilnlaw11_many.l0 (k + 1) y0 y1 y2 y3))
  | 0 => fun _ _ _ _ r h => by simp [kilnlaw11_many.l0] at h
  | k + 1 => by
    have ih0 := kilnlaw11_many.mono_l k
    · intro y0 y1 y2 y3
      unfold kilnlaw11_many.l0
      repeat' first
      | (with_reducible exact ih0 _ _ _ _)
      | (with_reducible exact LeO.refl _)
      | (with_reducible exact LeO.none _)
      | (with_reducible refine LeO.ite ?_ ?_)
      | (with_reducible refine LeO.bind ?_ (fun _ => ?_))
      | exact ih0 _ _ _ _
      | exact LeO.none _
      | refine LeO.ite ?_ ?_
      | refine LeO.bind ?_ (fun _ => ?_)
theorem kilnlaw11_many.mono : ∀ a0 a1 k, LeO (kilnlaw11_many.f k a0 a1) (kilnlaw11_many.f (k + 1) a0 a1) := by
  intro a0 a1 k
  have ih0 := kilnlaw11_many.mono_l k
  unfold kilnlaw11_many.f
  repeat' first
      | (with_reducible exact ih0 _ _ _ _)
      | (with_reducible exact LeO.refl _)
      | (with_reducible exact LeO.none _)
      | (with_reducible refine LeO.ite ?_ ?_)
      | (with_reducible refine LeO.bind ?_ (fun _ => ?_))
      | exact ih0 _ _ _ _
      | exact LeO.none _
      | refine LeO.ite ?_ ?_
      | refine LeO.bind ?_ (fun _ => ?_)
set_option maxHeartbeats 8000000 in
set_option maxRecDepth 100000 in
theorem kilnlaw11_many.calls (k : Nat) (a0 : ByteArray) (a1 : Int) (r : ByteArray) (w : World) (h : kilnlaw11_many.f k a0 a1 = some r) :
    Calls Try.prog 20 #[.string a0, .int .i64 a1] w fun e w' => e = .returned (.string r) ∧ Below w.heap.size w w' := by
  have HB := Aside0.mk (Below.refl w.heap.size w)
  have H : (kilnlaw11_many.l0 k a0 a1 ([] : List Int) 0) = some r := h
  clear h
  have H' := Aside0.mk H
  clear H
  go_enter Try.func20, Try.ntmps20
  go_wp2
  go_loopg [5, 6] k (fun kq v5 v6 w' => ∃ (x5_1 : List Int) (x6_1 : Int), v6 = .int .i64 x6_1 ∧ Aside0 (kilnlaw11_many.l0 kq a0 a1 x5_1 x6_1 = some r) ∧ Aside0 (kq ≤ k) ∧ Aside0 (Kd.R (Kd.int .u8) 5 w' w.heap.size (fun _ => True) v5 x5_1) ∧ Aside0 (Below w.heap.size w w'))
  case atStart => exact ⟨(([] : List Int)), (0), (by first | rfl | (simp; done) | (simp [*]; done)), H', ⟨Nat.le_refl _⟩, ⟨by first | exact Kd.R_nil _ _ _ _ _ | exact Kd.N_nil _ _ _ _ _ | exact Kd.V_nil _ _ _ _ _ | exact Kd.Q_nil _ _ _ _ _ | exact Kd.S_nil _ _ _ _ _⟩, ⟨by repeat (first | (with_reducible first | exact HB.out | apply below_alloc | apply pw_below_drewN | apply below_drew1) | exact HB.out)⟩⟩
  case round =>
    clear H'
    try clear c2
    try clear p2
    obtain ⟨x5_1, x6_1, rfl, HA, HK1, HO_5, HB⟩ := hrel
    cases gk with
    | zero => exact absurd HA.out (by simp [kilnlaw11_many.l0])
    | succ k1 =>
      have H := HA.out
      clear HA
      simp only [kilnlaw11_many.l0] at H
      by_cases c3 : x6_1 < a1
      · rw [if_pos c3] at H
        have c3b0 : decide (x6_1 < a1) = true := decide_eq_true c3
        clear c3
        by_cases c4 : x5_1.length + a0.size < 140737488355328
        · rw [if_pos c4] at H
          have LMc4 := Aside0.mk c4
          clear c4
          obtain ⟨y260, hy260⟩ : ∃ y_ : List Int, y_ = (x5_1 ++ bytesOf a0) := ⟨_, rfl⟩
          replace H : (kilnlaw11_many.l0 k1 a0 a1 y260 (wrap64 (x6_1 + 1))) = some r := by first | (rw [hy260]; with_reducible exact H) | (have H2_ := (Option.bind_some _ _).symm.trans H; rw [hy260]; with_reducible exact H2_) | (have H2_ := (Option.bind_some _ _).symm.trans H; with_reducible exact H2_) | with_reducible exact H | (rw [hy260]; exact H) | exact H
          have Ny260 := Aside0.mk hy260
          clear hy260
          have H' := Aside0.mk H
          clear H
          go_wp2_with (first | (at_builtin; refine print_append_str (w0 := w) w.heap.size rfl (.tmp 12) _ 37 9 5 rfl Try.underlying37 Try.underlying9 info5 u5 x5_1 a0 rfl rfl ?aO ?aB ?aS ?aL ?_; (case aB => exact (by repeat (first | (with_reducible first | exact HB.out | apply below_alloc | apply pw_below_drewN | apply below_drew1) | exact HB.out))); (case aO => exact (Kd.own_of_R (by (with_reducible repeat (first | apply Kd.R_alloc | apply Kd.R_drewN | apply Kd.R_drew)); exact HO_5.out))); (case aS => exact (below_size (by repeat (first | (with_reducible first | exact HB.out | apply below_alloc | apply pw_below_drewN | apply below_drew1) | exact HB.out)))); (case aL => have := LMc4.out; omega); intro v261 w5 ho0 hb hg; have ho := Kd.R_of_own (h1 := fun _ => rfl) (ok := fun _ => True) ho0 (fun _ _ => trivial); clear ho0; have hat := True.intro; rw [← Ny260.out] at ho; change Kd.R (Kd.int .u8) 5 w5 w.heap.size (fun _ => True) v261 y260 at ho; have n0_ := Aside0.mk (hb); have n1_ := Aside0.mk (ho); clear HB; clear HO_5; have HB := n0_; have HO262 := n1_; clear n0_ n1_; clear ho hb hg hat))
          go_roundg k1
          case measure => have := HK1.out; omega
          case rel => exact ⟨(y260), (wrap64 (x6_1 + 1)), (by first | rfl | (simp; done) | (simp [*]; done)), H', ⟨by have := HK1.out; omega⟩, ⟨by (with_reducible repeat (first | apply Kd.R_alloc | apply Kd.R_drewN | apply Kd.R_drew)); exact HO262.out⟩, ⟨by repeat (first | (with_reducible first | exact HB.out | apply below_alloc | apply pw_below_drewN | apply below_drew1) | exact HB.out)⟩⟩
        · rw [if_neg c4] at H
          exact absurd H (by simp)
      · rw [if_neg c3] at H
        have c3b0 : decide (x6_1 < a1) = false := decide_eq_false c3
        clear c3
        obtain rfl := Option.some.inj H
        have hcv6 := own_string (P := Try.prog) Try.underlying37 Try.underlying5 Try.underlying9 (Kd.own_of_R HO_5.out)
        go_wp2
        go_ret
        exact ⟨by first | rfl | (simp [errW_none, errW_some] <;> rfl) | (simp [*, errW_none, errW_some] <;> rfl), by repeat (first | (with_reducible first | exact HB.out | apply below_alloc | apply pw_below_drewN | apply below_drew1) | exact HB.out)⟩

end Go.Proofs.Ytnmmapjcphefpaa.G
