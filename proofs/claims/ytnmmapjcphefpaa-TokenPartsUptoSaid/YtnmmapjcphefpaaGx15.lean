-- Printed by wip/graft.py out of the translation, over the kit's print; contracts that it lacks are given by hand.
import Derived.Test.YtnmmapjcphefpaaGx0
import Derived.Test.YtnmmapjcphefpaaGx11
import Derived.Test.YtnmmapjcphefpaaGx4
import Derived.Test.YtnmmapjcphefpaaGxhtokenPrint
import Derived.Test.YtnmmapjcphefpaaGxhtokenTokens
namespace Go.Proofs.Ytnmmapjcphefpaa.G
open Go.RowKit Go.Proofs.YtnmmapjcphefpaaW.PrintWords Go.Proofs.YtnmmapjcphefpaaW.PrintLast Go.Proofs.YtnmmapjcphefpaaW.PrintMore
attribute [local go_sem] max2_int min2_int max_two min_two max_three min_three max_four min_four   -- for this text's walks alone
set_option linter.unusedVariables false
set_option linter.unusedSimpArgs false

/-! ### kilnlaw11_TokenParts: function 9 -/
mutual
def kilnlaw11_TokenParts.l0 : Nat → List (S27) → List Int → ByteArray → List (S27) → Int → Option (Bool)
  | 0, _, _, _, _, _ => none
  | k + 1, x0, x1, x5, x6, x7 => if x7 < (x0.length : Int) then (kilnlaw11_TokenParts.j1 k x0 x1 x5 x6 x7 (decide (x7 < 60))) else (kilnlaw11_TokenParts.j1 k x0 x1 x5 x6 x7 false)
def kilnlaw11_TokenParts.j1 : Nat → List (S27) → List Int → ByteArray → List (S27) → Int → Bool → Option (Bool)
  | 0, _, _, _, _, _, _ => none
  | k + 1, x0, x1, x5, x6, x7, x26 => if x26 = true then (if 0 ≤ x7 then (if x7 < (x0.length : Int) then ((token_Print.f k (([(⟨(rd_T27 x0 x7).f0, (rd_T27 x0 x7).f1, (rd_T27 x0 x7).f2, (rd_T27 x0 x7).f3⟩ : S27), (⟨7, (⟨#[]⟩ : ByteArray), 0, 0⟩ : S27)] : List (S27)))).bind fun bt359 => (if bt359.2 = 0 then (kilnlaw11_TokenParts.j2 k x0 x1 x5 x6 x7 bt359.1 (((rd_T27 x0 x7).f0) == 7) ((rd_T27 x0 x7).f0) ((rd_T27 x0 x7).f1) ((rd_T27 x0 x7).f2) ((rd_T27 x0 x7).f3)) else (kilnlaw11_TokenParts.j2 k x0 x1 x5 x6 x7 bt359.1 true ((rd_T27 x0 x7).f0) ((rd_T27 x0 x7).f1) ((rd_T27 x0 x7).f2) ((rd_T27 x0 x7).f3)))) else (none)) else (none)) else (if x6.length < 3518437208883 then ((some (x6 ++ [(⟨7, (⟨#[]⟩ : ByteArray), 1, (x5.size : Int)⟩ : S27)] : List (S27))).bind fun y372 => (if x5.size + 2 ≤ 9223372036854775807 then ((token_Tokens.f k (x5 ++ (⟨#[32, 10]⟩ : ByteArray))).bind fun bt375 => (if (x5.size : Int) > 60000 then (some true) else (if (y372.length : Int) = 1 then (if 0 < (y372.length : Int) then (if bt375.2.1 = 0 then ((kilnref11_Same.f k bt375.1 (y372.set (0 : Int).toNat (⟨(rd_T27 y372 0).f0, (rd_T27 y372 0).f1, (rd_T27 y372 0).f2, 0⟩ : S27))).bind fun t382 => (some t382)) else (some false)) else (none)) else (if bt375.2.1 = 0 then ((kilnref11_Same.f k bt375.1 y372).bind fun t383 => (some t383)) else (some false))))) else (none))) else (none))
def kilnlaw11_TokenParts.j2 : Nat → List (S27) → List Int → ByteArray → List (S27) → Int → ByteArray → Bool → Int → ByteArray → Int → Int → Option (Bool)
  | 0, _, _, _, _, _, _, _, _, _, _, _ => none
  | k + 1, x0, x1, x5, x6, x7, x9, x46, x356000, x356001, x356002, x356003 => if x46 = true then (kilnlaw11_TokenParts.l0 k x0 x1 x5 x6 (wrap64 (x7 + 1))) else (if (x9.size : Int) = 0 then (some false) else (if x7 < (x1.length : Int) then (if 0 ≤ x7 then (kilnlaw11_TokenParts.j3 k x0 x1 x5 x6 x7 x9 (Go.bits .and .i64 (rd x1 x7) 3) x356000 x356001 x356002 x356003) else (none)) else (kilnlaw11_TokenParts.j3 k x0 x1 x5 x6 x7 x9 1 x356000 x356001 x356002 x356003)))
def kilnlaw11_TokenParts.j3 : Nat → List (S27) → List Int → ByteArray → List (S27) → Int → ByteArray → Int → Int → ByteArray → Int → Int → Option (Bool)
  | 0, _, _, _, _, _, _, _, _, _, _, _ => none
  | k + 1, x0, x1, x5, x6, x7, x9, x11, x356000, x356001, x356002, x356003 => if (x6.length : Int) > 0 then (if x11 = 0 then (if x356000 = 1 then (if 0 ≤ (wrap64 ((x6.length : Int) - 1)) then (if (wrap64 ((x6.length : Int) - 1)) < (x6.length : Int) then (kilnlaw11_TokenParts.j4 k x0 x1 x5 x6 x7 x9 x11 (((rd_T27 x6 (wrap64 ((x6.length : Int) - 1))).f0) == 1) x356000 x356001 x356002 x356003) else (none)) else (none)) else (kilnlaw11_TokenParts.j4 k x0 x1 x5 x6 x7 x9 x11 false x356000 x356001 x356002 x356003)) else (kilnlaw11_TokenParts.j4 k x0 x1 x5 x6 x7 x9 x11 false x356000 x356001 x356002 x356003)) else (kilnlaw11_TokenParts.j4 k x0 x1 x5 x6 x7 x9 x11 false x356000 x356001 x356002 x356003)
def kilnlaw11_TokenParts.j4 : Nat → List (S27) → List Int → ByteArray → List (S27) → Int → ByteArray → Int → Bool → Int → ByteArray → Int → Int → Option (Bool)
  | 0, _, _, _, _, _, _, _, _, _, _, _, _ => none
  | k + 1, x0, x1, x5, x6, x7, x9, x11, x80, x356000, x356001, x356002, x356003 => if x80 = true then (kilnlaw11_TokenParts.j5 k x0 x1 x5 x6 x7 x9 1 x356000 x356001 x356002 x356003) else (kilnlaw11_TokenParts.j5 k x0 x1 x5 x6 x7 x9 x11 x356000 x356001 x356002 x356003)
def kilnlaw11_TokenParts.j5 : Nat → List (S27) → List Int → ByteArray → List (S27) → Int → ByteArray → Int → Int → ByteArray → Int → Int → Option (Bool)
  | 0, _, _, _, _, _, _, _, _, _, _, _ => none
  | k + 1, x0, x1, x5, x6, x7, x9, x11, x356000, x356001, x356002, x356003 => kilnlaw11_TokenParts.l1 k x0 x1 x5 x6 x7 x9 x11 0 x356000 x356001 x356002 x356003
def kilnlaw11_TokenParts.l1 : Nat → List (S27) → List Int → ByteArray → List (S27) → Int → ByteArray → Int → Int → Int → ByteArray → Int → Int → Option (Bool)
  | 0, _, _, _, _, _, _, _, _, _, _, _, _ => none
  | k + 1, x0, x1, x5, x6, x7, x9, x11, x12, x356000, x356001, x356002, x356003 => if x12 < x11 then (if x5.size + 1 ≤ 9223372036854775807 then (kilnlaw11_TokenParts.l1 k x0 x1 (x5 ++ (⟨#[32]⟩ : ByteArray)) x6 x7 x9 x11 (wrap64 (x12 + 1)) x356000 x356001 x356002 x356003) else (none)) else (if x356000 = 1 then (if x6.length < 3518437208883 then (if 0 ≤ (wrap64 ((x9.size : Int) - 1)) then (if (wrap64 ((x9.size : Int) - 1)) ≤ (x9.size : Int) then (if x5.size + (x9.extract 0 ((wrap64 ((x9.size : Int) - 1)) : Int).toNat).size ≤ 9223372036854775807 then (kilnlaw11_TokenParts.l0 k x0 x1 (x5 ++ (x9.extract 0 ((wrap64 ((x9.size : Int) - 1)) : Int).toNat)) (x6 ++ [(⟨x356000, x356001, 1, (x5.size : Int)⟩ : S27)]) (wrap64 (x7 + 1))) else (none)) else (none)) else (none)) else (none)) else (if x356000 = 2 then (if x6.length < 3518437208883 then (if 0 ≤ (wrap64 ((x9.size : Int) - 1)) then (if (wrap64 ((x9.size : Int) - 1)) ≤ (x9.size : Int) then (if x5.size + (x9.extract 0 ((wrap64 ((x9.size : Int) - 1)) : Int).toNat).size ≤ 9223372036854775807 then (kilnlaw11_TokenParts.l0 k x0 x1 (x5 ++ (x9.extract 0 ((wrap64 ((x9.size : Int) - 1)) : Int).toNat)) (x6 ++ [(⟨x356000, x356001, 1, (x5.size : Int)⟩ : S27)]) (wrap64 (x7 + 1))) else (none)) else (none)) else (none)) else (none)) else (if x6.length < 3518437208883 then (if 0 ≤ (wrap64 ((x9.size : Int) - 1)) then (if (wrap64 ((x9.size : Int) - 1)) ≤ (x9.size : Int) then (if x5.size + (x9.extract 0 ((wrap64 ((x9.size : Int) - 1)) : Int).toNat).size ≤ 9223372036854775807 then (kilnlaw11_TokenParts.l0 k x0 x1 (x5 ++ (x9.extract 0 ((wrap64 ((x9.size : Int) - 1)) : Int).toNat)) (x6 ++ [(⟨x356000, (⟨#[]⟩ : ByteArray), 1, (x5.size : Int)⟩ : S27)]) (wrap64 (x7 + 1))) else (none)) else (none)) else (none)) else (none))))
end
def kilnlaw11_TokenParts.f (k : Nat) (l0 : List (S27)) (l1 : List Int) : Option (Bool) := (kilnlaw11_Told.f k).bind fun t353 => (if t353 = true then (kilnlaw11_TokenParts.l0 k l0 l1 (⟨#[]⟩ : ByteArray) ([] : List (S27)) 0) else (some false))
theorem kilnlaw11_TokenParts.mono_l : ∀ k, (∀ y0 y1 y2 y3 y4, LeO (kilnlaw11_TokenParts.l0 k y0 y1 y2 y3 y4) (kilnlaw11_TokenParts.l0 (k + 1) y0 y1 y2 y3 y4)) ∧ (∀ y0 y1 y2 y3 y4 y5, LeO (kilnlaw11_TokenParts.j1 k y0 y1 y2 y3 y4 y5) (kilnlaw11_TokenParts.j1 (k + 1) y0 y1 y2 y3 y4 y5)) ∧ (∀ y0 y1 y2 y3 y4 y5 y6 y7 y8 y9 y10, LeO (kilnlaw11_TokenParts.j2 k y0 y1 y2 y3 y4 y5 y6 y7 y8 y9 y10) (kilnlaw11_TokenParts.j2 (k + 1) y0 y1 y2 y3 y4 y5 y6 y7 y8 y9 y10)) ∧ (∀ y0 y1 y2 y3 y4 y5 y6 y7 y8 y9 y10, LeO (kilnlaw11_TokenParts.j3 k y0 y1 y2 y3 y4 y5 y6 y7 y8 y9 y10) (kilnlaw11_TokenParts.j3 (k + 1) y0 y1 y2 y3 y4 y5 y6 y7 y8 y9 y10)) ∧ (∀ y0 y1 y2 y3 y4 y5 y6 y7 y8 y9 y10 y11, LeO (kilnlaw11_TokenParts.j4 k y0 y1 y2 y3 y4 y5 y6 y7 y8 y9 y10 y11) (kilnlaw11_TokenParts.j4 (k + 1) y0 y1 y2 y3 y4 y5 y6 y7 y8 y9 y10 y11)) ∧ (∀ y0 y1 y2 y3 y4 y5 y6 y7 y8 y9 y10, LeO (kilnlaw11_TokenParts.j5 k y0 y1 y2 y3 y4 y5 y6 y7 y8 y9 y10) (kilnlaw11_TokenParts.j5 (k + 1) y0 y1 y2 y3 y4 y5 y6 y7 y8 y9 y10)) ∧ (∀ y0 y1 y2 y3 y4 y5 y6 y7 y8 y9 y10 y11, LeO (kilnlaw11_TokenParts.l1 k y0 y1 y2 y3 y4 y5 y6 y7 y8 y9 y10 y11) (kilnlaw11_TokenParts.l1 (k + 1) y0 y1 y2 y3 y4 y5 y6 y7 y8 y9 y10 y11))
  | 0 => ⟨fun _ _ _ _ _ r h => by simp [kilnlaw11_TokenParts.l0] at h, fun _ _ _ _ _ _ r h => by simp [kilnlaw11_TokenParts.j1] at h, fun _ _ _ _ _ _ _ _ _ _ _ r h => by simp [kilnlaw11_TokenParts.j2] at h, fun _ _ _ _ _ _ _ _ _ _ _ r h => by simp [kilnlaw11_TokenParts.j3] at h, fun _ _ _ _ _ _ _ _ _ _ _ _ r h => by simp [kilnlaw11_TokenParts.j4] at h, fun _ _ _ _ _ _ _ _ _ _ _ r h => by simp [kilnlaw11_TokenParts.j5] at h, fun _ _ _ _ _ _ _ _ _ _ _ _ r h => by simp [kilnlaw11_TokenParts.l1] at h⟩
  | k + 1 => by
    obtain ⟨ih0, ih1, ih2, ih3, ih4, ih5, ih6⟩ := kilnlaw11_TokenParts.mono_l k
    refine ⟨?_, ?_, ?_, ?_, ?_, ?_, ?_⟩
    · intro y0 y1 y2 y3 y4
      unfold kilnlaw11_TokenParts.l0
      repeat' first
      | (with_reducible exact ih0 _ _ _ _ _)
      | (with_reducible exact ih1 _ _ _ _ _ _)
      | (with_reducible exact ih2 _ _ _ _ _ _ _ _ _ _ _)
      | (with_reducible exact ih3 _ _ _ _ _ _ _ _ _ _ _)
      | (with_reducible exact ih4 _ _ _ _ _ _ _ _ _ _ _ _)
      | (with_reducible exact ih5 _ _ _ _ _ _ _ _ _ _ _)
      | (with_reducible exact ih6 _ _ _ _ _ _ _ _ _ _ _ _)
      | (with_reducible exact kilnlaw11_Told.mono _)
      | (with_reducible exact kilnref11_Same.mono _ _ _)
      | (with_reducible exact token_Print.mono _ _)
      | (with_reducible exact token_Tokens.mono _ _)
      | (with_reducible exact LeO.refl _)
      | (with_reducible exact LeO.none _)
      | (with_reducible refine LeO.ite ?_ ?_)
      | (with_reducible refine LeO.bind ?_ (fun _ => ?_))
      | exact ih0 _ _ _ _ _
      | exact ih1 _ _ _ _ _ _
      | exact ih2 _ _ _ _ _ _ _ _ _ _ _
      | exact ih3 _ _ _ _ _ _ _ _ _ _ _
      | exact ih4 _ _ _ _ _ _ _ _ _ _ _ _
      | exact ih5 _ _ _ _ _ _ _ _ _ _ _
      | exact ih6 _ _ _ _ _ _ _ _ _ _ _ _
      | exact kilnlaw11_Told.mono _
      | exact kilnref11_Same.mono _ _ _
      | exact token_Print.mono _ _
      | exact token_Tokens.mono _ _
      | exact LeO.none _
      | refine LeO.ite ?_ ?_
      | refine LeO.bind ?_ (fun _ => ?_)
    · intro y0 y1 y2 y3 y4 y5
      unfold kilnlaw11_TokenParts.j1
      repeat' first
      | (with_reducible exact ih0 _ _ _ _ _)
      | (with_reducible exact ih1 _ _ _ _ _ _)
      | (with_reducible exact ih2 _ _ _ _ _ _ _ _ _ _ _)
      | (with_reducible exact ih3 _ _ _ _ _ _ _ _ _ _ _)
      | (with_reducible exact ih4 _ _ _ _ _ _ _ _ _ _ _ _)
      | (with_reducible exact ih5 _ _ _ _ _ _ _ _ _ _ _)
      | (with_reducible exact ih6 _ _ _ _ _ _ _ _ _ _ _ _)
      | (with_reducible exact kilnlaw11_Told.mono _)
      | (with_reducible exact kilnref11_Same.mono _ _ _)
      | (with_reducible exact token_Print.mono _ _)
      | (with_reducible exact token_Tokens.mono _ _)
      | (with_reducible exact LeO.refl _)
      | (with_reducible exact LeO.none _)
      | (with_reducible refine LeO.ite ?_ ?_)
      | (with_reducible refine LeO.bind ?_ (fun _ => ?_))
      | exact ih0 _ _ _ _ _
      | exact ih1 _ _ _ _ _ _
      | exact ih2 _ _ _ _ _ _ _ _ _ _ _
      | exact ih3 _ _ _ _ _ _ _ _ _ _ _
      | exact ih4 _ _ _ _ _ _ _ _ _ _ _ _
      | exact ih5 _ _ _ _ _ _ _ _ _ _ _
      | exact ih6 _ _ _ _ _ _ _ _ _ _ _ _
      | exact kilnlaw11_Told.mono _
      | exact kilnref11_Same.mono _ _ _
      | exact token_Print.mono _ _
      | exact token_Tokens.mono _ _
      | exact LeO.none _
      | refine LeO.ite ?_ ?_
      | refine LeO.bind ?_ (fun _ => ?_)
    · intro y0 y1 y2 y3 y4 y5 y6 y7 y8 y9 y10
      unfold kilnlaw11_TokenParts.j2
      repeat' first
      | (with_reducible exact ih0 _ _ _ _ _)
      | (with_reducible exact ih1 _ _ _ _ _ _)
      | (with_reducible exact ih2 _ _ _ _ _ _ _ _ _ _ _)
      | (with_reducible exact ih3 _ _ _ _ _ _ _ _ _ _ _)
      | (with_reducible exact ih4 _ _ _ _ _ _ _ _ _ _ _ _)
      | (with_reducible exact ih5 _ _ _ _ _ _ _ _ _ _ _)
      | (with_reducible exact ih6 _ _ _ _ _ _ _ _ _ _ _ _)
      | (with_reducible exact kilnlaw11_Told.mono _)
      | (with_reducible exact kilnref11_Same.mono _ _ _)
      | (with_reducible exact token_Print.mono _ _)
      | (with_reducible exact token_Tokens.mono _ _)
      | (with_reducible exact LeO.refl _)
      | (with_reducible exact LeO.none _)
      | (with_reducible refine LeO.ite ?_ ?_)
      | (with_reducible refine LeO.bind ?_ (fun _ => ?_))
      | exact ih0 _ _ _ _ _
      | exact ih1 _ _ _ _ _ _
      | exact ih2 _ _ _ _ _ _ _ _ _ _ _
      | exact ih3 _ _ _ _ _ _ _ _ _ _ _
      | exact ih4 _ _ _ _ _ _ _ _ _ _ _ _
      | exact ih5 _ _ _ _ _ _ _ _ _ _ _
      | exact ih6 _ _ _ _ _ _ _ _ _ _ _ _
      | exact kilnlaw11_Told.mono _
      | exact kilnref11_Same.mono _ _ _
      | exact token_Print.mono _ _
      | exact token_Tokens.mono _ _
      | exact LeO.none _
      | refine LeO.ite ?_ ?_
      | refine LeO.bind ?_ (fun _ => ?_)
    · intro y0 y1 y2 y3 y4 y5 y6 y7 y8 y9 y10
      unfold kilnlaw11_TokenParts.j3
      repeat' first
      | (with_reducible exact ih0 _ _ _ _ _)
      | (with_reducible exact ih1 _ _ _ _ _ _)
      | (with_reducible exact ih2 _ _ _ _ _ _ _ _ _ _ _)
      | (with_reducible exact ih3 _ _ _ _ _ _ _ _ _ _ _)
      | (with_reducible exact ih4 _ _ _ _ _ _ _ _ _ _ _ _)
      | (with_reducible exact ih5 _ _ _ _ _ _ _ _ _ _ _)
      | (with_reducible exact ih6 _ _ _ _ _ _ _ _ _ _ _ _)
      | (with_reducible exact kilnlaw11_Told.mono _)
      | (with_reducible exact kilnref11_Same.mono _ _ _)
      | (with_reducible exact token_Print.mono _ _)
      | (with_reducible exact token_Tokens.mono _ _)
      | (with_reducible exact LeO.refl _)
      | (with_reducible exact LeO.none _)
      | (with_reducible refine LeO.ite ?_ ?_)
      | (with_reducible refine LeO.bind ?_ (fun _ => ?_))
      | exact ih0 _ _ _ _ _
      | exact ih1 _ _ _ _ _ _
      | exact ih2 _ _ _ _ _ _ _ _ _ _ _
      | exact ih3 _ _ _ _ _ _ _ _ _ _ _
      | exact ih4 _ _ _ _ _ _ _ _ _ _ _ _
      | exact ih5 _ _ _ _ _ _ _ _ _ _ _
      | exact ih6 _ _ _ _ _ _ _ _ _ _ _ _
      | exact kilnlaw11_Told.mono _
      | exact kilnref11_Same.mono _ _ _
      | exact token_Print.mono _ _
      | exact token_Tokens.mono _ _
      | exact LeO.none _
      | refine LeO.ite ?_ ?_
      | refine LeO.bind ?_ (fun _ => ?_)
    · intro y0 y1 y2 y3 y4 y5 y6 y7 y8 y9 y10 y11
      unfold kilnlaw11_TokenParts.j4
      repeat' first
      | (with_reducible exact ih0 _ _ _ _ _)
      | (with_reducible exact ih1 _ _ _ _ _ _)
      | (with_reducible exact ih2 _ _ _ _ _ _ _ _ _ _ _)
      | (with_reducible exact ih3 _ _ _ _ _ _ _ _ _ _ _)
      | (with_reducible exact ih4 _ _ _ _ _ _ _ _ _ _ _ _)
      | (with_reducible exact ih5 _ _ _ _ _ _ _ _ _ _ _)
      | (with_reducible exact ih6 _ _ _ _ _ _ _ _ _ _ _ _)
      | (with_reducible exact kilnlaw11_Told.mono _)
      | (with_reducible exact kilnref11_Same.mono _ _ _)
      | (with_reducible exact token_Print.mono _ _)
      | (with_reducible exact token_Tokens.mono _ _)
      | (with_reducible exact LeO.refl _)
      | (with_reducible exact LeO.none _)
      | (with_reducible refine LeO.ite ?_ ?_)
      | (with_reducible refine LeO.bind ?_ (fun _ => ?_))
      | exact ih0 _ _ _ _ _
      | exact ih1 _ _ _ _ _ _
      | exact ih2 _ _ _ _ _ _ _ _ _ _ _
      | exact ih3 _ _ _ _ _ _ _ _ _ _ _
      | exact ih4 _ _ _ _ _ _ _ _ _ _ _ _
      | exact ih5 _ _ _ _ _ _ _ _ _ _ _
      | exact ih6 _ _ _ _ _ _ _ _ _ _ _ _
      | exact kilnlaw11_Told.mono _
      | exact kilnref11_Same.mono _ _ _
      | exact token_Print.mono _ _
      | exact token_Tokens.mono _ _
      | exact LeO.none _
      | refine LeO.ite ?_ ?_
      | refine LeO.bind ?_ (fun _ => ?_)
    · intro y0 y1 y2 y3 y4 y5 y6 y7 y8 y9 y10
      unfold kilnlaw11_TokenParts.j5
      repeat' first
      | (with_reducible exact ih0 _ _ _ _ _)
      | (with_reducible exact ih1 _ _ _ _ _ _)
      | (with_reducible exact ih2 _ _ _ _ _ _ _ _ _ _ _)
      | (with_reducible exact ih3 _ _ _ _ _ _ _ _ _ _ _)
      | (with_reducible exact ih4 _ _ _ _ _ _ _ _ _ _ _ _)
      | (with_reducible exact ih5 _ _ _ _ _ _ _ _ _ _ _)
      | (with_reducible exact ih6 _ _ _ _ _ _ _ _ _ _ _ _)
      | (with_reducible exact kilnlaw11_Told.mono _)
      | (with_reducible exact kilnref11_Same.mono _ _ _)
      | (with_reducible exact token_Print.mono _ _)
      | (with_reducible exact token_Tokens.mono _ _)
      | (with_reducible exact LeO.refl _)
      | (with_reducible exact LeO.none _)
      | (with_reducible refine LeO.ite ?_ ?_)
      | (with_reducible refine LeO.bind ?_ (fun _ => ?_))
      | exact ih0 _ _ _ _ _
      | exact ih1 _ _ _ _ _ _
      | exact ih2 _ _ _ _ _ _ _ _ _ _ _
      | exact ih3 _ _ _ _ _ _ _ _ _ _ _
      | exact ih4 _ _ _ _ _ _ _ _ _ _ _ _
      | exact ih5 _ _ _ _ _ _ _ _ _ _ _
      | exact ih6 _ _ _ _ _ _ _ _ _ _ _ _
      | exact kilnlaw11_Told.mono _
      | exact kilnref11_Same.mono _ _ _
      | exact token_Print.mono _ _
      | exact token_Tokens.mono _ _
      | exact LeO.none _
      | refine LeO.ite ?_ ?_
      | refine LeO.bind ?_ (fun _ => ?_)
    · intro y0 y1 y2 y3 y4 y5 y6 y7 y8 y9 y10 y11
      unfold kilnlaw11_TokenParts.l1
      repeat' first
      | (with_reducible exact ih0 _ _ _ _ _)
      | (with_reducible exact ih1 _ _ _ _ _ _)
      | (with_reducible exact ih2 _ _ _ _ _ _ _ _ _ _ _)
      | (with_reducible exact ih3 _ _ _ _ _ _ _ _ _ _ _)
      | (with_reducible exact ih4 _ _ _ _ _ _ _ _ _ _ _ _)
      | (with_reducible exact ih5 _ _ _ _ _ _ _ _ _ _ _)
      | (with_reducible exact ih6 _ _ _ _ _ _ _ _ _ _ _ _)
      | (with_reducible exact kilnlaw11_Told.mono _)
      | (with_reducible exact kilnref11_Same.mono _ _ _)
      | (with_reducible exact token_Print.mono _ _)
      | (with_reducible exact token_Tokens.mono _ _)
      | (with_reducible exact LeO.refl _)
      | (with_reducible exact LeO.none _)
      | (with_reducible refine LeO.ite ?_ ?_)
      | (with_reducible refine LeO.bind ?_ (fun _ => ?_))
      | exact ih0 _ _ _ _ _
      | exact ih1 _ _ _ _ _ _
      | exact ih2 _ _ _ _ _ _ _ _ _ _ _
      | exact ih3 _ _ _ _ _ _ _ _ _ _ _
      | exact ih4 _ _ _ _ _ _ _ _ _ _ _ _
      | exact ih5 _ _ _ _ _ _ _ _ _ _ _
      | exact ih6 _ _ _ _ _ _ _ _ _ _ _ _
      | exact kilnlaw11_Told.mono _
      | exact kilnref11_Same.mono _ _ _
      | exact token_Print.mono _ _
      | exact token_Tokens.mono _ _
      | exact LeO.none _
      | refine LeO.ite ?_ ?_
      | refine LeO.bind ?_ (fun _ => ?_)
theorem kilnlaw11_TokenParts.mono : ∀ a0 a1 k, LeO (kilnlaw11_TokenParts.f k a0 a1) (kilnlaw11_TokenParts.f (k + 1) a0 a1) := by
  intro a0 a1 k
  obtain ⟨ih0, ih1, ih2, ih3, ih4, ih5, ih6⟩ := kilnlaw11_TokenParts.mono_l k
  unfold kilnlaw11_TokenParts.f
  repeat' first
      | (with_reducible exact ih0 _ _ _ _ _)
      | (with_reducible exact ih1 _ _ _ _ _ _)
      | (with_reducible exact ih2 _ _ _ _ _ _ _ _ _ _ _)
      | (with_reducible exact ih3 _ _ _ _ _ _ _ _ _ _ _)
      | (with_reducible exact ih4 _ _ _ _ _ _ _ _ _ _ _ _)
      | (with_reducible exact ih5 _ _ _ _ _ _ _ _ _ _ _)
      | (with_reducible exact ih6 _ _ _ _ _ _ _ _ _ _ _ _)
      | (with_reducible exact kilnlaw11_Told.mono _)
      | (with_reducible exact kilnref11_Same.mono _ _ _)
      | (with_reducible exact token_Print.mono _ _)
      | (with_reducible exact token_Tokens.mono _ _)
      | (with_reducible exact LeO.refl _)
      | (with_reducible exact LeO.none _)
      | (with_reducible refine LeO.ite ?_ ?_)
      | (with_reducible refine LeO.bind ?_ (fun _ => ?_))
      | exact ih0 _ _ _ _ _
      | exact ih1 _ _ _ _ _ _
      | exact ih2 _ _ _ _ _ _ _ _ _ _ _
      | exact ih3 _ _ _ _ _ _ _ _ _ _ _
      | exact ih4 _ _ _ _ _ _ _ _ _ _ _ _
      | exact ih5 _ _ _ _ _ _ _ _ _ _ _
      | exact ih6 _ _ _ _ _ _ _ _ _ _ _ _
      | exact kilnlaw11_Told.mono _
      | exact kilnref11_Same.mono _ _ _
      | exact token_Print.mono _ _
      | exact token_Tokens.mono _ _
      | exact LeO.none _
      | refine LeO.ite ?_ ?_
      | refine LeO.bind ?_ (fun _ => ?_)
set_option maxHeartbeats 8000000 in
set_option maxRecDepth 100000 in
theorem kilnlaw11_TokenParts.calls (k : Nat) (A0 : Option Addr) (c0 : Nat) (l0 : List (S27)) (A1 : Option Addr) (c1 : Nat) (l1 : List Int) (r : Bool) (w : World) (hr0 : Kd.C k27 w A0 l0.length l0) (hc0 : l0.length ≤ c0) (hr1 : Kd.C (Kd.int .i64) w A1 l1.length l1) (hc1 : l1.length ≤ c1) (h : kilnlaw11_TokenParts.f k l0 l1 = some r) :
    Calls Try.prog 9 #[.slice A0 l0.length c0, .slice A1 l1.length c1] w fun e w' => e = .returned (.bool r) ∧ Below w.heap.size w w' := by
  have hu27 := Try.underlying27
  have HR0 := Aside0.mk hr0
  have HC0 := Aside0.mk hc0
  clear hr0 hc0
  have HR1 := Aside0.mk hr1
  have HC1 := Aside0.mk hc1
  clear hr1 hc1
  have HB := Aside0.mk (Below.refl w.heap.size w)
  have H : ((kilnlaw11_Told.f k).bind fun t353 => (if t353 = true then (kilnlaw11_TokenParts.l0 k l0 l1 (⟨#[]⟩ : ByteArray) ([] : List (S27)) 0) else (some false))) = some r := h
  clear h
  replace H := Option.bind_eq_some_iff.mp H
  obtain ⟨t353, A30, H⟩ := H
  replace H : (if t353 = true then (kilnlaw11_TokenParts.l0 k l0 l1 (⟨#[]⟩ : ByteArray) ([] : List (S27)) 0) else (some false)) = some r := H
  have A3 := Aside0.mk A30
  clear A30
  by_cases c4 : t353 = true
  · subst c4
    have H1 : (kilnlaw11_TokenParts.l0 k l0 l1 (⟨#[]⟩ : ByteArray) ([] : List (S27)) 0) = some r := by rw [if_pos rfl] at H; exact H
    clear H
    have H := H1
    clear H1
    have H' := Aside0.mk H
    clear H
    go_enter Try.func9, Try.ntmps9
    go_wp2_with (first | ((with_reducible refine gate_callee (f := 14) rfl ?_); refine goesL_ (some 17) rfl rfl Try.func14 (by kernel_rfl) rfl #[] rfl (by (try simp only [List.map_toArray, List.map_cons, List.map_nil]); first | done | rfl | (simp only [List.length_drop, List.length_take]; rfl)) ?_; (with_reducible refine (kilnlaw11_Told.calls k  true _ A3.out).mono ?_); rintro e w5 ⟨rfl, hb⟩; refine ⟨_, rfl, ?_⟩; have n0_ := Aside0.mk (below_step (by repeat (first | (with_reducible first | exact HB.out | apply below_alloc | apply pw_below_drewN | apply below_drew1) | exact HB.out)) hb); clear HB; have HB := n0_; clear n0_; (try clear hb); (try clear hb2); (try clear hk); (try clear hi)))
    go_loopg [5, 6, 7] k (fun kq v5 v6 v7 w' => ∃ (x5_1 : ByteArray) (x6_1 : List (S27)) (x7_1 : Int), v5 = .string x5_1 ∧ v7 = .int .i64 x7_1 ∧ Aside0 (kilnlaw11_TokenParts.l0 kq l0 l1 x5_1 x6_1 x7_1 = some r) ∧ Aside0 (kq ≤ k) ∧ Aside0 (Kd.R k27 27 w' w.heap.size (fun _ => True) v6 x6_1) ∧ Aside0 (Below w.heap.size w w'))
    case atStart => exact ⟨((⟨#[]⟩ : ByteArray)), (([] : List (S27))), (0), (by first | rfl | (simp; done) | (simp [*]; done)), (by first | rfl | (simp; done) | (simp [*]; done)), H', ⟨Nat.le_refl _⟩, ⟨by first | exact Kd.R_nil _ _ _ _ _ | exact Kd.N_nil _ _ _ _ _ | exact Kd.V_nil _ _ _ _ _ | exact Kd.Q_nil _ _ _ _ _ | exact Kd.S_nil _ _ _ _ _⟩, ⟨by repeat (first | (with_reducible first | exact HB.out | apply below_alloc | apply pw_below_drewN | apply below_drew1) | exact HB.out)⟩⟩
    case round =>
      clear H'
      try clear c1
      try clear p2
      try clear c4
      obtain ⟨x5_1, x6_1, x7_1, rfl, rfl, HA, HK1, HO_6, HB⟩ := hrel
      cases gk with
      | zero => exact absurd HA.out (by simp [kilnlaw11_TokenParts.l0])
      | succ k1 =>
        have H := HA.out
        clear HA
        simp only [kilnlaw11_TokenParts.l0] at H
        have HC6 := Aside0.mk H
        clear H
        go_upto_region 6 with (fail)
        go_cut [26] (fun v26 wc => ∃ (kq : Nat) (x26_5 : Bool), v26 = .bool x26_5 ∧ Aside0 (kilnlaw11_TokenParts.j1 kq l0 l1 x5_1 x6_1 x7_1 x26_5 = some r) ∧ Aside0 (kq ≤ k1) ∧ Aside0 (Kd.R k27 27 wc w.heap.size (fun _ => True) u6 x6_1) ∧ Aside0 (Below w.heap.size w wc))
        case first =>
          have H := HC6.out
          clear HC6
          by_cases c7 : x7_1 < (l0.length : Int)
          · rw [if_pos c7] at H
            have c7b0 : decide (x7_1 < (l0.length : Int)) = true := decide_eq_true c7
            clear c7
            (first | rw [c7b0] | (simp only [i64_w, i32_w]; rw [c7b0]) | skip)
            have H' := Aside0.mk H
            clear H
            go_wp2
            go_meet
            case rel => exact ⟨_, (decide (x7_1 < 60)), (by first | rfl | (simp; done) | (simp [*]; done)), H', ⟨by have := HK1.out; first | omega | exact Nat.le_refl _⟩, ⟨by (with_reducible repeat (first | apply Kd.R_alloc | apply Kd.R_drewN | apply Kd.R_drew)); exact HO_6.out⟩, ⟨by repeat (first | (with_reducible first | exact HB.out | apply below_alloc | apply pw_below_drewN | apply below_drew1) | exact HB.out)⟩⟩
          · rw [if_neg c7] at H
            have c7b0 : decide (x7_1 < (l0.length : Int)) = false := decide_eq_false c7
            clear c7
            (first | rw [c7b0] | (simp only [i64_w, i32_w]; rw [c7b0]) | skip)
            have H' := Aside0.mk H
            clear H
            go_wp2
            go_meet
            case rel => exact ⟨_, (false), (by first | rfl | (simp; done) | (simp [*]; done)), H', ⟨by have := HK1.out; first | omega | exact Nat.le_refl _⟩, ⟨by (with_reducible repeat (first | apply Kd.R_alloc | apply Kd.R_drewN | apply Kd.R_drew)); exact HO_6.out⟩, ⟨by repeat (first | (with_reducible first | exact HB.out | apply below_alloc | apply pw_below_drewN | apply below_drew1) | exact HB.out)⟩⟩
        case rest =>
          clear HC6
          try clear c1
          try clear p2
          try clear c4
          try clear c7
          try clear c7b0
          try clear p2
          obtain ⟨kq, x26_5, rfl, HA, HJ5, HO_6, HB⟩ := hcut
          cases kq with
          | zero => exact absurd HA.out (by simp [kilnlaw11_TokenParts.j1])
          | succ kj5 =>
            have H := HA.out
            clear HA
            simp only [kilnlaw11_TokenParts.j1] at H
            by_cases c8 : x26_5 = true
            · subst c8
              have H1 : (if 0 ≤ x7_1 then (if x7_1 < (l0.length : Int) then ((token_Print.f kj5 (([(⟨(rd_T27 l0 x7_1).f0, (rd_T27 l0 x7_1).f1, (rd_T27 l0 x7_1).f2, (rd_T27 l0 x7_1).f3⟩ : S27), (⟨7, (⟨#[]⟩ : ByteArray), 0, 0⟩ : S27)] : List (S27)))).bind fun bt359 => (if bt359.2 = 0 then (kilnlaw11_TokenParts.j2 kj5 l0 l1 x5_1 x6_1 x7_1 bt359.1 (((rd_T27 l0 x7_1).f0) == 7) ((rd_T27 l0 x7_1).f0) ((rd_T27 l0 x7_1).f1) ((rd_T27 l0 x7_1).f2) ((rd_T27 l0 x7_1).f3)) else (kilnlaw11_TokenParts.j2 kj5 l0 l1 x5_1 x6_1 x7_1 bt359.1 true ((rd_T27 l0 x7_1).f0) ((rd_T27 l0 x7_1).f1) ((rd_T27 l0 x7_1).f2) ((rd_T27 l0 x7_1).f3)))) else (none)) else (none)) = some r := by rw [if_pos rfl] at H; exact H
              clear H
              have H := H1
              clear H1
              by_cases c9 : 0 ≤ x7_1
              · rw [if_pos c9] at H
                have c9b0 : decide (0 ≤ x7_1) = true := decide_eq_true c9
                clear c9
                by_cases c10 : x7_1 < (l0.length : Int)
                · rw [if_pos c10] at H
                  have c10b0 : decide (x7_1 < (l0.length : Int)) = true := decide_eq_true c10
                  clear c10
                  obtain ⟨y356, hy356⟩ : ∃ y_ : List (S27), y_ = (([(⟨(rd_T27 l0 x7_1).f0, (rd_T27 l0 x7_1).f1, (rd_T27 l0 x7_1).f2, (rd_T27 l0 x7_1).f3⟩ : S27), (⟨7, (⟨#[]⟩ : ByteArray), 0, 0⟩ : S27)] : List (S27))) := ⟨_, rfl⟩
                  replace H : ((token_Print.f kj5 y356).bind fun bt359 => (if bt359.2 = 0 then (kilnlaw11_TokenParts.j2 kj5 l0 l1 x5_1 x6_1 x7_1 bt359.1 (((rd_T27 l0 x7_1).f0) == 7) ((rd_T27 l0 x7_1).f0) ((rd_T27 l0 x7_1).f1) ((rd_T27 l0 x7_1).f2) ((rd_T27 l0 x7_1).f3)) else (kilnlaw11_TokenParts.j2 kj5 l0 l1 x5_1 x6_1 x7_1 bt359.1 true ((rd_T27 l0 x7_1).f0) ((rd_T27 l0 x7_1).f1) ((rd_T27 l0 x7_1).f2) ((rd_T27 l0 x7_1).f3)))) = some r := by first | (rw [hy356]; with_reducible exact H) | (have H2_ := (Option.bind_some _ _).symm.trans H; rw [hy356]; with_reducible exact H2_) | (have H2_ := (Option.bind_some _ _).symm.trans H; with_reducible exact H2_) | with_reducible exact H | (rw [hy356]; exact H) | exact H
                  have Ny356 := Aside0.mk hy356
                  clear hy356
                  replace H := Option.bind_eq_some_iff.mp H
                  obtain ⟨⟨t359, t360⟩, A110, H⟩ := H
                  replace H : (if t360 = 0 then (kilnlaw11_TokenParts.j2 kj5 l0 l1 x5_1 x6_1 x7_1 t359 (((rd_T27 l0 x7_1).f0) == 7) ((rd_T27 l0 x7_1).f0) ((rd_T27 l0 x7_1).f1) ((rd_T27 l0 x7_1).f2) ((rd_T27 l0 x7_1).f3)) else (kilnlaw11_TokenParts.j2 kj5 l0 l1 x5_1 x6_1 x7_1 t359 true ((rd_T27 l0 x7_1).f0) ((rd_T27 l0 x7_1).f1) ((rd_T27 l0 x7_1).f2) ((rd_T27 l0 x7_1).f3))) = some r := H
                  have A11 := Aside0.mk A110
                  clear A110
                  have HC12 := Aside0.mk H
                  clear H
                  have p354 : 0 ≤ (x7_1 : Int) := of_decide_eq_true (by first | (with_reducible assumption) | assumption)
                  have q354 : x7_1 < (l0.length : Int) := of_decide_eq_true (by first | (with_reducible assumption) | assumption)
                  obtain ⟨ad354, e354, hx354_0, hx354_1, hx354_2, hx354_3⟩ := at_T27 HR0.out x7_1 p354 q354
                  cases e354
                  replace hx354_0 := (HB.out.cell (World.block_lt_of_cell? w _ hx354_0)).trans hx354_0
                  replace hx354_1 := (HB.out.cell (World.block_lt_of_cell? w _ hx354_1)).trans hx354_1
                  replace hx354_2 := (HB.out.cell (World.block_lt_of_cell? w _ hx354_2)).trans hx354_2
                  replace hx354_3 := (HB.out.cell (World.block_lt_of_cell? w _ hx354_3)).trans hx354_3
                  replace p354 := eq_true p354
                  replace q354 := eq_true q354
                  go_upto_region 10 with (first | ((with_reducible refine gate_dst (N := 8) rfl ?_); (try (refine gate_guard (by rfl) ?_; dsimp only)); refine box_event ?hg (N := 8) ?hd (cs := #[.int .i64 0, .string (⟨#[]⟩ : ByteArray), .int .i64 0, .int .i64 0]) (t := 27) ?hr ?_; (case hd => rfl); (case hg => rfl); (case hr => first | (go_simp; done) | (go_simp; rfl)); intro gb355 hg w13 hbox hb; have n0_ := Aside0.mk (Kd.R_below (Kd.R_elderB (by (with_reducible repeat (first | apply Kd.R_alloc | apply Kd.R_drewN | apply Kd.R_drew)); exact HO_6.out) gb355 (Nat.le_of_eq hg.symm)) hb); have n1_ := Aside0.mk (below_step (by repeat (first | (with_reducible first | exact HB.out | apply below_alloc | apply pw_below_drewN | apply below_drew1) | exact HB.out)) hb); have n2_ := Aside0.mk (hbox); have n3_ := Aside0.mk ((by rw [hg]; exact (below_size (by repeat (first | (with_reducible first | exact HB.out | apply below_alloc | apply pw_below_drewN | apply below_drew1) | exact HB.out))) : w.heap.size ≤ gb355)); have n4_ := Aside0.mk ((by rw [hg]; exact (below_size (by repeat (first | (with_reducible first | exact HB.out | apply below_alloc | apply pw_below_drewN | apply below_drew1) | exact HB.out))) : w.heap.size ≤ gb355)); clear HO_6; clear HB; have HO_6 := n0_; have HB := n1_; have BK355 := n2_; have GW355 := n3_; have GE355 := n4_; clear n0_ n1_ n2_ n3_ n4_; clear hb hbox hg; have hcz14_0 : w13.cell? ⟨gb355, 0, none⟩ = some (.int .i64 0) := (blk_cell BK355.out 0).trans rfl; have hcz14_1 : w13.cell? ⟨gb355, 1, none⟩ = some (.string (⟨#[]⟩ : ByteArray)) := (blk_cell BK355.out 1).trans rfl; have hcz14_2 : w13.cell? ⟨gb355, 2, none⟩ = some (.int .i64 0) := (blk_cell BK355.out 2).trans rfl; have hcz14_3 : w13.cell? ⟨gb355, 3, none⟩ = some (.int .i64 0) := (blk_cell BK355.out 3).trans rfl; have hfz14_0 := blk_frozen BK355.out 0; have hfz14_1 := blk_frozen BK355.out 1; have hfz14_2 := blk_frozen BK355.out 2; have hfz14_3 := blk_frozen BK355.out 3) | ((with_reducible refine gate_dst (N := 36) rfl ?_); (try (refine gate_guard (by rfl) ?_; dsimp only)); refine Kd.R_lit k27 _ 27 ?hg (N := 36) ?hd (xs := ([(⟨(rd_T27 l0 x7_1).f0, (rd_T27 l0 x7_1).f1, (rd_T27 l0 x7_1).f2, (rd_T27 l0 x7_1).f3⟩ : S27), (⟨7, (⟨#[]⟩ : ByteArray), 0, 0⟩ : S27)] : List (S27))) (inner := [.int .i64 ((rd_T27 l0 x7_1).f0), .string ((rd_T27 l0 x7_1).f1), .int .i64 ((rd_T27 l0 x7_1).f2), .int .i64 ((rd_T27 l0 x7_1).f3), .int .i64 7, .string (⟨#[]⟩ : ByteArray), .int .i64 0, .int .i64 0]) (ok := fun _ => True) (okp := fun _ => True) ?hr ?hp (fun _ hk => hk) trivial (Below.refl _ _) (Nat.le_refl _) (by simp) ?_; (case hd => rfl); (case hg => rfl); (case hr => first | (go_simp; done) | (go_simp; rfl)); (case hp => exact (Reps.c4 (show Kd.M k27 _ _ _ (⟨(rd_T27 l0 x7_1).f0, (rd_T27 l0 x7_1).f1, (rd_T27 l0 x7_1).f2, (rd_T27 l0 x7_1).f3⟩ : S27) [.int .i64 ((rd_T27 l0 x7_1).f0), .string ((rd_T27 l0 x7_1).f1), .int .i64 ((rd_T27 l0 x7_1).f2), .int .i64 ((rd_T27 l0 x7_1).f3)] from (k27_mkM _ _ _ (⟨(rd_T27 l0 x7_1).f0, (rd_T27 l0 x7_1).f1, (rd_T27 l0 x7_1).f2, (rd_T27 l0 x7_1).f3⟩ : S27) )) (Reps.c4 (show Kd.M k27 _ _ _ (⟨7, (⟨#[]⟩ : ByteArray), 0, 0⟩ : S27) [.int .i64 7, .string (⟨#[]⟩ : ByteArray), .int .i64 0, .int .i64 0] from (k27_mkM _ _ _ (⟨7, (⟨#[]⟩ : ByteArray), 0, 0⟩ : S27) )) (Reps.none _ _)))); intro v357 w15 ho16 hb hg_ hnew_; clear hg_ hnew_; (first | rw [← Ny356.out] at ho16 | (simp only [Int.reduceToNat] at ho16; rw [← Ny356.out] at ho16)); have n0_ := Aside0.mk (Kd.R_elder' (by (with_reducible repeat (first | apply Kd.R_alloc | apply Kd.R_drewN | apply Kd.R_drew)); exact (Kd.R_mono (Kd.R_far (p := ⟨gb355, 3, none⟩) (Kd.R_far (p := ⟨gb355, 2, none⟩) (Kd.R_far (p := ⟨gb355, 1, none⟩) (Kd.R_far (p := ⟨gb355, 0, none⟩) (Kd.R_mono HO_6.out (fun k_ hk => (⟨hk, hk.2⟩ : _ ∧ k_ ≠ gb355))) (fun _ hk => hk.2) (.int .i64 ((rd_T27 l0 x7_1).f0))) (fun _ hk => hk.2) (.string ((rd_T27 l0 x7_1).f1))) (fun _ hk => hk.2) (.int .i64 ((rd_T27 l0 x7_1).f2))) (fun _ hk => hk.2) (.int .i64 ((rd_T27 l0 x7_1).f3))) (fun _ h_ => h_.1))) (Kd.R_base ho16) hb); have n1_ := Aside0.mk (Kd.R_lower (Kd.R_newB (Kd.R_new' ho16 (Kd.R_lt (by (with_reducible repeat (first | apply Kd.R_alloc | apply Kd.R_drewN | apply Kd.R_drew)); exact (Kd.R_mono (Kd.R_far (p := ⟨gb355, 3, none⟩) (Kd.R_far (p := ⟨gb355, 2, none⟩) (Kd.R_far (p := ⟨gb355, 1, none⟩) (Kd.R_far (p := ⟨gb355, 0, none⟩) (Kd.R_mono HO_6.out (fun k_ hk => (⟨hk, hk.2⟩ : _ ∧ k_ ≠ gb355))) (fun _ hk => hk.2) (.int .i64 ((rd_T27 l0 x7_1).f0))) (fun _ hk => hk.2) (.string ((rd_T27 l0 x7_1).f1))) (fun _ hk => hk.2) (.int .i64 ((rd_T27 l0 x7_1).f2))) (fun _ hk => hk.2) (.int .i64 ((rd_T27 l0 x7_1).f3))) (fun _ h_ => h_.1))))) (g := gb355) (o := .cells #[.int .i64 ((rd_T27 l0 x7_1).f0), .string ((rd_T27 l0 x7_1).f1), .int .i64 ((rd_T27 l0 x7_1).f2), .int .i64 ((rd_T27 l0 x7_1).f3)] 27 (0, 0)) (by (with_reducible repeat (first | refine blk_drewN ?_ _ | refine blk_drew ?_ | refine blk_alloc ?_ _)); refine blk_put (cs := #[.int .i64 ((rd_T27 l0 x7_1).f0), .string ((rd_T27 l0 x7_1).f1), .int .i64 ((rd_T27 l0 x7_1).f2), .int .i64 0]) ?_ 3 _ rfl; (with_reducible repeat (first | refine blk_drewN ?_ _ | refine blk_drew ?_ | refine blk_alloc ?_ _)); refine blk_put (cs := #[.int .i64 ((rd_T27 l0 x7_1).f0), .string ((rd_T27 l0 x7_1).f1), .int .i64 0, .int .i64 0]) ?_ 2 _ rfl; (with_reducible repeat (first | refine blk_drewN ?_ _ | refine blk_drew ?_ | refine blk_alloc ?_ _)); refine blk_put (cs := #[.int .i64 ((rd_T27 l0 x7_1).f0), .string (⟨#[]⟩ : ByteArray), .int .i64 0, .int .i64 0]) ?_ 1 _ rfl; (with_reducible repeat (first | refine blk_drewN ?_ _ | refine blk_drew ?_ | refine blk_alloc ?_ _)); refine blk_put (cs := #[.int .i64 0, .string (⟨#[]⟩ : ByteArray), .int .i64 0, .int .i64 0]) ?_ 0 _ rfl; (with_reducible repeat (first | refine blk_drewN ?_ _ | refine blk_drew ?_ | refine blk_alloc ?_ _)); exact BK355.out)) (below_size (by repeat (first | (with_reducible first | exact HB.out | apply below_alloc | apply pw_below_drewN | apply below_drew1 | refine below_set ?_ GE355.out) | exact HB.out)))); have n2_ := Aside0.mk (blk_below (g := gb355) (o := .cells #[.int .i64 ((rd_T27 l0 x7_1).f0), .string ((rd_T27 l0 x7_1).f1), .int .i64 ((rd_T27 l0 x7_1).f2), .int .i64 ((rd_T27 l0 x7_1).f3)] 27 (0, 0)) (by (with_reducible repeat (first | refine blk_drewN ?_ _ | refine blk_drew ?_ | refine blk_alloc ?_ _)); refine blk_put (cs := #[.int .i64 ((rd_T27 l0 x7_1).f0), .string ((rd_T27 l0 x7_1).f1), .int .i64 ((rd_T27 l0 x7_1).f2), .int .i64 0]) ?_ 3 _ rfl; (with_reducible repeat (first | refine blk_drewN ?_ _ | refine blk_drew ?_ | refine blk_alloc ?_ _)); refine blk_put (cs := #[.int .i64 ((rd_T27 l0 x7_1).f0), .string ((rd_T27 l0 x7_1).f1), .int .i64 0, .int .i64 0]) ?_ 2 _ rfl; (with_reducible repeat (first | refine blk_drewN ?_ _ | refine blk_drew ?_ | refine blk_alloc ?_ _)); refine blk_put (cs := #[.int .i64 ((rd_T27 l0 x7_1).f0), .string (⟨#[]⟩ : ByteArray), .int .i64 0, .int .i64 0]) ?_ 1 _ rfl; (with_reducible repeat (first | refine blk_drewN ?_ _ | refine blk_drew ?_ | refine blk_alloc ?_ _)); refine blk_put (cs := #[.int .i64 0, .string (⟨#[]⟩ : ByteArray), .int .i64 0, .int .i64 0]) ?_ 0 _ rfl; (with_reducible repeat (first | refine blk_drewN ?_ _ | refine blk_drew ?_ | refine blk_alloc ?_ _)); exact BK355.out) hb); have n3_ := Aside0.mk (below_step (by repeat (first | (with_reducible first | exact HB.out | apply below_alloc | apply pw_below_drewN | apply below_drew1 | refine below_set ?_ GE355.out) | exact HB.out)) hb); clear HO_6; clear BK355; clear HB; have HO_6 := n0_; have HO358 := n1_; have BK355 := n2_; have HB := n3_; clear n0_ n1_ n2_ n3_; clear hb ho16; obtain ⟨Ao17, co17, eo17⟩ := Kd.R_slice HO358.out; subst eo17) | ((with_reducible refine gate_callee (f := 21) rfl ?_); refine goesL_ (some 37) rfl rfl Try.func21 (by kernel_rfl) rfl #[.slice Ao17 y356.length co17] rfl (by (try simp only [List.map_toArray, List.map_cons, List.map_nil]); first | done | rfl | (simp only [List.length_drop, List.length_take]; rfl)) ?_; (with_reducible refine (token_Print.calls kj5 _ _ y356 t359 t360 _ ?side1 ?side2 A11.out).mono ?_); (case side1 => repeat (first | exact (Kd.R_reads' HO358.out).2.2 | (with_reducible refine Kd.C_alloc ?_ _) | (with_reducible refine Kd.C_drewN ?_ _) | (with_reducible refine Kd.C_drew ?_))); (case side2 => exact (Kd.R_reads' HO358.out).2.1); rintro e w18 ⟨rfl, hb⟩; refine ⟨_, rfl, ?_⟩; have n0_ := Aside0.mk (Kd.R_below (by (with_reducible repeat (first | apply Kd.R_alloc | apply Kd.R_drewN | apply Kd.R_drew)); exact HO_6.out) hb); have n1_ := Aside0.mk (Kd.R_below (by (with_reducible repeat (first | apply Kd.R_alloc | apply Kd.R_drewN | apply Kd.R_drew)); exact HO358.out) hb); have n2_ := Aside0.mk (blk_below (g := gb355) (o := .cells #[.int .i64 ((rd_T27 l0 x7_1).f0), .string ((rd_T27 l0 x7_1).f1), .int .i64 ((rd_T27 l0 x7_1).f2), .int .i64 ((rd_T27 l0 x7_1).f3)] 27 (0, 0)) (by (with_reducible repeat (first | refine blk_drewN ?_ _ | refine blk_drew ?_ | refine blk_alloc ?_ _)); exact BK355.out) hb); have n3_ := Aside0.mk (below_step (by repeat (first | (with_reducible first | exact HB.out | apply below_alloc | apply pw_below_drewN | apply below_drew1 | refine below_set ?_ GE355.out) | exact HB.out)) hb); clear HO_6; clear HO358; clear BK355; clear HB; have HO_6 := n0_; have HO358 := n1_; have BK355 := n2_; have HB := n3_; clear n0_ n1_ n2_ n3_; (try clear hb); (try clear hb2); (try clear hk); (try clear hi)))
                  (try simp only [Act.put, List.setIfInBounds_toArray, List.set_cons_zero, List.set_cons_succ])
                  go_cut [46] (fun v46 wc => ∃ (kq : Nat) (x46_11 : Bool), v46 = .bool x46_11 ∧ Aside0 (kilnlaw11_TokenParts.j2 kq l0 l1 x5_1 x6_1 x7_1 t359 x46_11 ((rd_T27 l0 x7_1).f0) ((rd_T27 l0 x7_1).f1) ((rd_T27 l0 x7_1).f2) ((rd_T27 l0 x7_1).f3) = some r) ∧ Aside0 (kq ≤ kj5) ∧ Aside0 (Kd.R k27 27 wc w.heap.size (fun k_ => k_ ≠ gb355) u6 x6_1) ∧ Aside0 (wc.heap[gb355]? = some (.cells #[.int .i64 ((rd_T27 l0 x7_1).f0), .string ((rd_T27 l0 x7_1).f1), .int .i64 ((rd_T27 l0 x7_1).f2), .int .i64 ((rd_T27 l0 x7_1).f3)] 27 (0, 0))) ∧ Aside0 (Below w.heap.size w wc))
                  case first =>
                    have H := HC12.out
                    clear HC12
                    by_cases c19 : t360 = 0
                    · rw [if_pos c19] at H
                      have c19b0 : (t360 == 0) = true := beq_iff_eq.mpr c19
                      have c19b1 : (t360 != 0) = false := bne_eq_false_iff_eq.mpr c19
                      clear c19
                      (first | rw [c19b0] | (simp only [i64_w, i32_w]; rw [c19b0]) | skip)
                      have H' := Aside0.mk H
                      clear H
                      have hcz20_0 : w18.cell? ⟨gb355, 0, none⟩ = some (.int .i64 ((rd_T27 l0 x7_1).f0)) := (blk_cell BK355.out 0).trans rfl
                      have hcz20_1 : w18.cell? ⟨gb355, 1, none⟩ = some (.string ((rd_T27 l0 x7_1).f1)) := (blk_cell BK355.out 1).trans rfl
                      have hcz20_2 : w18.cell? ⟨gb355, 2, none⟩ = some (.int .i64 ((rd_T27 l0 x7_1).f2)) := (blk_cell BK355.out 2).trans rfl
                      have hcz20_3 : w18.cell? ⟨gb355, 3, none⟩ = some (.int .i64 ((rd_T27 l0 x7_1).f3)) := (blk_cell BK355.out 3).trans rfl
                      have hfz20_0 := blk_frozen BK355.out 0
                      have hfz20_1 := blk_frozen BK355.out 1
                      have hfz20_2 := blk_frozen BK355.out 2
                      have hfz20_3 := blk_frozen BK355.out 3
                      go_wp2
                      go_meet
                      case rel => exact ⟨_, ((((rd_T27 l0 x7_1).f0) == 7)), (by first | rfl | (simp; done) | (simp [*]; done)), H', ⟨by have := HK1.out; have := HJ5.out; first | omega | exact Nat.le_refl _⟩, ⟨by (with_reducible repeat (first | apply Kd.R_alloc | apply Kd.R_drewN | apply Kd.R_drew)); exact Kd.R_mono HO_6.out (fun _ hk => hk.1.2)⟩, ⟨by (with_reducible repeat (first | refine blk_drewN ?_ _ | refine blk_drew ?_ | refine blk_alloc ?_ _)); exact BK355.out⟩, ⟨by repeat (first | (with_reducible first | exact HB.out | apply below_alloc | apply pw_below_drewN | apply below_drew1 | refine below_set ?_ GE355.out) | exact HB.out)⟩⟩
                    · rw [if_neg c19] at H
                      have c19b0 : (t360 == 0) = false := beq_eq_false_iff_ne.mpr c19
                      have c19b1 : (t360 != 0) = true := bne_iff_ne.mpr c19
                      (first | rw [c19b0] | (simp only [i64_w, i32_w]; rw [c19b0]) | skip)
                      have H' := Aside0.mk H
                      clear H
                      go_wp2
                      go_meet
                      case rel => exact ⟨_, (true), (by first | rfl | (simp; done) | (simp [*]; done)), H', ⟨by have := HK1.out; have := HJ5.out; first | omega | exact Nat.le_refl _⟩, ⟨by (with_reducible repeat (first | apply Kd.R_alloc | apply Kd.R_drewN | apply Kd.R_drew)); exact Kd.R_mono HO_6.out (fun _ hk => hk.1.2)⟩, ⟨by (with_reducible repeat (first | refine blk_drewN ?_ _ | refine blk_drew ?_ | refine blk_alloc ?_ _)); exact BK355.out⟩, ⟨by repeat (first | (with_reducible first | exact HB.out | apply below_alloc | apply pw_below_drewN | apply below_drew1 | refine below_set ?_ GE355.out) | exact HB.out)⟩⟩
                  case rest =>
                    clear HC12
                    try clear c1
                    try clear c2
                    try clear p2
                    try clear p3
                    try clear q3
                    try clear hx3
                    try clear c4
                    try clear c7
                    try clear c7b0
                    try clear c8
                    try clear c9
                    try clear c9b0
                    try clear c10
                    try clear c10b0
                    try clear c14
                    try clear c19
                    try clear c19b0
                    try clear c19b1
                    try clear hcz14_0
                    try clear hcz14_1
                    try clear hcz14_2
                    try clear hcz14_3
                    try clear hcz20_0
                    try clear hcz20_1
                    try clear hcz20_2
                    try clear hcz20_3
                    try clear hfz14_0
                    try clear hfz14_1
                    try clear hfz14_2
                    try clear hfz14_3
                    try clear hfz20_0
                    try clear hfz20_1
                    try clear hfz20_2
                    try clear hfz20_3
                    try clear hx354_0
                    try clear hx354_1
                    try clear hx354_2
                    try clear hx354_3
                    try clear p2
                    try clear p354
                    try clear q354
                    obtain ⟨kq, x46_11, rfl, HA, HJ11, HO_6, BK355, HB⟩ := hcut
                    cases kq with
                    | zero => exact absurd HA.out (by simp [kilnlaw11_TokenParts.j2])
                    | succ kj11 =>
                      have H := HA.out
                      clear HA
                      simp only [kilnlaw11_TokenParts.j2] at H
                      by_cases c21 : x46_11 = true
                      · subst c21
                        have H1 : (kilnlaw11_TokenParts.l0 kj11 l0 l1 x5_1 x6_1 (wrap64 (x7_1 + 1))) = some r := by rw [if_pos rfl] at H; exact H
                        clear H
                        have H := H1
                        clear H1
                        have H' := Aside0.mk H
                        clear H
                        go_wp2
                        go_roundg kj11
                        case measure => have := HK1.out; have := HJ5.out; have := HJ11.out; omega
                        case rel => exact ⟨(x5_1), (x6_1), (wrap64 (x7_1 + 1)), (by first | rfl | (simp; done) | (simp [*]; done)), (by first | rfl | (simp; done) | (simp [*]; done)), H', ⟨by have := HK1.out; have := HJ5.out; have := HJ11.out; omega⟩, ⟨by (with_reducible repeat (first | apply Kd.R_alloc | apply Kd.R_drewN | apply Kd.R_drew)); exact Kd.R_mono HO_6.out (fun _ hk => trivial)⟩, ⟨by repeat (first | (with_reducible first | exact HB.out | apply below_alloc | apply pw_below_drewN | apply below_drew1 | refine below_set ?_ GE355.out) | exact HB.out)⟩⟩
                      · replace c21 := Bool.eq_false_iff.mpr c21
                        subst c21
                        have H1 : (if (t359.size : Int) = 0 then (some false) else (if x7_1 < (l1.length : Int) then (if 0 ≤ x7_1 then (kilnlaw11_TokenParts.j3 kj11 l0 l1 x5_1 x6_1 x7_1 t359 (Go.bits .and .i64 (rd l1 x7_1) 3) ((rd_T27 l0 x7_1).f0) ((rd_T27 l0 x7_1).f1) ((rd_T27 l0 x7_1).f2) ((rd_T27 l0 x7_1).f3)) else (none)) else (kilnlaw11_TokenParts.j3 kj11 l0 l1 x5_1 x6_1 x7_1 t359 1 ((rd_T27 l0 x7_1).f0) ((rd_T27 l0 x7_1).f1) ((rd_T27 l0 x7_1).f2) ((rd_T27 l0 x7_1).f3)))) = some r := by rw [if_neg (show ¬ (false = true) by decide)] at H; exact H
                        clear H
                        have H := H1
                        clear H1
                        by_cases c22 : (t359.size : Int) = 0
                        · rw [if_pos c22] at H
                          have c22b0 : ((t359.size : Int) == 0) = true := beq_iff_eq.mpr c22
                          have c22b1 : ((t359.size : Int) != 0) = false := bne_eq_false_iff_eq.mpr c22
                          clear c22
                          obtain rfl := Option.some.inj H
                          go_wp2
                          go_ret
                          exact ⟨by first | rfl | (simp [errW_none, errW_some] <;> rfl) | (simp [*, errW_none, errW_some] <;> rfl), by repeat (first | (with_reducible first | exact HB.out | apply below_alloc | apply pw_below_drewN | apply below_drew1 | refine below_set ?_ GE355.out) | exact HB.out)⟩
                        · rw [if_neg c22] at H
                          have c22b0 : ((t359.size : Int) == 0) = false := beq_eq_false_iff_ne.mpr c22
                          have c22b1 : ((t359.size : Int) != 0) = true := bne_iff_ne.mpr c22
                          have HC23 := Aside0.mk H
                          clear H
                          go_upto_if 53 with (fail)
                          go_cut [11] (fun v11 wc => ∃ (kq : Nat) (x11_22 : Int), v11 = .int .i64 x11_22 ∧ Aside0 (kilnlaw11_TokenParts.j3 kq l0 l1 x5_1 x6_1 x7_1 t359 x11_22 ((rd_T27 l0 x7_1).f0) ((rd_T27 l0 x7_1).f1) ((rd_T27 l0 x7_1).f2) ((rd_T27 l0 x7_1).f3) = some r) ∧ Aside0 (kq ≤ kj11) ∧ Aside0 (Kd.R k27 27 wc w.heap.size (fun k_ => k_ ≠ gb355) u6 x6_1) ∧ Aside0 (wc.heap[gb355]? = some (.cells #[.int .i64 ((rd_T27 l0 x7_1).f0), .string ((rd_T27 l0 x7_1).f1), .int .i64 ((rd_T27 l0 x7_1).f2), .int .i64 ((rd_T27 l0 x7_1).f3)] 27 (0, 0))) ∧ Aside0 (Below w.heap.size w wc))
                          case first =>
                            have H := HC23.out
                            clear HC23
                            by_cases c24 : x7_1 < (l1.length : Int)
                            · rw [if_pos c24] at H
                              have c24b0 : decide (x7_1 < (l1.length : Int)) = true := decide_eq_true c24
                              clear c24
                              (first | rw [c24b0] | (simp only [i64_w, i32_w]; rw [c24b0]) | skip)
                              by_cases c25 : 0 ≤ x7_1
                              · rw [if_pos c25] at H
                                have c25b0 : decide (0 ≤ x7_1) = true := decide_eq_true c25
                                clear c25
                                have H' := Aside0.mk H
                                clear H
                                have p361 : 0 ≤ (x7_1 : Int) := of_decide_eq_true (by first | (with_reducible assumption) | assumption)
                                have q361 : x7_1 < (l1.length : Int) := of_decide_eq_true (by first | (with_reducible assumption) | assumption)
                                obtain ⟨ad361, e361, hx361_0⟩ := Kd.at_int HR1.out x7_1 p361 q361
                                cases e361
                                replace hx361_0 := (HB.out.cell (World.block_lt_of_cell? w _ hx361_0)).trans hx361_0
                                replace p361 := eq_true p361
                                replace q361 := eq_true q361
                                go_wp2
                                go_meet
                                case rel => exact ⟨_, (Go.bits .and .i64 (rd l1 x7_1) 3), (by first | rfl | (simp; done) | (simp [*]; done)), H', ⟨by have := HK1.out; have := HJ5.out; have := HJ11.out; first | omega | exact Nat.le_refl _⟩, ⟨by (with_reducible repeat (first | apply Kd.R_alloc | apply Kd.R_drewN | apply Kd.R_drew)); exact HO_6.out⟩, ⟨by (with_reducible repeat (first | refine blk_drewN ?_ _ | refine blk_drew ?_ | refine blk_alloc ?_ _)); exact BK355.out⟩, ⟨by repeat (first | (with_reducible first | exact HB.out | apply below_alloc | apply pw_below_drewN | apply below_drew1 | refine below_set ?_ GE355.out) | exact HB.out)⟩⟩
                              · rw [if_neg c25] at H
                                exact absurd H (by simp)
                            · rw [if_neg c24] at H
                              have c24b0 : decide (x7_1 < (l1.length : Int)) = false := decide_eq_false c24
                              clear c24
                              (first | rw [c24b0] | (simp only [i64_w, i32_w]; rw [c24b0]) | skip)
                              have H' := Aside0.mk H
                              clear H
                              go_wp2
                              go_meet
                              case rel => exact ⟨_, (1), (by first | rfl | (simp; done) | (simp [*]; done)), H', ⟨by have := HK1.out; have := HJ5.out; have := HJ11.out; first | omega | exact Nat.le_refl _⟩, ⟨by (with_reducible repeat (first | apply Kd.R_alloc | apply Kd.R_drewN | apply Kd.R_drew)); exact HO_6.out⟩, ⟨by (with_reducible repeat (first | refine blk_drewN ?_ _ | refine blk_drew ?_ | refine blk_alloc ?_ _)); exact BK355.out⟩, ⟨by repeat (first | (with_reducible first | exact HB.out | apply below_alloc | apply pw_below_drewN | apply below_drew1 | refine below_set ?_ GE355.out) | exact HB.out)⟩⟩
                          case rest =>
                            clear HC23
                            try clear c1
                            try clear c2
                            try clear p2
                            try clear p3
                            try clear q3
                            try clear hx3
                            try clear c4
                            try clear p6
                            try clear c7
                            try clear c7b0
                            try clear c8
                            try clear c9
                            try clear c9b0
                            try clear c10
                            try clear c10b0
                            try clear c14
                            try clear c19
                            try clear c19b0
                            try clear c19b1
                            try clear c21
                            try clear c22
                            try clear c22b0
                            try clear c22b1
                            try clear c24
                            try clear c24b0
                            try clear c25
                            try clear c25b0
                            try clear hcz14_0
                            try clear hcz14_1
                            try clear hcz14_2
                            try clear hcz14_3
                            try clear hcz20_0
                            try clear hcz20_1
                            try clear hcz20_2
                            try clear hcz20_3
                            try clear hfz14_0
                            try clear hfz14_1
                            try clear hfz14_2
                            try clear hfz14_3
                            try clear hfz20_0
                            try clear hfz20_1
                            try clear hfz20_2
                            try clear hfz20_3
                            try clear hx354_0
                            try clear hx354_1
                            try clear hx354_2
                            try clear hx354_3
                            try clear hx361_0
                            try clear p2
                            try clear p3
                            try clear p354
                            try clear p361
                            try clear q3
                            try clear q354
                            try clear q361
                            obtain ⟨kq, x11_22, rfl, HA, HJ22, HO_6, BK355, HB⟩ := hcut
                            cases kq with
                            | zero => exact absurd HA.out (by simp [kilnlaw11_TokenParts.j3])
                            | succ kj22 =>
                              have H := HA.out
                              clear HA
                              simp only [kilnlaw11_TokenParts.j3] at H
                              have HC26 := Aside0.mk H
                              clear H
                              go_upto_region 16 with (fail)
                              go_cut [80] (fun v80 wc => ∃ (kq : Nat) (x80_25 : Bool), v80 = .bool x80_25 ∧ Aside0 (kilnlaw11_TokenParts.j4 kq l0 l1 x5_1 x6_1 x7_1 t359 x11_22 x80_25 ((rd_T27 l0 x7_1).f0) ((rd_T27 l0 x7_1).f1) ((rd_T27 l0 x7_1).f2) ((rd_T27 l0 x7_1).f3) = some r) ∧ Aside0 (kq ≤ kj22) ∧ Aside0 (Kd.R k27 27 wc w.heap.size (fun k_ => k_ ≠ gb355) u6 x6_1) ∧ Aside0 (wc.heap[gb355]? = some (.cells #[.int .i64 ((rd_T27 l0 x7_1).f0), .string ((rd_T27 l0 x7_1).f1), .int .i64 ((rd_T27 l0 x7_1).f2), .int .i64 ((rd_T27 l0 x7_1).f3)] 27 (0, 0))) ∧ Aside0 (Below w.heap.size w wc))
                              case first =>
                                have H := HC26.out
                                clear HC26
                                by_cases c27 : (x6_1.length : Int) > 0
                                · rw [if_pos c27] at H
                                  have c27b0 : decide (0 < (x6_1.length : Int)) = true := decide_eq_true c27
                                  have c27b1 : decide (0 < x6_1.length) = true := decide_eq_true (by omega)
                                  clear c27
                                  (first | rw [c27b0] | (simp only [i64_w, i32_w]; rw [c27b0]) | skip)
                                  by_cases c28 : x11_22 = 0
                                  · rw [if_pos c28] at H
                                    have c28b0 : (x11_22 == 0) = true := beq_iff_eq.mpr c28
                                    have c28b1 : (x11_22 != 0) = false := bne_eq_false_iff_eq.mpr c28
                                    clear c28
                                    by_cases c29 : ((rd_T27 l0 x7_1).f0) = 1
                                    · rw [if_pos c29] at H
                                      have c29b0 : (((rd_T27 l0 x7_1).f0) == 1) = true := beq_iff_eq.mpr c29
                                      have c29b1 : (((rd_T27 l0 x7_1).f0) != 1) = false := bne_eq_false_iff_eq.mpr c29
                                      clear c29
                                      obtain ⟨ji30, hji30⟩ : ∃ j_ : Int, (wrap64 ((x6_1.length : Int) - 1)) = j_ := ⟨_, rfl⟩
                                      replace H : (if 0 ≤ (ji30) then (if (ji30) < (x6_1.length : Int) then (kilnlaw11_TokenParts.j4 kj22 l0 l1 x5_1 x6_1 x7_1 t359 x11_22 (((rd_T27 x6_1 (ji30)).f0) == 1) ((rd_T27 l0 x7_1).f0) ((rd_T27 l0 x7_1).f1) ((rd_T27 l0 x7_1).f2) ((rd_T27 l0 x7_1).f3)) else (none)) else (none)) = some r := by first | (rw [hji30] at H; exact H) | (simp only [hji30] at H ⊢; exact H)
                                      have hji30w : (IntKind.i64.wrap ((x6_1.length : Int) - 1)) = ji30 := (i64_w _).trans hji30
                                      by_cases c31 : 0 ≤ (ji30)
                                      · rw [if_pos c31] at H
                                        have c31b0 : decide (0 ≤ (ji30)) = true := decide_eq_true c31
                                        clear c31
                                        by_cases c32 : (ji30) < (x6_1.length : Int)
                                        · rw [if_pos c32] at H
                                          have c32b0 : decide ((ji30) < (x6_1.length : Int)) = true := decide_eq_true c32
                                          clear c32
                                          have H' := Aside0.mk H
                                          clear H
                                          obtain ⟨Ao33, co33, eo33⟩ := Kd.R_slice HO_6.out
                                          subst eo33
                                          have hcz34_0 : wc.cell? ⟨gb355, 0, none⟩ = some (.int .i64 ((rd_T27 l0 x7_1).f0)) := (blk_cell BK355.out 0).trans rfl
                                          have hcz34_1 : wc.cell? ⟨gb355, 1, none⟩ = some (.string ((rd_T27 l0 x7_1).f1)) := (blk_cell BK355.out 1).trans rfl
                                          have hcz34_2 : wc.cell? ⟨gb355, 2, none⟩ = some (.int .i64 ((rd_T27 l0 x7_1).f2)) := (blk_cell BK355.out 2).trans rfl
                                          have hcz34_3 : wc.cell? ⟨gb355, 3, none⟩ = some (.int .i64 ((rd_T27 l0 x7_1).f3)) := (blk_cell BK355.out 3).trans rfl
                                          have hfz34_0 := blk_frozen BK355.out 0
                                          have hfz34_1 := blk_frozen BK355.out 1
                                          have hfz34_2 := blk_frozen BK355.out 2
                                          have hfz34_3 := blk_frozen BK355.out 3
                                          have p362 : 0 ≤ ((ji30) : Int) := of_decide_eq_true (by first | (with_reducible assumption) | assumption)
                                          have q362 : (ji30) < (x6_1.length : Int) := of_decide_eq_true (by first | (with_reducible assumption) | assumption)
                                          obtain ⟨ad362, e362, hx362_0, hx362_1, hx362_2, hx362_3⟩ := at_T27 (Kd.R_reads' HO_6.out).2.2 (ji30) p362 q362
                                          cases e362
                                          replace p362 := eq_true p362
                                          replace q362 := eq_true q362
                                          go_wp2
                                          go_meet
                                          case rel => exact ⟨_, ((((rd_T27 x6_1 (ji30)).f0) == 1)), (by first | rfl | (simp; done) | (simp only [← hji30] <;> (first | rfl | simp)) | (simp [*]; done)), H', ⟨by have := HK1.out; have := HJ5.out; have := HJ11.out; have := HJ22.out; first | omega | exact Nat.le_refl _⟩, ⟨by (with_reducible repeat (first | apply Kd.R_alloc | apply Kd.R_drewN | apply Kd.R_drew)); exact HO_6.out⟩, ⟨by (with_reducible repeat (first | refine blk_drewN ?_ _ | refine blk_drew ?_ | refine blk_alloc ?_ _)); exact BK355.out⟩, ⟨by repeat (first | (with_reducible first | exact HB.out | apply below_alloc | apply pw_below_drewN | apply below_drew1 | refine below_set ?_ GE355.out) | exact HB.out)⟩⟩
                                        · rw [if_neg c32] at H
                                          exact absurd H (by simp)
                                      · rw [if_neg c31] at H
                                        exact absurd H (by simp)
                                    · rw [if_neg c29] at H
                                      have c29b0 : (((rd_T27 l0 x7_1).f0) == 1) = false := beq_eq_false_iff_ne.mpr c29
                                      have c29b1 : (((rd_T27 l0 x7_1).f0) != 1) = true := bne_iff_ne.mpr c29
                                      have H' := Aside0.mk H
                                      clear H
                                      obtain ⟨Ao35, co35, eo35⟩ := Kd.R_slice HO_6.out
                                      subst eo35
                                      have hcz36_0 : wc.cell? ⟨gb355, 0, none⟩ = some (.int .i64 ((rd_T27 l0 x7_1).f0)) := (blk_cell BK355.out 0).trans rfl
                                      have hcz36_1 : wc.cell? ⟨gb355, 1, none⟩ = some (.string ((rd_T27 l0 x7_1).f1)) := (blk_cell BK355.out 1).trans rfl
                                      have hcz36_2 : wc.cell? ⟨gb355, 2, none⟩ = some (.int .i64 ((rd_T27 l0 x7_1).f2)) := (blk_cell BK355.out 2).trans rfl
                                      have hcz36_3 : wc.cell? ⟨gb355, 3, none⟩ = some (.int .i64 ((rd_T27 l0 x7_1).f3)) := (blk_cell BK355.out 3).trans rfl
                                      have hfz36_0 := blk_frozen BK355.out 0
                                      have hfz36_1 := blk_frozen BK355.out 1
                                      have hfz36_2 := blk_frozen BK355.out 2
                                      have hfz36_3 := blk_frozen BK355.out 3
                                      go_wp2
                                      go_meet
                                      case rel => exact ⟨_, (false), (by first | rfl | (simp; done) | (simp [*]; done)), H', ⟨by have := HK1.out; have := HJ5.out; have := HJ11.out; have := HJ22.out; first | omega | exact Nat.le_refl _⟩, ⟨by (with_reducible repeat (first | apply Kd.R_alloc | apply Kd.R_drewN | apply Kd.R_drew)); exact HO_6.out⟩, ⟨by (with_reducible repeat (first | refine blk_drewN ?_ _ | refine blk_drew ?_ | refine blk_alloc ?_ _)); exact BK355.out⟩, ⟨by repeat (first | (with_reducible first | exact HB.out | apply below_alloc | apply pw_below_drewN | apply below_drew1 | refine below_set ?_ GE355.out) | exact HB.out)⟩⟩
                                  · rw [if_neg c28] at H
                                    have c28b0 : (x11_22 == 0) = false := beq_eq_false_iff_ne.mpr c28
                                    have c28b1 : (x11_22 != 0) = true := bne_iff_ne.mpr c28
                                    have H' := Aside0.mk H
                                    clear H
                                    obtain ⟨Ao37, co37, eo37⟩ := Kd.R_slice HO_6.out
                                    subst eo37
                                    go_wp2
                                    go_meet
                                    case rel => exact ⟨_, (false), (by first | rfl | (simp; done) | (simp [*]; done)), H', ⟨by have := HK1.out; have := HJ5.out; have := HJ11.out; have := HJ22.out; first | omega | exact Nat.le_refl _⟩, ⟨by (with_reducible repeat (first | apply Kd.R_alloc | apply Kd.R_drewN | apply Kd.R_drew)); exact HO_6.out⟩, ⟨by (with_reducible repeat (first | refine blk_drewN ?_ _ | refine blk_drew ?_ | refine blk_alloc ?_ _)); exact BK355.out⟩, ⟨by repeat (first | (with_reducible first | exact HB.out | apply below_alloc | apply pw_below_drewN | apply below_drew1 | refine below_set ?_ GE355.out) | exact HB.out)⟩⟩
                                · rw [if_neg c27] at H
                                  have c27b0 : decide (0 < (x6_1.length : Int)) = false := decide_eq_false c27
                                  have c27b1 : decide (0 < x6_1.length) = false := decide_eq_false (by omega)
                                  clear c27
                                  (first | rw [c27b0] | (simp only [i64_w, i32_w]; rw [c27b0]) | skip)
                                  have H' := Aside0.mk H
                                  clear H
                                  obtain ⟨Ao38, co38, eo38⟩ := Kd.R_slice HO_6.out
                                  subst eo38
                                  go_wp2
                                  go_meet
                                  case rel => exact ⟨_, (false), (by first | rfl | (simp; done) | (simp [*]; done)), H', ⟨by have := HK1.out; have := HJ5.out; have := HJ11.out; have := HJ22.out; first | omega | exact Nat.le_refl _⟩, ⟨by (with_reducible repeat (first | apply Kd.R_alloc | apply Kd.R_drewN | apply Kd.R_drew)); exact HO_6.out⟩, ⟨by (with_reducible repeat (first | refine blk_drewN ?_ _ | refine blk_drew ?_ | refine blk_alloc ?_ _)); exact BK355.out⟩, ⟨by repeat (first | (with_reducible first | exact HB.out | apply below_alloc | apply pw_below_drewN | apply below_drew1 | refine below_set ?_ GE355.out) | exact HB.out)⟩⟩
                              case rest =>
                                clear HC26
                                try clear c1
                                try clear c2
                                try clear p2
                                try clear c3
                                try clear p3
                                try clear q3
                                try clear hx3
                                try clear c4
                                try clear p6
                                try clear c7
                                try clear c7b0
                                try clear c8
                                try clear c9
                                try clear c9b0
                                try clear c10
                                try clear c10b0
                                try clear c14
                                try clear c19
                                try clear c19b0
                                try clear c19b1
                                try clear c21
                                try clear c22
                                try clear c22b0
                                try clear c22b1
                                try clear c24
                                try clear c24b0
                                try clear c25
                                try clear c25b0
                                try clear c27
                                try clear c27b0
                                try clear c27b1
                                try clear c28
                                try clear c28b0
                                try clear c28b1
                                try clear c29
                                try clear c29b0
                                try clear c29b1
                                try clear c31
                                try clear c31b0
                                try clear c32
                                try clear c32b0
                                try clear p35
                                try clear q35
                                try clear hx35
                                try clear p36
                                try clear q36
                                try clear hx36
                                try clear hcz14_0
                                try clear hcz14_1
                                try clear hcz14_2
                                try clear hcz14_3
                                try clear hcz20_0
                                try clear hcz20_1
                                try clear hcz20_2
                                try clear hcz20_3
                                try clear hcz34_0
                                try clear hcz34_1
                                try clear hcz34_2
                                try clear hcz34_3
                                try clear hcz36_0
                                try clear hcz36_1
                                try clear hcz36_2
                                try clear hcz36_3
                                try clear hfz14_0
                                try clear hfz14_1
                                try clear hfz14_2
                                try clear hfz14_3
                                try clear hfz20_0
                                try clear hfz20_1
                                try clear hfz20_2
                                try clear hfz20_3
                                try clear hfz34_0
                                try clear hfz34_1
                                try clear hfz34_2
                                try clear hfz34_3
                                try clear hfz36_0
                                try clear hfz36_1
                                try clear hfz36_2
                                try clear hfz36_3
                                try clear hx354_0
                                try clear hx354_1
                                try clear hx354_2
                                try clear hx354_3
                                try clear hx361_0
                                try clear hx362_0
                                try clear hx362_1
                                try clear hx362_2
                                try clear hx362_3
                                try clear p2
                                try clear p3
                                try clear p354
                                try clear p361
                                try clear p362
                                try clear p6
                                try clear q3
                                try clear q354
                                try clear q361
                                try clear q362
                                obtain ⟨kq, x80_25, rfl, HA, HJ25, HO_6, BK355, HB⟩ := hcut
                                cases kq with
                                | zero => exact absurd HA.out (by simp [kilnlaw11_TokenParts.j4])
                                | succ kj25 =>
                                  have H := HA.out
                                  clear HA
                                  simp only [kilnlaw11_TokenParts.j4] at H
                                  have HC39 := Aside0.mk H
                                  clear H
                                  go_upto_if 80 with (fail)
                                  go_cut [11] (fun v11 wc => ∃ (kq : Nat) (x11_38 : Int), v11 = .int .i64 x11_38 ∧ Aside0 (kilnlaw11_TokenParts.j5 kq l0 l1 x5_1 x6_1 x7_1 t359 x11_38 ((rd_T27 l0 x7_1).f0) ((rd_T27 l0 x7_1).f1) ((rd_T27 l0 x7_1).f2) ((rd_T27 l0 x7_1).f3) = some r) ∧ Aside0 (kq ≤ kj25) ∧ Aside0 (Kd.R k27 27 wc w.heap.size (fun k_ => k_ ≠ gb355) u6 x6_1) ∧ Aside0 (wc.heap[gb355]? = some (.cells #[.int .i64 ((rd_T27 l0 x7_1).f0), .string ((rd_T27 l0 x7_1).f1), .int .i64 ((rd_T27 l0 x7_1).f2), .int .i64 ((rd_T27 l0 x7_1).f3)] 27 (0, 0))) ∧ Aside0 (Below w.heap.size w wc))
                                  case first =>
                                    have H := HC39.out
                                    clear HC39
                                    by_cases c40 : x80_25 = true
                                    · subst c40
                                      have H1 : (kilnlaw11_TokenParts.j5 kj25 l0 l1 x5_1 x6_1 x7_1 t359 1 ((rd_T27 l0 x7_1).f0) ((rd_T27 l0 x7_1).f1) ((rd_T27 l0 x7_1).f2) ((rd_T27 l0 x7_1).f3)) = some r := by rw [if_pos rfl] at H; exact H
                                      clear H
                                      have H := H1
                                      clear H1
                                      have H' := Aside0.mk H
                                      clear H
                                      go_wp2
                                      go_meet
                                      case rel => exact ⟨_, (1), (by first | rfl | (simp; done) | (simp [*]; done)), H', ⟨by have := HK1.out; have := HJ5.out; have := HJ11.out; have := HJ22.out; have := HJ25.out; first | omega | exact Nat.le_refl _⟩, ⟨by (with_reducible repeat (first | apply Kd.R_alloc | apply Kd.R_drewN | apply Kd.R_drew)); exact HO_6.out⟩, ⟨by (with_reducible repeat (first | refine blk_drewN ?_ _ | refine blk_drew ?_ | refine blk_alloc ?_ _)); exact BK355.out⟩, ⟨by repeat (first | (with_reducible first | exact HB.out | apply below_alloc | apply pw_below_drewN | apply below_drew1 | refine below_set ?_ GE355.out) | exact HB.out)⟩⟩
                                    · replace c40 := Bool.eq_false_iff.mpr c40
                                      subst c40
                                      have H1 : (kilnlaw11_TokenParts.j5 kj25 l0 l1 x5_1 x6_1 x7_1 t359 x11_22 ((rd_T27 l0 x7_1).f0) ((rd_T27 l0 x7_1).f1) ((rd_T27 l0 x7_1).f2) ((rd_T27 l0 x7_1).f3)) = some r := by rw [if_neg (show ¬ (false = true) by decide)] at H; exact H
                                      clear H
                                      have H := H1
                                      clear H1
                                      have H' := Aside0.mk H
                                      clear H
                                      go_wp2
                                      go_meet
                                      case rel => exact ⟨_, (x11_22), (by first | rfl | (simp; done) | (simp [*]; done)), H', ⟨by have := HK1.out; have := HJ5.out; have := HJ11.out; have := HJ22.out; have := HJ25.out; first | omega | exact Nat.le_refl _⟩, ⟨by (with_reducible repeat (first | apply Kd.R_alloc | apply Kd.R_drewN | apply Kd.R_drew)); exact HO_6.out⟩, ⟨by (with_reducible repeat (first | refine blk_drewN ?_ _ | refine blk_drew ?_ | refine blk_alloc ?_ _)); exact BK355.out⟩, ⟨by repeat (first | (with_reducible first | exact HB.out | apply below_alloc | apply pw_below_drewN | apply below_drew1 | refine below_set ?_ GE355.out) | exact HB.out)⟩⟩
                                  case rest =>
                                    clear HC39
                                    try clear c1
                                    try clear c2
                                    try clear p2
                                    try clear c3
                                    try clear p3
                                    try clear q3
                                    try clear hx3
                                    try clear c4
                                    try clear p6
                                    try clear c7
                                    try clear c7b0
                                    try clear c8
                                    try clear c9
                                    try clear c9b0
                                    try clear c10
                                    try clear c10b0
                                    try clear c14
                                    try clear c19
                                    try clear c19b0
                                    try clear c19b1
                                    try clear c21
                                    try clear c22
                                    try clear c22b0
                                    try clear c22b1
                                    try clear c24
                                    try clear c24b0
                                    try clear c25
                                    try clear c25b0
                                    try clear c27
                                    try clear c27b0
                                    try clear c27b1
                                    try clear c28
                                    try clear c28b0
                                    try clear c28b1
                                    try clear c29
                                    try clear c29b0
                                    try clear c29b1
                                    try clear c31
                                    try clear c31b0
                                    try clear c32
                                    try clear c32b0
                                    try clear p35
                                    try clear q35
                                    try clear hx35
                                    try clear p36
                                    try clear q36
                                    try clear hx36
                                    try clear c40
                                    try clear hcz14_0
                                    try clear hcz14_1
                                    try clear hcz14_2
                                    try clear hcz14_3
                                    try clear hcz20_0
                                    try clear hcz20_1
                                    try clear hcz20_2
                                    try clear hcz20_3
                                    try clear hcz34_0
                                    try clear hcz34_1
                                    try clear hcz34_2
                                    try clear hcz34_3
                                    try clear hcz36_0
                                    try clear hcz36_1
                                    try clear hcz36_2
                                    try clear hcz36_3
                                    try clear hfz14_0
                                    try clear hfz14_1
                                    try clear hfz14_2
                                    try clear hfz14_3
                                    try clear hfz20_0
                                    try clear hfz20_1
                                    try clear hfz20_2
                                    try clear hfz20_3
                                    try clear hfz34_0
                                    try clear hfz34_1
                                    try clear hfz34_2
                                    try clear hfz34_3
                                    try clear hfz36_0
                                    try clear hfz36_1
                                    try clear hfz36_2
                                    try clear hfz36_3
                                    try clear hx354_0
                                    try clear hx354_1
                                    try clear hx354_2
                                    try clear hx354_3
                                    try clear hx361_0
                                    try clear hx362_0
                                    try clear hx362_1
                                    try clear hx362_2
                                    try clear hx362_3
                                    try clear p2
                                    try clear p3
                                    try clear p35
                                    try clear p354
                                    try clear p36
                                    try clear p361
                                    try clear p362
                                    try clear p6
                                    try clear q3
                                    try clear q35
                                    try clear q354
                                    try clear q36
                                    try clear q361
                                    try clear q362
                                    obtain ⟨kq, x11_38, rfl, HA, HJ38, HO_6, BK355, HB⟩ := hcut
                                    cases kq with
                                    | zero => exact absurd HA.out (by simp [kilnlaw11_TokenParts.j5])
                                    | succ kj38 =>
                                      have H := HA.out
                                      clear HA
                                      simp only [kilnlaw11_TokenParts.j5] at H
                                      have H' := Aside0.mk H
                                      clear H
                                      go_wp2
                                      go_loopg [5, 12] kj38 (fun kq v5 v12 w' => ∃ (x5_7 : ByteArray) (x12_7 : Int), v5 = .string x5_7 ∧ v12 = .int .i64 x12_7 ∧ Aside0 (kilnlaw11_TokenParts.l1 kq l0 l1 x5_7 x6_1 x7_1 t359 x11_38 x12_7 ((rd_T27 l0 x7_1).f0) ((rd_T27 l0 x7_1).f1) ((rd_T27 l0 x7_1).f2) ((rd_T27 l0 x7_1).f3) = some r) ∧ Aside0 (kq ≤ kj38) ∧ Aside0 (Kd.R k27 27 w' w.heap.size (fun k_ => k_ ≠ gb355) u6 x6_1) ∧ Aside0 (w'.heap[gb355]? = some (.cells #[.int .i64 ((rd_T27 l0 x7_1).f0), .string ((rd_T27 l0 x7_1).f1), .int .i64 ((rd_T27 l0 x7_1).f2), .int .i64 ((rd_T27 l0 x7_1).f3)] 27 (0, 0))) ∧ Aside0 (Below w.heap.size w w'))
                                      case atStart => exact ⟨(x5_1), (0), (by first | rfl | (simp; done) | (simp [*]; done)), (by first | rfl | (simp; done) | (simp [*]; done)), H', ⟨Nat.le_refl _⟩, ⟨by (with_reducible repeat (first | apply Kd.R_alloc | apply Kd.R_drewN | apply Kd.R_drew)); exact HO_6.out⟩, ⟨by (with_reducible repeat (first | refine blk_drewN ?_ _ | refine blk_drew ?_ | refine blk_alloc ?_ _)); exact BK355.out⟩, ⟨by repeat (first | (with_reducible first | exact HB.out | apply below_alloc | apply pw_below_drewN | apply below_drew1 | refine below_set ?_ GE355.out) | exact HB.out)⟩⟩
                                      case round =>
                                        clear H'
                                        try clear c1
                                        try clear c2
                                        try clear p2
                                        try clear c3
                                        try clear p3
                                        try clear q3
                                        try clear hx3
                                        try clear c4
                                        try clear p6
                                        try clear c7
                                        try clear c7b0
                                        try clear c8
                                        try clear c9
                                        try clear c9b0
                                        try clear c10
                                        try clear c10b0
                                        try clear c14
                                        try clear c19
                                        try clear c19b0
                                        try clear c19b1
                                        try clear c21
                                        try clear c22
                                        try clear c22b0
                                        try clear c22b1
                                        try clear c24
                                        try clear c24b0
                                        try clear c25
                                        try clear c25b0
                                        try clear c27
                                        try clear c27b0
                                        try clear c27b1
                                        try clear c28
                                        try clear c28b0
                                        try clear c28b1
                                        try clear c29
                                        try clear c29b0
                                        try clear c29b1
                                        try clear c31
                                        try clear c31b0
                                        try clear c32
                                        try clear c32b0
                                        try clear p35
                                        try clear q35
                                        try clear hx35
                                        try clear p36
                                        try clear q36
                                        try clear hx36
                                        try clear c40
                                        try clear hcz14_0
                                        try clear hcz14_1
                                        try clear hcz14_2
                                        try clear hcz14_3
                                        try clear hcz20_0
                                        try clear hcz20_1
                                        try clear hcz20_2
                                        try clear hcz20_3
                                        try clear hcz34_0
                                        try clear hcz34_1
                                        try clear hcz34_2
                                        try clear hcz34_3
                                        try clear hcz36_0
                                        try clear hcz36_1
                                        try clear hcz36_2
                                        try clear hcz36_3
                                        try clear hfz14_0
                                        try clear hfz14_1
                                        try clear hfz14_2
                                        try clear hfz14_3
                                        try clear hfz20_0
                                        try clear hfz20_1
                                        try clear hfz20_2
                                        try clear hfz20_3
                                        try clear hfz34_0
                                        try clear hfz34_1
                                        try clear hfz34_2
                                        try clear hfz34_3
                                        try clear hfz36_0
                                        try clear hfz36_1
                                        try clear hfz36_2
                                        try clear hfz36_3
                                        try clear hx354_0
                                        try clear hx354_1
                                        try clear hx354_2
                                        try clear hx354_3
                                        try clear hx361_0
                                        try clear hx362_0
                                        try clear hx362_1
                                        try clear hx362_2
                                        try clear hx362_3
                                        try clear p2
                                        try clear p3
                                        try clear p35
                                        try clear p354
                                        try clear p36
                                        try clear p361
                                        try clear p362
                                        try clear p6
                                        try clear q3
                                        try clear q35
                                        try clear q354
                                        try clear q36
                                        try clear q361
                                        try clear q362
                                        obtain ⟨x5_7, x12_7, rfl, rfl, HA, HK7, HO_6, BK355, HB⟩ := hrel
                                        cases gk with
                                        | zero => exact absurd HA.out (by simp [kilnlaw11_TokenParts.l1])
                                        | succ k7 =>
                                          have H := HA.out
                                          clear HA
                                          simp only [kilnlaw11_TokenParts.l1] at H
                                          by_cases c41 : x12_7 < x11_38
                                          · rw [if_pos c41] at H
                                            have c41b0 : decide (x12_7 < x11_38) = true := decide_eq_true c41
                                            clear c41
                                            by_cases c42 : x5_7.size + 1 ≤ 9223372036854775807
                                            · rw [if_pos c42] at H
                                              have c42b0 := eq_true c42
                                              have c42b1 : decide (x5_7.size + 1 ≤ 9223372036854775807) = true := decide_eq_true c42
                                              try have c42b2 : (9223372036854775807 < x5_7.size + 1) = False := eq_false (Nat.not_lt.2 c42)
                                              have H' := Aside0.mk H
                                              clear H
                                              go_wp2
                                              go_roundg k7
                                              case measure => have := HK1.out; have := HJ5.out; have := HJ11.out; have := HJ22.out; have := HJ25.out; have := HJ38.out; have := HK7.out; omega
                                              case rel => exact ⟨(x5_7 ++ (⟨#[32]⟩ : ByteArray)), (wrap64 (x12_7 + 1)), (by first | rfl | (simp; done) | (simp [*]; done)), (by first | rfl | (simp; done) | (simp [*]; done)), H', ⟨by have := HK1.out; have := HJ5.out; have := HJ11.out; have := HJ22.out; have := HJ25.out; have := HJ38.out; have := HK7.out; omega⟩, ⟨by (with_reducible repeat (first | apply Kd.R_alloc | apply Kd.R_drewN | apply Kd.R_drew)); exact HO_6.out⟩, ⟨by (with_reducible repeat (first | refine blk_drewN ?_ _ | refine blk_drew ?_ | refine blk_alloc ?_ _)); exact BK355.out⟩, ⟨by repeat (first | (with_reducible first | exact HB.out | apply below_alloc | apply pw_below_drewN | apply below_drew1 | refine below_set ?_ GE355.out) | exact HB.out)⟩⟩
                                            · rw [if_neg c42] at H
                                              exact absurd H (by simp)
                                          · rw [if_neg c41] at H
                                            have c41b0 : decide (x12_7 < x11_38) = false := decide_eq_false c41
                                            clear c41
                                            by_cases c43 : ((rd_T27 l0 x7_1).f0) = 1
                                            · rw [if_pos c43] at H
                                              have c43b0 : (((rd_T27 l0 x7_1).f0) == 1) = true := beq_iff_eq.mpr c43
                                              have c43b1 : (((rd_T27 l0 x7_1).f0) != 1) = false := bne_eq_false_iff_eq.mpr c43
                                              clear c43
                                              by_cases c44 : x6_1.length < 3518437208883
                                              · rw [if_pos c44] at H
                                                have LMc44 := Aside0.mk c44
                                                clear c44
                                                obtain ⟨y363, hy363⟩ : ∃ y_ : List (S27), y_ = (x6_1 ++ [(⟨((rd_T27 l0 x7_1).f0), ((rd_T27 l0 x7_1).f1), 1, (x5_7.size : Int)⟩ : S27)]) := ⟨_, rfl⟩
                                                replace H : (if 0 ≤ (wrap64 ((t359.size : Int) - 1)) then (if (wrap64 ((t359.size : Int) - 1)) ≤ (t359.size : Int) then (if x5_7.size + (t359.extract 0 ((wrap64 ((t359.size : Int) - 1)) : Int).toNat).size ≤ 9223372036854775807 then (kilnlaw11_TokenParts.l0 k7 l0 l1 (x5_7 ++ (t359.extract 0 ((wrap64 ((t359.size : Int) - 1)) : Int).toNat)) y363 (wrap64 (x7_1 + 1))) else (none)) else (none)) else (none)) = some r := by first | (rw [hy363]; with_reducible exact H) | (have H2_ := (Option.bind_some _ _).symm.trans H; rw [hy363]; with_reducible exact H2_) | (have H2_ := (Option.bind_some _ _).symm.trans H; with_reducible exact H2_) | with_reducible exact H | (rw [hy363]; exact H) | exact H
                                                have Ny363 := Aside0.mk hy363
                                                clear hy363
                                                obtain ⟨ji45, hji45⟩ : ∃ j_ : Int, (wrap64 ((t359.size : Int) - 1)) = j_ := ⟨_, rfl⟩
                                                replace H : (if 0 ≤ (ji45) then (if (ji45) ≤ (t359.size : Int) then (if x5_7.size + (t359.extract 0 ((ji45) : Int).toNat).size ≤ 9223372036854775807 then (kilnlaw11_TokenParts.l0 k7 l0 l1 (x5_7 ++ (t359.extract 0 ((ji45) : Int).toNat)) y363 (wrap64 (x7_1 + 1))) else (none)) else (none)) else (none)) = some r := by first | (rw [hji45] at H; exact H) | (simp only [hji45] at H ⊢; exact H)
                                                have hji45w : (IntKind.i64.wrap ((t359.size : Int) - 1)) = ji45 := (i64_w _).trans hji45
                                                by_cases c46 : 0 ≤ (ji45)
                                                · rw [if_pos c46] at H
                                                  have c46b0 := eq_true c46
                                                  have c46b1 : decide (0 ≤ (ji45)) = true := decide_eq_true c46
                                                  clear c46
                                                  by_cases c47 : (ji45) ≤ (t359.size : Int)
                                                  · rw [if_pos c47] at H
                                                    have c47b0 := eq_true c47
                                                    have c47b1 : decide ((ji45) ≤ (t359.size : Int)) = true := decide_eq_true c47
                                                    clear c47
                                                    by_cases c48 : x5_7.size + (t359.extract 0 ((ji45) : Int).toNat).size ≤ 9223372036854775807
                                                    · rw [if_pos c48] at H
                                                      have c48b0 := eq_true c48
                                                      have c48b1 : decide (x5_7.size + (t359.extract 0 ((ji45) : Int).toNat).size ≤ 9223372036854775807) = true := decide_eq_true c48
                                                      try have c48b2 : (9223372036854775807 < x5_7.size + (t359.extract 0 ((ji45) : Int).toNat).size) = False := eq_false (Nat.not_lt.2 c48)
                                                      have H' := Aside0.mk H
                                                      clear H
                                                      have hcz49_0 : wr.cell? ⟨gb355, 0, none⟩ = some (.int .i64 ((rd_T27 l0 x7_1).f0)) := (blk_cell BK355.out 0).trans rfl
                                                      have hcz49_1 : wr.cell? ⟨gb355, 1, none⟩ = some (.string ((rd_T27 l0 x7_1).f1)) := (blk_cell BK355.out 1).trans rfl
                                                      have hcz49_2 : wr.cell? ⟨gb355, 2, none⟩ = some (.int .i64 ((rd_T27 l0 x7_1).f2)) := (blk_cell BK355.out 2).trans rfl
                                                      have hcz49_3 : wr.cell? ⟨gb355, 3, none⟩ = some (.int .i64 ((rd_T27 l0 x7_1).f3)) := (blk_cell BK355.out 3).trans rfl
                                                      have hfz49_0 := blk_frozen BK355.out 0
                                                      have hfz49_1 := blk_frozen BK355.out 1
                                                      have hfz49_2 := blk_frozen BK355.out 2
                                                      have hfz49_3 := blk_frozen BK355.out 3
                                                      go_wp2_with (first | ((with_reducible refine gate_builtin (b := .append) (xs := #[.tmp 97, .tmp 105]) rfl ?_); (try (refine gate_guard (by rfl) ?_; dsimp only)); at_builtin; refine Kd.R_append k27 (w0 := w) w.heap.size rfl (.tmp 97) (.tmp 105) 25 27 (.agg #[(.int .i64 0), (.string ⟨#[]⟩), (.int .i64 0), (.int .i64 0)]) 40 rfl Try.underlying25 info27 rfl (by decide) (by omega) u6 x6_1 (⟨((rd_T27 l0 x7_1).f0), ((rd_T27 l0 x7_1).f1), 1, (x5_7.size : Int)⟩ : S27) [.int .i64 ((rd_T27 l0 x7_1).f0), .string ((rd_T27 l0 x7_1).f1), .int .i64 1, .int .i64 (x5_7.size : Int)] (fun k_ => k_ ≠ gb355) (fun _ => False) rfl rfl ?aP (fun _ hk => hk.elim) ?aF ?aO ?aB ?aS ?aL ?_; (case aP => exact k27_mkM _ _ _ (⟨((rd_T27 l0 x7_1).f0), ((rd_T27 l0 x7_1).f1), 1, (x5_7.size : Int)⟩ : S27)); (case aB => exact (by repeat (first | (with_reducible first | exact HB.out | apply below_alloc | apply pw_below_drewN | apply below_drew1 | refine below_set ?_ GE355.out) | exact HB.out))); (case aF => exact (fun k_ hk => Kd.freshB (g := gb355) (o := .cells #[.int .i64 ((rd_T27 l0 x7_1).f0), .string ((rd_T27 l0 x7_1).f1), .int .i64 ((rd_T27 l0 x7_1).f2), .int .i64 ((rd_T27 l0 x7_1).f3)] 27 (0, 0)) (by (with_reducible repeat (first | refine blk_drewN ?_ _ | refine blk_drew ?_ | refine blk_alloc ?_ _)); exact BK355.out) k_ hk)); (case aO => exact (by (with_reducible repeat (first | apply Kd.R_alloc | apply Kd.R_drewN | apply Kd.R_drew)); exact HO_6.out)); (case aS => exact (below_size (by repeat (first | (with_reducible first | exact HB.out | apply below_alloc | apply pw_below_drewN | apply below_drew1 | refine below_set ?_ GE355.out) | exact HB.out)))); (case aL => have := LMc44.out; omega); intro v364 w50 ho hb hg hat; rw [← Ny363.out] at ho; have n0_ := Aside0.mk (blk_grown (g := gb355) (o := .cells #[.int .i64 ((rd_T27 l0 x7_1).f0), .string ((rd_T27 l0 x7_1).f1), .int .i64 ((rd_T27 l0 x7_1).f2), .int .i64 ((rd_T27 l0 x7_1).f3)] 27 (0, 0)) (by (with_reducible repeat (first | refine blk_drewN ?_ _ | refine blk_drew ?_ | refine blk_alloc ?_ _)); exact BK355.out) hg (Kd.R_away HO_6.out (fun _ hk => hk))); have n1_ := Aside0.mk (hb); have n2_ := Aside0.mk (ho); clear BK355; clear HB; clear HO_6; have BK355 := n0_; have HB := n1_; have HO365 := n2_; clear n0_ n1_ n2_; clear ho hb hg hat))
                                                      go_roundg k7
                                                      case measure => have := HK1.out; have := HJ5.out; have := HJ11.out; have := HJ22.out; have := HJ25.out; have := HJ38.out; have := HK7.out; omega
                                                      case rel => exact ⟨(x5_7 ++ (t359.extract 0 ((ji45) : Int).toNat)), (y363), (wrap64 (x7_1 + 1)), (by first | rfl | (simp; done) | (simp only [← hji45] <;> (first | rfl | simp)) | (simp [*]; done)), (by first | rfl | (simp; done) | (simp [*]; done)), H', ⟨by have := HK1.out; have := HJ5.out; have := HJ11.out; have := HJ22.out; have := HJ25.out; have := HJ38.out; have := HK7.out; omega⟩, ⟨by (with_reducible repeat (first | apply Kd.R_alloc | apply Kd.R_drewN | apply Kd.R_drew)); exact Kd.R_mono HO365.out (fun _ hk => trivial)⟩, ⟨by repeat (first | (with_reducible first | exact HB.out | apply below_alloc | apply pw_below_drewN | apply below_drew1 | refine below_set ?_ GE355.out) | exact HB.out)⟩⟩
                                                    · rw [if_neg c48] at H
                                                      exact absurd H (by simp)
                                                  · rw [if_neg c47] at H
                                                    exact absurd H (by simp)
                                                · rw [if_neg c46] at H
                                                  exact absurd H (by simp)
                                              · rw [if_neg c44] at H
                                                exact absurd H (by simp)
                                            · rw [if_neg c43] at H
                                              have c43b0 : (((rd_T27 l0 x7_1).f0) == 1) = false := beq_eq_false_iff_ne.mpr c43
                                              have c43b1 : (((rd_T27 l0 x7_1).f0) != 1) = true := bne_iff_ne.mpr c43
                                              by_cases c51 : ((rd_T27 l0 x7_1).f0) = 2
                                              · rw [if_pos c51] at H
                                                have c51b0 : (((rd_T27 l0 x7_1).f0) == 2) = true := beq_iff_eq.mpr c51
                                                have c51b1 : (((rd_T27 l0 x7_1).f0) != 2) = false := bne_eq_false_iff_eq.mpr c51
                                                clear c51
                                                by_cases c52 : x6_1.length < 3518437208883
                                                · rw [if_pos c52] at H
                                                  have LMc52 := Aside0.mk c52
                                                  clear c52
                                                  obtain ⟨y366, hy366⟩ : ∃ y_ : List (S27), y_ = (x6_1 ++ [(⟨((rd_T27 l0 x7_1).f0), ((rd_T27 l0 x7_1).f1), 1, (x5_7.size : Int)⟩ : S27)]) := ⟨_, rfl⟩
                                                  replace H : (if 0 ≤ (wrap64 ((t359.size : Int) - 1)) then (if (wrap64 ((t359.size : Int) - 1)) ≤ (t359.size : Int) then (if x5_7.size + (t359.extract 0 ((wrap64 ((t359.size : Int) - 1)) : Int).toNat).size ≤ 9223372036854775807 then (kilnlaw11_TokenParts.l0 k7 l0 l1 (x5_7 ++ (t359.extract 0 ((wrap64 ((t359.size : Int) - 1)) : Int).toNat)) y366 (wrap64 (x7_1 + 1))) else (none)) else (none)) else (none)) = some r := by first | (rw [hy366]; with_reducible exact H) | (have H2_ := (Option.bind_some _ _).symm.trans H; rw [hy366]; with_reducible exact H2_) | (have H2_ := (Option.bind_some _ _).symm.trans H; with_reducible exact H2_) | with_reducible exact H | (rw [hy366]; exact H) | exact H
                                                  have Ny366 := Aside0.mk hy366
                                                  clear hy366
                                                  obtain ⟨ji53, hji53⟩ : ∃ j_ : Int, (wrap64 ((t359.size : Int) - 1)) = j_ := ⟨_, rfl⟩
                                                  replace H : (if 0 ≤ (ji53) then (if (ji53) ≤ (t359.size : Int) then (if x5_7.size + (t359.extract 0 ((ji53) : Int).toNat).size ≤ 9223372036854775807 then (kilnlaw11_TokenParts.l0 k7 l0 l1 (x5_7 ++ (t359.extract 0 ((ji53) : Int).toNat)) y366 (wrap64 (x7_1 + 1))) else (none)) else (none)) else (none)) = some r := by first | (rw [hji53] at H; exact H) | (simp only [hji53] at H ⊢; exact H)
                                                  have hji53w : (IntKind.i64.wrap ((t359.size : Int) - 1)) = ji53 := (i64_w _).trans hji53
                                                  by_cases c54 : 0 ≤ (ji53)
                                                  · rw [if_pos c54] at H
                                                    have c54b0 := eq_true c54
                                                    have c54b1 : decide (0 ≤ (ji53)) = true := decide_eq_true c54
                                                    clear c54
                                                    by_cases c55 : (ji53) ≤ (t359.size : Int)
                                                    · rw [if_pos c55] at H
                                                      have c55b0 := eq_true c55
                                                      have c55b1 : decide ((ji53) ≤ (t359.size : Int)) = true := decide_eq_true c55
                                                      clear c55
                                                      by_cases c56 : x5_7.size + (t359.extract 0 ((ji53) : Int).toNat).size ≤ 9223372036854775807
                                                      · rw [if_pos c56] at H
                                                        have c56b0 := eq_true c56
                                                        have c56b1 : decide (x5_7.size + (t359.extract 0 ((ji53) : Int).toNat).size ≤ 9223372036854775807) = true := decide_eq_true c56
                                                        try have c56b2 : (9223372036854775807 < x5_7.size + (t359.extract 0 ((ji53) : Int).toNat).size) = False := eq_false (Nat.not_lt.2 c56)
                                                        have H' := Aside0.mk H
                                                        clear H
                                                        have hcz57_0 : wr.cell? ⟨gb355, 0, none⟩ = some (.int .i64 ((rd_T27 l0 x7_1).f0)) := (blk_cell BK355.out 0).trans rfl
                                                        have hcz57_1 : wr.cell? ⟨gb355, 1, none⟩ = some (.string ((rd_T27 l0 x7_1).f1)) := (blk_cell BK355.out 1).trans rfl
                                                        have hcz57_2 : wr.cell? ⟨gb355, 2, none⟩ = some (.int .i64 ((rd_T27 l0 x7_1).f2)) := (blk_cell BK355.out 2).trans rfl
                                                        have hcz57_3 : wr.cell? ⟨gb355, 3, none⟩ = some (.int .i64 ((rd_T27 l0 x7_1).f3)) := (blk_cell BK355.out 3).trans rfl
                                                        have hfz57_0 := blk_frozen BK355.out 0
                                                        have hfz57_1 := blk_frozen BK355.out 1
                                                        have hfz57_2 := blk_frozen BK355.out 2
                                                        have hfz57_3 := blk_frozen BK355.out 3
                                                        go_wp2_with (first | ((with_reducible refine gate_builtin (b := .append) (xs := #[.tmp 97, .tmp 105]) rfl ?_); (try (refine gate_guard (by rfl) ?_; dsimp only)); at_builtin; refine Kd.R_append k27 (w0 := w) w.heap.size rfl (.tmp 97) (.tmp 105) 25 27 (.agg #[(.int .i64 0), (.string ⟨#[]⟩), (.int .i64 0), (.int .i64 0)]) 40 rfl Try.underlying25 info27 rfl (by decide) (by omega) u6 x6_1 (⟨((rd_T27 l0 x7_1).f0), ((rd_T27 l0 x7_1).f1), 1, (x5_7.size : Int)⟩ : S27) [.int .i64 ((rd_T27 l0 x7_1).f0), .string ((rd_T27 l0 x7_1).f1), .int .i64 1, .int .i64 (x5_7.size : Int)] (fun k_ => k_ ≠ gb355) (fun _ => False) rfl rfl ?aP (fun _ hk => hk.elim) ?aF ?aO ?aB ?aS ?aL ?_; (case aP => exact k27_mkM _ _ _ (⟨((rd_T27 l0 x7_1).f0), ((rd_T27 l0 x7_1).f1), 1, (x5_7.size : Int)⟩ : S27)); (case aB => exact (by repeat (first | (with_reducible first | exact HB.out | apply below_alloc | apply pw_below_drewN | apply below_drew1 | refine below_set ?_ GE355.out) | exact HB.out))); (case aF => exact (fun k_ hk => Kd.freshB (g := gb355) (o := .cells #[.int .i64 ((rd_T27 l0 x7_1).f0), .string ((rd_T27 l0 x7_1).f1), .int .i64 ((rd_T27 l0 x7_1).f2), .int .i64 ((rd_T27 l0 x7_1).f3)] 27 (0, 0)) (by (with_reducible repeat (first | refine blk_drewN ?_ _ | refine blk_drew ?_ | refine blk_alloc ?_ _)); exact BK355.out) k_ hk)); (case aO => exact (by (with_reducible repeat (first | apply Kd.R_alloc | apply Kd.R_drewN | apply Kd.R_drew)); exact HO_6.out)); (case aS => exact (below_size (by repeat (first | (with_reducible first | exact HB.out | apply below_alloc | apply pw_below_drewN | apply below_drew1 | refine below_set ?_ GE355.out) | exact HB.out)))); (case aL => have := LMc52.out; omega); intro v367 w58 ho hb hg hat; rw [← Ny366.out] at ho; have n0_ := Aside0.mk (blk_grown (g := gb355) (o := .cells #[.int .i64 ((rd_T27 l0 x7_1).f0), .string ((rd_T27 l0 x7_1).f1), .int .i64 ((rd_T27 l0 x7_1).f2), .int .i64 ((rd_T27 l0 x7_1).f3)] 27 (0, 0)) (by (with_reducible repeat (first | refine blk_drewN ?_ _ | refine blk_drew ?_ | refine blk_alloc ?_ _)); exact BK355.out) hg (Kd.R_away HO_6.out (fun _ hk => hk))); have n1_ := Aside0.mk (hb); have n2_ := Aside0.mk (ho); clear BK355; clear HB; clear HO_6; have BK355 := n0_; have HB := n1_; have HO368 := n2_; clear n0_ n1_ n2_; clear ho hb hg hat))
                                                        go_roundg k7
                                                        case measure => have := HK1.out; have := HJ5.out; have := HJ11.out; have := HJ22.out; have := HJ25.out; have := HJ38.out; have := HK7.out; omega
                                                        case rel => exact ⟨(x5_7 ++ (t359.extract 0 ((ji53) : Int).toNat)), (y366), (wrap64 (x7_1 + 1)), (by first | rfl | (simp; done) | (simp only [← hji53] <;> (first | rfl | simp)) | (simp [*]; done)), (by first | rfl | (simp; done) | (simp [*]; done)), H', ⟨by have := HK1.out; have := HJ5.out; have := HJ11.out; have := HJ22.out; have := HJ25.out; have := HJ38.out; have := HK7.out; omega⟩, ⟨by (with_reducible repeat (first | apply Kd.R_alloc | apply Kd.R_drewN | apply Kd.R_drew)); exact Kd.R_mono HO368.out (fun _ hk => trivial)⟩, ⟨by repeat (first | (with_reducible first | exact HB.out | apply below_alloc | apply pw_below_drewN | apply below_drew1 | refine below_set ?_ GE355.out) | exact HB.out)⟩⟩
                                                      · rw [if_neg c56] at H
                                                        exact absurd H (by simp)
                                                    · rw [if_neg c55] at H
                                                      exact absurd H (by simp)
                                                  · rw [if_neg c54] at H
                                                    exact absurd H (by simp)
                                                · rw [if_neg c52] at H
                                                  exact absurd H (by simp)
                                              · rw [if_neg c51] at H
                                                have c51b0 : (((rd_T27 l0 x7_1).f0) == 2) = false := beq_eq_false_iff_ne.mpr c51
                                                have c51b1 : (((rd_T27 l0 x7_1).f0) != 2) = true := bne_iff_ne.mpr c51
                                                by_cases c59 : x6_1.length < 3518437208883
                                                · rw [if_pos c59] at H
                                                  have LMc59 := Aside0.mk c59
                                                  clear c59
                                                  obtain ⟨y369, hy369⟩ : ∃ y_ : List (S27), y_ = (x6_1 ++ [(⟨((rd_T27 l0 x7_1).f0), (⟨#[]⟩ : ByteArray), 1, (x5_7.size : Int)⟩ : S27)]) := ⟨_, rfl⟩
                                                  replace H : (if 0 ≤ (wrap64 ((t359.size : Int) - 1)) then (if (wrap64 ((t359.size : Int) - 1)) ≤ (t359.size : Int) then (if x5_7.size + (t359.extract 0 ((wrap64 ((t359.size : Int) - 1)) : Int).toNat).size ≤ 9223372036854775807 then (kilnlaw11_TokenParts.l0 k7 l0 l1 (x5_7 ++ (t359.extract 0 ((wrap64 ((t359.size : Int) - 1)) : Int).toNat)) y369 (wrap64 (x7_1 + 1))) else (none)) else (none)) else (none)) = some r := by first | (rw [hy369]; with_reducible exact H) | (have H2_ := (Option.bind_some _ _).symm.trans H; rw [hy369]; with_reducible exact H2_) | (have H2_ := (Option.bind_some _ _).symm.trans H; with_reducible exact H2_) | with_reducible exact H | (rw [hy369]; exact H) | exact H
                                                  have Ny369 := Aside0.mk hy369
                                                  clear hy369
                                                  obtain ⟨ji60, hji60⟩ : ∃ j_ : Int, (wrap64 ((t359.size : Int) - 1)) = j_ := ⟨_, rfl⟩
                                                  replace H : (if 0 ≤ (ji60) then (if (ji60) ≤ (t359.size : Int) then (if x5_7.size + (t359.extract 0 ((ji60) : Int).toNat).size ≤ 9223372036854775807 then (kilnlaw11_TokenParts.l0 k7 l0 l1 (x5_7 ++ (t359.extract 0 ((ji60) : Int).toNat)) y369 (wrap64 (x7_1 + 1))) else (none)) else (none)) else (none)) = some r := by first | (rw [hji60] at H; exact H) | (simp only [hji60] at H ⊢; exact H)
                                                  have hji60w : (IntKind.i64.wrap ((t359.size : Int) - 1)) = ji60 := (i64_w _).trans hji60
                                                  by_cases c61 : 0 ≤ (ji60)
                                                  · rw [if_pos c61] at H
                                                    have c61b0 := eq_true c61
                                                    have c61b1 : decide (0 ≤ (ji60)) = true := decide_eq_true c61
                                                    clear c61
                                                    by_cases c62 : (ji60) ≤ (t359.size : Int)
                                                    · rw [if_pos c62] at H
                                                      have c62b0 := eq_true c62
                                                      have c62b1 : decide ((ji60) ≤ (t359.size : Int)) = true := decide_eq_true c62
                                                      clear c62
                                                      by_cases c63 : x5_7.size + (t359.extract 0 ((ji60) : Int).toNat).size ≤ 9223372036854775807
                                                      · rw [if_pos c63] at H
                                                        have c63b0 := eq_true c63
                                                        have c63b1 : decide (x5_7.size + (t359.extract 0 ((ji60) : Int).toNat).size ≤ 9223372036854775807) = true := decide_eq_true c63
                                                        try have c63b2 : (9223372036854775807 < x5_7.size + (t359.extract 0 ((ji60) : Int).toNat).size) = False := eq_false (Nat.not_lt.2 c63)
                                                        have H' := Aside0.mk H
                                                        clear H
                                                        have hcz64_0 : wr.cell? ⟨gb355, 0, none⟩ = some (.int .i64 ((rd_T27 l0 x7_1).f0)) := (blk_cell BK355.out 0).trans rfl
                                                        have hcz64_1 : wr.cell? ⟨gb355, 1, none⟩ = some (.string ((rd_T27 l0 x7_1).f1)) := (blk_cell BK355.out 1).trans rfl
                                                        have hcz64_2 : wr.cell? ⟨gb355, 2, none⟩ = some (.int .i64 ((rd_T27 l0 x7_1).f2)) := (blk_cell BK355.out 2).trans rfl
                                                        have hcz64_3 : wr.cell? ⟨gb355, 3, none⟩ = some (.int .i64 ((rd_T27 l0 x7_1).f3)) := (blk_cell BK355.out 3).trans rfl
                                                        have hfz64_0 := blk_frozen BK355.out 0
                                                        have hfz64_1 := blk_frozen BK355.out 1
                                                        have hfz64_2 := blk_frozen BK355.out 2
                                                        have hfz64_3 := blk_frozen BK355.out 3
                                                        go_wp2_with (first | ((with_reducible refine gate_builtin (b := .append) (xs := #[.tmp 97, .tmp 105]) rfl ?_); (try (refine gate_guard (by rfl) ?_; dsimp only)); at_builtin; refine Kd.R_append k27 (w0 := w) w.heap.size rfl (.tmp 97) (.tmp 105) 25 27 (.agg #[(.int .i64 0), (.string ⟨#[]⟩), (.int .i64 0), (.int .i64 0)]) 40 rfl Try.underlying25 info27 rfl (by decide) (by omega) u6 x6_1 (⟨((rd_T27 l0 x7_1).f0), (⟨#[]⟩ : ByteArray), 1, (x5_7.size : Int)⟩ : S27) [.int .i64 ((rd_T27 l0 x7_1).f0), .string (⟨#[]⟩ : ByteArray), .int .i64 1, .int .i64 (x5_7.size : Int)] (fun k_ => k_ ≠ gb355) (fun _ => False) rfl (by first | (go_simp; done) | (go_simp; rfl)) ?aP (fun _ hk => hk.elim) ?aF ?aO ?aB ?aS ?aL ?_; (case aP => exact k27_mkM _ _ _ (⟨((rd_T27 l0 x7_1).f0), (⟨#[]⟩ : ByteArray), 1, (x5_7.size : Int)⟩ : S27)); (case aB => exact (by repeat (first | (with_reducible first | exact HB.out | apply below_alloc | apply pw_below_drewN | apply below_drew1 | refine below_set ?_ GE355.out) | exact HB.out))); (case aF => exact (fun k_ hk => Kd.freshB (g := gb355) (o := .cells #[.int .i64 ((rd_T27 l0 x7_1).f0), .string (⟨#[]⟩ : ByteArray), .int .i64 ((rd_T27 l0 x7_1).f2), .int .i64 ((rd_T27 l0 x7_1).f3)] 27 (0, 0)) (by (with_reducible repeat (first | refine blk_drewN ?_ _ | refine blk_drew ?_ | refine blk_alloc ?_ _)); refine blk_put (cs := #[.int .i64 ((rd_T27 l0 x7_1).f0), .string ((rd_T27 l0 x7_1).f1), .int .i64 ((rd_T27 l0 x7_1).f2), .int .i64 ((rd_T27 l0 x7_1).f3)]) ?_ 1 _ rfl; (with_reducible repeat (first | refine blk_drewN ?_ _ | refine blk_drew ?_ | refine blk_alloc ?_ _)); exact BK355.out) k_ hk)); (case aO => exact (by (with_reducible repeat (first | apply Kd.R_alloc | apply Kd.R_drewN | apply Kd.R_drew)); exact Kd.R_mono (Kd.R_far (p := ⟨gb355, 1, none⟩) (Kd.R_mono HO_6.out (fun k_ hk => (⟨hk, hk⟩ : _ ∧ k_ ≠ gb355))) (fun _ hk => hk.2) (.string (⟨#[]⟩ : ByteArray))) (fun _ hk => hk.1))); (case aS => exact (below_size (by repeat (first | (with_reducible first | exact HB.out | apply below_alloc | apply pw_below_drewN | apply below_drew1 | refine below_set ?_ GE355.out) | exact HB.out)))); (case aL => have := LMc59.out; omega); intro v370 w65 ho hb hg hat; rw [← Ny369.out] at ho; have n0_ := Aside0.mk (blk_grown (g := gb355) (o := .cells #[.int .i64 ((rd_T27 l0 x7_1).f0), .string (⟨#[]⟩ : ByteArray), .int .i64 ((rd_T27 l0 x7_1).f2), .int .i64 ((rd_T27 l0 x7_1).f3)] 27 (0, 0)) (by (with_reducible repeat (first | refine blk_drewN ?_ _ | refine blk_drew ?_ | refine blk_alloc ?_ _)); refine blk_put (cs := #[.int .i64 ((rd_T27 l0 x7_1).f0), .string ((rd_T27 l0 x7_1).f1), .int .i64 ((rd_T27 l0 x7_1).f2), .int .i64 ((rd_T27 l0 x7_1).f3)]) ?_ 1 _ rfl; (with_reducible repeat (first | refine blk_drewN ?_ _ | refine blk_drew ?_ | refine blk_alloc ?_ _)); exact BK355.out) hg (Kd.R_away HO_6.out (fun _ hk => hk))); have n1_ := Aside0.mk (hb); have n2_ := Aside0.mk (ho); clear BK355; clear HB; clear HO_6; have BK355 := n0_; have HB := n1_; have HO371 := n2_; clear n0_ n1_ n2_; clear ho hb hg hat))
                                                        go_roundg k7
                                                        case measure => have := HK1.out; have := HJ5.out; have := HJ11.out; have := HJ22.out; have := HJ25.out; have := HJ38.out; have := HK7.out; omega
                                                        case rel => exact ⟨(x5_7 ++ (t359.extract 0 ((ji60) : Int).toNat)), (y369), (wrap64 (x7_1 + 1)), (by first | rfl | (simp; done) | (simp only [← hji60] <;> (first | rfl | simp)) | (simp [*]; done)), (by first | rfl | (simp; done) | (simp [*]; done)), H', ⟨by have := HK1.out; have := HJ5.out; have := HJ11.out; have := HJ22.out; have := HJ25.out; have := HJ38.out; have := HK7.out; omega⟩, ⟨by (with_reducible repeat (first | apply Kd.R_alloc | apply Kd.R_drewN | apply Kd.R_drew)); exact Kd.R_mono HO371.out (fun _ hk => trivial)⟩, ⟨by repeat (first | (with_reducible first | exact HB.out | apply below_alloc | apply pw_below_drewN | apply below_drew1 | refine below_set ?_ GE355.out) | exact HB.out)⟩⟩
                                                      · rw [if_neg c63] at H
                                                        exact absurd H (by simp)
                                                    · rw [if_neg c62] at H
                                                      exact absurd H (by simp)
                                                  · rw [if_neg c61] at H
                                                    exact absurd H (by simp)
                                                · rw [if_neg c59] at H
                                                  exact absurd H (by simp)
                · rw [if_neg c10] at H
                  exact absurd H (by simp)
              · rw [if_neg c9] at H
                exact absurd H (by simp)
            · replace c8 := Bool.eq_false_iff.mpr c8
              subst c8
              have H1 : (if x6_1.length < 3518437208883 then ((some (x6_1 ++ [(⟨7, (⟨#[]⟩ : ByteArray), 1, (x5_1.size : Int)⟩ : S27)] : List (S27))).bind fun y372 => (if x5_1.size + 2 ≤ 9223372036854775807 then ((token_Tokens.f kj5 (x5_1 ++ (⟨#[32, 10]⟩ : ByteArray))).bind fun bt375 => (if (x5_1.size : Int) > 60000 then (some true) else (if (y372.length : Int) = 1 then (if 0 < (y372.length : Int) then (if bt375.2.1 = 0 then ((kilnref11_Same.f kj5 bt375.1 (y372.set (0 : Int).toNat (⟨(rd_T27 y372 0).f0, (rd_T27 y372 0).f1, (rd_T27 y372 0).f2, 0⟩ : S27))).bind fun t382 => (some t382)) else (some false)) else (none)) else (if bt375.2.1 = 0 then ((kilnref11_Same.f kj5 bt375.1 y372).bind fun t383 => (some t383)) else (some false))))) else (none))) else (none)) = some r := by rw [if_neg (show ¬ (false = true) by decide)] at H; exact H
              clear H
              have H := H1
              clear H1
              by_cases c66 : x6_1.length < 3518437208883
              · rw [if_pos c66] at H
                have LMc66 := Aside0.mk c66
                clear c66
                obtain ⟨y372, hy372⟩ : ∃ y_ : List (S27), y_ = (x6_1 ++ [(⟨7, (⟨#[]⟩ : ByteArray), 1, (x5_1.size : Int)⟩ : S27)]) := ⟨_, rfl⟩
                replace H : (if x5_1.size + 2 ≤ 9223372036854775807 then ((token_Tokens.f kj5 (x5_1 ++ (⟨#[32, 10]⟩ : ByteArray))).bind fun bt375 => (if (x5_1.size : Int) > 60000 then (some true) else (if (y372.length : Int) = 1 then (if 0 < (y372.length : Int) then (if bt375.2.1 = 0 then ((kilnref11_Same.f kj5 bt375.1 (y372.set (0 : Int).toNat (⟨(rd_T27 y372 0).f0, (rd_T27 y372 0).f1, (rd_T27 y372 0).f2, 0⟩ : S27))).bind fun t382 => (some t382)) else (some false)) else (none)) else (if bt375.2.1 = 0 then ((kilnref11_Same.f kj5 bt375.1 y372).bind fun t383 => (some t383)) else (some false))))) else (none)) = some r := by first | (rw [hy372]; with_reducible exact H) | (have H2_ := (Option.bind_some _ _).symm.trans H; rw [hy372]; with_reducible exact H2_) | (have H2_ := (Option.bind_some _ _).symm.trans H; with_reducible exact H2_) | with_reducible exact H | (rw [hy372]; exact H) | exact H
                have Ny372 := Aside0.mk hy372
                clear hy372
                by_cases c67 : x5_1.size + 2 ≤ 9223372036854775807
                · rw [if_pos c67] at H
                  have c67b0 := eq_true c67
                  have c67b1 : decide (x5_1.size + 2 ≤ 9223372036854775807) = true := decide_eq_true c67
                  try have c67b2 : (9223372036854775807 < x5_1.size + 2) = False := eq_false (Nat.not_lt.2 c67)
                  replace H := Option.bind_eq_some_iff.mp H
                  obtain ⟨⟨t375, t376, t377, t378⟩, A680, H⟩ := H
                  replace H : (if (x5_1.size : Int) > 60000 then (some true) else (if (y372.length : Int) = 1 then (if 0 < (y372.length : Int) then (if t376 = 0 then ((kilnref11_Same.f kj5 t375 (y372.set (0 : Int).toNat (⟨(rd_T27 y372 0).f0, (rd_T27 y372 0).f1, (rd_T27 y372 0).f2, 0⟩ : S27))).bind fun t382 => (some t382)) else (some false)) else (none)) else (if t376 = 0 then ((kilnref11_Same.f kj5 t375 y372).bind fun t383 => (some t383)) else (some false)))) = some r := H
                  have A68 := Aside0.mk A680
                  clear A680
                  by_cases c69 : (x5_1.size : Int) > 60000
                  · rw [if_pos c69] at H
                    have c69b0 : decide (60000 < (x5_1.size : Int)) = true := decide_eq_true c69
                    have c69b1 : decide (60000 < x5_1.size) = true := decide_eq_true (by omega)
                    clear c69
                    obtain rfl := Option.some.inj H
                    go_wp2_with (first | ((with_reducible refine gate_builtin (b := .append) (xs := #[.tmp 114, .tmp 118]) rfl ?_); (try (refine gate_guard (by rfl) ?_; dsimp only)); at_builtin; refine Kd.R_append k27 (w0 := w) w.heap.size rfl (.tmp 114) (.tmp 118) 25 27 (.agg #[(.int .i64 0), (.string ⟨#[]⟩), (.int .i64 0), (.int .i64 0)]) 40 rfl Try.underlying25 info27 rfl (by decide) (by omega) u6 x6_1 (⟨7, (⟨#[]⟩ : ByteArray), 1, (x5_1.size : Int)⟩ : S27) [.int .i64 7, .string (⟨#[]⟩ : ByteArray), .int .i64 1, .int .i64 (x5_1.size : Int)] (fun _ => True) (fun _ => False) rfl rfl ?aP (fun _ hk => hk.elim) ?aF ?aO ?aB ?aS ?aL ?_; (case aP => exact k27_mkM _ _ _ (⟨7, (⟨#[]⟩ : ByteArray), 1, (x5_1.size : Int)⟩ : S27)); (case aB => exact (by repeat (first | (with_reducible first | exact HB.out | apply below_alloc | apply pw_below_drewN | apply below_drew1) | exact HB.out))); (case aF => exact (fun _ _ => trivial)); (case aO => exact (by (with_reducible repeat (first | apply Kd.R_alloc | apply Kd.R_drewN | apply Kd.R_drew)); exact HO_6.out)); (case aS => exact (below_size (by repeat (first | (with_reducible first | exact HB.out | apply below_alloc | apply pw_below_drewN | apply below_drew1) | exact HB.out)))); (case aL => have := LMc66.out; omega); intro v373 w70 ho hb hg hat; rw [← Ny372.out] at ho; have n0_ := Aside0.mk (hb); have n1_ := Aside0.mk (ho); clear HB; clear HO_6; have HB := n0_; have HO374 := n1_; clear n0_ n1_; clear ho hb hg hat) | ((with_reducible refine gate_callee (f := 22) rfl ?_); refine goesL_ (some 123) rfl rfl Try.func22 (by kernel_rfl) rfl #[.string (x5_1 ++ (⟨#[32, 10]⟩ : ByteArray))] rfl (by (try simp only [List.map_toArray, List.map_cons, List.map_nil]); first | done | rfl | (simp only [List.length_drop, List.length_take]; rfl)) ?_; (with_reducible refine (token_Tokens.calls kj5 (x5_1 ++ (⟨#[32, 10]⟩ : ByteArray)) t375 t376 t377 t378 _ A68.out).mono ?_); rintro e w71 ⟨v379, rfl, ho0, hb⟩; refine ⟨_, rfl, ?_⟩; have n0_ := Aside0.mk (Kd.R_elder' (by (with_reducible repeat (first | apply Kd.R_alloc | apply Kd.R_drewN | apply Kd.R_drew)); exact HO374.out) (Kd.R_base ho0) hb); have n1_ := Aside0.mk (Kd.R_lower (Kd.R_new' ho0 (Kd.R_lt (by (with_reducible repeat (first | apply Kd.R_alloc | apply Kd.R_drewN | apply Kd.R_drew)); exact HO374.out))) (below_size (by repeat (first | (with_reducible first | exact HB.out | apply below_alloc | apply pw_below_drewN | apply below_drew1) | exact HB.out)))); have n2_ := Aside0.mk (below_step (by repeat (first | (with_reducible first | exact HB.out | apply below_alloc | apply pw_below_drewN | apply below_drew1) | exact HB.out)) hb); clear HO374; clear HB; have HO374 := n0_; have HO380 := n1_; have HB := n2_; clear n0_ n1_ n2_; (try clear hb); (try clear hb2); (try clear hk); (try clear hi); (try clear ho0)))
                    go_ret
                    exact ⟨by first | rfl | (simp [errW_none, errW_some] <;> rfl) | (simp [*, errW_none, errW_some] <;> rfl), by repeat (first | (with_reducible first | exact HB.out | apply below_alloc | apply pw_below_drewN | apply below_drew1) | exact HB.out)⟩
                  · rw [if_neg c69] at H
                    have c69b0 : decide (60000 < (x5_1.size : Int)) = false := decide_eq_false c69
                    have c69b1 : decide (60000 < x5_1.size) = false := decide_eq_false (by omega)
                    clear c69
                    by_cases c72 : (y372.length : Int) = 1
                    · rw [if_pos c72] at H
                      have c72b0 : ((y372.length : Int) == 1) = true := beq_iff_eq.mpr c72
                      have c72b1 : ((y372.length : Int) != 1) = false := bne_eq_false_iff_eq.mpr c72
                      clear c72
                      by_cases c73 : 0 < (y372.length : Int)
                      · rw [if_pos c73] at H
                        have c73b0 : decide (0 < (y372.length : Int)) = true := decide_eq_true c73
                        have c73b1 : decide (0 < y372.length) = true := decide_eq_true (by omega)
                        clear c73
                        obtain ⟨y381, hy381⟩ : ∃ y_ : List (S27), y_ = (y372.set (0 : Int).toNat (⟨(rd_T27 y372 0).f0, (rd_T27 y372 0).f1, (rd_T27 y372 0).f2, 0⟩ : S27)) := ⟨_, rfl⟩
                        replace H : (if t376 = 0 then ((kilnref11_Same.f kj5 t375 y381).bind fun t382 => (some t382)) else (some false)) = some r := by first | (rw [hy381]; with_reducible exact H) | (have H2_ := (Option.bind_some _ _).symm.trans H; rw [hy381]; with_reducible exact H2_) | (have H2_ := (Option.bind_some _ _).symm.trans H; with_reducible exact H2_) | with_reducible exact H | (rw [hy381]; exact H) | exact H
                        have Ny381 := Aside0.mk hy381
                        clear hy381
                        by_cases c75 : t376 = 0
                        · rw [if_pos c75] at H
                          have c75b0 : (t376 == 0) = true := beq_iff_eq.mpr c75
                          have c75b1 : (t376 != 0) = false := bne_eq_false_iff_eq.mpr c75
                          clear c75
                          replace H := Option.bind_eq_some_iff.mp H
                          obtain ⟨t382, A760, H⟩ := H
                          replace H : (some t382) = some r := H
                          have A76 := Aside0.mk A760
                          clear A760
                          obtain rfl := Option.some.inj H
                          go_wp2_with (first | ((with_reducible refine gate_builtin (b := .append) (xs := #[.tmp 114, .tmp 118]) rfl ?_); (try (refine gate_guard (by rfl) ?_; dsimp only)); at_builtin; refine Kd.R_append k27 (w0 := w) w.heap.size rfl (.tmp 114) (.tmp 118) 25 27 (.agg #[(.int .i64 0), (.string ⟨#[]⟩), (.int .i64 0), (.int .i64 0)]) 40 rfl Try.underlying25 info27 rfl (by decide) (by omega) u6 x6_1 (⟨7, (⟨#[]⟩ : ByteArray), 1, (x5_1.size : Int)⟩ : S27) [.int .i64 7, .string (⟨#[]⟩ : ByteArray), .int .i64 1, .int .i64 (x5_1.size : Int)] (fun _ => True) (fun _ => False) rfl rfl ?aP (fun _ hk => hk.elim) ?aF ?aO ?aB ?aS ?aL ?_; (case aP => exact k27_mkM _ _ _ (⟨7, (⟨#[]⟩ : ByteArray), 1, (x5_1.size : Int)⟩ : S27)); (case aB => exact (by repeat (first | (with_reducible first | exact HB.out | apply below_alloc | apply pw_below_drewN | apply below_drew1) | exact HB.out))); (case aF => exact (fun _ _ => trivial)); (case aO => exact (by (with_reducible repeat (first | apply Kd.R_alloc | apply Kd.R_drewN | apply Kd.R_drew)); exact HO_6.out)); (case aS => exact (below_size (by repeat (first | (with_reducible first | exact HB.out | apply below_alloc | apply pw_below_drewN | apply below_drew1) | exact HB.out)))); (case aL => have := LMc66.out; omega); intro v373 w77 ho hb hg hat; rw [← Ny372.out] at ho; have n0_ := Aside0.mk (hb); have n1_ := Aside0.mk (ho); clear HB; clear HO_6; have HB := n0_; have HO374 := n1_; clear n0_ n1_; clear ho hb hg hat) | ((with_reducible refine gate_callee (f := 22) rfl ?_); refine goesL_ (some 123) rfl rfl Try.func22 (by kernel_rfl) rfl #[.string (x5_1 ++ (⟨#[32, 10]⟩ : ByteArray))] rfl (by (try simp only [List.map_toArray, List.map_cons, List.map_nil]); first | done | rfl | (simp only [List.length_drop, List.length_take]; rfl)) ?_; (with_reducible refine (token_Tokens.calls kj5 (x5_1 ++ (⟨#[32, 10]⟩ : ByteArray)) t375 t376 t377 t378 _ A68.out).mono ?_); rintro e w78 ⟨v379, rfl, ho0, hb⟩; refine ⟨_, rfl, ?_⟩; have n0_ := Aside0.mk (Kd.R_elder' (by (with_reducible repeat (first | apply Kd.R_alloc | apply Kd.R_drewN | apply Kd.R_drew)); exact HO374.out) (Kd.R_base ho0) hb); have n1_ := Aside0.mk (Kd.R_lower (Kd.R_new' ho0 (Kd.R_lt (by (with_reducible repeat (first | apply Kd.R_alloc | apply Kd.R_drewN | apply Kd.R_drew)); exact HO374.out))) (below_size (by repeat (first | (with_reducible first | exact HB.out | apply below_alloc | apply pw_below_drewN | apply below_drew1) | exact HB.out)))); have n2_ := Aside0.mk (below_step (by repeat (first | (with_reducible first | exact HB.out | apply below_alloc | apply pw_below_drewN | apply below_drew1) | exact HB.out)) hb); clear HO374; clear HB; have HO374 := n0_; have HO380 := n1_; have HB := n2_; clear n0_ n1_ n2_; (try clear hb); (try clear hb2); (try clear hk); (try clear hi); (try clear ho0); obtain ⟨Ao79, co79, eo79⟩ := Kd.R_slice HO374.out; subst eo79; have p74 : 0 ≤ (0 : Int) := (by omega); have q74 : (0 : Int) < ((y372.length : Int) : Int) := of_decide_eq_true (by first | (with_reducible assumption) | assumption); have qi74 : (0 < y372.length) = True := eq_true (by omega); obtain ⟨go74, co74, eo74, gb74, gl74, cl74, HG74⟩ := Kd.R_form HO374.out (by omega); (first | cases eo74 | (injection eo74 with ea_ en_ ec_; (first | subst ea_ | (injection ea_ with ea_; subst ea_)); subst ec_; clear en_)); have GB74 := Aside0.mk gb74; have GG74 := Aside0.mk HG74; clear gb74 gl74 HG74; obtain ⟨ce74, hcl74, hM74, hcc74, hfr74⟩ := Kd.R_elem HO374.out z27 (0 : Int) p74 q74; obtain rfl := k27_openM hM74; have hx74_0 : w78.cell? ⟨go74, (0 : Int).toNat * 4, none⟩ = some (.int .i64 ((rd_T27 y372 0).f0)) := hcc74 0 _ rfl; have hx74_1 : w78.cell? ⟨go74, (0 : Int).toNat * 4 + 1, none⟩ = some (.string ((rd_T27 y372 0).f1)) := hcc74 1 _ rfl; have hx74_2 : w78.cell? ⟨go74, (0 : Int).toNat * 4 + 2, none⟩ = some (.int .i64 ((rd_T27 y372 0).f2)) := hcc74 2 _ rfl; have hx74_3 : w78.cell? ⟨go74, (0 : Int).toNat * 4 + 3, none⟩ = some (.int .i64 ((rd_T27 y372 0).f3)) := hcc74 3 _ rfl; have hf74_0 : w78.frozen? ⟨go74, (0 : Int).toNat * 4, none⟩ = false := hfr74 0; have hf74_1 : w78.frozen? ⟨go74, (0 : Int).toNat * 4 + 1, none⟩ = false := hfr74 1; have hf74_2 : w78.frozen? ⟨go74, (0 : Int).toNat * 4 + 2, none⟩ = false := hfr74 2; have hf74_3 : w78.frozen? ⟨go74, (0 : Int).toNat * 4 + 3, none⟩ = false := hfr74 3; clear hcl74 hcc74 hfr74 hM74; (try rw [show ((0 : Int)).toNat = 0 from rfl] at hx74_0); (try simp only [Nat.reduceMul, Nat.zero_mul, Nat.zero_add, Nat.reduceAdd] at hx74_0); (try rw [show ((0 : Int)).toNat = 0 from rfl] at hf74_0); (try simp only [Nat.reduceMul, Nat.zero_mul, Nat.zero_add, Nat.reduceAdd] at hf74_0); (try rw [show ((0 : Int)).toNat = 0 from rfl] at hx74_1); (try simp only [Nat.reduceMul, Nat.zero_mul, Nat.zero_add, Nat.reduceAdd] at hx74_1); (try rw [show ((0 : Int)).toNat = 0 from rfl] at hf74_1); (try simp only [Nat.reduceMul, Nat.zero_mul, Nat.zero_add, Nat.reduceAdd] at hf74_1); (try rw [show ((0 : Int)).toNat = 0 from rfl] at hx74_2); (try simp only [Nat.reduceMul, Nat.zero_mul, Nat.zero_add, Nat.reduceAdd] at hx74_2); (try rw [show ((0 : Int)).toNat = 0 from rfl] at hf74_2); (try simp only [Nat.reduceMul, Nat.zero_mul, Nat.zero_add, Nat.reduceAdd] at hf74_2); (try rw [show ((0 : Int)).toNat = 0 from rfl] at hx74_3); (try simp only [Nat.reduceMul, Nat.zero_mul, Nat.zero_add, Nat.reduceAdd] at hx74_3); (try rw [show ((0 : Int)).toNat = 0 from rfl] at hf74_3); (try simp only [Nat.reduceMul, Nat.zero_mul, Nat.zero_add, Nat.reduceAdd] at hf74_3); replace p74 := eq_true p74; replace q74 := eq_true q74; have n_ := Aside0.mk (Kd.R_mono (ok' := (fun k_ => some k_ ≠ (v379 : Value).ownBlock)) HO374.out (fun k_ hk => hk.2)); clear HO374; have HO374 := n_; clear n_; have HX80 := Aside0.mk (show Kd.R k27 27 w78 w.heap.size (fun k_ => some k_ ≠ (v379 : Value).ownBlock) (.slice (some ⟨go74, 0, none⟩) y372.length co79) y372 from (by (with_reducible repeat (first | apply Kd.R_alloc | apply Kd.R_drewN | apply Kd.R_drew)); exact HO374.out)); obtain ⟨ce80, hcl80, hM80, hcc80, hfr80⟩ := Kd.R_elem HX80.out z27 (0 : Int) (by omega) (by have h_ : (0 : Int) < ((y372.length : Int) : Int) := of_decide_eq_true (by first | (with_reducible assumption) | assumption); first | exact h_ | (have e_ := (Kd.R_reads' HO374.out).1; omega) | simpa using h_); obtain rfl := k27_openM hM80; have HP80 := Kd.R_seg HX80.out (0 : Int) (by omega) (by have h_ : (0 : Int) < ((y372.length : Int) : Int) := of_decide_eq_true (by first | (with_reducible assumption) | assumption); first | exact h_ | (have e_ := (Kd.R_reads' HO374.out).1; omega) | simpa using h_) (seg := [.int .i64 0]) (j := 3) hcl80 hcc80 (show 4 ≤ 4 from by decide) (x' := (⟨(rd_T27 y372 0).f0, (rd_T27 y372 0).f1, (rd_T27 y372 0).f2, 0⟩ : S27)) (k27_mkM _ _ _ (⟨(rd_T27 y372 0).f0, (rd_T27 y372 0).f1, (rd_T27 y372 0).f2, 0⟩ : S27) ) (fun _ hk => hk); have hx80_3 := hcc80 3 _ rfl; (try simp only [show (k27).sz = 4 from rfl, Nat.mul_one, Nat.add_zero] at hx80_3); (try rw [show ((0 : Int)).toNat = 0 from rfl] at hx80_3); (try simp only [Nat.reduceMul, Nat.zero_mul, Nat.zero_add, Nat.reduceAdd] at hx80_3); have hf80_3 := hfr80 3; (try simp only [show (k27).sz = 4 from rfl, Nat.mul_one, Nat.add_zero] at hf80_3); (try rw [show ((0 : Int)).toNat = 0 from rfl] at hf80_3); (try simp only [Nat.reduceMul, Nat.zero_mul, Nat.zero_add, Nat.reduceAdd] at hf80_3); clear hcl80 hcc80 hfr80 hM80) | ((with_reducible refine gate_store (t := 3) (p := 136) rfl ?_); refine store_event (t := 3) (p := 136) (v := ?vo_w81) (w1 := (w78.setCell ⟨go74, 3, none⟩ (.int .i64 0))) ?hg ?ho ?hn ?hr ?_; (case ho => rfl); (case hg => rfl); (case hn => rfl); (case hr => first | (go_simp; done) | (go_simp; rfl)); intro w81 hw; have hg : w78.grownBy w81 (some go74) := (by rw [hw]; exact HP80.2); have hp_ : Kd.R k27 27 w81 w.heap.size (fun k_ => some k_ ≠ (v379 : Value).ownBlock) (.slice (some ⟨go74, 0, none⟩) y372.length co79) y381 := (by rw [hw, Ny381.out]; exact HP80.1); clear HP80; have n0_ := Aside0.mk (hp_); have n1_ := Aside0.mk (Kd.R_after (v := (.slice (some ⟨go74, 0, none⟩) y372.length co79)) (v1 := (.slice (some ⟨go74, 0, none⟩) y372.length co79)) (ok := (fun _ => True)) (by (with_reducible repeat (first | apply Kd.R_alloc | apply Kd.R_drewN | apply Kd.R_drew)); exact HO380.out) hg (.inl rfl)); have n2_ := Aside0.mk ((by rw [hw]; exact below_set (HB.out) GB74.out : Below w.heap.size w w81)); clear HO374; clear HO380; clear HB; have HO374 := n0_; have HO380 := n1_; have HB := n2_; clear n0_ n1_ n2_; clear hg hw hp_; obtain ⟨Ao82, co82, eo82⟩ := Kd.R_slice HO380.out; subst eo82) | (go_at_call 25; refine calls_of_args (args' := #[.slice Ao82 t375.length co82, .slice (some ⟨go74, 0, none⟩) y381.length co79]) (by first | (rw [show y381.length = y372.length from (Kd.R_reads' HO374.out).1.symm] <;> rfl) | rfl) ?_; (with_reducible refine (kilnref11_Same.calls kj5 _ _ t375 _ _ y381 t382 _ ?side1 ?side2 ?side3 ?side4 A76.out).mono ?_); (case side1 => repeat (first | exact (Kd.R_reads' HO380.out).2.2 | (with_reducible refine Kd.C_alloc ?_ _) | (with_reducible refine Kd.C_drewN ?_ _) | (with_reducible refine Kd.C_drew ?_))); (case side2 => exact (Kd.R_reads' HO380.out).2.1); (case side3 => repeat (first | exact (Kd.R_reads' HO374.out).2.2 | (with_reducible refine Kd.C_alloc ?_ _) | (with_reducible refine Kd.C_drewN ?_ _) | (with_reducible refine Kd.C_drew ?_))); (case side4 => rw [show y381.length = y372.length from (Kd.R_reads' HO374.out).1.symm]; exact (Kd.R_reads' HO374.out).2.1); rintro e w' ⟨rfl, ⟨nd, rfl⟩⟩))
                          go_ret
                          exact ⟨by first | rfl | (simp [errW_none, errW_some] <;> rfl) | (simp [*, errW_none, errW_some] <;> rfl), by repeat (first | (with_reducible first | exact HB.out | apply below_alloc | apply pw_below_drewN | apply below_drew1) | exact HB.out)⟩
                        · rw [if_neg c75] at H
                          have c75b0 : (t376 == 0) = false := beq_eq_false_iff_ne.mpr c75
                          have c75b1 : (t376 != 0) = true := bne_iff_ne.mpr c75
                          obtain rfl := Option.some.inj H
                          go_wp2_with (first | ((with_reducible refine gate_builtin (b := .append) (xs := #[.tmp 114, .tmp 118]) rfl ?_); (try (refine gate_guard (by rfl) ?_; dsimp only)); at_builtin; refine Kd.R_append k27 (w0 := w) w.heap.size rfl (.tmp 114) (.tmp 118) 25 27 (.agg #[(.int .i64 0), (.string ⟨#[]⟩), (.int .i64 0), (.int .i64 0)]) 40 rfl Try.underlying25 info27 rfl (by decide) (by omega) u6 x6_1 (⟨7, (⟨#[]⟩ : ByteArray), 1, (x5_1.size : Int)⟩ : S27) [.int .i64 7, .string (⟨#[]⟩ : ByteArray), .int .i64 1, .int .i64 (x5_1.size : Int)] (fun _ => True) (fun _ => False) rfl rfl ?aP (fun _ hk => hk.elim) ?aF ?aO ?aB ?aS ?aL ?_; (case aP => exact k27_mkM _ _ _ (⟨7, (⟨#[]⟩ : ByteArray), 1, (x5_1.size : Int)⟩ : S27)); (case aB => exact (by repeat (first | (with_reducible first | exact HB.out | apply below_alloc | apply pw_below_drewN | apply below_drew1) | exact HB.out))); (case aF => exact (fun _ _ => trivial)); (case aO => exact (by (with_reducible repeat (first | apply Kd.R_alloc | apply Kd.R_drewN | apply Kd.R_drew)); exact HO_6.out)); (case aS => exact (below_size (by repeat (first | (with_reducible first | exact HB.out | apply below_alloc | apply pw_below_drewN | apply below_drew1) | exact HB.out)))); (case aL => have := LMc66.out; omega); intro v373 w83 ho hb hg hat; rw [← Ny372.out] at ho; have n0_ := Aside0.mk (hb); have n1_ := Aside0.mk (ho); clear HB; clear HO_6; have HB := n0_; have HO374 := n1_; clear n0_ n1_; clear ho hb hg hat) | ((with_reducible refine gate_callee (f := 22) rfl ?_); refine goesL_ (some 123) rfl rfl Try.func22 (by kernel_rfl) rfl #[.string (x5_1 ++ (⟨#[32, 10]⟩ : ByteArray))] rfl (by (try simp only [List.map_toArray, List.map_cons, List.map_nil]); first | done | rfl | (simp only [List.length_drop, List.length_take]; rfl)) ?_; (with_reducible refine (token_Tokens.calls kj5 (x5_1 ++ (⟨#[32, 10]⟩ : ByteArray)) t375 t376 t377 t378 _ A68.out).mono ?_); rintro e w84 ⟨v379, rfl, ho0, hb⟩; refine ⟨_, rfl, ?_⟩; have n0_ := Aside0.mk (Kd.R_elder' (by (with_reducible repeat (first | apply Kd.R_alloc | apply Kd.R_drewN | apply Kd.R_drew)); exact HO374.out) (Kd.R_base ho0) hb); have n1_ := Aside0.mk (Kd.R_lower (Kd.R_new' ho0 (Kd.R_lt (by (with_reducible repeat (first | apply Kd.R_alloc | apply Kd.R_drewN | apply Kd.R_drew)); exact HO374.out))) (below_size (by repeat (first | (with_reducible first | exact HB.out | apply below_alloc | apply pw_below_drewN | apply below_drew1) | exact HB.out)))); have n2_ := Aside0.mk (below_step (by repeat (first | (with_reducible first | exact HB.out | apply below_alloc | apply pw_below_drewN | apply below_drew1) | exact HB.out)) hb); clear HO374; clear HB; have HO374 := n0_; have HO380 := n1_; have HB := n2_; clear n0_ n1_ n2_; (try clear hb); (try clear hb2); (try clear hk); (try clear hi); (try clear ho0); obtain ⟨Ao85, co85, eo85⟩ := Kd.R_slice HO374.out; subst eo85; have p74 : 0 ≤ (0 : Int) := (by omega); have q74 : (0 : Int) < ((y372.length : Int) : Int) := of_decide_eq_true (by first | (with_reducible assumption) | assumption); have qi74 : (0 < y372.length) = True := eq_true (by omega); obtain ⟨go74, co74, eo74, gb74, gl74, cl74, HG74⟩ := Kd.R_form HO374.out (by omega); (first | cases eo74 | (injection eo74 with ea_ en_ ec_; (first | subst ea_ | (injection ea_ with ea_; subst ea_)); subst ec_; clear en_)); have GB74 := Aside0.mk gb74; have GG74 := Aside0.mk HG74; clear gb74 gl74 HG74; obtain ⟨ce74, hcl74, hM74, hcc74, hfr74⟩ := Kd.R_elem HO374.out z27 (0 : Int) p74 q74; obtain rfl := k27_openM hM74; have hx74_0 : w84.cell? ⟨go74, (0 : Int).toNat * 4, none⟩ = some (.int .i64 ((rd_T27 y372 0).f0)) := hcc74 0 _ rfl; have hx74_1 : w84.cell? ⟨go74, (0 : Int).toNat * 4 + 1, none⟩ = some (.string ((rd_T27 y372 0).f1)) := hcc74 1 _ rfl; have hx74_2 : w84.cell? ⟨go74, (0 : Int).toNat * 4 + 2, none⟩ = some (.int .i64 ((rd_T27 y372 0).f2)) := hcc74 2 _ rfl; have hx74_3 : w84.cell? ⟨go74, (0 : Int).toNat * 4 + 3, none⟩ = some (.int .i64 ((rd_T27 y372 0).f3)) := hcc74 3 _ rfl; have hf74_0 : w84.frozen? ⟨go74, (0 : Int).toNat * 4, none⟩ = false := hfr74 0; have hf74_1 : w84.frozen? ⟨go74, (0 : Int).toNat * 4 + 1, none⟩ = false := hfr74 1; have hf74_2 : w84.frozen? ⟨go74, (0 : Int).toNat * 4 + 2, none⟩ = false := hfr74 2; have hf74_3 : w84.frozen? ⟨go74, (0 : Int).toNat * 4 + 3, none⟩ = false := hfr74 3; clear hcl74 hcc74 hfr74 hM74; (try rw [show ((0 : Int)).toNat = 0 from rfl] at hx74_0); (try simp only [Nat.reduceMul, Nat.zero_mul, Nat.zero_add, Nat.reduceAdd] at hx74_0); (try rw [show ((0 : Int)).toNat = 0 from rfl] at hf74_0); (try simp only [Nat.reduceMul, Nat.zero_mul, Nat.zero_add, Nat.reduceAdd] at hf74_0); (try rw [show ((0 : Int)).toNat = 0 from rfl] at hx74_1); (try simp only [Nat.reduceMul, Nat.zero_mul, Nat.zero_add, Nat.reduceAdd] at hx74_1); (try rw [show ((0 : Int)).toNat = 0 from rfl] at hf74_1); (try simp only [Nat.reduceMul, Nat.zero_mul, Nat.zero_add, Nat.reduceAdd] at hf74_1); (try rw [show ((0 : Int)).toNat = 0 from rfl] at hx74_2); (try simp only [Nat.reduceMul, Nat.zero_mul, Nat.zero_add, Nat.reduceAdd] at hx74_2); (try rw [show ((0 : Int)).toNat = 0 from rfl] at hf74_2); (try simp only [Nat.reduceMul, Nat.zero_mul, Nat.zero_add, Nat.reduceAdd] at hf74_2); (try rw [show ((0 : Int)).toNat = 0 from rfl] at hx74_3); (try simp only [Nat.reduceMul, Nat.zero_mul, Nat.zero_add, Nat.reduceAdd] at hx74_3); (try rw [show ((0 : Int)).toNat = 0 from rfl] at hf74_3); (try simp only [Nat.reduceMul, Nat.zero_mul, Nat.zero_add, Nat.reduceAdd] at hf74_3); replace p74 := eq_true p74; replace q74 := eq_true q74; have n_ := Aside0.mk (Kd.R_mono (ok' := (fun k_ => some k_ ≠ (v379 : Value).ownBlock)) HO374.out (fun k_ hk => hk.2)); clear HO374; have HO374 := n_; clear n_; have HX86 := Aside0.mk (show Kd.R k27 27 w84 w.heap.size (fun k_ => some k_ ≠ (v379 : Value).ownBlock) (.slice (some ⟨go74, 0, none⟩) y372.length co85) y372 from (by (with_reducible repeat (first | apply Kd.R_alloc | apply Kd.R_drewN | apply Kd.R_drew)); exact HO374.out)); obtain ⟨ce86, hcl86, hM86, hcc86, hfr86⟩ := Kd.R_elem HX86.out z27 (0 : Int) (by omega) (by have h_ : (0 : Int) < ((y372.length : Int) : Int) := of_decide_eq_true (by first | (with_reducible assumption) | assumption); first | exact h_ | (have e_ := (Kd.R_reads' HO374.out).1; omega) | simpa using h_); obtain rfl := k27_openM hM86; have HP86 := Kd.R_seg HX86.out (0 : Int) (by omega) (by have h_ : (0 : Int) < ((y372.length : Int) : Int) := of_decide_eq_true (by first | (with_reducible assumption) | assumption); first | exact h_ | (have e_ := (Kd.R_reads' HO374.out).1; omega) | simpa using h_) (seg := [.int .i64 0]) (j := 3) hcl86 hcc86 (show 4 ≤ 4 from by decide) (x' := (⟨(rd_T27 y372 0).f0, (rd_T27 y372 0).f1, (rd_T27 y372 0).f2, 0⟩ : S27)) (k27_mkM _ _ _ (⟨(rd_T27 y372 0).f0, (rd_T27 y372 0).f1, (rd_T27 y372 0).f2, 0⟩ : S27) ) (fun _ hk => hk); have hx86_3 := hcc86 3 _ rfl; (try simp only [show (k27).sz = 4 from rfl, Nat.mul_one, Nat.add_zero] at hx86_3); (try rw [show ((0 : Int)).toNat = 0 from rfl] at hx86_3); (try simp only [Nat.reduceMul, Nat.zero_mul, Nat.zero_add, Nat.reduceAdd] at hx86_3); have hf86_3 := hfr86 3; (try simp only [show (k27).sz = 4 from rfl, Nat.mul_one, Nat.add_zero] at hf86_3); (try rw [show ((0 : Int)).toNat = 0 from rfl] at hf86_3); (try simp only [Nat.reduceMul, Nat.zero_mul, Nat.zero_add, Nat.reduceAdd] at hf86_3); clear hcl86 hcc86 hfr86 hM86) | ((with_reducible refine gate_store (t := 3) (p := 136) rfl ?_); refine store_event (t := 3) (p := 136) (v := ?vo_w87) (w1 := (w84.setCell ⟨go74, 3, none⟩ (.int .i64 0))) ?hg ?ho ?hn ?hr ?_; (case ho => rfl); (case hg => rfl); (case hn => rfl); (case hr => first | (go_simp; done) | (go_simp; rfl)); intro w87 hw; have hg : w84.grownBy w87 (some go74) := (by rw [hw]; exact HP86.2); have hp_ : Kd.R k27 27 w87 w.heap.size (fun k_ => some k_ ≠ (v379 : Value).ownBlock) (.slice (some ⟨go74, 0, none⟩) y372.length co85) y381 := (by rw [hw, Ny381.out]; exact HP86.1); clear HP86; have n0_ := Aside0.mk (hp_); have n1_ := Aside0.mk (Kd.R_after (v := (.slice (some ⟨go74, 0, none⟩) y372.length co85)) (v1 := (.slice (some ⟨go74, 0, none⟩) y372.length co85)) (ok := (fun _ => True)) (by (with_reducible repeat (first | apply Kd.R_alloc | apply Kd.R_drewN | apply Kd.R_drew)); exact HO380.out) hg (.inl rfl)); have n2_ := Aside0.mk ((by rw [hw]; exact below_set (HB.out) GB74.out : Below w.heap.size w w87)); clear HO374; clear HO380; clear HB; have HO374 := n0_; have HO380 := n1_; have HB := n2_; clear n0_ n1_ n2_; clear hg hw hp_))
                          go_ret
                          exact ⟨by first | rfl | (simp [errW_none, errW_some] <;> rfl) | (simp [*, errW_none, errW_some] <;> rfl), by repeat (first | (with_reducible first | exact HB.out | apply below_alloc | apply pw_below_drewN | apply below_drew1) | exact HB.out)⟩
                      · rw [if_neg c73] at H
                        exact absurd H (by simp)
                    · rw [if_neg c72] at H
                      have c72b0 : ((y372.length : Int) == 1) = false := beq_eq_false_iff_ne.mpr c72
                      have c72b1 : ((y372.length : Int) != 1) = true := bne_iff_ne.mpr c72
                      by_cases c88 : t376 = 0
                      · rw [if_pos c88] at H
                        have c88b0 : (t376 == 0) = true := beq_iff_eq.mpr c88
                        have c88b1 : (t376 != 0) = false := bne_eq_false_iff_eq.mpr c88
                        clear c88
                        replace H := Option.bind_eq_some_iff.mp H
                        obtain ⟨t383, A890, H⟩ := H
                        replace H : (some t383) = some r := H
                        have A89 := Aside0.mk A890
                        clear A890
                        obtain rfl := Option.some.inj H
                        go_wp2_with (first | ((with_reducible refine gate_builtin (b := .append) (xs := #[.tmp 114, .tmp 118]) rfl ?_); (try (refine gate_guard (by rfl) ?_; dsimp only)); at_builtin; refine Kd.R_append k27 (w0 := w) w.heap.size rfl (.tmp 114) (.tmp 118) 25 27 (.agg #[(.int .i64 0), (.string ⟨#[]⟩), (.int .i64 0), (.int .i64 0)]) 40 rfl Try.underlying25 info27 rfl (by decide) (by omega) u6 x6_1 (⟨7, (⟨#[]⟩ : ByteArray), 1, (x5_1.size : Int)⟩ : S27) [.int .i64 7, .string (⟨#[]⟩ : ByteArray), .int .i64 1, .int .i64 (x5_1.size : Int)] (fun _ => True) (fun _ => False) rfl rfl ?aP (fun _ hk => hk.elim) ?aF ?aO ?aB ?aS ?aL ?_; (case aP => exact k27_mkM _ _ _ (⟨7, (⟨#[]⟩ : ByteArray), 1, (x5_1.size : Int)⟩ : S27)); (case aB => exact (by repeat (first | (with_reducible first | exact HB.out | apply below_alloc | apply pw_below_drewN | apply below_drew1) | exact HB.out))); (case aF => exact (fun _ _ => trivial)); (case aO => exact (by (with_reducible repeat (first | apply Kd.R_alloc | apply Kd.R_drewN | apply Kd.R_drew)); exact HO_6.out)); (case aS => exact (below_size (by repeat (first | (with_reducible first | exact HB.out | apply below_alloc | apply pw_below_drewN | apply below_drew1) | exact HB.out)))); (case aL => have := LMc66.out; omega); intro v373 w90 ho hb hg hat; rw [← Ny372.out] at ho; have n0_ := Aside0.mk (hb); have n1_ := Aside0.mk (ho); clear HB; clear HO_6; have HB := n0_; have HO374 := n1_; clear n0_ n1_; clear ho hb hg hat) | ((with_reducible refine gate_callee (f := 22) rfl ?_); refine goesL_ (some 123) rfl rfl Try.func22 (by kernel_rfl) rfl #[.string (x5_1 ++ (⟨#[32, 10]⟩ : ByteArray))] rfl (by (try simp only [List.map_toArray, List.map_cons, List.map_nil]); first | done | rfl | (simp only [List.length_drop, List.length_take]; rfl)) ?_; (with_reducible refine (token_Tokens.calls kj5 (x5_1 ++ (⟨#[32, 10]⟩ : ByteArray)) t375 t376 t377 t378 _ A68.out).mono ?_); rintro e w91 ⟨v379, rfl, ho0, hb⟩; refine ⟨_, rfl, ?_⟩; have n0_ := Aside0.mk (Kd.R_elder' (by (with_reducible repeat (first | apply Kd.R_alloc | apply Kd.R_drewN | apply Kd.R_drew)); exact HO374.out) (Kd.R_base ho0) hb); have n1_ := Aside0.mk (Kd.R_lower (Kd.R_new' ho0 (Kd.R_lt (by (with_reducible repeat (first | apply Kd.R_alloc | apply Kd.R_drewN | apply Kd.R_drew)); exact HO374.out))) (below_size (by repeat (first | (with_reducible first | exact HB.out | apply below_alloc | apply pw_below_drewN | apply below_drew1) | exact HB.out)))); have n2_ := Aside0.mk (below_step (by repeat (first | (with_reducible first | exact HB.out | apply below_alloc | apply pw_below_drewN | apply below_drew1) | exact HB.out)) hb); clear HO374; clear HB; have HO374 := n0_; have HO380 := n1_; have HB := n2_; clear n0_ n1_ n2_; (try clear hb); (try clear hb2); (try clear hk); (try clear hi); (try clear ho0); obtain ⟨Ao92, co92, eo92⟩ := Kd.R_slice HO374.out; subst eo92; obtain ⟨Ao93, co93, eo93⟩ := Kd.R_slice HO380.out; subst eo93) | (go_at_call 25; (with_reducible refine (kilnref11_Same.calls kj5 _ _ t375 _ _ y372 t383 _ ?side1 ?side2 ?side3 ?side4 A89.out).mono ?_); (case side1 => repeat (first | exact (Kd.R_reads' HO380.out).2.2 | (with_reducible refine Kd.C_alloc ?_ _) | (with_reducible refine Kd.C_drewN ?_ _) | (with_reducible refine Kd.C_drew ?_))); (case side2 => exact (Kd.R_reads' HO380.out).2.1); (case side3 => repeat (first | exact (Kd.R_reads' HO374.out).2.2 | (with_reducible refine Kd.C_alloc ?_ _) | (with_reducible refine Kd.C_drewN ?_ _) | (with_reducible refine Kd.C_drew ?_))); (case side4 => exact (Kd.R_reads' HO374.out).2.1); rintro e w' ⟨rfl, ⟨nd, rfl⟩⟩))
                        go_ret
                        exact ⟨by first | rfl | (simp [errW_none, errW_some] <;> rfl) | (simp [*, errW_none, errW_some] <;> rfl), by repeat (first | (with_reducible first | exact HB.out | apply below_alloc | apply pw_below_drewN | apply below_drew1) | exact HB.out)⟩
                      · rw [if_neg c88] at H
                        have c88b0 : (t376 == 0) = false := beq_eq_false_iff_ne.mpr c88
                        have c88b1 : (t376 != 0) = true := bne_iff_ne.mpr c88
                        obtain rfl := Option.some.inj H
                        go_wp2_with (first | ((with_reducible refine gate_builtin (b := .append) (xs := #[.tmp 114, .tmp 118]) rfl ?_); (try (refine gate_guard (by rfl) ?_; dsimp only)); at_builtin; refine Kd.R_append k27 (w0 := w) w.heap.size rfl (.tmp 114) (.tmp 118) 25 27 (.agg #[(.int .i64 0), (.string ⟨#[]⟩), (.int .i64 0), (.int .i64 0)]) 40 rfl Try.underlying25 info27 rfl (by decide) (by omega) u6 x6_1 (⟨7, (⟨#[]⟩ : ByteArray), 1, (x5_1.size : Int)⟩ : S27) [.int .i64 7, .string (⟨#[]⟩ : ByteArray), .int .i64 1, .int .i64 (x5_1.size : Int)] (fun _ => True) (fun _ => False) rfl rfl ?aP (fun _ hk => hk.elim) ?aF ?aO ?aB ?aS ?aL ?_; (case aP => exact k27_mkM _ _ _ (⟨7, (⟨#[]⟩ : ByteArray), 1, (x5_1.size : Int)⟩ : S27)); (case aB => exact (by repeat (first | (with_reducible first | exact HB.out | apply below_alloc | apply pw_below_drewN | apply below_drew1) | exact HB.out))); (case aF => exact (fun _ _ => trivial)); (case aO => exact (by (with_reducible repeat (first | apply Kd.R_alloc | apply Kd.R_drewN | apply Kd.R_drew)); exact HO_6.out)); (case aS => exact (below_size (by repeat (first | (with_reducible first | exact HB.out | apply below_alloc | apply pw_below_drewN | apply below_drew1) | exact HB.out)))); (case aL => have := LMc66.out; omega); intro v373 w94 ho hb hg hat; rw [← Ny372.out] at ho; have n0_ := Aside0.mk (hb); have n1_ := Aside0.mk (ho); clear HB; clear HO_6; have HB := n0_; have HO374 := n1_; clear n0_ n1_; clear ho hb hg hat) | ((with_reducible refine gate_callee (f := 22) rfl ?_); refine goesL_ (some 123) rfl rfl Try.func22 (by kernel_rfl) rfl #[.string (x5_1 ++ (⟨#[32, 10]⟩ : ByteArray))] rfl (by (try simp only [List.map_toArray, List.map_cons, List.map_nil]); first | done | rfl | (simp only [List.length_drop, List.length_take]; rfl)) ?_; (with_reducible refine (token_Tokens.calls kj5 (x5_1 ++ (⟨#[32, 10]⟩ : ByteArray)) t375 t376 t377 t378 _ A68.out).mono ?_); rintro e w95 ⟨v379, rfl, ho0, hb⟩; refine ⟨_, rfl, ?_⟩; have n0_ := Aside0.mk (Kd.R_elder' (by (with_reducible repeat (first | apply Kd.R_alloc | apply Kd.R_drewN | apply Kd.R_drew)); exact HO374.out) (Kd.R_base ho0) hb); have n1_ := Aside0.mk (Kd.R_lower (Kd.R_new' ho0 (Kd.R_lt (by (with_reducible repeat (first | apply Kd.R_alloc | apply Kd.R_drewN | apply Kd.R_drew)); exact HO374.out))) (below_size (by repeat (first | (with_reducible first | exact HB.out | apply below_alloc | apply pw_below_drewN | apply below_drew1) | exact HB.out)))); have n2_ := Aside0.mk (below_step (by repeat (first | (with_reducible first | exact HB.out | apply below_alloc | apply pw_below_drewN | apply below_drew1) | exact HB.out)) hb); clear HO374; clear HB; have HO374 := n0_; have HO380 := n1_; have HB := n2_; clear n0_ n1_ n2_; (try clear hb); (try clear hb2); (try clear hk); (try clear hi); (try clear ho0); obtain ⟨Ao96, co96, eo96⟩ := Kd.R_slice HO374.out; subst eo96))
                        go_ret
                        exact ⟨by first | rfl | (simp [errW_none, errW_some] <;> rfl) | (simp [*, errW_none, errW_some] <;> rfl), by repeat (first | (with_reducible first | exact HB.out | apply below_alloc | apply pw_below_drewN | apply below_drew1) | exact HB.out)⟩
                · rw [if_neg c67] at H
                  exact absurd H (by simp)
              · rw [if_neg c66] at H
                exact absurd H (by simp)
  · replace c4 := Bool.eq_false_iff.mpr c4
    subst c4
    have H1 : (some false) = some r := by rw [if_neg (show ¬ (false = true) by decide)] at H; exact H
    clear H
    have H := H1
    clear H1
    obtain rfl := Option.some.inj H
    go_enter Try.func9, Try.ntmps9
    go_wp2_with (first | ((with_reducible refine gate_callee (f := 14) rfl ?_); refine goesL_ (some 17) rfl rfl Try.func14 (by kernel_rfl) rfl #[] rfl (by (try simp only [List.map_toArray, List.map_cons, List.map_nil]); first | done | rfl | (simp only [List.length_drop, List.length_take]; rfl)) ?_; (with_reducible refine (kilnlaw11_Told.calls k  false _ A3.out).mono ?_); rintro e w97 ⟨rfl, hb⟩; refine ⟨_, rfl, ?_⟩; have n0_ := Aside0.mk (below_step (by repeat (first | (with_reducible first | exact HB.out | apply below_alloc | apply pw_below_drewN | apply below_drew1) | exact HB.out)) hb); clear HB; have HB := n0_; clear n0_; (try clear hb); (try clear hb2); (try clear hk); (try clear hi)))
    go_ret
    exact ⟨by first | rfl | (simp [errW_none, errW_some] <;> rfl) | (simp [*, errW_none, errW_some] <;> rfl), by repeat (first | (with_reducible first | exact HB.out | apply below_alloc | apply pw_below_drewN | apply below_drew1) | exact HB.out)⟩

end Go.Proofs.Ytnmmapjcphefpaa.G
