import Derived.Test.YtgcpcgcfpjolnaaDoorPN
-- chain.formed of any bytes. Printed by genformed.py and expand.py.
namespace Go.Proofs.YtgcpcgcfpjolnaaDoor.G
open Go.RowKit Go.Proofs.YtgcpcgcfpjolnaaDoorW.PrintWords Go.Proofs.YtgcpcgcfpjolnaaDoorW.PrintLast Go.Proofs.YtgcpcgcfpjolnaaDoorW.PrintMore
set_option linter.unusedVariables false
set_option linter.unusedSimpArgs false
set_option maxRecDepth 10000
abbrev o71_2_0 : Oper := { dst := some 12, op := Op.move (Operand.tmp 0), type := 22, pos := "chain.go:68", after := #[], guard := none }
abbrev o71_2_1 : Oper := { dst := some 13, op := Op.call { callee := Callee.builtin Builtin.len, args := #[Operand.tmp 12], argTypes := #[22] }, type := 3, pos := "chain.go:68", after := #[{ on := 0, ground := Ground.data }], guard := none }
abbrev o71_2_2 : Oper := { dst := some 14, op := Op.binOp BinOp.eql 3 (Operand.tmp 13) (Operand.const (Value.int IntKind.i64 512)) 3, type := 4, pos := "chain.go:68", after := #[{ on := 1, ground := Ground.data }], guard := none }
abbrev o71_2_3 : Oper := { dst := some 15, op := Op.move (Operand.tmp 14), type := 4, pos := "chain.go:68", after := #[{ on := 2, ground := Ground.data }], guard := none }
abbrev o71_2_4 : Oper := { dst := some 16, op := Op.move (Operand.tmp 0), type := 22, pos := "chain.go:68", after := #[{ on := 3, ground := Ground.guard }], guard := some (3, true) }
abbrev o71_2_5 : Oper := { dst := some 17, op := Op.slice 22 (Operand.tmp 16) (some (Operand.const (Value.int IntKind.i64 4))) none none, type := 22, pos := "chain.go:68", after := #[{ on := 4, ground := Ground.data }, { on := 3, ground := Ground.guard }], guard := some (3, true) }
abbrev o71_2_6 : Oper := { dst := some 18, op := Op.call { callee := Callee.value (Operand.func 73), args := #[Operand.tmp 17, Operand.const (Value.int IntKind.i64 2)], argTypes := #[22, 3] }, type := 3, pos := "chain.go:68", after := #[{ on := 5, ground := Ground.data }, { on := 3, ground := Ground.chain }, { on := 3, ground := Ground.guard }], guard := some (3, true) }
abbrev o71_2_7 : Oper := { dst := some 19, op := Op.move (Operand.tmp 7), type := 3, pos := "chain.go:68", after := #[{ on := 3, ground := Ground.guard }], guard := some (3, true) }
abbrev o71_2_8 : Oper := { dst := some 20, op := Op.binOp BinOp.eql 3 (Operand.tmp 18) (Operand.tmp 19) 3, type := 4, pos := "chain.go:68", after := #[{ on := 6, ground := Ground.data }, { on := 7, ground := Ground.data }, { on := 3, ground := Ground.guard }], guard := some (3, true) }
abbrev o71_2_9 : Oper := { dst := some 21, op := Op.pick (Operand.tmp 15) (Operand.tmp 20) (Operand.const (Value.bool false)), type := 4, pos := "chain.go:68", after := #[{ on := 3, ground := Ground.data }, { on := 8, ground := Ground.data }], guard := none }
abbrev o71_2_10 : Oper := { dst := some 22, op := Op.move (Operand.tmp 21), type := 4, pos := "chain.go:68", after := #[{ on := 9, ground := Ground.data }, { on := 6, ground := Ground.chain }], guard := none }
abbrev o71_2_11 : Oper := { dst := some 23, op := Op.move (Operand.tmp 0), type := 22, pos := "chain.go:68", after := #[{ on := 10, ground := Ground.guard }], guard := some (10, true) }
abbrev o71_2_12 : Oper := { dst := some 24, op := Op.slice 22 (Operand.tmp 23) (some (Operand.const (Value.int IntKind.i64 6))) (some (Operand.const (Value.int IntKind.i64 8))) none, type := 22, pos := "chain.go:68", after := #[{ on := 11, ground := Ground.data }, { on := 10, ground := Ground.guard }], guard := some (10, true) }
abbrev o71_2_13 : Oper := { dst := some 25, op := Op.call { callee := Callee.value (Operand.func 105), args := #[Operand.tmp 24], argTypes := #[22] }, type := 4, pos := "chain.go:68", after := #[{ on := 12, ground := Ground.data }, { on := 10, ground := Ground.chain }, { on := 10, ground := Ground.guard }], guard := some (10, true) }
abbrev o71_2_14 : Oper := { dst := some 26, op := Op.pick (Operand.tmp 22) (Operand.tmp 25) (Operand.const (Value.bool false)), type := 4, pos := "chain.go:68", after := #[{ on := 10, ground := Ground.data }, { on := 13, ground := Ground.data }], guard := none }
abbrev o71_2_15 : Oper := { dst := some 27, op := Op.move (Operand.tmp 26), type := 4, pos := "chain.go:68", after := #[{ on := 14, ground := Ground.data }, { on := 13, ground := Ground.chain }], guard := none }
abbrev o71_2_16 : Oper := { dst := some 28, op := Op.move (Operand.tmp 0), type := 22, pos := "chain.go:68", after := #[{ on := 15, ground := Ground.guard }], guard := some (15, true) }
abbrev o71_2_17 : Oper := { dst := some 29, op := Op.slice 22 (Operand.tmp 28) (some (Operand.const (Value.int IntKind.i64 8))) none none, type := 22, pos := "chain.go:68", after := #[{ on := 16, ground := Ground.data }, { on := 15, ground := Ground.guard }], guard := some (15, true) }
abbrev o71_2_18 : Oper := { dst := some 30, op := Op.call { callee := Callee.value (Operand.func 73), args := #[Operand.tmp 29, Operand.const (Value.int IntKind.i64 4)], argTypes := #[22, 3] }, type := 3, pos := "chain.go:68", after := #[{ on := 17, ground := Ground.data }, { on := 15, ground := Ground.chain }, { on := 15, ground := Ground.guard }], guard := some (15, true) }
abbrev o71_2_19 : Oper := { dst := some 31, op := Op.move (Operand.tmp 2), type := 3, pos := "chain.go:68", after := #[{ on := 15, ground := Ground.guard }], guard := some (15, true) }
abbrev o71_2_20 : Oper := { dst := some 32, op := Op.binOp BinOp.eql 3 (Operand.tmp 30) (Operand.tmp 31) 3, type := 4, pos := "chain.go:68", after := #[{ on := 18, ground := Ground.data }, { on := 19, ground := Ground.data }, { on := 15, ground := Ground.guard }], guard := some (15, true) }
abbrev o71_2_21 : Oper := { dst := some 33, op := Op.pick (Operand.tmp 27) (Operand.tmp 32) (Operand.const (Value.bool false)), type := 4, pos := "chain.go:68", after := #[{ on := 15, ground := Ground.data }, { on := 20, ground := Ground.data }], guard := none }
abbrev o71_2_22 : Oper := { dst := some 34, op := Op.move (Operand.tmp 33), type := 4, pos := "chain.go:68", after := #[{ on := 21, ground := Ground.data }, { on := 18, ground := Ground.chain }], guard := none }
abbrev o71_2_23 : Oper := { dst := some 35, op := Op.move (Operand.tmp 0), type := 22, pos := "chain.go:68", after := #[{ on := 22, ground := Ground.guard }], guard := some (22, true) }
abbrev o71_2_24 : Oper := { dst := some 36, op := Op.slice 22 (Operand.tmp 35) (some (Operand.const (Value.int IntKind.i64 12))) (some (Operand.const (Value.int IntKind.i64 20))) none, type := 22, pos := "chain.go:68", after := #[{ on := 23, ground := Ground.data }, { on := 22, ground := Ground.guard }], guard := some (22, true) }
abbrev o71_2_25 : Oper := { dst := some 37, op := Op.sliceToArrayPointer 181 (Operand.tmp 36), type := 0, pos := "chain.go:68", after := #[{ on := 24, ground := Ground.data }, { on := 22, ground := Ground.guard }], guard := some (22, true) }
abbrev o71_2_26 : Oper := { dst := some 38, op := Op.load 181 (Operand.tmp 37), type := 181, pos := "chain.go:68", after := #[{ on := 25, ground := Ground.data }, { on := 22, ground := Ground.guard }], guard := some (22, true) }
abbrev o71_2_27 : Oper := { dst := some 39, op := Op.fieldAddr 52 (Operand.tmp 4) 0, type := 0, pos := "chain.go:68", after := #[{ on := 22, ground := Ground.guard }], guard := some (22, true) }
abbrev o71_2_28 : Oper := { dst := some 40, op := Op.slice 50 (Operand.tmp 39) none (some (Operand.const (Value.int IntKind.i64 8))) none, type := 22, pos := "chain.go:68", after := #[{ on := 27, ground := Ground.data }, { on := 22, ground := Ground.guard }], guard := some (22, true) }
abbrev o71_2_29 : Oper := { dst := some 41, op := Op.sliceToArrayPointer 181 (Operand.tmp 40), type := 0, pos := "chain.go:68", after := #[{ on := 28, ground := Ground.data }, { on := 22, ground := Ground.guard }], guard := some (22, true) }
abbrev o71_2_30 : Oper := { dst := some 42, op := Op.load 181 (Operand.tmp 41), type := 181, pos := "chain.go:68", after := #[{ on := 29, ground := Ground.data }, { on := 22, ground := Ground.guard }], guard := some (22, true) }
abbrev o71_2_31 : Oper := { dst := some 43, op := Op.binOp BinOp.eql 181 (Operand.tmp 38) (Operand.tmp 42) 181, type := 4, pos := "chain.go:68", after := #[{ on := 26, ground := Ground.data }, { on := 30, ground := Ground.data }, { on := 22, ground := Ground.guard }], guard := some (22, true) }
abbrev o71_2_32 : Oper := { dst := some 44, op := Op.pick (Operand.tmp 34) (Operand.tmp 43) (Operand.const (Value.bool false)), type := 4, pos := "chain.go:68", after := #[{ on := 22, ground := Ground.data }, { on := 31, ground := Ground.data }], guard := none }
abbrev o71_2_33 : Oper := { dst := some 45, op := Op.move (Operand.tmp 44), type := 4, pos := "chain.go:68", after := #[{ on := 32, ground := Ground.data }, { on := 22, ground := Ground.chain }], guard := none }
abbrev o71_2_34 : Oper := { dst := some 46, op := Op.move (Operand.tmp 0), type := 22, pos := "chain.go:68", after := #[{ on := 33, ground := Ground.guard }], guard := some (33, true) }
abbrev o71_2_35 : Oper := { dst := some 47, op := Op.slice 22 (Operand.tmp 46) (some (Operand.const (Value.int IntKind.i64 20))) (some (Operand.const (Value.int IntKind.i64 28))) none, type := 22, pos := "chain.go:68", after := #[{ on := 34, ground := Ground.data }, { on := 33, ground := Ground.guard }], guard := some (33, true) }
abbrev o71_2_36 : Oper := { dst := some 48, op := Op.call { callee := Callee.value (Operand.func 105), args := #[Operand.tmp 47], argTypes := #[22] }, type := 4, pos := "chain.go:69", after := #[{ on := 35, ground := Ground.data }, { on := 33, ground := Ground.chain }, { on := 33, ground := Ground.guard }], guard := some (33, true) }
abbrev o71_2_37 : Oper := { dst := some 49, op := Op.pick (Operand.tmp 45) (Operand.tmp 48) (Operand.const (Value.bool false)), type := 4, pos := "chain.go:68", after := #[{ on := 33, ground := Ground.data }, { on := 36, ground := Ground.data }], guard := none }
abbrev o71_2_38 : Oper := { dst := some 50, op := Op.move (Operand.tmp 49), type := 4, pos := "chain.go:68", after := #[{ on := 37, ground := Ground.data }, { on := 36, ground := Ground.chain }], guard := none }
abbrev o71_2_39 : Oper := { dst := some 51, op := Op.move (Operand.tmp 0), type := 22, pos := "chain.go:68", after := #[{ on := 38, ground := Ground.guard }], guard := some (38, true) }
abbrev o71_2_40 : Oper := { dst := some 52, op := Op.move (Operand.tmp 7), type := 3, pos := "chain.go:68", after := #[{ on := 38, ground := Ground.guard }], guard := some (38, true) }
abbrev o71_2_41 : Oper := { dst := some 53, op := Op.binOp BinOp.add 3 (Operand.const (Value.int IntKind.i64 28)) (Operand.tmp 52) 3, type := 3, pos := "chain.go:68", after := #[{ on := 40, ground := Ground.data }, { on := 38, ground := Ground.guard }], guard := some (38, true) }
abbrev o71_2_42 : Oper := { dst := some 54, op := Op.slice 22 (Operand.tmp 51) (some (Operand.tmp 53)) (some (Operand.const (Value.int IntKind.i64 508))) none, type := 22, pos := "chain.go:68", after := #[{ on := 39, ground := Ground.data }, { on := 41, ground := Ground.data }, { on := 38, ground := Ground.guard }], guard := some (38, true) }
abbrev o71_2_43 : Oper := { dst := some 55, op := Op.call { callee := Callee.value (Operand.func 105), args := #[Operand.tmp 54], argTypes := #[22] }, type := 4, pos := "chain.go:69", after := #[{ on := 42, ground := Ground.data }, { on := 38, ground := Ground.chain }, { on := 38, ground := Ground.guard }], guard := some (38, true) }
abbrev o71_2_44 : Oper := { dst := some 56, op := Op.pick (Operand.tmp 50) (Operand.tmp 55) (Operand.const (Value.bool false)), type := 4, pos := "chain.go:68", after := #[{ on := 38, ground := Ground.data }, { on := 43, ground := Ground.data }], guard := none }
abbrev o71_2_45 : Oper := { dst := some 57, op := Op.move (Operand.tmp 56), type := 4, pos := "chain.go:68", after := #[{ on := 44, ground := Ground.data }, { on := 43, ground := Ground.chain }], guard := none }
abbrev o71_2_46 : Oper := { dst := some 58, op := Op.move (Operand.tmp 0), type := 22, pos := "chain.go:68", after := #[{ on := 45, ground := Ground.guard }], guard := some (45, true) }
abbrev o71_2_47 : Oper := { dst := some 59, op := Op.slice 22 (Operand.tmp 58) (some (Operand.const (Value.int IntKind.i64 508))) none none, type := 22, pos := "chain.go:68", after := #[{ on := 46, ground := Ground.data }, { on := 45, ground := Ground.guard }], guard := some (45, true) }
abbrev o71_2_48 : Oper := { dst := some 60, op := Op.call { callee := Callee.value (Operand.func 73), args := #[Operand.tmp 59, Operand.const (Value.int IntKind.i64 4)], argTypes := #[22, 3] }, type := 3, pos := "chain.go:70", after := #[{ on := 47, ground := Ground.data }, { on := 45, ground := Ground.chain }, { on := 45, ground := Ground.guard }], guard := some (45, true) }
abbrev o71_2_49 : Oper := { dst := some 61, op := Op.move (Operand.tmp 0), type := 22, pos := "chain.go:68", after := #[{ on := 45, ground := Ground.guard }], guard := some (45, true) }
abbrev o71_2_50 : Oper := { dst := some 62, op := Op.slice 22 (Operand.tmp 61) none (some (Operand.const (Value.int IntKind.i64 508))) none, type := 22, pos := "chain.go:68", after := #[{ on := 49, ground := Ground.data }, { on := 45, ground := Ground.guard }], guard := some (45, true) }
abbrev o71_2_51 : Oper := { dst := some 63, op := Op.buildSlice 33 1 #[(0, Operand.tmp 62)], type := 33, pos := "chain.go:68", after := #[{ on := 50, ground := Ground.data }, { on := 45, ground := Ground.guard }], guard := some (45, true) }
abbrev o71_2_52 : Oper := { dst := some 64, op := Op.call { callee := Callee.value (Operand.func 104), args := #[Operand.tmp 63], argTypes := #[33] }, type := 179, pos := "chain.go:70", after := #[{ on := 51, ground := Ground.data }, { on := 48, ground := Ground.chain }, { on := 45, ground := Ground.guard }], guard := some (45, true) }
abbrev o71_2_53 : Oper := { dst := some 65, op := Op.convert 179 3 (Operand.tmp 64), type := 3, pos := "chain.go:68", after := #[{ on := 52, ground := Ground.data }, { on := 45, ground := Ground.guard }], guard := some (45, true) }
abbrev o71_2_54 : Oper := { dst := some 66, op := Op.binOp BinOp.eql 3 (Operand.tmp 60) (Operand.tmp 65) 3, type := 4, pos := "chain.go:68", after := #[{ on := 48, ground := Ground.data }, { on := 53, ground := Ground.data }, { on := 45, ground := Ground.guard }], guard := some (45, true) }
abbrev o71_2_55 : Oper := { dst := some 67, op := Op.pick (Operand.tmp 57) (Operand.tmp 66) (Operand.const (Value.bool false)), type := 4, pos := "chain.go:68", after := #[{ on := 45, ground := Ground.data }, { on := 54, ground := Ground.data }], guard := none }
abbrev o71_2_56 : Oper := { dst := some 6, op := Op.assign (Operand.tmp 67), type := 4, pos := "chain.go:68", after := #[{ on := 55, ground := Ground.data }, { on := 52, ground := Ground.chain }, { on := 0, ground := Ground.phase }, { on := 1, ground := Ground.phase }, { on := 2, ground := Ground.phase }, { on := 3, ground := Ground.phase }, { on := 4, ground := Ground.phase }, { on := 5, ground := Ground.phase }, { on := 6, ground := Ground.phase }, { on := 7, ground := Ground.phase }, { on := 8, ground := Ground.phase }, { on := 9, ground := Ground.phase }, { on := 10, ground := Ground.phase }, { on := 11, ground := Ground.phase }, { on := 12, ground := Ground.phase }, { on := 13, ground := Ground.phase }, { on := 14, ground := Ground.phase }, { on := 15, ground := Ground.phase }, { on := 16, ground := Ground.phase }, { on := 17, ground := Ground.phase }, { on := 18, ground := Ground.phase }, { on := 19, ground := Ground.phase }, { on := 20, ground := Ground.phase }, { on := 21, ground := Ground.phase }, { on := 22, ground := Ground.phase }, { on := 23, ground := Ground.phase }, { on := 24, ground := Ground.phase }, { on := 25, ground := Ground.phase }, { on := 26, ground := Ground.phase }, { on := 27, ground := Ground.phase }, { on := 28, ground := Ground.phase }, { on := 29, ground := Ground.phase }, { on := 30, ground := Ground.phase }, { on := 31, ground := Ground.phase }, { on := 32, ground := Ground.phase }, { on := 33, ground := Ground.phase }, { on := 34, ground := Ground.phase }, { on := 35, ground := Ground.phase }, { on := 36, ground := Ground.phase }, { on := 37, ground := Ground.phase }, { on := 38, ground := Ground.phase }, { on := 39, ground := Ground.phase }, { on := 40, ground := Ground.phase }, { on := 41, ground := Ground.phase }, { on := 42, ground := Ground.phase }, { on := 43, ground := Ground.phase }, { on := 44, ground := Ground.phase }, { on := 45, ground := Ground.phase }, { on := 46, ground := Ground.phase }, { on := 47, ground := Ground.phase }, { on := 48, ground := Ground.phase }, { on := 49, ground := Ground.phase }, { on := 50, ground := Ground.phase }, { on := 51, ground := Ground.phase }, { on := 52, ground := Ground.phase }, { on := 53, ground := Ground.phase }, { on := 54, ground := Ground.phase }, { on := 55, ground := Ground.phase }], guard := none }
/-- what chain.formed's calls tell -/
structure FC (w w1 : World) (g c rb n : Nat) (j v1 v2 v3 sm : Int) (a0 a1 a2 a3 a4 a5 a6 a7 : Int) (b0 b1 b2 b3 b4 b5 b6 b7 : Int) (z1 z2 z3 : Bool) : Prop where
  n1 : ∀ W, Keeps [] w1 W → Calls Tryd.prog 73 #[.slice (some ⟨g, 4, none⟩) 508 (c - 4), .int .i64 2] W fun e w' => e = .returned (.int .i64 v1) ∧ w' = W
  y1 : ∀ W, Keeps [] w1 W → Calls Tryd.prog 105 #[.slice (some ⟨g, 6, none⟩) 2 (c - 6)] W fun e w' => e = .returned (.bool z1) ∧ w' = W
  n2 : ∀ W, Keeps [] w1 W → Calls Tryd.prog 73 #[.slice (some ⟨g, 8, none⟩) 504 (c - 8), .int .i64 4] W fun e w' => e = .returned (.int .i64 v2) ∧ w' = W
  y2 : ∀ W, Keeps [] w1 W → Calls Tryd.prog 105 #[.slice (some ⟨g, 20, none⟩) 8 (c - 20)] W fun e w' => e = .returned (.bool z2) ∧ w' = W
  y3 : ∀ W q, q = 28 + n → Keeps [] w1 W → Calls Tryd.prog 105 #[.slice (some ⟨g, q, none⟩) (508 - q) (c - q)] W fun e w' => e = .returned (.bool z3) ∧ w' = W
  n3 : ∀ W, Keeps [] w1 W → Calls Tryd.prog 73 #[.slice (some ⟨g, 508, none⟩) 4 (c - 508), .int .i64 4] W fun e w' => e = .returned (.int .i64 v3) ∧ w' = W
  c4 : ∀ W, Keeps [] w1 W → ∀ p cp, W.cell? ⟨p, 0, none⟩ = some (.slice (some ⟨g, 0, none⟩) 508 c) → Calls Tryd.prog 104 #[.slice (some ⟨p, 0, none⟩) 1 cp] W fun e w' => e = .returned (.int .u32 sm) ∧ w' = W
  ss : ∀ W, Keeps [] w1 W → W.cell? ⟨g, 12, none⟩ = some (.int .u8 a0) ∧ W.cell? ⟨g, 13, none⟩ = some (.int .u8 a1) ∧ W.cell? ⟨g, 14, none⟩ = some (.int .u8 a2) ∧ W.cell? ⟨g, 15, none⟩ = some (.int .u8 a3) ∧ W.cell? ⟨g, 16, none⟩ = some (.int .u8 a4) ∧ W.cell? ⟨g, 17, none⟩ = some (.int .u8 a5) ∧ W.cell? ⟨g, 18, none⟩ = some (.int .u8 a6) ∧ W.cell? ⟨g, 19, none⟩ = some (.int .u8 a7) ∧ W.cell? ⟨rb, 0, none⟩ = some (.int .u8 b0) ∧ W.cell? ⟨rb, 1, none⟩ = some (.int .u8 b1) ∧ W.cell? ⟨rb, 2, none⟩ = some (.int .u8 b2) ∧ W.cell? ⟨rb, 3, none⟩ = some (.int .u8 b3) ∧ W.cell? ⟨rb, 4, none⟩ = some (.int .u8 b4) ∧ W.cell? ⟨rb, 5, none⟩ = some (.int .u8 b5) ∧ W.cell? ⟨rb, 6, none⟩ = some (.int .u8 b6) ∧ W.cell? ⟨rb, 7, none⟩ = some (.int .u8 b7)
  s0 : 0 ≤ sm ∧ sm < 4294967296
set_option maxHeartbeats 4000000 in
theorem formed_0 {w w1 : World} {g c rb n : Nat} {j : Int} {r : List Value} (N : Nat) (hN : N ≠ 512) (hw1 : w1 = w.alloc (.cells r.toArray 52)) (hrb : rb = w.heap.size) (L : Int) (hr : r[33]? = some (.int .i64 L)) (HS68 : Hid (∀ W, Calls Tryd.prog 68 #[.int .i64 L, .int .i64 j] W fun e w' => e = .returned (.int .i64 (n : Int)) ∧ w' = W)) (hn : n ≤ 480) (hc : N ≤ c) :
    Calls Tryd.prog 71 #[.slice (some ⟨g, 0, none⟩) N c, .agg r.toArray, .int .i64 j] w fun e w' => e = .returned (.bool false) ∧ Keeps [] w w' := by
  have e0 : ((N : Int) == 512) = false := by simp; omega
  have a33 : r.toArray[33]? = some (.int .i64 L) := by rw [List.getElem?_toArray]; exact hr
  have HK1 := Lib.hid (show Keeps [] w w1 from by rw [hw1]; exact (Keeps.refl [] w).alloc _)
  have HCL := Lib.hid (show w1.cell? ⟨rb, 33, none⟩ = some (.int .i64 L) from by rw [hw1, hrb, (StrAt.new w r.toArray 52).cell]; exact a33)
  clear hn
  go_enter Tryd.func71, Tryd.ntmps71
  go_wp2_with (go_at_call 68; refine (HS68.out _).mono ?_; rintro e w0 ⟨rfl, rfl⟩)
  rw [← hw1, ← hrb]
  clear hw1 hrb a33 HCL
  refine wp_region_held_drew (S := fun _ => True) (by kernel_rfl) (trivial) (fun hHeld => ?_)
  refine wpAnyH_take (i := 0) (oi := o71_2_0) (v := ?_) rfl (by kernel_rfl) (by kernel_rfl) (by kernel_rfl) (fun _ _ _ h => h) (Or.inl ⟨by kernel_rfl, ?_⟩) (by assumption) ?_
  rotate_left
  · (intro w9 hSw; clear hSw; go_simp; try with_reducible rfl)
  try simp only [o71_2_0, Act.put, List.setIfInBounds_toArray, List.set_cons_zero, List.set_cons_succ]
  refine wpAnyH_ready (rs := [1]) (by kernel_rfl) (by simp) ?_
  refine AllReadyH.cons (o := o71_2_1) rfl (fun K hK => ?_) AllReadyH.nil
  go_simp
  refine hK.out _ _ (trivial) (fun hHeld1 => ?_)
  clear hK K hHeld
  try simp only [o71_2_1, Act.put, List.setIfInBounds_toArray, List.set_cons_zero, List.set_cons_succ]
  refine wpAnyH_take (i := 2) (oi := o71_2_2) (v := ?_) rfl (by kernel_rfl) (by kernel_rfl) (by kernel_rfl) (fun _ _ _ h => h) (Or.inl ⟨by kernel_rfl, ?_⟩) (by assumption) ?_
  rotate_left
  · (intro w9 hSw; clear hSw; go_simp; try with_reducible rfl)
  try simp only [o71_2_2, Act.put, List.setIfInBounds_toArray, List.set_cons_zero, List.set_cons_succ]
  refine wpAnyH_take (i := 3) (oi := o71_2_3) (v := ?_) rfl (by kernel_rfl) (by kernel_rfl) (by kernel_rfl) (fun _ _ _ h => h) (Or.inl ⟨by kernel_rfl, ?_⟩) (by assumption) ?_
  rotate_left
  · (intro w9 hSw; clear hSw; go_simp; try with_reducible rfl)
  try simp only [o71_2_3, Act.put, List.setIfInBounds_toArray, List.set_cons_zero, List.set_cons_succ]
  refine wpAnyH_take (i := 4) (oi := o71_2_4) (v := undef) rfl (by kernel_rfl) (by kernel_rfl) (by kernel_rfl) (fun _ _ _ h => h) (Or.inr ⟨by kernel_rfl, rfl⟩) (by assumption) ?_
  try simp only [o71_2_4, Act.put, List.setIfInBounds_toArray, List.set_cons_zero, List.set_cons_succ]
  refine wpAnyH_take (i := 5) (oi := o71_2_5) (v := undef) rfl (by kernel_rfl) (by kernel_rfl) (by kernel_rfl) (fun _ _ _ h => h) (Or.inr ⟨by kernel_rfl, rfl⟩) (by assumption) ?_
  try simp only [o71_2_5, Act.put, List.setIfInBounds_toArray, List.set_cons_zero, List.set_cons_succ]
  refine wpAnyH_take (i := 6) (oi := o71_2_6) (v := undef) rfl (by kernel_rfl) (by kernel_rfl) (by kernel_rfl) (fun _ _ _ h => h) (Or.inr ⟨by kernel_rfl, rfl⟩) (by assumption) ?_
  try simp only [o71_2_6, Act.put, List.setIfInBounds_toArray, List.set_cons_zero, List.set_cons_succ]
  refine wpAnyH_take (i := 7) (oi := o71_2_7) (v := undef) rfl (by kernel_rfl) (by kernel_rfl) (by kernel_rfl) (fun _ _ _ h => h) (Or.inr ⟨by kernel_rfl, rfl⟩) (by assumption) ?_
  try simp only [o71_2_7, Act.put, List.setIfInBounds_toArray, List.set_cons_zero, List.set_cons_succ]
  refine wpAnyH_take (i := 8) (oi := o71_2_8) (v := undef) rfl (by kernel_rfl) (by kernel_rfl) (by kernel_rfl) (fun _ _ _ h => h) (Or.inr ⟨by kernel_rfl, rfl⟩) (by assumption) ?_
  try simp only [o71_2_8, Act.put, List.setIfInBounds_toArray, List.set_cons_zero, List.set_cons_succ]
  refine wpAnyH_take (i := 9) (oi := o71_2_9) (v := ?_) rfl (by kernel_rfl) (by kernel_rfl) (by kernel_rfl) (fun _ _ _ h => h) (Or.inl ⟨by kernel_rfl, ?_⟩) (by assumption) ?_
  rotate_left
  · (intro w9 hSw; clear hSw; go_simp; try with_reducible rfl)
  try simp only [o71_2_9, Act.put, List.setIfInBounds_toArray, List.set_cons_zero, List.set_cons_succ]
  refine wpAnyH_take (i := 10) (oi := o71_2_10) (v := ?_) rfl (by kernel_rfl) (by kernel_rfl) (by kernel_rfl) (fun _ _ _ h => h) (Or.inl ⟨by kernel_rfl, ?_⟩) (by assumption) ?_
  rotate_left
  · (intro w9 hSw; clear hSw; go_simp; try with_reducible rfl)
  try simp only [o71_2_10, Act.put, List.setIfInBounds_toArray, List.set_cons_zero, List.set_cons_succ]
  refine wpAnyH_take (i := 11) (oi := o71_2_11) (v := undef) rfl (by kernel_rfl) (by kernel_rfl) (by kernel_rfl) (fun _ _ _ h => h) (Or.inr ⟨by kernel_rfl, rfl⟩) (by assumption) ?_
  try simp only [o71_2_11, Act.put, List.setIfInBounds_toArray, List.set_cons_zero, List.set_cons_succ]
  refine wpAnyH_take (i := 12) (oi := o71_2_12) (v := undef) rfl (by kernel_rfl) (by kernel_rfl) (by kernel_rfl) (fun _ _ _ h => h) (Or.inr ⟨by kernel_rfl, rfl⟩) (by assumption) ?_
  try simp only [o71_2_12, Act.put, List.setIfInBounds_toArray, List.set_cons_zero, List.set_cons_succ]
  refine wpAnyH_take (i := 13) (oi := o71_2_13) (v := undef) rfl (by kernel_rfl) (by kernel_rfl) (by kernel_rfl) (fun _ _ _ h => h) (Or.inr ⟨by kernel_rfl, rfl⟩) (by assumption) ?_
  try simp only [o71_2_13, Act.put, List.setIfInBounds_toArray, List.set_cons_zero, List.set_cons_succ]
  refine wpAnyH_take (i := 14) (oi := o71_2_14) (v := ?_) rfl (by kernel_rfl) (by kernel_rfl) (by kernel_rfl) (fun _ _ _ h => h) (Or.inl ⟨by kernel_rfl, ?_⟩) (by assumption) ?_
  rotate_left
  · (intro w9 hSw; clear hSw; go_simp; try with_reducible rfl)
  try simp only [o71_2_14, Act.put, List.setIfInBounds_toArray, List.set_cons_zero, List.set_cons_succ]
  refine wpAnyH_take (i := 15) (oi := o71_2_15) (v := ?_) rfl (by kernel_rfl) (by kernel_rfl) (by kernel_rfl) (fun _ _ _ h => h) (Or.inl ⟨by kernel_rfl, ?_⟩) (by assumption) ?_
  rotate_left
  · (intro w9 hSw; clear hSw; go_simp; try with_reducible rfl)
  try simp only [o71_2_15, Act.put, List.setIfInBounds_toArray, List.set_cons_zero, List.set_cons_succ]
  refine wpAnyH_take (i := 16) (oi := o71_2_16) (v := undef) rfl (by kernel_rfl) (by kernel_rfl) (by kernel_rfl) (fun _ _ _ h => h) (Or.inr ⟨by kernel_rfl, rfl⟩) (by assumption) ?_
  try simp only [o71_2_16, Act.put, List.setIfInBounds_toArray, List.set_cons_zero, List.set_cons_succ]
  refine wpAnyH_take (i := 17) (oi := o71_2_17) (v := undef) rfl (by kernel_rfl) (by kernel_rfl) (by kernel_rfl) (fun _ _ _ h => h) (Or.inr ⟨by kernel_rfl, rfl⟩) (by assumption) ?_
  try simp only [o71_2_17, Act.put, List.setIfInBounds_toArray, List.set_cons_zero, List.set_cons_succ]
  refine wpAnyH_take (i := 18) (oi := o71_2_18) (v := undef) rfl (by kernel_rfl) (by kernel_rfl) (by kernel_rfl) (fun _ _ _ h => h) (Or.inr ⟨by kernel_rfl, rfl⟩) (by assumption) ?_
  try simp only [o71_2_18, Act.put, List.setIfInBounds_toArray, List.set_cons_zero, List.set_cons_succ]
  refine wpAnyH_take (i := 19) (oi := o71_2_19) (v := undef) rfl (by kernel_rfl) (by kernel_rfl) (by kernel_rfl) (fun _ _ _ h => h) (Or.inr ⟨by kernel_rfl, rfl⟩) (by assumption) ?_
  try simp only [o71_2_19, Act.put, List.setIfInBounds_toArray, List.set_cons_zero, List.set_cons_succ]
  refine wpAnyH_take (i := 20) (oi := o71_2_20) (v := undef) rfl (by kernel_rfl) (by kernel_rfl) (by kernel_rfl) (fun _ _ _ h => h) (Or.inr ⟨by kernel_rfl, rfl⟩) (by assumption) ?_
  try simp only [o71_2_20, Act.put, List.setIfInBounds_toArray, List.set_cons_zero, List.set_cons_succ]
  refine wpAnyH_take (i := 21) (oi := o71_2_21) (v := ?_) rfl (by kernel_rfl) (by kernel_rfl) (by kernel_rfl) (fun _ _ _ h => h) (Or.inl ⟨by kernel_rfl, ?_⟩) (by assumption) ?_
  rotate_left
  · (intro w9 hSw; clear hSw; go_simp; try with_reducible rfl)
  try simp only [o71_2_21, Act.put, List.setIfInBounds_toArray, List.set_cons_zero, List.set_cons_succ]
  refine wpAnyH_take (i := 22) (oi := o71_2_22) (v := ?_) rfl (by kernel_rfl) (by kernel_rfl) (by kernel_rfl) (fun _ _ _ h => h) (Or.inl ⟨by kernel_rfl, ?_⟩) (by assumption) ?_
  rotate_left
  · (intro w9 hSw; clear hSw; go_simp; try with_reducible rfl)
  try simp only [o71_2_22, Act.put, List.setIfInBounds_toArray, List.set_cons_zero, List.set_cons_succ]
  refine wpAnyH_take (i := 23) (oi := o71_2_23) (v := undef) rfl (by kernel_rfl) (by kernel_rfl) (by kernel_rfl) (fun _ _ _ h => h) (Or.inr ⟨by kernel_rfl, rfl⟩) (by assumption) ?_
  try simp only [o71_2_23, Act.put, List.setIfInBounds_toArray, List.set_cons_zero, List.set_cons_succ]
  refine wpAnyH_take (i := 24) (oi := o71_2_24) (v := undef) rfl (by kernel_rfl) (by kernel_rfl) (by kernel_rfl) (fun _ _ _ h => h) (Or.inr ⟨by kernel_rfl, rfl⟩) (by assumption) ?_
  try simp only [o71_2_24, Act.put, List.setIfInBounds_toArray, List.set_cons_zero, List.set_cons_succ]
  refine wpAnyH_take (i := 25) (oi := o71_2_25) (v := undef) rfl (by kernel_rfl) (by kernel_rfl) (by kernel_rfl) (fun _ _ _ h => h) (Or.inr ⟨by kernel_rfl, rfl⟩) (by assumption) ?_
  try simp only [o71_2_25, Act.put, List.setIfInBounds_toArray, List.set_cons_zero, List.set_cons_succ]
  refine wpAnyH_take (i := 26) (oi := o71_2_26) (v := undef) rfl (by kernel_rfl) (by kernel_rfl) (by kernel_rfl) (fun _ _ _ h => h) (Or.inr ⟨by kernel_rfl, rfl⟩) (by assumption) ?_
  try simp only [o71_2_26, Act.put, List.setIfInBounds_toArray, List.set_cons_zero, List.set_cons_succ]
  refine wpAnyH_take (i := 27) (oi := o71_2_27) (v := undef) rfl (by kernel_rfl) (by kernel_rfl) (by kernel_rfl) (fun _ _ _ h => h) (Or.inr ⟨by kernel_rfl, rfl⟩) (by assumption) ?_
  try simp only [o71_2_27, Act.put, List.setIfInBounds_toArray, List.set_cons_zero, List.set_cons_succ]
  refine wpAnyH_take (i := 28) (oi := o71_2_28) (v := undef) rfl (by kernel_rfl) (by kernel_rfl) (by kernel_rfl) (fun _ _ _ h => h) (Or.inr ⟨by kernel_rfl, rfl⟩) (by assumption) ?_
  try simp only [o71_2_28, Act.put, List.setIfInBounds_toArray, List.set_cons_zero, List.set_cons_succ]
  refine wpAnyH_take (i := 29) (oi := o71_2_29) (v := undef) rfl (by kernel_rfl) (by kernel_rfl) (by kernel_rfl) (fun _ _ _ h => h) (Or.inr ⟨by kernel_rfl, rfl⟩) (by assumption) ?_
  try simp only [o71_2_29, Act.put, List.setIfInBounds_toArray, List.set_cons_zero, List.set_cons_succ]
  refine wpAnyH_take (i := 30) (oi := o71_2_30) (v := undef) rfl (by kernel_rfl) (by kernel_rfl) (by kernel_rfl) (fun _ _ _ h => h) (Or.inr ⟨by kernel_rfl, rfl⟩) (by assumption) ?_
  try simp only [o71_2_30, Act.put, List.setIfInBounds_toArray, List.set_cons_zero, List.set_cons_succ]
  refine wpAnyH_take (i := 31) (oi := o71_2_31) (v := undef) rfl (by kernel_rfl) (by kernel_rfl) (by kernel_rfl) (fun _ _ _ h => h) (Or.inr ⟨by kernel_rfl, rfl⟩) (by assumption) ?_
  try simp only [o71_2_31, Act.put, List.setIfInBounds_toArray, List.set_cons_zero, List.set_cons_succ]
  refine wpAnyH_take (i := 32) (oi := o71_2_32) (v := ?_) rfl (by kernel_rfl) (by kernel_rfl) (by kernel_rfl) (fun _ _ _ h => h) (Or.inl ⟨by kernel_rfl, ?_⟩) (by assumption) ?_
  rotate_left
  · (intro w9 hSw; clear hSw; go_simp; try with_reducible rfl)
  try simp only [o71_2_32, Act.put, List.setIfInBounds_toArray, List.set_cons_zero, List.set_cons_succ]
  refine wpAnyH_take (i := 33) (oi := o71_2_33) (v := ?_) rfl (by kernel_rfl) (by kernel_rfl) (by kernel_rfl) (fun _ _ _ h => h) (Or.inl ⟨by kernel_rfl, ?_⟩) (by assumption) ?_
  rotate_left
  · (intro w9 hSw; clear hSw; go_simp; try with_reducible rfl)
  try simp only [o71_2_33, Act.put, List.setIfInBounds_toArray, List.set_cons_zero, List.set_cons_succ]
  refine wpAnyH_take (i := 34) (oi := o71_2_34) (v := undef) rfl (by kernel_rfl) (by kernel_rfl) (by kernel_rfl) (fun _ _ _ h => h) (Or.inr ⟨by kernel_rfl, rfl⟩) (by assumption) ?_
  try simp only [o71_2_34, Act.put, List.setIfInBounds_toArray, List.set_cons_zero, List.set_cons_succ]
  refine wpAnyH_take (i := 35) (oi := o71_2_35) (v := undef) rfl (by kernel_rfl) (by kernel_rfl) (by kernel_rfl) (fun _ _ _ h => h) (Or.inr ⟨by kernel_rfl, rfl⟩) (by assumption) ?_
  try simp only [o71_2_35, Act.put, List.setIfInBounds_toArray, List.set_cons_zero, List.set_cons_succ]
  refine wpAnyH_take (i := 36) (oi := o71_2_36) (v := undef) rfl (by kernel_rfl) (by kernel_rfl) (by kernel_rfl) (fun _ _ _ h => h) (Or.inr ⟨by kernel_rfl, rfl⟩) (by assumption) ?_
  try simp only [o71_2_36, Act.put, List.setIfInBounds_toArray, List.set_cons_zero, List.set_cons_succ]
  refine wpAnyH_take (i := 37) (oi := o71_2_37) (v := ?_) rfl (by kernel_rfl) (by kernel_rfl) (by kernel_rfl) (fun _ _ _ h => h) (Or.inl ⟨by kernel_rfl, ?_⟩) (by assumption) ?_
  rotate_left
  · (intro w9 hSw; clear hSw; go_simp; try with_reducible rfl)
  try simp only [o71_2_37, Act.put, List.setIfInBounds_toArray, List.set_cons_zero, List.set_cons_succ]
  refine wpAnyH_take (i := 38) (oi := o71_2_38) (v := ?_) rfl (by kernel_rfl) (by kernel_rfl) (by kernel_rfl) (fun _ _ _ h => h) (Or.inl ⟨by kernel_rfl, ?_⟩) (by assumption) ?_
  rotate_left
  · (intro w9 hSw; clear hSw; go_simp; try with_reducible rfl)
  try simp only [o71_2_38, Act.put, List.setIfInBounds_toArray, List.set_cons_zero, List.set_cons_succ]
  refine wpAnyH_take (i := 39) (oi := o71_2_39) (v := undef) rfl (by kernel_rfl) (by kernel_rfl) (by kernel_rfl) (fun _ _ _ h => h) (Or.inr ⟨by kernel_rfl, rfl⟩) (by assumption) ?_
  try simp only [o71_2_39, Act.put, List.setIfInBounds_toArray, List.set_cons_zero, List.set_cons_succ]
  refine wpAnyH_take (i := 40) (oi := o71_2_40) (v := undef) rfl (by kernel_rfl) (by kernel_rfl) (by kernel_rfl) (fun _ _ _ h => h) (Or.inr ⟨by kernel_rfl, rfl⟩) (by assumption) ?_
  try simp only [o71_2_40, Act.put, List.setIfInBounds_toArray, List.set_cons_zero, List.set_cons_succ]
  refine wpAnyH_take (i := 41) (oi := o71_2_41) (v := undef) rfl (by kernel_rfl) (by kernel_rfl) (by kernel_rfl) (fun _ _ _ h => h) (Or.inr ⟨by kernel_rfl, rfl⟩) (by assumption) ?_
  try simp only [o71_2_41, Act.put, List.setIfInBounds_toArray, List.set_cons_zero, List.set_cons_succ]
  refine wpAnyH_take (i := 42) (oi := o71_2_42) (v := undef) rfl (by kernel_rfl) (by kernel_rfl) (by kernel_rfl) (fun _ _ _ h => h) (Or.inr ⟨by kernel_rfl, rfl⟩) (by assumption) ?_
  try simp only [o71_2_42, Act.put, List.setIfInBounds_toArray, List.set_cons_zero, List.set_cons_succ]
  refine wpAnyH_take (i := 43) (oi := o71_2_43) (v := undef) rfl (by kernel_rfl) (by kernel_rfl) (by kernel_rfl) (fun _ _ _ h => h) (Or.inr ⟨by kernel_rfl, rfl⟩) (by assumption) ?_
  try simp only [o71_2_43, Act.put, List.setIfInBounds_toArray, List.set_cons_zero, List.set_cons_succ]
  refine wpAnyH_take (i := 44) (oi := o71_2_44) (v := ?_) rfl (by kernel_rfl) (by kernel_rfl) (by kernel_rfl) (fun _ _ _ h => h) (Or.inl ⟨by kernel_rfl, ?_⟩) (by assumption) ?_
  rotate_left
  · (intro w9 hSw; clear hSw; go_simp; try with_reducible rfl)
  try simp only [o71_2_44, Act.put, List.setIfInBounds_toArray, List.set_cons_zero, List.set_cons_succ]
  refine wpAnyH_take (i := 45) (oi := o71_2_45) (v := ?_) rfl (by kernel_rfl) (by kernel_rfl) (by kernel_rfl) (fun _ _ _ h => h) (Or.inl ⟨by kernel_rfl, ?_⟩) (by assumption) ?_
  rotate_left
  · (intro w9 hSw; clear hSw; go_simp; try with_reducible rfl)
  try simp only [o71_2_45, Act.put, List.setIfInBounds_toArray, List.set_cons_zero, List.set_cons_succ]
  refine wpAnyH_take (i := 46) (oi := o71_2_46) (v := undef) rfl (by kernel_rfl) (by kernel_rfl) (by kernel_rfl) (fun _ _ _ h => h) (Or.inr ⟨by kernel_rfl, rfl⟩) (by assumption) ?_
  try simp only [o71_2_46, Act.put, List.setIfInBounds_toArray, List.set_cons_zero, List.set_cons_succ]
  refine wpAnyH_take (i := 47) (oi := o71_2_47) (v := undef) rfl (by kernel_rfl) (by kernel_rfl) (by kernel_rfl) (fun _ _ _ h => h) (Or.inr ⟨by kernel_rfl, rfl⟩) (by assumption) ?_
  try simp only [o71_2_47, Act.put, List.setIfInBounds_toArray, List.set_cons_zero, List.set_cons_succ]
  refine wpAnyH_take (i := 48) (oi := o71_2_48) (v := undef) rfl (by kernel_rfl) (by kernel_rfl) (by kernel_rfl) (fun _ _ _ h => h) (Or.inr ⟨by kernel_rfl, rfl⟩) (by assumption) ?_
  try simp only [o71_2_48, Act.put, List.setIfInBounds_toArray, List.set_cons_zero, List.set_cons_succ]
  refine wpAnyH_take (i := 49) (oi := o71_2_49) (v := undef) rfl (by kernel_rfl) (by kernel_rfl) (by kernel_rfl) (fun _ _ _ h => h) (Or.inr ⟨by kernel_rfl, rfl⟩) (by assumption) ?_
  try simp only [o71_2_49, Act.put, List.setIfInBounds_toArray, List.set_cons_zero, List.set_cons_succ]
  refine wpAnyH_take (i := 50) (oi := o71_2_50) (v := undef) rfl (by kernel_rfl) (by kernel_rfl) (by kernel_rfl) (fun _ _ _ h => h) (Or.inr ⟨by kernel_rfl, rfl⟩) (by assumption) ?_
  try simp only [o71_2_50, Act.put, List.setIfInBounds_toArray, List.set_cons_zero, List.set_cons_succ]
  refine wpAnyH_take (i := 51) (oi := o71_2_51) (v := undef) rfl (by kernel_rfl) (by kernel_rfl) (by kernel_rfl) (fun _ _ _ h => h) (Or.inr ⟨by kernel_rfl, rfl⟩) (by assumption) ?_
  try simp only [o71_2_51, Act.put, List.setIfInBounds_toArray, List.set_cons_zero, List.set_cons_succ]
  refine wpAnyH_take (i := 52) (oi := o71_2_52) (v := undef) rfl (by kernel_rfl) (by kernel_rfl) (by kernel_rfl) (fun _ _ _ h => h) (Or.inr ⟨by kernel_rfl, rfl⟩) (by assumption) ?_
  try simp only [o71_2_52, Act.put, List.setIfInBounds_toArray, List.set_cons_zero, List.set_cons_succ]
  refine wpAnyH_take (i := 53) (oi := o71_2_53) (v := undef) rfl (by kernel_rfl) (by kernel_rfl) (by kernel_rfl) (fun _ _ _ h => h) (Or.inr ⟨by kernel_rfl, rfl⟩) (by assumption) ?_
  try simp only [o71_2_53, Act.put, List.setIfInBounds_toArray, List.set_cons_zero, List.set_cons_succ]
  refine wpAnyH_take (i := 54) (oi := o71_2_54) (v := undef) rfl (by kernel_rfl) (by kernel_rfl) (by kernel_rfl) (fun _ _ _ h => h) (Or.inr ⟨by kernel_rfl, rfl⟩) (by assumption) ?_
  try simp only [o71_2_54, Act.put, List.setIfInBounds_toArray, List.set_cons_zero, List.set_cons_succ]
  refine wpAnyH_take (i := 55) (oi := o71_2_55) (v := ?_) rfl (by kernel_rfl) (by kernel_rfl) (by kernel_rfl) (fun _ _ _ h => h) (Or.inl ⟨by kernel_rfl, ?_⟩) (by assumption) ?_
  rotate_left
  · (intro w9 hSw; clear hSw; go_simp; try with_reducible rfl)
  try simp only [o71_2_55, Act.put, List.setIfInBounds_toArray, List.set_cons_zero, List.set_cons_succ]
  refine wpAnyH_take (i := 56) (oi := o71_2_56) (v := ?_) rfl (by kernel_rfl) (by kernel_rfl) (by kernel_rfl) (fun _ _ _ h => h) (Or.inl ⟨by kernel_rfl, ?_⟩) (by assumption) ?_
  rotate_left
  · (intro w9 hSw; clear hSw; go_simp; try with_reducible rfl)
  try simp only [o71_2_56, Act.put, List.setIfInBounds_toArray, List.set_cons_zero, List.set_cons_succ]
  refine wpAnyH_done (by kernel_rfl) ?_ _
  all_goals go_wp2
  all_goals go_ret
  all_goals exact ⟨rfl, HK1.out.trans' (by first | exact ((Keeps.refl [] _).drew) | exact (((Keeps.refl [] _).drew).alloc _))⟩
set_option maxHeartbeats 4000000 in
theorem formed_1 {w w1 : World} {g c rb n : Nat} {j v1 v2 v3 sm : Int} {a0 a1 a2 a3 a4 a5 a6 a7 : Int} {b0 b1 b2 b3 b4 b5 b6 b7 : Int} {z1 z2 z3 : Bool} {r : List Value} (h1 : ¬ v1 = (n : Int)) (F : Hid (FC w w1 g c rb n j v1 v2 v3 sm a0 a1 a2 a3 a4 a5 a6 a7 b0 b1 b2 b3 b4 b5 b6 b7 z1 z2 z3)) (hw1 : w1 = w.alloc (.cells r.toArray 52)) (hrb : rb = w.heap.size) (L : Int) (hr : r[33]? = some (.int .i64 L)) (HS68 : Hid (∀ W, Calls Tryd.prog 68 #[.int .i64 L, .int .i64 j] W fun e w' => e = .returned (.int .i64 (n : Int)) ∧ w' = W)) (hn : n ≤ 480) (hc : 512 ≤ c) :
    Calls Tryd.prog 71 #[.slice (some ⟨g, 0, none⟩) 512 c, .agg r.toArray, .int .i64 j] w fun e w' => e = .returned (.bool false) ∧ Keeps [] w w' := by
  have e1 : (v1 == (n : Int)) = false := by simpa using h1
  have a33 : r.toArray[33]? = some (.int .i64 L) := by rw [List.getElem?_toArray]; exact hr
  have HK1 := Lib.hid (show Keeps [] w w1 from by rw [hw1]; exact (Keeps.refl [] w).alloc _)
  have HCL := Lib.hid (show w1.cell? ⟨rb, 33, none⟩ = some (.int .i64 L) from by rw [hw1, hrb, (StrAt.new w r.toArray 52).cell]; exact a33)
  have c4 : ¬ c = 4 := by omega
  have c6 : ¬ c = 6 := by omega
  have c8 : ¬ c = 8 := by omega
  have c12 : ¬ c = 12 := by omega
  have c20 : ¬ c = 20 := by omega
  have c508 : ¬ c = 508 := by omega
  have cc : 512 ≤ c := hc
  have l8 : 8 ≤ c := by omega
  have l20 : 20 ≤ c := by omega
  have l28 : 28 ≤ c := by omega
  have l508 : 508 ≤ c := by omega
  obtain ⟨q, hq⟩ : ∃ q, q = 28 + n := ⟨_, rfl⟩
  have HQ := Lib.hid hq
  have cq : ¬ c = q := by omega
  have q508 : q ≤ 508 := by omega
  have eq28 : 28 + (n : Int) = (q : Int) := by omega
  have wq : IntKind.i64.wrap (q : Int) = (q : Int) := IntWalk.i64_in _ (by omega)
  have i8 : ((8 : Int) ≤ (c : Int)) = True := eq_true (by omega)
  have i20 : ((20 : Int) ≤ (c : Int)) = True := eq_true (by omega)
  have i28 : ((28 : Int) ≤ (c : Int)) = True := eq_true (by omega)
  have i508 : ((508 : Int) ≤ (c : Int)) = True := eq_true (by omega)
  have iq : ((q : Int) ≤ 508) = True := eq_true (by omega)
  clear hn hq
  go_enter Tryd.func71, Tryd.ntmps71
  go_wp2_with (go_at_call 68; refine (HS68.out _).mono ?_; rintro e w0 ⟨rfl, rfl⟩)
  rw [← hw1, ← hrb]
  clear hw1 hrb a33 HCL
  refine wp_region_held_drew (S := fun W => W.cell? ⟨g, 12, none⟩ = some (.int .u8 a0) ∧ W.cell? ⟨g, 13, none⟩ = some (.int .u8 a1) ∧ W.cell? ⟨g, 14, none⟩ = some (.int .u8 a2) ∧ W.cell? ⟨g, 15, none⟩ = some (.int .u8 a3) ∧ W.cell? ⟨g, 16, none⟩ = some (.int .u8 a4) ∧ W.cell? ⟨g, 17, none⟩ = some (.int .u8 a5) ∧ W.cell? ⟨g, 18, none⟩ = some (.int .u8 a6) ∧ W.cell? ⟨g, 19, none⟩ = some (.int .u8 a7) ∧ W.cell? ⟨rb, 0, none⟩ = some (.int .u8 b0) ∧ W.cell? ⟨rb, 1, none⟩ = some (.int .u8 b1) ∧ W.cell? ⟨rb, 2, none⟩ = some (.int .u8 b2) ∧ W.cell? ⟨rb, 3, none⟩ = some (.int .u8 b3) ∧ W.cell? ⟨rb, 4, none⟩ = some (.int .u8 b4) ∧ W.cell? ⟨rb, 5, none⟩ = some (.int .u8 b5) ∧ W.cell? ⟨rb, 6, none⟩ = some (.int .u8 b6) ∧ W.cell? ⟨rb, 7, none⟩ = some (.int .u8 b7)) (by kernel_rfl) (F.out.ss _ ((Keeps.refl [] _).drew)) (fun hHeld => ?_)
  refine wpAnyH_take (i := 0) (oi := o71_2_0) (v := ?_) rfl (by kernel_rfl) (by kernel_rfl) (by kernel_rfl) (fun _ _ _ h => h) (Or.inl ⟨by kernel_rfl, ?_⟩) (by assumption) ?_
  rotate_left
  · (intro w9 hSw; clear hSw; go_simp; try with_reducible rfl)
  try simp only [o71_2_0, Act.put, List.setIfInBounds_toArray, List.set_cons_zero, List.set_cons_succ]
  refine wpAnyH_ready (rs := [1]) (by kernel_rfl) (by simp) ?_
  refine AllReadyH.cons (o := o71_2_1) rfl (fun K hK => ?_) AllReadyH.nil
  go_simp
  refine hK.out _ _ (F.out.ss _ ((Keeps.refl [] _).drew)) (fun hHeld1 => ?_)
  clear hK K hHeld
  try simp only [o71_2_1, Act.put, List.setIfInBounds_toArray, List.set_cons_zero, List.set_cons_succ]
  refine wpAnyH_take (i := 2) (oi := o71_2_2) (v := ?_) rfl (by kernel_rfl) (by kernel_rfl) (by kernel_rfl) (fun _ _ _ h => h) (Or.inl ⟨by kernel_rfl, ?_⟩) (by assumption) ?_
  rotate_left
  · (intro w9 hSw; clear hSw; go_simp; try with_reducible rfl)
  try simp only [o71_2_2, Act.put, List.setIfInBounds_toArray, List.set_cons_zero, List.set_cons_succ]
  refine wpAnyH_take (i := 3) (oi := o71_2_3) (v := ?_) rfl (by kernel_rfl) (by kernel_rfl) (by kernel_rfl) (fun _ _ _ h => h) (Or.inl ⟨by kernel_rfl, ?_⟩) (by assumption) ?_
  rotate_left
  · (intro w9 hSw; clear hSw; go_simp; try with_reducible rfl)
  try simp only [o71_2_3, Act.put, List.setIfInBounds_toArray, List.set_cons_zero, List.set_cons_succ]
  refine wpAnyH_take (i := 4) (oi := o71_2_4) (v := ?_) rfl (by kernel_rfl) (by kernel_rfl) (by kernel_rfl) (fun _ _ _ h => h) (Or.inl ⟨by kernel_rfl, ?_⟩) (by assumption) ?_
  rotate_left
  · (intro w9 hSw; clear hSw; go_simp; try with_reducible rfl)
  try simp only [o71_2_4, Act.put, List.setIfInBounds_toArray, List.set_cons_zero, List.set_cons_succ]
  refine wpAnyH_take (i := 5) (oi := o71_2_5) (v := ?_) rfl (by kernel_rfl) (by kernel_rfl) (by kernel_rfl) (fun _ _ _ h => h) (Or.inl ⟨by kernel_rfl, ?_⟩) (by assumption) ?_
  rotate_left
  · (intro w9 hSw; clear hSw; go_simp; try with_reducible rfl)
  try simp only [o71_2_5, Act.put, List.setIfInBounds_toArray, List.set_cons_zero, List.set_cons_succ]
  refine wpAnyH_take (i := 7) (oi := o71_2_7) (v := ?_) rfl (by kernel_rfl) (by kernel_rfl) (by kernel_rfl) (fun _ _ _ h => h) (Or.inl ⟨by kernel_rfl, ?_⟩) (by assumption) ?_
  rotate_left
  · (intro w9 hSw; clear hSw; go_simp; try with_reducible rfl)
  try simp only [o71_2_7, Act.put, List.setIfInBounds_toArray, List.set_cons_zero, List.set_cons_succ]
  refine wpAnyH_ready (rs := [6]) (by kernel_rfl) (by simp) ?_
  refine AllReadyH.cons (o := o71_2_6) rfl (fun K hK => ?_) AllReadyH.nil
  go_simp
  refine (F.out.n1 _ ((Keeps.refl [] _).drew)).mono ?_
  rintro e w9 ⟨rfl, rfl⟩
  refine hK.out _ _ (F.out.ss _ ((Keeps.refl [] _).drew)) (fun hHeld6 => ?_)
  clear hK K hHeld1
  try simp only [o71_2_6, Act.put, List.setIfInBounds_toArray, List.set_cons_zero, List.set_cons_succ]
  refine wpAnyH_take (i := 8) (oi := o71_2_8) (v := ?_) rfl (by kernel_rfl) (by kernel_rfl) (by kernel_rfl) (fun _ _ _ h => h) (Or.inl ⟨by kernel_rfl, ?_⟩) (by assumption) ?_
  rotate_left
  · (intro w9 hSw; clear hSw; go_simp; try with_reducible rfl)
  try simp only [o71_2_8, Act.put, List.setIfInBounds_toArray, List.set_cons_zero, List.set_cons_succ]
  refine wpAnyH_take (i := 9) (oi := o71_2_9) (v := ?_) rfl (by kernel_rfl) (by kernel_rfl) (by kernel_rfl) (fun _ _ _ h => h) (Or.inl ⟨by kernel_rfl, ?_⟩) (by assumption) ?_
  rotate_left
  · (intro w9 hSw; clear hSw; go_simp; try with_reducible rfl)
  try simp only [o71_2_9, Act.put, List.setIfInBounds_toArray, List.set_cons_zero, List.set_cons_succ]
  refine wpAnyH_take (i := 10) (oi := o71_2_10) (v := ?_) rfl (by kernel_rfl) (by kernel_rfl) (by kernel_rfl) (fun _ _ _ h => h) (Or.inl ⟨by kernel_rfl, ?_⟩) (by assumption) ?_
  rotate_left
  · (intro w9 hSw; clear hSw; go_simp; try with_reducible rfl)
  try simp only [o71_2_10, Act.put, List.setIfInBounds_toArray, List.set_cons_zero, List.set_cons_succ]
  refine wpAnyH_take (i := 11) (oi := o71_2_11) (v := undef) rfl (by kernel_rfl) (by kernel_rfl) (by kernel_rfl) (fun _ _ _ h => h) (Or.inr ⟨by kernel_rfl, rfl⟩) (by assumption) ?_
  try simp only [o71_2_11, Act.put, List.setIfInBounds_toArray, List.set_cons_zero, List.set_cons_succ]
  refine wpAnyH_take (i := 12) (oi := o71_2_12) (v := undef) rfl (by kernel_rfl) (by kernel_rfl) (by kernel_rfl) (fun _ _ _ h => h) (Or.inr ⟨by kernel_rfl, rfl⟩) (by assumption) ?_
  try simp only [o71_2_12, Act.put, List.setIfInBounds_toArray, List.set_cons_zero, List.set_cons_succ]
  refine wpAnyH_take (i := 13) (oi := o71_2_13) (v := undef) rfl (by kernel_rfl) (by kernel_rfl) (by kernel_rfl) (fun _ _ _ h => h) (Or.inr ⟨by kernel_rfl, rfl⟩) (by assumption) ?_
  try simp only [o71_2_13, Act.put, List.setIfInBounds_toArray, List.set_cons_zero, List.set_cons_succ]
  refine wpAnyH_take (i := 14) (oi := o71_2_14) (v := ?_) rfl (by kernel_rfl) (by kernel_rfl) (by kernel_rfl) (fun _ _ _ h => h) (Or.inl ⟨by kernel_rfl, ?_⟩) (by assumption) ?_
  rotate_left
  · (intro w9 hSw; clear hSw; go_simp; try with_reducible rfl)
  try simp only [o71_2_14, Act.put, List.setIfInBounds_toArray, List.set_cons_zero, List.set_cons_succ]
  refine wpAnyH_take (i := 15) (oi := o71_2_15) (v := ?_) rfl (by kernel_rfl) (by kernel_rfl) (by kernel_rfl) (fun _ _ _ h => h) (Or.inl ⟨by kernel_rfl, ?_⟩) (by assumption) ?_
  rotate_left
  · (intro w9 hSw; clear hSw; go_simp; try with_reducible rfl)
  try simp only [o71_2_15, Act.put, List.setIfInBounds_toArray, List.set_cons_zero, List.set_cons_succ]
  refine wpAnyH_take (i := 16) (oi := o71_2_16) (v := undef) rfl (by kernel_rfl) (by kernel_rfl) (by kernel_rfl) (fun _ _ _ h => h) (Or.inr ⟨by kernel_rfl, rfl⟩) (by assumption) ?_
  try simp only [o71_2_16, Act.put, List.setIfInBounds_toArray, List.set_cons_zero, List.set_cons_succ]
  refine wpAnyH_take (i := 17) (oi := o71_2_17) (v := undef) rfl (by kernel_rfl) (by kernel_rfl) (by kernel_rfl) (fun _ _ _ h => h) (Or.inr ⟨by kernel_rfl, rfl⟩) (by assumption) ?_
  try simp only [o71_2_17, Act.put, List.setIfInBounds_toArray, List.set_cons_zero, List.set_cons_succ]
  refine wpAnyH_take (i := 18) (oi := o71_2_18) (v := undef) rfl (by kernel_rfl) (by kernel_rfl) (by kernel_rfl) (fun _ _ _ h => h) (Or.inr ⟨by kernel_rfl, rfl⟩) (by assumption) ?_
  try simp only [o71_2_18, Act.put, List.setIfInBounds_toArray, List.set_cons_zero, List.set_cons_succ]
  refine wpAnyH_take (i := 19) (oi := o71_2_19) (v := undef) rfl (by kernel_rfl) (by kernel_rfl) (by kernel_rfl) (fun _ _ _ h => h) (Or.inr ⟨by kernel_rfl, rfl⟩) (by assumption) ?_
  try simp only [o71_2_19, Act.put, List.setIfInBounds_toArray, List.set_cons_zero, List.set_cons_succ]
  refine wpAnyH_take (i := 20) (oi := o71_2_20) (v := undef) rfl (by kernel_rfl) (by kernel_rfl) (by kernel_rfl) (fun _ _ _ h => h) (Or.inr ⟨by kernel_rfl, rfl⟩) (by assumption) ?_
  try simp only [o71_2_20, Act.put, List.setIfInBounds_toArray, List.set_cons_zero, List.set_cons_succ]
  refine wpAnyH_take (i := 21) (oi := o71_2_21) (v := ?_) rfl (by kernel_rfl) (by kernel_rfl) (by kernel_rfl) (fun _ _ _ h => h) (Or.inl ⟨by kernel_rfl, ?_⟩) (by assumption) ?_
  rotate_left
  · (intro w9 hSw; clear hSw; go_simp; try with_reducible rfl)
  try simp only [o71_2_21, Act.put, List.setIfInBounds_toArray, List.set_cons_zero, List.set_cons_succ]
  refine wpAnyH_take (i := 22) (oi := o71_2_22) (v := ?_) rfl (by kernel_rfl) (by kernel_rfl) (by kernel_rfl) (fun _ _ _ h => h) (Or.inl ⟨by kernel_rfl, ?_⟩) (by assumption) ?_
  rotate_left
  · (intro w9 hSw; clear hSw; go_simp; try with_reducible rfl)
  try simp only [o71_2_22, Act.put, List.setIfInBounds_toArray, List.set_cons_zero, List.set_cons_succ]
  refine wpAnyH_take (i := 23) (oi := o71_2_23) (v := undef) rfl (by kernel_rfl) (by kernel_rfl) (by kernel_rfl) (fun _ _ _ h => h) (Or.inr ⟨by kernel_rfl, rfl⟩) (by assumption) ?_
  try simp only [o71_2_23, Act.put, List.setIfInBounds_toArray, List.set_cons_zero, List.set_cons_succ]
  refine wpAnyH_take (i := 24) (oi := o71_2_24) (v := undef) rfl (by kernel_rfl) (by kernel_rfl) (by kernel_rfl) (fun _ _ _ h => h) (Or.inr ⟨by kernel_rfl, rfl⟩) (by assumption) ?_
  try simp only [o71_2_24, Act.put, List.setIfInBounds_toArray, List.set_cons_zero, List.set_cons_succ]
  refine wpAnyH_take (i := 25) (oi := o71_2_25) (v := undef) rfl (by kernel_rfl) (by kernel_rfl) (by kernel_rfl) (fun _ _ _ h => h) (Or.inr ⟨by kernel_rfl, rfl⟩) (by assumption) ?_
  try simp only [o71_2_25, Act.put, List.setIfInBounds_toArray, List.set_cons_zero, List.set_cons_succ]
  refine wpAnyH_take (i := 26) (oi := o71_2_26) (v := undef) rfl (by kernel_rfl) (by kernel_rfl) (by kernel_rfl) (fun _ _ _ h => h) (Or.inr ⟨by kernel_rfl, rfl⟩) (by assumption) ?_
  try simp only [o71_2_26, Act.put, List.setIfInBounds_toArray, List.set_cons_zero, List.set_cons_succ]
  refine wpAnyH_take (i := 27) (oi := o71_2_27) (v := undef) rfl (by kernel_rfl) (by kernel_rfl) (by kernel_rfl) (fun _ _ _ h => h) (Or.inr ⟨by kernel_rfl, rfl⟩) (by assumption) ?_
  try simp only [o71_2_27, Act.put, List.setIfInBounds_toArray, List.set_cons_zero, List.set_cons_succ]
  refine wpAnyH_take (i := 28) (oi := o71_2_28) (v := undef) rfl (by kernel_rfl) (by kernel_rfl) (by kernel_rfl) (fun _ _ _ h => h) (Or.inr ⟨by kernel_rfl, rfl⟩) (by assumption) ?_
  try simp only [o71_2_28, Act.put, List.setIfInBounds_toArray, List.set_cons_zero, List.set_cons_succ]
  refine wpAnyH_take (i := 29) (oi := o71_2_29) (v := undef) rfl (by kernel_rfl) (by kernel_rfl) (by kernel_rfl) (fun _ _ _ h => h) (Or.inr ⟨by kernel_rfl, rfl⟩) (by assumption) ?_
  try simp only [o71_2_29, Act.put, List.setIfInBounds_toArray, List.set_cons_zero, List.set_cons_succ]
  refine wpAnyH_take (i := 30) (oi := o71_2_30) (v := undef) rfl (by kernel_rfl) (by kernel_rfl) (by kernel_rfl) (fun _ _ _ h => h) (Or.inr ⟨by kernel_rfl, rfl⟩) (by assumption) ?_
  try simp only [o71_2_30, Act.put, List.setIfInBounds_toArray, List.set_cons_zero, List.set_cons_succ]
  refine wpAnyH_take (i := 31) (oi := o71_2_31) (v := undef) rfl (by kernel_rfl) (by kernel_rfl) (by kernel_rfl) (fun _ _ _ h => h) (Or.inr ⟨by kernel_rfl, rfl⟩) (by assumption) ?_
  try simp only [o71_2_31, Act.put, List.setIfInBounds_toArray, List.set_cons_zero, List.set_cons_succ]
  refine wpAnyH_take (i := 32) (oi := o71_2_32) (v := ?_) rfl (by kernel_rfl) (by kernel_rfl) (by kernel_rfl) (fun _ _ _ h => h) (Or.inl ⟨by kernel_rfl, ?_⟩) (by assumption) ?_
  rotate_left
  · (intro w9 hSw; clear hSw; go_simp; try with_reducible rfl)
  try simp only [o71_2_32, Act.put, List.setIfInBounds_toArray, List.set_cons_zero, List.set_cons_succ]
  refine wpAnyH_take (i := 33) (oi := o71_2_33) (v := ?_) rfl (by kernel_rfl) (by kernel_rfl) (by kernel_rfl) (fun _ _ _ h => h) (Or.inl ⟨by kernel_rfl, ?_⟩) (by assumption) ?_
  rotate_left
  · (intro w9 hSw; clear hSw; go_simp; try with_reducible rfl)
  try simp only [o71_2_33, Act.put, List.setIfInBounds_toArray, List.set_cons_zero, List.set_cons_succ]
  refine wpAnyH_take (i := 34) (oi := o71_2_34) (v := undef) rfl (by kernel_rfl) (by kernel_rfl) (by kernel_rfl) (fun _ _ _ h => h) (Or.inr ⟨by kernel_rfl, rfl⟩) (by assumption) ?_
  try simp only [o71_2_34, Act.put, List.setIfInBounds_toArray, List.set_cons_zero, List.set_cons_succ]
  refine wpAnyH_take (i := 35) (oi := o71_2_35) (v := undef) rfl (by kernel_rfl) (by kernel_rfl) (by kernel_rfl) (fun _ _ _ h => h) (Or.inr ⟨by kernel_rfl, rfl⟩) (by assumption) ?_
  try simp only [o71_2_35, Act.put, List.setIfInBounds_toArray, List.set_cons_zero, List.set_cons_succ]
  refine wpAnyH_take (i := 36) (oi := o71_2_36) (v := undef) rfl (by kernel_rfl) (by kernel_rfl) (by kernel_rfl) (fun _ _ _ h => h) (Or.inr ⟨by kernel_rfl, rfl⟩) (by assumption) ?_
  try simp only [o71_2_36, Act.put, List.setIfInBounds_toArray, List.set_cons_zero, List.set_cons_succ]
  refine wpAnyH_take (i := 37) (oi := o71_2_37) (v := ?_) rfl (by kernel_rfl) (by kernel_rfl) (by kernel_rfl) (fun _ _ _ h => h) (Or.inl ⟨by kernel_rfl, ?_⟩) (by assumption) ?_
  rotate_left
  · (intro w9 hSw; clear hSw; go_simp; try with_reducible rfl)
  try simp only [o71_2_37, Act.put, List.setIfInBounds_toArray, List.set_cons_zero, List.set_cons_succ]
  refine wpAnyH_take (i := 38) (oi := o71_2_38) (v := ?_) rfl (by kernel_rfl) (by kernel_rfl) (by kernel_rfl) (fun _ _ _ h => h) (Or.inl ⟨by kernel_rfl, ?_⟩) (by assumption) ?_
  rotate_left
  · (intro w9 hSw; clear hSw; go_simp; try with_reducible rfl)
  try simp only [o71_2_38, Act.put, List.setIfInBounds_toArray, List.set_cons_zero, List.set_cons_succ]
  refine wpAnyH_take (i := 39) (oi := o71_2_39) (v := undef) rfl (by kernel_rfl) (by kernel_rfl) (by kernel_rfl) (fun _ _ _ h => h) (Or.inr ⟨by kernel_rfl, rfl⟩) (by assumption) ?_
  try simp only [o71_2_39, Act.put, List.setIfInBounds_toArray, List.set_cons_zero, List.set_cons_succ]
  refine wpAnyH_take (i := 40) (oi := o71_2_40) (v := undef) rfl (by kernel_rfl) (by kernel_rfl) (by kernel_rfl) (fun _ _ _ h => h) (Or.inr ⟨by kernel_rfl, rfl⟩) (by assumption) ?_
  try simp only [o71_2_40, Act.put, List.setIfInBounds_toArray, List.set_cons_zero, List.set_cons_succ]
  refine wpAnyH_take (i := 41) (oi := o71_2_41) (v := undef) rfl (by kernel_rfl) (by kernel_rfl) (by kernel_rfl) (fun _ _ _ h => h) (Or.inr ⟨by kernel_rfl, rfl⟩) (by assumption) ?_
  try simp only [o71_2_41, Act.put, List.setIfInBounds_toArray, List.set_cons_zero, List.set_cons_succ]
  refine wpAnyH_take (i := 42) (oi := o71_2_42) (v := undef) rfl (by kernel_rfl) (by kernel_rfl) (by kernel_rfl) (fun _ _ _ h => h) (Or.inr ⟨by kernel_rfl, rfl⟩) (by assumption) ?_
  try simp only [o71_2_42, Act.put, List.setIfInBounds_toArray, List.set_cons_zero, List.set_cons_succ]
  refine wpAnyH_take (i := 43) (oi := o71_2_43) (v := undef) rfl (by kernel_rfl) (by kernel_rfl) (by kernel_rfl) (fun _ _ _ h => h) (Or.inr ⟨by kernel_rfl, rfl⟩) (by assumption) ?_
  try simp only [o71_2_43, Act.put, List.setIfInBounds_toArray, List.set_cons_zero, List.set_cons_succ]
  refine wpAnyH_take (i := 44) (oi := o71_2_44) (v := ?_) rfl (by kernel_rfl) (by kernel_rfl) (by kernel_rfl) (fun _ _ _ h => h) (Or.inl ⟨by kernel_rfl, ?_⟩) (by assumption) ?_
  rotate_left
  · (intro w9 hSw; clear hSw; go_simp; try with_reducible rfl)
  try simp only [o71_2_44, Act.put, List.setIfInBounds_toArray, List.set_cons_zero, List.set_cons_succ]
  refine wpAnyH_take (i := 45) (oi := o71_2_45) (v := ?_) rfl (by kernel_rfl) (by kernel_rfl) (by kernel_rfl) (fun _ _ _ h => h) (Or.inl ⟨by kernel_rfl, ?_⟩) (by assumption) ?_
  rotate_left
  · (intro w9 hSw; clear hSw; go_simp; try with_reducible rfl)
  try simp only [o71_2_45, Act.put, List.setIfInBounds_toArray, List.set_cons_zero, List.set_cons_succ]
  refine wpAnyH_take (i := 46) (oi := o71_2_46) (v := undef) rfl (by kernel_rfl) (by kernel_rfl) (by kernel_rfl) (fun _ _ _ h => h) (Or.inr ⟨by kernel_rfl, rfl⟩) (by assumption) ?_
  try simp only [o71_2_46, Act.put, List.setIfInBounds_toArray, List.set_cons_zero, List.set_cons_succ]
  refine wpAnyH_take (i := 47) (oi := o71_2_47) (v := undef) rfl (by kernel_rfl) (by kernel_rfl) (by kernel_rfl) (fun _ _ _ h => h) (Or.inr ⟨by kernel_rfl, rfl⟩) (by assumption) ?_
  try simp only [o71_2_47, Act.put, List.setIfInBounds_toArray, List.set_cons_zero, List.set_cons_succ]
  refine wpAnyH_take (i := 48) (oi := o71_2_48) (v := undef) rfl (by kernel_rfl) (by kernel_rfl) (by kernel_rfl) (fun _ _ _ h => h) (Or.inr ⟨by kernel_rfl, rfl⟩) (by assumption) ?_
  try simp only [o71_2_48, Act.put, List.setIfInBounds_toArray, List.set_cons_zero, List.set_cons_succ]
  refine wpAnyH_take (i := 49) (oi := o71_2_49) (v := undef) rfl (by kernel_rfl) (by kernel_rfl) (by kernel_rfl) (fun _ _ _ h => h) (Or.inr ⟨by kernel_rfl, rfl⟩) (by assumption) ?_
  try simp only [o71_2_49, Act.put, List.setIfInBounds_toArray, List.set_cons_zero, List.set_cons_succ]
  refine wpAnyH_take (i := 50) (oi := o71_2_50) (v := undef) rfl (by kernel_rfl) (by kernel_rfl) (by kernel_rfl) (fun _ _ _ h => h) (Or.inr ⟨by kernel_rfl, rfl⟩) (by assumption) ?_
  try simp only [o71_2_50, Act.put, List.setIfInBounds_toArray, List.set_cons_zero, List.set_cons_succ]
  refine wpAnyH_take (i := 51) (oi := o71_2_51) (v := undef) rfl (by kernel_rfl) (by kernel_rfl) (by kernel_rfl) (fun _ _ _ h => h) (Or.inr ⟨by kernel_rfl, rfl⟩) (by assumption) ?_
  try simp only [o71_2_51, Act.put, List.setIfInBounds_toArray, List.set_cons_zero, List.set_cons_succ]
  refine wpAnyH_take (i := 52) (oi := o71_2_52) (v := undef) rfl (by kernel_rfl) (by kernel_rfl) (by kernel_rfl) (fun _ _ _ h => h) (Or.inr ⟨by kernel_rfl, rfl⟩) (by assumption) ?_
  try simp only [o71_2_52, Act.put, List.setIfInBounds_toArray, List.set_cons_zero, List.set_cons_succ]
  refine wpAnyH_take (i := 53) (oi := o71_2_53) (v := undef) rfl (by kernel_rfl) (by kernel_rfl) (by kernel_rfl) (fun _ _ _ h => h) (Or.inr ⟨by kernel_rfl, rfl⟩) (by assumption) ?_
  try simp only [o71_2_53, Act.put, List.setIfInBounds_toArray, List.set_cons_zero, List.set_cons_succ]
  refine wpAnyH_take (i := 54) (oi := o71_2_54) (v := undef) rfl (by kernel_rfl) (by kernel_rfl) (by kernel_rfl) (fun _ _ _ h => h) (Or.inr ⟨by kernel_rfl, rfl⟩) (by assumption) ?_
  try simp only [o71_2_54, Act.put, List.setIfInBounds_toArray, List.set_cons_zero, List.set_cons_succ]
  refine wpAnyH_take (i := 55) (oi := o71_2_55) (v := ?_) rfl (by kernel_rfl) (by kernel_rfl) (by kernel_rfl) (fun _ _ _ h => h) (Or.inl ⟨by kernel_rfl, ?_⟩) (by assumption) ?_
  rotate_left
  · (intro w9 hSw; clear hSw; go_simp; try with_reducible rfl)
  try simp only [o71_2_55, Act.put, List.setIfInBounds_toArray, List.set_cons_zero, List.set_cons_succ]
  refine wpAnyH_take (i := 56) (oi := o71_2_56) (v := ?_) rfl (by kernel_rfl) (by kernel_rfl) (by kernel_rfl) (fun _ _ _ h => h) (Or.inl ⟨by kernel_rfl, ?_⟩) (by assumption) ?_
  rotate_left
  · (intro w9 hSw; clear hSw; go_simp; try with_reducible rfl)
  try simp only [o71_2_56, Act.put, List.setIfInBounds_toArray, List.set_cons_zero, List.set_cons_succ]
  refine wpAnyH_done (by kernel_rfl) ?_ _
  all_goals go_wp2
  all_goals go_ret
  all_goals exact ⟨rfl, HK1.out.trans' (by first | exact ((Keeps.refl [] _).drew) | exact (((Keeps.refl [] _).drew).alloc _))⟩
set_option maxHeartbeats 4000000 in
theorem formed_2 {w w1 : World} {g c rb n : Nat} {j v1 v2 v3 sm : Int} {a0 a1 a2 a3 a4 a5 a6 a7 : Int} {b0 b1 b2 b3 b4 b5 b6 b7 : Int} {z1 z2 z3 : Bool} {r : List Value} (h1 : v1 = (n : Int)) (h2 : z1 = false) (F : Hid (FC w w1 g c rb n j v1 v2 v3 sm a0 a1 a2 a3 a4 a5 a6 a7 b0 b1 b2 b3 b4 b5 b6 b7 z1 z2 z3)) (hw1 : w1 = w.alloc (.cells r.toArray 52)) (hrb : rb = w.heap.size) (L : Int) (hr : r[33]? = some (.int .i64 L)) (HS68 : Hid (∀ W, Calls Tryd.prog 68 #[.int .i64 L, .int .i64 j] W fun e w' => e = .returned (.int .i64 (n : Int)) ∧ w' = W)) (hn : n ≤ 480) (hc : 512 ≤ c) :
    Calls Tryd.prog 71 #[.slice (some ⟨g, 0, none⟩) 512 c, .agg r.toArray, .int .i64 j] w fun e w' => e = .returned (.bool false) ∧ Keeps [] w w' := by
  subst h1
  subst h2
  have a33 : r.toArray[33]? = some (.int .i64 L) := by rw [List.getElem?_toArray]; exact hr
  have HK1 := Lib.hid (show Keeps [] w w1 from by rw [hw1]; exact (Keeps.refl [] w).alloc _)
  have HCL := Lib.hid (show w1.cell? ⟨rb, 33, none⟩ = some (.int .i64 L) from by rw [hw1, hrb, (StrAt.new w r.toArray 52).cell]; exact a33)
  have c4 : ¬ c = 4 := by omega
  have c6 : ¬ c = 6 := by omega
  have c8 : ¬ c = 8 := by omega
  have c12 : ¬ c = 12 := by omega
  have c20 : ¬ c = 20 := by omega
  have c508 : ¬ c = 508 := by omega
  have cc : 512 ≤ c := hc
  have l8 : 8 ≤ c := by omega
  have l20 : 20 ≤ c := by omega
  have l28 : 28 ≤ c := by omega
  have l508 : 508 ≤ c := by omega
  obtain ⟨q, hq⟩ : ∃ q, q = 28 + n := ⟨_, rfl⟩
  have HQ := Lib.hid hq
  have cq : ¬ c = q := by omega
  have q508 : q ≤ 508 := by omega
  have eq28 : 28 + (n : Int) = (q : Int) := by omega
  have wq : IntKind.i64.wrap (q : Int) = (q : Int) := IntWalk.i64_in _ (by omega)
  have i8 : ((8 : Int) ≤ (c : Int)) = True := eq_true (by omega)
  have i20 : ((20 : Int) ≤ (c : Int)) = True := eq_true (by omega)
  have i28 : ((28 : Int) ≤ (c : Int)) = True := eq_true (by omega)
  have i508 : ((508 : Int) ≤ (c : Int)) = True := eq_true (by omega)
  have iq : ((q : Int) ≤ 508) = True := eq_true (by omega)
  clear hn hq
  go_enter Tryd.func71, Tryd.ntmps71
  go_wp2_with (go_at_call 68; refine (HS68.out _).mono ?_; rintro e w0 ⟨rfl, rfl⟩)
  rw [← hw1, ← hrb]
  clear hw1 hrb a33 HCL
  refine wp_region_held_drew (S := fun W => W.cell? ⟨g, 12, none⟩ = some (.int .u8 a0) ∧ W.cell? ⟨g, 13, none⟩ = some (.int .u8 a1) ∧ W.cell? ⟨g, 14, none⟩ = some (.int .u8 a2) ∧ W.cell? ⟨g, 15, none⟩ = some (.int .u8 a3) ∧ W.cell? ⟨g, 16, none⟩ = some (.int .u8 a4) ∧ W.cell? ⟨g, 17, none⟩ = some (.int .u8 a5) ∧ W.cell? ⟨g, 18, none⟩ = some (.int .u8 a6) ∧ W.cell? ⟨g, 19, none⟩ = some (.int .u8 a7) ∧ W.cell? ⟨rb, 0, none⟩ = some (.int .u8 b0) ∧ W.cell? ⟨rb, 1, none⟩ = some (.int .u8 b1) ∧ W.cell? ⟨rb, 2, none⟩ = some (.int .u8 b2) ∧ W.cell? ⟨rb, 3, none⟩ = some (.int .u8 b3) ∧ W.cell? ⟨rb, 4, none⟩ = some (.int .u8 b4) ∧ W.cell? ⟨rb, 5, none⟩ = some (.int .u8 b5) ∧ W.cell? ⟨rb, 6, none⟩ = some (.int .u8 b6) ∧ W.cell? ⟨rb, 7, none⟩ = some (.int .u8 b7)) (by kernel_rfl) (F.out.ss _ ((Keeps.refl [] _).drew)) (fun hHeld => ?_)
  refine wpAnyH_take (i := 0) (oi := o71_2_0) (v := ?_) rfl (by kernel_rfl) (by kernel_rfl) (by kernel_rfl) (fun _ _ _ h => h) (Or.inl ⟨by kernel_rfl, ?_⟩) (by assumption) ?_
  rotate_left
  · (intro w9 hSw; clear hSw; go_simp; try with_reducible rfl)
  try simp only [o71_2_0, Act.put, List.setIfInBounds_toArray, List.set_cons_zero, List.set_cons_succ]
  refine wpAnyH_ready (rs := [1]) (by kernel_rfl) (by simp) ?_
  refine AllReadyH.cons (o := o71_2_1) rfl (fun K hK => ?_) AllReadyH.nil
  go_simp
  refine hK.out _ _ (F.out.ss _ ((Keeps.refl [] _).drew)) (fun hHeld1 => ?_)
  clear hK K hHeld
  try simp only [o71_2_1, Act.put, List.setIfInBounds_toArray, List.set_cons_zero, List.set_cons_succ]
  refine wpAnyH_take (i := 2) (oi := o71_2_2) (v := ?_) rfl (by kernel_rfl) (by kernel_rfl) (by kernel_rfl) (fun _ _ _ h => h) (Or.inl ⟨by kernel_rfl, ?_⟩) (by assumption) ?_
  rotate_left
  · (intro w9 hSw; clear hSw; go_simp; try with_reducible rfl)
  try simp only [o71_2_2, Act.put, List.setIfInBounds_toArray, List.set_cons_zero, List.set_cons_succ]
  refine wpAnyH_take (i := 3) (oi := o71_2_3) (v := ?_) rfl (by kernel_rfl) (by kernel_rfl) (by kernel_rfl) (fun _ _ _ h => h) (Or.inl ⟨by kernel_rfl, ?_⟩) (by assumption) ?_
  rotate_left
  · (intro w9 hSw; clear hSw; go_simp; try with_reducible rfl)
  try simp only [o71_2_3, Act.put, List.setIfInBounds_toArray, List.set_cons_zero, List.set_cons_succ]
  refine wpAnyH_take (i := 4) (oi := o71_2_4) (v := ?_) rfl (by kernel_rfl) (by kernel_rfl) (by kernel_rfl) (fun _ _ _ h => h) (Or.inl ⟨by kernel_rfl, ?_⟩) (by assumption) ?_
  rotate_left
  · (intro w9 hSw; clear hSw; go_simp; try with_reducible rfl)
  try simp only [o71_2_4, Act.put, List.setIfInBounds_toArray, List.set_cons_zero, List.set_cons_succ]
  refine wpAnyH_take (i := 5) (oi := o71_2_5) (v := ?_) rfl (by kernel_rfl) (by kernel_rfl) (by kernel_rfl) (fun _ _ _ h => h) (Or.inl ⟨by kernel_rfl, ?_⟩) (by assumption) ?_
  rotate_left
  · (intro w9 hSw; clear hSw; go_simp; try with_reducible rfl)
  try simp only [o71_2_5, Act.put, List.setIfInBounds_toArray, List.set_cons_zero, List.set_cons_succ]
  refine wpAnyH_take (i := 7) (oi := o71_2_7) (v := ?_) rfl (by kernel_rfl) (by kernel_rfl) (by kernel_rfl) (fun _ _ _ h => h) (Or.inl ⟨by kernel_rfl, ?_⟩) (by assumption) ?_
  rotate_left
  · (intro w9 hSw; clear hSw; go_simp; try with_reducible rfl)
  try simp only [o71_2_7, Act.put, List.setIfInBounds_toArray, List.set_cons_zero, List.set_cons_succ]
  refine wpAnyH_ready (rs := [6]) (by kernel_rfl) (by simp) ?_
  refine AllReadyH.cons (o := o71_2_6) rfl (fun K hK => ?_) AllReadyH.nil
  go_simp
  refine (F.out.n1 _ ((Keeps.refl [] _).drew)).mono ?_
  rintro e w9 ⟨rfl, rfl⟩
  refine hK.out _ _ (F.out.ss _ ((Keeps.refl [] _).drew)) (fun hHeld6 => ?_)
  clear hK K hHeld1
  try simp only [o71_2_6, Act.put, List.setIfInBounds_toArray, List.set_cons_zero, List.set_cons_succ]
  refine wpAnyH_take (i := 8) (oi := o71_2_8) (v := ?_) rfl (by kernel_rfl) (by kernel_rfl) (by kernel_rfl) (fun _ _ _ h => h) (Or.inl ⟨by kernel_rfl, ?_⟩) (by assumption) ?_
  rotate_left
  · (intro w9 hSw; clear hSw; go_simp; try with_reducible rfl)
  try simp only [o71_2_8, Act.put, List.setIfInBounds_toArray, List.set_cons_zero, List.set_cons_succ]
  refine wpAnyH_take (i := 9) (oi := o71_2_9) (v := ?_) rfl (by kernel_rfl) (by kernel_rfl) (by kernel_rfl) (fun _ _ _ h => h) (Or.inl ⟨by kernel_rfl, ?_⟩) (by assumption) ?_
  rotate_left
  · (intro w9 hSw; clear hSw; go_simp; try with_reducible rfl)
  try simp only [o71_2_9, Act.put, List.setIfInBounds_toArray, List.set_cons_zero, List.set_cons_succ]
  refine wpAnyH_take (i := 10) (oi := o71_2_10) (v := ?_) rfl (by kernel_rfl) (by kernel_rfl) (by kernel_rfl) (fun _ _ _ h => h) (Or.inl ⟨by kernel_rfl, ?_⟩) (by assumption) ?_
  rotate_left
  · (intro w9 hSw; clear hSw; go_simp; try with_reducible rfl)
  try simp only [o71_2_10, Act.put, List.setIfInBounds_toArray, List.set_cons_zero, List.set_cons_succ]
  refine wpAnyH_take (i := 11) (oi := o71_2_11) (v := ?_) rfl (by kernel_rfl) (by kernel_rfl) (by kernel_rfl) (fun _ _ _ h => h) (Or.inl ⟨by kernel_rfl, ?_⟩) (by assumption) ?_
  rotate_left
  · (intro w9 hSw; clear hSw; go_simp; try with_reducible rfl)
  try simp only [o71_2_11, Act.put, List.setIfInBounds_toArray, List.set_cons_zero, List.set_cons_succ]
  refine wpAnyH_take (i := 12) (oi := o71_2_12) (v := ?_) rfl (by kernel_rfl) (by kernel_rfl) (by kernel_rfl) (fun _ _ _ h => h) (Or.inl ⟨by kernel_rfl, ?_⟩) (by assumption) ?_
  rotate_left
  · (intro w9 hSw; clear hSw; go_simp; try with_reducible rfl)
  try simp only [o71_2_12, Act.put, List.setIfInBounds_toArray, List.set_cons_zero, List.set_cons_succ]
  refine wpAnyH_ready (rs := [13]) (by kernel_rfl) (by simp) ?_
  refine AllReadyH.cons (o := o71_2_13) rfl (fun K hK => ?_) AllReadyH.nil
  go_simp
  refine (F.out.y1 _ ((Keeps.refl [] _).drew)).mono ?_
  rintro e w9 ⟨rfl, rfl⟩
  refine hK.out _ _ (F.out.ss _ ((Keeps.refl [] _).drew)) (fun hHeld13 => ?_)
  clear hK K hHeld6
  try simp only [o71_2_13, Act.put, List.setIfInBounds_toArray, List.set_cons_zero, List.set_cons_succ]
  refine wpAnyH_take (i := 14) (oi := o71_2_14) (v := ?_) rfl (by kernel_rfl) (by kernel_rfl) (by kernel_rfl) (fun _ _ _ h => h) (Or.inl ⟨by kernel_rfl, ?_⟩) (by assumption) ?_
  rotate_left
  · (intro w9 hSw; clear hSw; go_simp; try with_reducible rfl)
  try simp only [o71_2_14, Act.put, List.setIfInBounds_toArray, List.set_cons_zero, List.set_cons_succ]
  refine wpAnyH_take (i := 15) (oi := o71_2_15) (v := ?_) rfl (by kernel_rfl) (by kernel_rfl) (by kernel_rfl) (fun _ _ _ h => h) (Or.inl ⟨by kernel_rfl, ?_⟩) (by assumption) ?_
  rotate_left
  · (intro w9 hSw; clear hSw; go_simp; try with_reducible rfl)
  try simp only [o71_2_15, Act.put, List.setIfInBounds_toArray, List.set_cons_zero, List.set_cons_succ]
  refine wpAnyH_take (i := 16) (oi := o71_2_16) (v := undef) rfl (by kernel_rfl) (by kernel_rfl) (by kernel_rfl) (fun _ _ _ h => h) (Or.inr ⟨by kernel_rfl, rfl⟩) (by assumption) ?_
  try simp only [o71_2_16, Act.put, List.setIfInBounds_toArray, List.set_cons_zero, List.set_cons_succ]
  refine wpAnyH_take (i := 17) (oi := o71_2_17) (v := undef) rfl (by kernel_rfl) (by kernel_rfl) (by kernel_rfl) (fun _ _ _ h => h) (Or.inr ⟨by kernel_rfl, rfl⟩) (by assumption) ?_
  try simp only [o71_2_17, Act.put, List.setIfInBounds_toArray, List.set_cons_zero, List.set_cons_succ]
  refine wpAnyH_take (i := 18) (oi := o71_2_18) (v := undef) rfl (by kernel_rfl) (by kernel_rfl) (by kernel_rfl) (fun _ _ _ h => h) (Or.inr ⟨by kernel_rfl, rfl⟩) (by assumption) ?_
  try simp only [o71_2_18, Act.put, List.setIfInBounds_toArray, List.set_cons_zero, List.set_cons_succ]
  refine wpAnyH_take (i := 19) (oi := o71_2_19) (v := undef) rfl (by kernel_rfl) (by kernel_rfl) (by kernel_rfl) (fun _ _ _ h => h) (Or.inr ⟨by kernel_rfl, rfl⟩) (by assumption) ?_
  try simp only [o71_2_19, Act.put, List.setIfInBounds_toArray, List.set_cons_zero, List.set_cons_succ]
  refine wpAnyH_take (i := 20) (oi := o71_2_20) (v := undef) rfl (by kernel_rfl) (by kernel_rfl) (by kernel_rfl) (fun _ _ _ h => h) (Or.inr ⟨by kernel_rfl, rfl⟩) (by assumption) ?_
  try simp only [o71_2_20, Act.put, List.setIfInBounds_toArray, List.set_cons_zero, List.set_cons_succ]
  refine wpAnyH_take (i := 21) (oi := o71_2_21) (v := ?_) rfl (by kernel_rfl) (by kernel_rfl) (by kernel_rfl) (fun _ _ _ h => h) (Or.inl ⟨by kernel_rfl, ?_⟩) (by assumption) ?_
  rotate_left
  · (intro w9 hSw; clear hSw; go_simp; try with_reducible rfl)
  try simp only [o71_2_21, Act.put, List.setIfInBounds_toArray, List.set_cons_zero, List.set_cons_succ]
  refine wpAnyH_take (i := 22) (oi := o71_2_22) (v := ?_) rfl (by kernel_rfl) (by kernel_rfl) (by kernel_rfl) (fun _ _ _ h => h) (Or.inl ⟨by kernel_rfl, ?_⟩) (by assumption) ?_
  rotate_left
  · (intro w9 hSw; clear hSw; go_simp; try with_reducible rfl)
  try simp only [o71_2_22, Act.put, List.setIfInBounds_toArray, List.set_cons_zero, List.set_cons_succ]
  refine wpAnyH_take (i := 23) (oi := o71_2_23) (v := undef) rfl (by kernel_rfl) (by kernel_rfl) (by kernel_rfl) (fun _ _ _ h => h) (Or.inr ⟨by kernel_rfl, rfl⟩) (by assumption) ?_
  try simp only [o71_2_23, Act.put, List.setIfInBounds_toArray, List.set_cons_zero, List.set_cons_succ]
  refine wpAnyH_take (i := 24) (oi := o71_2_24) (v := undef) rfl (by kernel_rfl) (by kernel_rfl) (by kernel_rfl) (fun _ _ _ h => h) (Or.inr ⟨by kernel_rfl, rfl⟩) (by assumption) ?_
  try simp only [o71_2_24, Act.put, List.setIfInBounds_toArray, List.set_cons_zero, List.set_cons_succ]
  refine wpAnyH_take (i := 25) (oi := o71_2_25) (v := undef) rfl (by kernel_rfl) (by kernel_rfl) (by kernel_rfl) (fun _ _ _ h => h) (Or.inr ⟨by kernel_rfl, rfl⟩) (by assumption) ?_
  try simp only [o71_2_25, Act.put, List.setIfInBounds_toArray, List.set_cons_zero, List.set_cons_succ]
  refine wpAnyH_take (i := 26) (oi := o71_2_26) (v := undef) rfl (by kernel_rfl) (by kernel_rfl) (by kernel_rfl) (fun _ _ _ h => h) (Or.inr ⟨by kernel_rfl, rfl⟩) (by assumption) ?_
  try simp only [o71_2_26, Act.put, List.setIfInBounds_toArray, List.set_cons_zero, List.set_cons_succ]
  refine wpAnyH_take (i := 27) (oi := o71_2_27) (v := undef) rfl (by kernel_rfl) (by kernel_rfl) (by kernel_rfl) (fun _ _ _ h => h) (Or.inr ⟨by kernel_rfl, rfl⟩) (by assumption) ?_
  try simp only [o71_2_27, Act.put, List.setIfInBounds_toArray, List.set_cons_zero, List.set_cons_succ]
  refine wpAnyH_take (i := 28) (oi := o71_2_28) (v := undef) rfl (by kernel_rfl) (by kernel_rfl) (by kernel_rfl) (fun _ _ _ h => h) (Or.inr ⟨by kernel_rfl, rfl⟩) (by assumption) ?_
  try simp only [o71_2_28, Act.put, List.setIfInBounds_toArray, List.set_cons_zero, List.set_cons_succ]
  refine wpAnyH_take (i := 29) (oi := o71_2_29) (v := undef) rfl (by kernel_rfl) (by kernel_rfl) (by kernel_rfl) (fun _ _ _ h => h) (Or.inr ⟨by kernel_rfl, rfl⟩) (by assumption) ?_
  try simp only [o71_2_29, Act.put, List.setIfInBounds_toArray, List.set_cons_zero, List.set_cons_succ]
  refine wpAnyH_take (i := 30) (oi := o71_2_30) (v := undef) rfl (by kernel_rfl) (by kernel_rfl) (by kernel_rfl) (fun _ _ _ h => h) (Or.inr ⟨by kernel_rfl, rfl⟩) (by assumption) ?_
  try simp only [o71_2_30, Act.put, List.setIfInBounds_toArray, List.set_cons_zero, List.set_cons_succ]
  refine wpAnyH_take (i := 31) (oi := o71_2_31) (v := undef) rfl (by kernel_rfl) (by kernel_rfl) (by kernel_rfl) (fun _ _ _ h => h) (Or.inr ⟨by kernel_rfl, rfl⟩) (by assumption) ?_
  try simp only [o71_2_31, Act.put, List.setIfInBounds_toArray, List.set_cons_zero, List.set_cons_succ]
  refine wpAnyH_take (i := 32) (oi := o71_2_32) (v := ?_) rfl (by kernel_rfl) (by kernel_rfl) (by kernel_rfl) (fun _ _ _ h => h) (Or.inl ⟨by kernel_rfl, ?_⟩) (by assumption) ?_
  rotate_left
  · (intro w9 hSw; clear hSw; go_simp; try with_reducible rfl)
  try simp only [o71_2_32, Act.put, List.setIfInBounds_toArray, List.set_cons_zero, List.set_cons_succ]
  refine wpAnyH_take (i := 33) (oi := o71_2_33) (v := ?_) rfl (by kernel_rfl) (by kernel_rfl) (by kernel_rfl) (fun _ _ _ h => h) (Or.inl ⟨by kernel_rfl, ?_⟩) (by assumption) ?_
  rotate_left
  · (intro w9 hSw; clear hSw; go_simp; try with_reducible rfl)
  try simp only [o71_2_33, Act.put, List.setIfInBounds_toArray, List.set_cons_zero, List.set_cons_succ]
  refine wpAnyH_take (i := 34) (oi := o71_2_34) (v := undef) rfl (by kernel_rfl) (by kernel_rfl) (by kernel_rfl) (fun _ _ _ h => h) (Or.inr ⟨by kernel_rfl, rfl⟩) (by assumption) ?_
  try simp only [o71_2_34, Act.put, List.setIfInBounds_toArray, List.set_cons_zero, List.set_cons_succ]
  refine wpAnyH_take (i := 35) (oi := o71_2_35) (v := undef) rfl (by kernel_rfl) (by kernel_rfl) (by kernel_rfl) (fun _ _ _ h => h) (Or.inr ⟨by kernel_rfl, rfl⟩) (by assumption) ?_
  try simp only [o71_2_35, Act.put, List.setIfInBounds_toArray, List.set_cons_zero, List.set_cons_succ]
  refine wpAnyH_take (i := 36) (oi := o71_2_36) (v := undef) rfl (by kernel_rfl) (by kernel_rfl) (by kernel_rfl) (fun _ _ _ h => h) (Or.inr ⟨by kernel_rfl, rfl⟩) (by assumption) ?_
  try simp only [o71_2_36, Act.put, List.setIfInBounds_toArray, List.set_cons_zero, List.set_cons_succ]
  refine wpAnyH_take (i := 37) (oi := o71_2_37) (v := ?_) rfl (by kernel_rfl) (by kernel_rfl) (by kernel_rfl) (fun _ _ _ h => h) (Or.inl ⟨by kernel_rfl, ?_⟩) (by assumption) ?_
  rotate_left
  · (intro w9 hSw; clear hSw; go_simp; try with_reducible rfl)
  try simp only [o71_2_37, Act.put, List.setIfInBounds_toArray, List.set_cons_zero, List.set_cons_succ]
  refine wpAnyH_take (i := 38) (oi := o71_2_38) (v := ?_) rfl (by kernel_rfl) (by kernel_rfl) (by kernel_rfl) (fun _ _ _ h => h) (Or.inl ⟨by kernel_rfl, ?_⟩) (by assumption) ?_
  rotate_left
  · (intro w9 hSw; clear hSw; go_simp; try with_reducible rfl)
  try simp only [o71_2_38, Act.put, List.setIfInBounds_toArray, List.set_cons_zero, List.set_cons_succ]
  refine wpAnyH_take (i := 39) (oi := o71_2_39) (v := undef) rfl (by kernel_rfl) (by kernel_rfl) (by kernel_rfl) (fun _ _ _ h => h) (Or.inr ⟨by kernel_rfl, rfl⟩) (by assumption) ?_
  try simp only [o71_2_39, Act.put, List.setIfInBounds_toArray, List.set_cons_zero, List.set_cons_succ]
  refine wpAnyH_take (i := 40) (oi := o71_2_40) (v := undef) rfl (by kernel_rfl) (by kernel_rfl) (by kernel_rfl) (fun _ _ _ h => h) (Or.inr ⟨by kernel_rfl, rfl⟩) (by assumption) ?_
  try simp only [o71_2_40, Act.put, List.setIfInBounds_toArray, List.set_cons_zero, List.set_cons_succ]
  refine wpAnyH_take (i := 41) (oi := o71_2_41) (v := undef) rfl (by kernel_rfl) (by kernel_rfl) (by kernel_rfl) (fun _ _ _ h => h) (Or.inr ⟨by kernel_rfl, rfl⟩) (by assumption) ?_
  try simp only [o71_2_41, Act.put, List.setIfInBounds_toArray, List.set_cons_zero, List.set_cons_succ]
  refine wpAnyH_take (i := 42) (oi := o71_2_42) (v := undef) rfl (by kernel_rfl) (by kernel_rfl) (by kernel_rfl) (fun _ _ _ h => h) (Or.inr ⟨by kernel_rfl, rfl⟩) (by assumption) ?_
  try simp only [o71_2_42, Act.put, List.setIfInBounds_toArray, List.set_cons_zero, List.set_cons_succ]
  refine wpAnyH_take (i := 43) (oi := o71_2_43) (v := undef) rfl (by kernel_rfl) (by kernel_rfl) (by kernel_rfl) (fun _ _ _ h => h) (Or.inr ⟨by kernel_rfl, rfl⟩) (by assumption) ?_
  try simp only [o71_2_43, Act.put, List.setIfInBounds_toArray, List.set_cons_zero, List.set_cons_succ]
  refine wpAnyH_take (i := 44) (oi := o71_2_44) (v := ?_) rfl (by kernel_rfl) (by kernel_rfl) (by kernel_rfl) (fun _ _ _ h => h) (Or.inl ⟨by kernel_rfl, ?_⟩) (by assumption) ?_
  rotate_left
  · (intro w9 hSw; clear hSw; go_simp; try with_reducible rfl)
  try simp only [o71_2_44, Act.put, List.setIfInBounds_toArray, List.set_cons_zero, List.set_cons_succ]
  refine wpAnyH_take (i := 45) (oi := o71_2_45) (v := ?_) rfl (by kernel_rfl) (by kernel_rfl) (by kernel_rfl) (fun _ _ _ h => h) (Or.inl ⟨by kernel_rfl, ?_⟩) (by assumption) ?_
  rotate_left
  · (intro w9 hSw; clear hSw; go_simp; try with_reducible rfl)
  try simp only [o71_2_45, Act.put, List.setIfInBounds_toArray, List.set_cons_zero, List.set_cons_succ]
  refine wpAnyH_take (i := 46) (oi := o71_2_46) (v := undef) rfl (by kernel_rfl) (by kernel_rfl) (by kernel_rfl) (fun _ _ _ h => h) (Or.inr ⟨by kernel_rfl, rfl⟩) (by assumption) ?_
  try simp only [o71_2_46, Act.put, List.setIfInBounds_toArray, List.set_cons_zero, List.set_cons_succ]
  refine wpAnyH_take (i := 47) (oi := o71_2_47) (v := undef) rfl (by kernel_rfl) (by kernel_rfl) (by kernel_rfl) (fun _ _ _ h => h) (Or.inr ⟨by kernel_rfl, rfl⟩) (by assumption) ?_
  try simp only [o71_2_47, Act.put, List.setIfInBounds_toArray, List.set_cons_zero, List.set_cons_succ]
  refine wpAnyH_take (i := 48) (oi := o71_2_48) (v := undef) rfl (by kernel_rfl) (by kernel_rfl) (by kernel_rfl) (fun _ _ _ h => h) (Or.inr ⟨by kernel_rfl, rfl⟩) (by assumption) ?_
  try simp only [o71_2_48, Act.put, List.setIfInBounds_toArray, List.set_cons_zero, List.set_cons_succ]
  refine wpAnyH_take (i := 49) (oi := o71_2_49) (v := undef) rfl (by kernel_rfl) (by kernel_rfl) (by kernel_rfl) (fun _ _ _ h => h) (Or.inr ⟨by kernel_rfl, rfl⟩) (by assumption) ?_
  try simp only [o71_2_49, Act.put, List.setIfInBounds_toArray, List.set_cons_zero, List.set_cons_succ]
  refine wpAnyH_take (i := 50) (oi := o71_2_50) (v := undef) rfl (by kernel_rfl) (by kernel_rfl) (by kernel_rfl) (fun _ _ _ h => h) (Or.inr ⟨by kernel_rfl, rfl⟩) (by assumption) ?_
  try simp only [o71_2_50, Act.put, List.setIfInBounds_toArray, List.set_cons_zero, List.set_cons_succ]
  refine wpAnyH_take (i := 51) (oi := o71_2_51) (v := undef) rfl (by kernel_rfl) (by kernel_rfl) (by kernel_rfl) (fun _ _ _ h => h) (Or.inr ⟨by kernel_rfl, rfl⟩) (by assumption) ?_
  try simp only [o71_2_51, Act.put, List.setIfInBounds_toArray, List.set_cons_zero, List.set_cons_succ]
  refine wpAnyH_take (i := 52) (oi := o71_2_52) (v := undef) rfl (by kernel_rfl) (by kernel_rfl) (by kernel_rfl) (fun _ _ _ h => h) (Or.inr ⟨by kernel_rfl, rfl⟩) (by assumption) ?_
  try simp only [o71_2_52, Act.put, List.setIfInBounds_toArray, List.set_cons_zero, List.set_cons_succ]
  refine wpAnyH_take (i := 53) (oi := o71_2_53) (v := undef) rfl (by kernel_rfl) (by kernel_rfl) (by kernel_rfl) (fun _ _ _ h => h) (Or.inr ⟨by kernel_rfl, rfl⟩) (by assumption) ?_
  try simp only [o71_2_53, Act.put, List.setIfInBounds_toArray, List.set_cons_zero, List.set_cons_succ]
  refine wpAnyH_take (i := 54) (oi := o71_2_54) (v := undef) rfl (by kernel_rfl) (by kernel_rfl) (by kernel_rfl) (fun _ _ _ h => h) (Or.inr ⟨by kernel_rfl, rfl⟩) (by assumption) ?_
  try simp only [o71_2_54, Act.put, List.setIfInBounds_toArray, List.set_cons_zero, List.set_cons_succ]
  refine wpAnyH_take (i := 55) (oi := o71_2_55) (v := ?_) rfl (by kernel_rfl) (by kernel_rfl) (by kernel_rfl) (fun _ _ _ h => h) (Or.inl ⟨by kernel_rfl, ?_⟩) (by assumption) ?_
  rotate_left
  · (intro w9 hSw; clear hSw; go_simp; try with_reducible rfl)
  try simp only [o71_2_55, Act.put, List.setIfInBounds_toArray, List.set_cons_zero, List.set_cons_succ]
  refine wpAnyH_take (i := 56) (oi := o71_2_56) (v := ?_) rfl (by kernel_rfl) (by kernel_rfl) (by kernel_rfl) (fun _ _ _ h => h) (Or.inl ⟨by kernel_rfl, ?_⟩) (by assumption) ?_
  rotate_left
  · (intro w9 hSw; clear hSw; go_simp; try with_reducible rfl)
  try simp only [o71_2_56, Act.put, List.setIfInBounds_toArray, List.set_cons_zero, List.set_cons_succ]
  refine wpAnyH_done (by kernel_rfl) ?_ _
  all_goals go_wp2
  all_goals go_ret
  all_goals exact ⟨rfl, HK1.out.trans' (by first | exact ((Keeps.refl [] _).drew) | exact (((Keeps.refl [] _).drew).alloc _))⟩
set_option maxHeartbeats 4000000 in
theorem formed_3 {w w1 : World} {g c rb n : Nat} {j v1 v2 v3 sm : Int} {a0 a1 a2 a3 a4 a5 a6 a7 : Int} {b0 b1 b2 b3 b4 b5 b6 b7 : Int} {z1 z2 z3 : Bool} {r : List Value} (h1 : v1 = (n : Int)) (h2 : z1 = true) (h3 : ¬ j = v2) (F : Hid (FC w w1 g c rb n j v1 v2 v3 sm a0 a1 a2 a3 a4 a5 a6 a7 b0 b1 b2 b3 b4 b5 b6 b7 z1 z2 z3)) (hw1 : w1 = w.alloc (.cells r.toArray 52)) (hrb : rb = w.heap.size) (L : Int) (hr : r[33]? = some (.int .i64 L)) (HS68 : Hid (∀ W, Calls Tryd.prog 68 #[.int .i64 L, .int .i64 j] W fun e w' => e = .returned (.int .i64 (n : Int)) ∧ w' = W)) (hn : n ≤ 480) (hc : 512 ≤ c) :
    Calls Tryd.prog 71 #[.slice (some ⟨g, 0, none⟩) 512 c, .agg r.toArray, .int .i64 j] w fun e w' => e = .returned (.bool false) ∧ Keeps [] w w' := by
  subst h1
  subst h2
  have e3 : (v2 == j) = false := by simpa using fun h => h3 h.symm
  have a33 : r.toArray[33]? = some (.int .i64 L) := by rw [List.getElem?_toArray]; exact hr
  have HK1 := Lib.hid (show Keeps [] w w1 from by rw [hw1]; exact (Keeps.refl [] w).alloc _)
  have HCL := Lib.hid (show w1.cell? ⟨rb, 33, none⟩ = some (.int .i64 L) from by rw [hw1, hrb, (StrAt.new w r.toArray 52).cell]; exact a33)
  have c4 : ¬ c = 4 := by omega
  have c6 : ¬ c = 6 := by omega
  have c8 : ¬ c = 8 := by omega
  have c12 : ¬ c = 12 := by omega
  have c20 : ¬ c = 20 := by omega
  have c508 : ¬ c = 508 := by omega
  have cc : 512 ≤ c := hc
  have l8 : 8 ≤ c := by omega
  have l20 : 20 ≤ c := by omega
  have l28 : 28 ≤ c := by omega
  have l508 : 508 ≤ c := by omega
  obtain ⟨q, hq⟩ : ∃ q, q = 28 + n := ⟨_, rfl⟩
  have HQ := Lib.hid hq
  have cq : ¬ c = q := by omega
  have q508 : q ≤ 508 := by omega
  have eq28 : 28 + (n : Int) = (q : Int) := by omega
  have wq : IntKind.i64.wrap (q : Int) = (q : Int) := IntWalk.i64_in _ (by omega)
  have i8 : ((8 : Int) ≤ (c : Int)) = True := eq_true (by omega)
  have i20 : ((20 : Int) ≤ (c : Int)) = True := eq_true (by omega)
  have i28 : ((28 : Int) ≤ (c : Int)) = True := eq_true (by omega)
  have i508 : ((508 : Int) ≤ (c : Int)) = True := eq_true (by omega)
  have iq : ((q : Int) ≤ 508) = True := eq_true (by omega)
  clear hn hq
  go_enter Tryd.func71, Tryd.ntmps71
  go_wp2_with (go_at_call 68; refine (HS68.out _).mono ?_; rintro e w0 ⟨rfl, rfl⟩)
  rw [← hw1, ← hrb]
  clear hw1 hrb a33 HCL
  refine wp_region_held_drew (S := fun W => W.cell? ⟨g, 12, none⟩ = some (.int .u8 a0) ∧ W.cell? ⟨g, 13, none⟩ = some (.int .u8 a1) ∧ W.cell? ⟨g, 14, none⟩ = some (.int .u8 a2) ∧ W.cell? ⟨g, 15, none⟩ = some (.int .u8 a3) ∧ W.cell? ⟨g, 16, none⟩ = some (.int .u8 a4) ∧ W.cell? ⟨g, 17, none⟩ = some (.int .u8 a5) ∧ W.cell? ⟨g, 18, none⟩ = some (.int .u8 a6) ∧ W.cell? ⟨g, 19, none⟩ = some (.int .u8 a7) ∧ W.cell? ⟨rb, 0, none⟩ = some (.int .u8 b0) ∧ W.cell? ⟨rb, 1, none⟩ = some (.int .u8 b1) ∧ W.cell? ⟨rb, 2, none⟩ = some (.int .u8 b2) ∧ W.cell? ⟨rb, 3, none⟩ = some (.int .u8 b3) ∧ W.cell? ⟨rb, 4, none⟩ = some (.int .u8 b4) ∧ W.cell? ⟨rb, 5, none⟩ = some (.int .u8 b5) ∧ W.cell? ⟨rb, 6, none⟩ = some (.int .u8 b6) ∧ W.cell? ⟨rb, 7, none⟩ = some (.int .u8 b7)) (by kernel_rfl) (F.out.ss _ ((Keeps.refl [] _).drew)) (fun hHeld => ?_)
  refine wpAnyH_take (i := 0) (oi := o71_2_0) (v := ?_) rfl (by kernel_rfl) (by kernel_rfl) (by kernel_rfl) (fun _ _ _ h => h) (Or.inl ⟨by kernel_rfl, ?_⟩) (by assumption) ?_
  rotate_left
  · (intro w9 hSw; clear hSw; go_simp; try with_reducible rfl)
  try simp only [o71_2_0, Act.put, List.setIfInBounds_toArray, List.set_cons_zero, List.set_cons_succ]
  refine wpAnyH_ready (rs := [1]) (by kernel_rfl) (by simp) ?_
  refine AllReadyH.cons (o := o71_2_1) rfl (fun K hK => ?_) AllReadyH.nil
  go_simp
  refine hK.out _ _ (F.out.ss _ ((Keeps.refl [] _).drew)) (fun hHeld1 => ?_)
  clear hK K hHeld
  try simp only [o71_2_1, Act.put, List.setIfInBounds_toArray, List.set_cons_zero, List.set_cons_succ]
  refine wpAnyH_take (i := 2) (oi := o71_2_2) (v := ?_) rfl (by kernel_rfl) (by kernel_rfl) (by kernel_rfl) (fun _ _ _ h => h) (Or.inl ⟨by kernel_rfl, ?_⟩) (by assumption) ?_
  rotate_left
  · (intro w9 hSw; clear hSw; go_simp; try with_reducible rfl)
  try simp only [o71_2_2, Act.put, List.setIfInBounds_toArray, List.set_cons_zero, List.set_cons_succ]
  refine wpAnyH_take (i := 3) (oi := o71_2_3) (v := ?_) rfl (by kernel_rfl) (by kernel_rfl) (by kernel_rfl) (fun _ _ _ h => h) (Or.inl ⟨by kernel_rfl, ?_⟩) (by assumption) ?_
  rotate_left
  · (intro w9 hSw; clear hSw; go_simp; try with_reducible rfl)
  try simp only [o71_2_3, Act.put, List.setIfInBounds_toArray, List.set_cons_zero, List.set_cons_succ]
  refine wpAnyH_take (i := 4) (oi := o71_2_4) (v := ?_) rfl (by kernel_rfl) (by kernel_rfl) (by kernel_rfl) (fun _ _ _ h => h) (Or.inl ⟨by kernel_rfl, ?_⟩) (by assumption) ?_
  rotate_left
  · (intro w9 hSw; clear hSw; go_simp; try with_reducible rfl)
  try simp only [o71_2_4, Act.put, List.setIfInBounds_toArray, List.set_cons_zero, List.set_cons_succ]
  refine wpAnyH_take (i := 5) (oi := o71_2_5) (v := ?_) rfl (by kernel_rfl) (by kernel_rfl) (by kernel_rfl) (fun _ _ _ h => h) (Or.inl ⟨by kernel_rfl, ?_⟩) (by assumption) ?_
  rotate_left
  · (intro w9 hSw; clear hSw; go_simp; try with_reducible rfl)
  try simp only [o71_2_5, Act.put, List.setIfInBounds_toArray, List.set_cons_zero, List.set_cons_succ]
  refine wpAnyH_take (i := 7) (oi := o71_2_7) (v := ?_) rfl (by kernel_rfl) (by kernel_rfl) (by kernel_rfl) (fun _ _ _ h => h) (Or.inl ⟨by kernel_rfl, ?_⟩) (by assumption) ?_
  rotate_left
  · (intro w9 hSw; clear hSw; go_simp; try with_reducible rfl)
  try simp only [o71_2_7, Act.put, List.setIfInBounds_toArray, List.set_cons_zero, List.set_cons_succ]
  refine wpAnyH_ready (rs := [6]) (by kernel_rfl) (by simp) ?_
  refine AllReadyH.cons (o := o71_2_6) rfl (fun K hK => ?_) AllReadyH.nil
  go_simp
  refine (F.out.n1 _ ((Keeps.refl [] _).drew)).mono ?_
  rintro e w9 ⟨rfl, rfl⟩
  refine hK.out _ _ (F.out.ss _ ((Keeps.refl [] _).drew)) (fun hHeld6 => ?_)
  clear hK K hHeld1
  try simp only [o71_2_6, Act.put, List.setIfInBounds_toArray, List.set_cons_zero, List.set_cons_succ]
  refine wpAnyH_take (i := 8) (oi := o71_2_8) (v := ?_) rfl (by kernel_rfl) (by kernel_rfl) (by kernel_rfl) (fun _ _ _ h => h) (Or.inl ⟨by kernel_rfl, ?_⟩) (by assumption) ?_
  rotate_left
  · (intro w9 hSw; clear hSw; go_simp; try with_reducible rfl)
  try simp only [o71_2_8, Act.put, List.setIfInBounds_toArray, List.set_cons_zero, List.set_cons_succ]
  refine wpAnyH_take (i := 9) (oi := o71_2_9) (v := ?_) rfl (by kernel_rfl) (by kernel_rfl) (by kernel_rfl) (fun _ _ _ h => h) (Or.inl ⟨by kernel_rfl, ?_⟩) (by assumption) ?_
  rotate_left
  · (intro w9 hSw; clear hSw; go_simp; try with_reducible rfl)
  try simp only [o71_2_9, Act.put, List.setIfInBounds_toArray, List.set_cons_zero, List.set_cons_succ]
  refine wpAnyH_take (i := 10) (oi := o71_2_10) (v := ?_) rfl (by kernel_rfl) (by kernel_rfl) (by kernel_rfl) (fun _ _ _ h => h) (Or.inl ⟨by kernel_rfl, ?_⟩) (by assumption) ?_
  rotate_left
  · (intro w9 hSw; clear hSw; go_simp; try with_reducible rfl)
  try simp only [o71_2_10, Act.put, List.setIfInBounds_toArray, List.set_cons_zero, List.set_cons_succ]
  refine wpAnyH_take (i := 11) (oi := o71_2_11) (v := ?_) rfl (by kernel_rfl) (by kernel_rfl) (by kernel_rfl) (fun _ _ _ h => h) (Or.inl ⟨by kernel_rfl, ?_⟩) (by assumption) ?_
  rotate_left
  · (intro w9 hSw; clear hSw; go_simp; try with_reducible rfl)
  try simp only [o71_2_11, Act.put, List.setIfInBounds_toArray, List.set_cons_zero, List.set_cons_succ]
  refine wpAnyH_take (i := 12) (oi := o71_2_12) (v := ?_) rfl (by kernel_rfl) (by kernel_rfl) (by kernel_rfl) (fun _ _ _ h => h) (Or.inl ⟨by kernel_rfl, ?_⟩) (by assumption) ?_
  rotate_left
  · (intro w9 hSw; clear hSw; go_simp; try with_reducible rfl)
  try simp only [o71_2_12, Act.put, List.setIfInBounds_toArray, List.set_cons_zero, List.set_cons_succ]
  refine wpAnyH_ready (rs := [13]) (by kernel_rfl) (by simp) ?_
  refine AllReadyH.cons (o := o71_2_13) rfl (fun K hK => ?_) AllReadyH.nil
  go_simp
  refine (F.out.y1 _ ((Keeps.refl [] _).drew)).mono ?_
  rintro e w9 ⟨rfl, rfl⟩
  refine hK.out _ _ (F.out.ss _ ((Keeps.refl [] _).drew)) (fun hHeld13 => ?_)
  clear hK K hHeld6
  try simp only [o71_2_13, Act.put, List.setIfInBounds_toArray, List.set_cons_zero, List.set_cons_succ]
  refine wpAnyH_take (i := 14) (oi := o71_2_14) (v := ?_) rfl (by kernel_rfl) (by kernel_rfl) (by kernel_rfl) (fun _ _ _ h => h) (Or.inl ⟨by kernel_rfl, ?_⟩) (by assumption) ?_
  rotate_left
  · (intro w9 hSw; clear hSw; go_simp; try with_reducible rfl)
  try simp only [o71_2_14, Act.put, List.setIfInBounds_toArray, List.set_cons_zero, List.set_cons_succ]
  refine wpAnyH_take (i := 15) (oi := o71_2_15) (v := ?_) rfl (by kernel_rfl) (by kernel_rfl) (by kernel_rfl) (fun _ _ _ h => h) (Or.inl ⟨by kernel_rfl, ?_⟩) (by assumption) ?_
  rotate_left
  · (intro w9 hSw; clear hSw; go_simp; try with_reducible rfl)
  try simp only [o71_2_15, Act.put, List.setIfInBounds_toArray, List.set_cons_zero, List.set_cons_succ]
  refine wpAnyH_take (i := 16) (oi := o71_2_16) (v := ?_) rfl (by kernel_rfl) (by kernel_rfl) (by kernel_rfl) (fun _ _ _ h => h) (Or.inl ⟨by kernel_rfl, ?_⟩) (by assumption) ?_
  rotate_left
  · (intro w9 hSw; clear hSw; go_simp; try with_reducible rfl)
  try simp only [o71_2_16, Act.put, List.setIfInBounds_toArray, List.set_cons_zero, List.set_cons_succ]
  refine wpAnyH_take (i := 17) (oi := o71_2_17) (v := ?_) rfl (by kernel_rfl) (by kernel_rfl) (by kernel_rfl) (fun _ _ _ h => h) (Or.inl ⟨by kernel_rfl, ?_⟩) (by assumption) ?_
  rotate_left
  · (intro w9 hSw; clear hSw; go_simp; try with_reducible rfl)
  try simp only [o71_2_17, Act.put, List.setIfInBounds_toArray, List.set_cons_zero, List.set_cons_succ]
  refine wpAnyH_take (i := 19) (oi := o71_2_19) (v := ?_) rfl (by kernel_rfl) (by kernel_rfl) (by kernel_rfl) (fun _ _ _ h => h) (Or.inl ⟨by kernel_rfl, ?_⟩) (by assumption) ?_
  rotate_left
  · (intro w9 hSw; clear hSw; go_simp; try with_reducible rfl)
  try simp only [o71_2_19, Act.put, List.setIfInBounds_toArray, List.set_cons_zero, List.set_cons_succ]
  refine wpAnyH_ready (rs := [18]) (by kernel_rfl) (by simp) ?_
  refine AllReadyH.cons (o := o71_2_18) rfl (fun K hK => ?_) AllReadyH.nil
  go_simp
  refine (F.out.n2 _ ((Keeps.refl [] _).drew)).mono ?_
  rintro e w9 ⟨rfl, rfl⟩
  refine hK.out _ _ (F.out.ss _ ((Keeps.refl [] _).drew)) (fun hHeld18 => ?_)
  clear hK K hHeld13
  try simp only [o71_2_18, Act.put, List.setIfInBounds_toArray, List.set_cons_zero, List.set_cons_succ]
  refine wpAnyH_take (i := 20) (oi := o71_2_20) (v := ?_) rfl (by kernel_rfl) (by kernel_rfl) (by kernel_rfl) (fun _ _ _ h => h) (Or.inl ⟨by kernel_rfl, ?_⟩) (by assumption) ?_
  rotate_left
  · (intro w9 hSw; clear hSw; go_simp; try with_reducible rfl)
  try simp only [o71_2_20, Act.put, List.setIfInBounds_toArray, List.set_cons_zero, List.set_cons_succ]
  refine wpAnyH_take (i := 21) (oi := o71_2_21) (v := ?_) rfl (by kernel_rfl) (by kernel_rfl) (by kernel_rfl) (fun _ _ _ h => h) (Or.inl ⟨by kernel_rfl, ?_⟩) (by assumption) ?_
  rotate_left
  · (intro w9 hSw; clear hSw; go_simp; try with_reducible rfl)
  try simp only [o71_2_21, Act.put, List.setIfInBounds_toArray, List.set_cons_zero, List.set_cons_succ]
  refine wpAnyH_take (i := 22) (oi := o71_2_22) (v := ?_) rfl (by kernel_rfl) (by kernel_rfl) (by kernel_rfl) (fun _ _ _ h => h) (Or.inl ⟨by kernel_rfl, ?_⟩) (by assumption) ?_
  rotate_left
  · (intro w9 hSw; clear hSw; go_simp; try with_reducible rfl)
  try simp only [o71_2_22, Act.put, List.setIfInBounds_toArray, List.set_cons_zero, List.set_cons_succ]
  refine wpAnyH_take (i := 23) (oi := o71_2_23) (v := undef) rfl (by kernel_rfl) (by kernel_rfl) (by kernel_rfl) (fun _ _ _ h => h) (Or.inr ⟨by kernel_rfl, rfl⟩) (by assumption) ?_
  try simp only [o71_2_23, Act.put, List.setIfInBounds_toArray, List.set_cons_zero, List.set_cons_succ]
  refine wpAnyH_take (i := 24) (oi := o71_2_24) (v := undef) rfl (by kernel_rfl) (by kernel_rfl) (by kernel_rfl) (fun _ _ _ h => h) (Or.inr ⟨by kernel_rfl, rfl⟩) (by assumption) ?_
  try simp only [o71_2_24, Act.put, List.setIfInBounds_toArray, List.set_cons_zero, List.set_cons_succ]
  refine wpAnyH_take (i := 25) (oi := o71_2_25) (v := undef) rfl (by kernel_rfl) (by kernel_rfl) (by kernel_rfl) (fun _ _ _ h => h) (Or.inr ⟨by kernel_rfl, rfl⟩) (by assumption) ?_
  try simp only [o71_2_25, Act.put, List.setIfInBounds_toArray, List.set_cons_zero, List.set_cons_succ]
  refine wpAnyH_take (i := 26) (oi := o71_2_26) (v := undef) rfl (by kernel_rfl) (by kernel_rfl) (by kernel_rfl) (fun _ _ _ h => h) (Or.inr ⟨by kernel_rfl, rfl⟩) (by assumption) ?_
  try simp only [o71_2_26, Act.put, List.setIfInBounds_toArray, List.set_cons_zero, List.set_cons_succ]
  refine wpAnyH_take (i := 27) (oi := o71_2_27) (v := undef) rfl (by kernel_rfl) (by kernel_rfl) (by kernel_rfl) (fun _ _ _ h => h) (Or.inr ⟨by kernel_rfl, rfl⟩) (by assumption) ?_
  try simp only [o71_2_27, Act.put, List.setIfInBounds_toArray, List.set_cons_zero, List.set_cons_succ]
  refine wpAnyH_take (i := 28) (oi := o71_2_28) (v := undef) rfl (by kernel_rfl) (by kernel_rfl) (by kernel_rfl) (fun _ _ _ h => h) (Or.inr ⟨by kernel_rfl, rfl⟩) (by assumption) ?_
  try simp only [o71_2_28, Act.put, List.setIfInBounds_toArray, List.set_cons_zero, List.set_cons_succ]
  refine wpAnyH_take (i := 29) (oi := o71_2_29) (v := undef) rfl (by kernel_rfl) (by kernel_rfl) (by kernel_rfl) (fun _ _ _ h => h) (Or.inr ⟨by kernel_rfl, rfl⟩) (by assumption) ?_
  try simp only [o71_2_29, Act.put, List.setIfInBounds_toArray, List.set_cons_zero, List.set_cons_succ]
  refine wpAnyH_take (i := 30) (oi := o71_2_30) (v := undef) rfl (by kernel_rfl) (by kernel_rfl) (by kernel_rfl) (fun _ _ _ h => h) (Or.inr ⟨by kernel_rfl, rfl⟩) (by assumption) ?_
  try simp only [o71_2_30, Act.put, List.setIfInBounds_toArray, List.set_cons_zero, List.set_cons_succ]
  refine wpAnyH_take (i := 31) (oi := o71_2_31) (v := undef) rfl (by kernel_rfl) (by kernel_rfl) (by kernel_rfl) (fun _ _ _ h => h) (Or.inr ⟨by kernel_rfl, rfl⟩) (by assumption) ?_
  try simp only [o71_2_31, Act.put, List.setIfInBounds_toArray, List.set_cons_zero, List.set_cons_succ]
  refine wpAnyH_take (i := 32) (oi := o71_2_32) (v := ?_) rfl (by kernel_rfl) (by kernel_rfl) (by kernel_rfl) (fun _ _ _ h => h) (Or.inl ⟨by kernel_rfl, ?_⟩) (by assumption) ?_
  rotate_left
  · (intro w9 hSw; clear hSw; go_simp; try with_reducible rfl)
  try simp only [o71_2_32, Act.put, List.setIfInBounds_toArray, List.set_cons_zero, List.set_cons_succ]
  refine wpAnyH_take (i := 33) (oi := o71_2_33) (v := ?_) rfl (by kernel_rfl) (by kernel_rfl) (by kernel_rfl) (fun _ _ _ h => h) (Or.inl ⟨by kernel_rfl, ?_⟩) (by assumption) ?_
  rotate_left
  · (intro w9 hSw; clear hSw; go_simp; try with_reducible rfl)
  try simp only [o71_2_33, Act.put, List.setIfInBounds_toArray, List.set_cons_zero, List.set_cons_succ]
  refine wpAnyH_take (i := 34) (oi := o71_2_34) (v := undef) rfl (by kernel_rfl) (by kernel_rfl) (by kernel_rfl) (fun _ _ _ h => h) (Or.inr ⟨by kernel_rfl, rfl⟩) (by assumption) ?_
  try simp only [o71_2_34, Act.put, List.setIfInBounds_toArray, List.set_cons_zero, List.set_cons_succ]
  refine wpAnyH_take (i := 35) (oi := o71_2_35) (v := undef) rfl (by kernel_rfl) (by kernel_rfl) (by kernel_rfl) (fun _ _ _ h => h) (Or.inr ⟨by kernel_rfl, rfl⟩) (by assumption) ?_
  try simp only [o71_2_35, Act.put, List.setIfInBounds_toArray, List.set_cons_zero, List.set_cons_succ]
  refine wpAnyH_take (i := 36) (oi := o71_2_36) (v := undef) rfl (by kernel_rfl) (by kernel_rfl) (by kernel_rfl) (fun _ _ _ h => h) (Or.inr ⟨by kernel_rfl, rfl⟩) (by assumption) ?_
  try simp only [o71_2_36, Act.put, List.setIfInBounds_toArray, List.set_cons_zero, List.set_cons_succ]
  refine wpAnyH_take (i := 37) (oi := o71_2_37) (v := ?_) rfl (by kernel_rfl) (by kernel_rfl) (by kernel_rfl) (fun _ _ _ h => h) (Or.inl ⟨by kernel_rfl, ?_⟩) (by assumption) ?_
  rotate_left
  · (intro w9 hSw; clear hSw; go_simp; try with_reducible rfl)
  try simp only [o71_2_37, Act.put, List.setIfInBounds_toArray, List.set_cons_zero, List.set_cons_succ]
  refine wpAnyH_take (i := 38) (oi := o71_2_38) (v := ?_) rfl (by kernel_rfl) (by kernel_rfl) (by kernel_rfl) (fun _ _ _ h => h) (Or.inl ⟨by kernel_rfl, ?_⟩) (by assumption) ?_
  rotate_left
  · (intro w9 hSw; clear hSw; go_simp; try with_reducible rfl)
  try simp only [o71_2_38, Act.put, List.setIfInBounds_toArray, List.set_cons_zero, List.set_cons_succ]
  refine wpAnyH_take (i := 39) (oi := o71_2_39) (v := undef) rfl (by kernel_rfl) (by kernel_rfl) (by kernel_rfl) (fun _ _ _ h => h) (Or.inr ⟨by kernel_rfl, rfl⟩) (by assumption) ?_
  try simp only [o71_2_39, Act.put, List.setIfInBounds_toArray, List.set_cons_zero, List.set_cons_succ]
  refine wpAnyH_take (i := 40) (oi := o71_2_40) (v := undef) rfl (by kernel_rfl) (by kernel_rfl) (by kernel_rfl) (fun _ _ _ h => h) (Or.inr ⟨by kernel_rfl, rfl⟩) (by assumption) ?_
  try simp only [o71_2_40, Act.put, List.setIfInBounds_toArray, List.set_cons_zero, List.set_cons_succ]
  refine wpAnyH_take (i := 41) (oi := o71_2_41) (v := undef) rfl (by kernel_rfl) (by kernel_rfl) (by kernel_rfl) (fun _ _ _ h => h) (Or.inr ⟨by kernel_rfl, rfl⟩) (by assumption) ?_
  try simp only [o71_2_41, Act.put, List.setIfInBounds_toArray, List.set_cons_zero, List.set_cons_succ]
  refine wpAnyH_take (i := 42) (oi := o71_2_42) (v := undef) rfl (by kernel_rfl) (by kernel_rfl) (by kernel_rfl) (fun _ _ _ h => h) (Or.inr ⟨by kernel_rfl, rfl⟩) (by assumption) ?_
  try simp only [o71_2_42, Act.put, List.setIfInBounds_toArray, List.set_cons_zero, List.set_cons_succ]
  refine wpAnyH_take (i := 43) (oi := o71_2_43) (v := undef) rfl (by kernel_rfl) (by kernel_rfl) (by kernel_rfl) (fun _ _ _ h => h) (Or.inr ⟨by kernel_rfl, rfl⟩) (by assumption) ?_
  try simp only [o71_2_43, Act.put, List.setIfInBounds_toArray, List.set_cons_zero, List.set_cons_succ]
  refine wpAnyH_take (i := 44) (oi := o71_2_44) (v := ?_) rfl (by kernel_rfl) (by kernel_rfl) (by kernel_rfl) (fun _ _ _ h => h) (Or.inl ⟨by kernel_rfl, ?_⟩) (by assumption) ?_
  rotate_left
  · (intro w9 hSw; clear hSw; go_simp; try with_reducible rfl)
  try simp only [o71_2_44, Act.put, List.setIfInBounds_toArray, List.set_cons_zero, List.set_cons_succ]
  refine wpAnyH_take (i := 45) (oi := o71_2_45) (v := ?_) rfl (by kernel_rfl) (by kernel_rfl) (by kernel_rfl) (fun _ _ _ h => h) (Or.inl ⟨by kernel_rfl, ?_⟩) (by assumption) ?_
  rotate_left
  · (intro w9 hSw; clear hSw; go_simp; try with_reducible rfl)
  try simp only [o71_2_45, Act.put, List.setIfInBounds_toArray, List.set_cons_zero, List.set_cons_succ]
  refine wpAnyH_take (i := 46) (oi := o71_2_46) (v := undef) rfl (by kernel_rfl) (by kernel_rfl) (by kernel_rfl) (fun _ _ _ h => h) (Or.inr ⟨by kernel_rfl, rfl⟩) (by assumption) ?_
  try simp only [o71_2_46, Act.put, List.setIfInBounds_toArray, List.set_cons_zero, List.set_cons_succ]
  refine wpAnyH_take (i := 47) (oi := o71_2_47) (v := undef) rfl (by kernel_rfl) (by kernel_rfl) (by kernel_rfl) (fun _ _ _ h => h) (Or.inr ⟨by kernel_rfl, rfl⟩) (by assumption) ?_
  try simp only [o71_2_47, Act.put, List.setIfInBounds_toArray, List.set_cons_zero, List.set_cons_succ]
  refine wpAnyH_take (i := 48) (oi := o71_2_48) (v := undef) rfl (by kernel_rfl) (by kernel_rfl) (by kernel_rfl) (fun _ _ _ h => h) (Or.inr ⟨by kernel_rfl, rfl⟩) (by assumption) ?_
  try simp only [o71_2_48, Act.put, List.setIfInBounds_toArray, List.set_cons_zero, List.set_cons_succ]
  refine wpAnyH_take (i := 49) (oi := o71_2_49) (v := undef) rfl (by kernel_rfl) (by kernel_rfl) (by kernel_rfl) (fun _ _ _ h => h) (Or.inr ⟨by kernel_rfl, rfl⟩) (by assumption) ?_
  try simp only [o71_2_49, Act.put, List.setIfInBounds_toArray, List.set_cons_zero, List.set_cons_succ]
  refine wpAnyH_take (i := 50) (oi := o71_2_50) (v := undef) rfl (by kernel_rfl) (by kernel_rfl) (by kernel_rfl) (fun _ _ _ h => h) (Or.inr ⟨by kernel_rfl, rfl⟩) (by assumption) ?_
  try simp only [o71_2_50, Act.put, List.setIfInBounds_toArray, List.set_cons_zero, List.set_cons_succ]
  refine wpAnyH_take (i := 51) (oi := o71_2_51) (v := undef) rfl (by kernel_rfl) (by kernel_rfl) (by kernel_rfl) (fun _ _ _ h => h) (Or.inr ⟨by kernel_rfl, rfl⟩) (by assumption) ?_
  try simp only [o71_2_51, Act.put, List.setIfInBounds_toArray, List.set_cons_zero, List.set_cons_succ]
  refine wpAnyH_take (i := 52) (oi := o71_2_52) (v := undef) rfl (by kernel_rfl) (by kernel_rfl) (by kernel_rfl) (fun _ _ _ h => h) (Or.inr ⟨by kernel_rfl, rfl⟩) (by assumption) ?_
  try simp only [o71_2_52, Act.put, List.setIfInBounds_toArray, List.set_cons_zero, List.set_cons_succ]
  refine wpAnyH_take (i := 53) (oi := o71_2_53) (v := undef) rfl (by kernel_rfl) (by kernel_rfl) (by kernel_rfl) (fun _ _ _ h => h) (Or.inr ⟨by kernel_rfl, rfl⟩) (by assumption) ?_
  try simp only [o71_2_53, Act.put, List.setIfInBounds_toArray, List.set_cons_zero, List.set_cons_succ]
  refine wpAnyH_take (i := 54) (oi := o71_2_54) (v := undef) rfl (by kernel_rfl) (by kernel_rfl) (by kernel_rfl) (fun _ _ _ h => h) (Or.inr ⟨by kernel_rfl, rfl⟩) (by assumption) ?_
  try simp only [o71_2_54, Act.put, List.setIfInBounds_toArray, List.set_cons_zero, List.set_cons_succ]
  refine wpAnyH_take (i := 55) (oi := o71_2_55) (v := ?_) rfl (by kernel_rfl) (by kernel_rfl) (by kernel_rfl) (fun _ _ _ h => h) (Or.inl ⟨by kernel_rfl, ?_⟩) (by assumption) ?_
  rotate_left
  · (intro w9 hSw; clear hSw; go_simp; try with_reducible rfl)
  try simp only [o71_2_55, Act.put, List.setIfInBounds_toArray, List.set_cons_zero, List.set_cons_succ]
  refine wpAnyH_take (i := 56) (oi := o71_2_56) (v := ?_) rfl (by kernel_rfl) (by kernel_rfl) (by kernel_rfl) (fun _ _ _ h => h) (Or.inl ⟨by kernel_rfl, ?_⟩) (by assumption) ?_
  rotate_left
  · (intro w9 hSw; clear hSw; go_simp; try with_reducible rfl)
  try simp only [o71_2_56, Act.put, List.setIfInBounds_toArray, List.set_cons_zero, List.set_cons_succ]
  refine wpAnyH_done (by kernel_rfl) ?_ _
  all_goals go_wp2
  all_goals go_ret
  all_goals exact ⟨rfl, HK1.out.trans' (by first | exact ((Keeps.refl [] _).drew) | exact (((Keeps.refl [] _).drew).alloc _))⟩
set_option maxHeartbeats 4000000 in
theorem formed_4 {w w1 : World} {g c rb n : Nat} {j v1 v2 v3 sm : Int} {a0 a1 a2 a3 a4 a5 a6 a7 : Int} {b0 b1 b2 b3 b4 b5 b6 b7 : Int} {z1 z2 z3 : Bool} {r : List Value} (h1 : v1 = (n : Int)) (h2 : z1 = true) (h3 : j = v2) (h4 : [a0, a1, a2, a3, a4, a5, a6, a7] ≠ [b0, b1, b2, b3, b4, b5, b6, b7]) (F : Hid (FC w w1 g c rb n j v1 v2 v3 sm a0 a1 a2 a3 a4 a5 a6 a7 b0 b1 b2 b3 b4 b5 b6 b7 z1 z2 z3)) (hw1 : w1 = w.alloc (.cells r.toArray 52)) (hrb : rb = w.heap.size) (L : Int) (hr : r[33]? = some (.int .i64 L)) (HS68 : Hid (∀ W, Calls Tryd.prog 68 #[.int .i64 L, .int .i64 j] W fun e w' => e = .returned (.int .i64 (n : Int)) ∧ w' = W)) (hn : n ≤ 480) (hc : 512 ≤ c) :
    Calls Tryd.prog 71 #[.slice (some ⟨g, 0, none⟩) 512 c, .agg r.toArray, .int .i64 j] w fun e w' => e = .returned (.bool false) ∧ Keeps [] w w' := by
  subst h1
  subst h2
  subst h3
  have hEq : ∀ W : World, (Op.equalIn 10000 181 (.agg #[.int .u8 a0, .int .u8 a1, .int .u8 a2, .int .u8 a3, .int .u8 a4, .int .u8 a5, .int .u8 a6, .int .u8 a7]) (.agg #[.int .u8 b0, .int .u8 b1, .int .u8 b2, .int .u8 b3, .int .u8 b4, .int .u8 b5, .int .u8 b6, .int .u8 b7])).run Tryd.prog W = .ok false W := fun W => (eq_bytes2 W 9998 181 5 8 [a0, a1, a2, a3, a4, a5, a6, a7] [b0, b1, b2, b3, b4, b5, b6, b7] Tryd.underlying181 Tryd.underlying5 info5s rfl rfl).trans (by rw [decide_eq_false h4])
  have a33 : r.toArray[33]? = some (.int .i64 L) := by rw [List.getElem?_toArray]; exact hr
  have HK1 := Lib.hid (show Keeps [] w w1 from by rw [hw1]; exact (Keeps.refl [] w).alloc _)
  have HCL := Lib.hid (show w1.cell? ⟨rb, 33, none⟩ = some (.int .i64 L) from by rw [hw1, hrb, (StrAt.new w r.toArray 52).cell]; exact a33)
  have c4 : ¬ c = 4 := by omega
  have c6 : ¬ c = 6 := by omega
  have c8 : ¬ c = 8 := by omega
  have c12 : ¬ c = 12 := by omega
  have c20 : ¬ c = 20 := by omega
  have c508 : ¬ c = 508 := by omega
  have cc : 512 ≤ c := hc
  have l8 : 8 ≤ c := by omega
  have l20 : 20 ≤ c := by omega
  have l28 : 28 ≤ c := by omega
  have l508 : 508 ≤ c := by omega
  obtain ⟨q, hq⟩ : ∃ q, q = 28 + n := ⟨_, rfl⟩
  have HQ := Lib.hid hq
  have cq : ¬ c = q := by omega
  have q508 : q ≤ 508 := by omega
  have eq28 : 28 + (n : Int) = (q : Int) := by omega
  have wq : IntKind.i64.wrap (q : Int) = (q : Int) := IntWalk.i64_in _ (by omega)
  have i8 : ((8 : Int) ≤ (c : Int)) = True := eq_true (by omega)
  have i20 : ((20 : Int) ≤ (c : Int)) = True := eq_true (by omega)
  have i28 : ((28 : Int) ≤ (c : Int)) = True := eq_true (by omega)
  have i508 : ((508 : Int) ≤ (c : Int)) = True := eq_true (by omega)
  have iq : ((q : Int) ≤ 508) = True := eq_true (by omega)
  have hArG : ∀ W : World, (Instr.arrayAt 181 (.slice (some ⟨g, 12, none⟩) 8 (c - 12))).run Tryd.prog W = .ok (.pointer (some ⟨g, 12, none⟩)) W := fun W => by
    simp [Instr.arrayAt, run_underlying Tryd.underlying181, Result.andThen]
  have hArR : ∀ W : World, (Instr.arrayAt 181 (.slice (some ⟨rb, 0, none⟩) 8 32)).run Tryd.prog W = .ok (.pointer (some ⟨rb, 0, none⟩)) W := fun W => by
    simp [Instr.arrayAt, run_underlying Tryd.underlying181, Result.andThen]
  clear hn hq
  go_enter Tryd.func71, Tryd.ntmps71
  go_wp2_with (go_at_call 68; refine (HS68.out _).mono ?_; rintro e w0 ⟨rfl, rfl⟩)
  rw [← hw1, ← hrb]
  clear hw1 hrb a33 HCL
  refine wp_region_held_drew (S := fun W => W.cell? ⟨g, 12, none⟩ = some (.int .u8 a0) ∧ W.cell? ⟨g, 13, none⟩ = some (.int .u8 a1) ∧ W.cell? ⟨g, 14, none⟩ = some (.int .u8 a2) ∧ W.cell? ⟨g, 15, none⟩ = some (.int .u8 a3) ∧ W.cell? ⟨g, 16, none⟩ = some (.int .u8 a4) ∧ W.cell? ⟨g, 17, none⟩ = some (.int .u8 a5) ∧ W.cell? ⟨g, 18, none⟩ = some (.int .u8 a6) ∧ W.cell? ⟨g, 19, none⟩ = some (.int .u8 a7) ∧ W.cell? ⟨rb, 0, none⟩ = some (.int .u8 b0) ∧ W.cell? ⟨rb, 1, none⟩ = some (.int .u8 b1) ∧ W.cell? ⟨rb, 2, none⟩ = some (.int .u8 b2) ∧ W.cell? ⟨rb, 3, none⟩ = some (.int .u8 b3) ∧ W.cell? ⟨rb, 4, none⟩ = some (.int .u8 b4) ∧ W.cell? ⟨rb, 5, none⟩ = some (.int .u8 b5) ∧ W.cell? ⟨rb, 6, none⟩ = some (.int .u8 b6) ∧ W.cell? ⟨rb, 7, none⟩ = some (.int .u8 b7)) (by kernel_rfl) (F.out.ss _ ((Keeps.refl [] _).drew)) (fun hHeld => ?_)
  refine wpAnyH_take (i := 0) (oi := o71_2_0) (v := ?_) rfl (by kernel_rfl) (by kernel_rfl) (by kernel_rfl) (fun _ _ _ h => h) (Or.inl ⟨by kernel_rfl, ?_⟩) (by assumption) ?_
  rotate_left
  · (intro w9 hSw; clear hSw; go_simp; try with_reducible rfl)
  try simp only [o71_2_0, Act.put, List.setIfInBounds_toArray, List.set_cons_zero, List.set_cons_succ]
  refine wpAnyH_ready (rs := [1]) (by kernel_rfl) (by simp) ?_
  refine AllReadyH.cons (o := o71_2_1) rfl (fun K hK => ?_) AllReadyH.nil
  go_simp
  refine hK.out _ _ (F.out.ss _ ((Keeps.refl [] _).drew)) (fun hHeld1 => ?_)
  clear hK K hHeld
  try simp only [o71_2_1, Act.put, List.setIfInBounds_toArray, List.set_cons_zero, List.set_cons_succ]
  refine wpAnyH_take (i := 2) (oi := o71_2_2) (v := ?_) rfl (by kernel_rfl) (by kernel_rfl) (by kernel_rfl) (fun _ _ _ h => h) (Or.inl ⟨by kernel_rfl, ?_⟩) (by assumption) ?_
  rotate_left
  · (intro w9 hSw; clear hSw; go_simp; try with_reducible rfl)
  try simp only [o71_2_2, Act.put, List.setIfInBounds_toArray, List.set_cons_zero, List.set_cons_succ]
  refine wpAnyH_take (i := 3) (oi := o71_2_3) (v := ?_) rfl (by kernel_rfl) (by kernel_rfl) (by kernel_rfl) (fun _ _ _ h => h) (Or.inl ⟨by kernel_rfl, ?_⟩) (by assumption) ?_
  rotate_left
  · (intro w9 hSw; clear hSw; go_simp; try with_reducible rfl)
  try simp only [o71_2_3, Act.put, List.setIfInBounds_toArray, List.set_cons_zero, List.set_cons_succ]
  refine wpAnyH_take (i := 4) (oi := o71_2_4) (v := ?_) rfl (by kernel_rfl) (by kernel_rfl) (by kernel_rfl) (fun _ _ _ h => h) (Or.inl ⟨by kernel_rfl, ?_⟩) (by assumption) ?_
  rotate_left
  · (intro w9 hSw; clear hSw; go_simp; try with_reducible rfl)
  try simp only [o71_2_4, Act.put, List.setIfInBounds_toArray, List.set_cons_zero, List.set_cons_succ]
  refine wpAnyH_take (i := 5) (oi := o71_2_5) (v := ?_) rfl (by kernel_rfl) (by kernel_rfl) (by kernel_rfl) (fun _ _ _ h => h) (Or.inl ⟨by kernel_rfl, ?_⟩) (by assumption) ?_
  rotate_left
  · (intro w9 hSw; clear hSw; go_simp; try with_reducible rfl)
  try simp only [o71_2_5, Act.put, List.setIfInBounds_toArray, List.set_cons_zero, List.set_cons_succ]
  refine wpAnyH_take (i := 7) (oi := o71_2_7) (v := ?_) rfl (by kernel_rfl) (by kernel_rfl) (by kernel_rfl) (fun _ _ _ h => h) (Or.inl ⟨by kernel_rfl, ?_⟩) (by assumption) ?_
  rotate_left
  · (intro w9 hSw; clear hSw; go_simp; try with_reducible rfl)
  try simp only [o71_2_7, Act.put, List.setIfInBounds_toArray, List.set_cons_zero, List.set_cons_succ]
  refine wpAnyH_ready (rs := [6]) (by kernel_rfl) (by simp) ?_
  refine AllReadyH.cons (o := o71_2_6) rfl (fun K hK => ?_) AllReadyH.nil
  go_simp
  refine (F.out.n1 _ ((Keeps.refl [] _).drew)).mono ?_
  rintro e w9 ⟨rfl, rfl⟩
  refine hK.out _ _ (F.out.ss _ ((Keeps.refl [] _).drew)) (fun hHeld6 => ?_)
  clear hK K hHeld1
  try simp only [o71_2_6, Act.put, List.setIfInBounds_toArray, List.set_cons_zero, List.set_cons_succ]
  refine wpAnyH_take (i := 8) (oi := o71_2_8) (v := ?_) rfl (by kernel_rfl) (by kernel_rfl) (by kernel_rfl) (fun _ _ _ h => h) (Or.inl ⟨by kernel_rfl, ?_⟩) (by assumption) ?_
  rotate_left
  · (intro w9 hSw; clear hSw; go_simp; try with_reducible rfl)
  try simp only [o71_2_8, Act.put, List.setIfInBounds_toArray, List.set_cons_zero, List.set_cons_succ]
  refine wpAnyH_take (i := 9) (oi := o71_2_9) (v := ?_) rfl (by kernel_rfl) (by kernel_rfl) (by kernel_rfl) (fun _ _ _ h => h) (Or.inl ⟨by kernel_rfl, ?_⟩) (by assumption) ?_
  rotate_left
  · (intro w9 hSw; clear hSw; go_simp; try with_reducible rfl)
  try simp only [o71_2_9, Act.put, List.setIfInBounds_toArray, List.set_cons_zero, List.set_cons_succ]
  refine wpAnyH_take (i := 10) (oi := o71_2_10) (v := ?_) rfl (by kernel_rfl) (by kernel_rfl) (by kernel_rfl) (fun _ _ _ h => h) (Or.inl ⟨by kernel_rfl, ?_⟩) (by assumption) ?_
  rotate_left
  · (intro w9 hSw; clear hSw; go_simp; try with_reducible rfl)
  try simp only [o71_2_10, Act.put, List.setIfInBounds_toArray, List.set_cons_zero, List.set_cons_succ]
  refine wpAnyH_take (i := 11) (oi := o71_2_11) (v := ?_) rfl (by kernel_rfl) (by kernel_rfl) (by kernel_rfl) (fun _ _ _ h => h) (Or.inl ⟨by kernel_rfl, ?_⟩) (by assumption) ?_
  rotate_left
  · (intro w9 hSw; clear hSw; go_simp; try with_reducible rfl)
  try simp only [o71_2_11, Act.put, List.setIfInBounds_toArray, List.set_cons_zero, List.set_cons_succ]
  refine wpAnyH_take (i := 12) (oi := o71_2_12) (v := ?_) rfl (by kernel_rfl) (by kernel_rfl) (by kernel_rfl) (fun _ _ _ h => h) (Or.inl ⟨by kernel_rfl, ?_⟩) (by assumption) ?_
  rotate_left
  · (intro w9 hSw; clear hSw; go_simp; try with_reducible rfl)
  try simp only [o71_2_12, Act.put, List.setIfInBounds_toArray, List.set_cons_zero, List.set_cons_succ]
  refine wpAnyH_ready (rs := [13]) (by kernel_rfl) (by simp) ?_
  refine AllReadyH.cons (o := o71_2_13) rfl (fun K hK => ?_) AllReadyH.nil
  go_simp
  refine (F.out.y1 _ ((Keeps.refl [] _).drew)).mono ?_
  rintro e w9 ⟨rfl, rfl⟩
  refine hK.out _ _ (F.out.ss _ ((Keeps.refl [] _).drew)) (fun hHeld13 => ?_)
  clear hK K hHeld6
  try simp only [o71_2_13, Act.put, List.setIfInBounds_toArray, List.set_cons_zero, List.set_cons_succ]
  refine wpAnyH_take (i := 14) (oi := o71_2_14) (v := ?_) rfl (by kernel_rfl) (by kernel_rfl) (by kernel_rfl) (fun _ _ _ h => h) (Or.inl ⟨by kernel_rfl, ?_⟩) (by assumption) ?_
  rotate_left
  · (intro w9 hSw; clear hSw; go_simp; try with_reducible rfl)
  try simp only [o71_2_14, Act.put, List.setIfInBounds_toArray, List.set_cons_zero, List.set_cons_succ]
  refine wpAnyH_take (i := 15) (oi := o71_2_15) (v := ?_) rfl (by kernel_rfl) (by kernel_rfl) (by kernel_rfl) (fun _ _ _ h => h) (Or.inl ⟨by kernel_rfl, ?_⟩) (by assumption) ?_
  rotate_left
  · (intro w9 hSw; clear hSw; go_simp; try with_reducible rfl)
  try simp only [o71_2_15, Act.put, List.setIfInBounds_toArray, List.set_cons_zero, List.set_cons_succ]
  refine wpAnyH_take (i := 16) (oi := o71_2_16) (v := ?_) rfl (by kernel_rfl) (by kernel_rfl) (by kernel_rfl) (fun _ _ _ h => h) (Or.inl ⟨by kernel_rfl, ?_⟩) (by assumption) ?_
  rotate_left
  · (intro w9 hSw; clear hSw; go_simp; try with_reducible rfl)
  try simp only [o71_2_16, Act.put, List.setIfInBounds_toArray, List.set_cons_zero, List.set_cons_succ]
  refine wpAnyH_take (i := 17) (oi := o71_2_17) (v := ?_) rfl (by kernel_rfl) (by kernel_rfl) (by kernel_rfl) (fun _ _ _ h => h) (Or.inl ⟨by kernel_rfl, ?_⟩) (by assumption) ?_
  rotate_left
  · (intro w9 hSw; clear hSw; go_simp; try with_reducible rfl)
  try simp only [o71_2_17, Act.put, List.setIfInBounds_toArray, List.set_cons_zero, List.set_cons_succ]
  refine wpAnyH_take (i := 19) (oi := o71_2_19) (v := ?_) rfl (by kernel_rfl) (by kernel_rfl) (by kernel_rfl) (fun _ _ _ h => h) (Or.inl ⟨by kernel_rfl, ?_⟩) (by assumption) ?_
  rotate_left
  · (intro w9 hSw; clear hSw; go_simp; try with_reducible rfl)
  try simp only [o71_2_19, Act.put, List.setIfInBounds_toArray, List.set_cons_zero, List.set_cons_succ]
  refine wpAnyH_ready (rs := [18]) (by kernel_rfl) (by simp) ?_
  refine AllReadyH.cons (o := o71_2_18) rfl (fun K hK => ?_) AllReadyH.nil
  go_simp
  refine (F.out.n2 _ ((Keeps.refl [] _).drew)).mono ?_
  rintro e w9 ⟨rfl, rfl⟩
  refine hK.out _ _ (F.out.ss _ ((Keeps.refl [] _).drew)) (fun hHeld18 => ?_)
  clear hK K hHeld13
  try simp only [o71_2_18, Act.put, List.setIfInBounds_toArray, List.set_cons_zero, List.set_cons_succ]
  refine wpAnyH_take (i := 20) (oi := o71_2_20) (v := ?_) rfl (by kernel_rfl) (by kernel_rfl) (by kernel_rfl) (fun _ _ _ h => h) (Or.inl ⟨by kernel_rfl, ?_⟩) (by assumption) ?_
  rotate_left
  · (intro w9 hSw; clear hSw; go_simp; try with_reducible rfl)
  try simp only [o71_2_20, Act.put, List.setIfInBounds_toArray, List.set_cons_zero, List.set_cons_succ]
  refine wpAnyH_take (i := 21) (oi := o71_2_21) (v := ?_) rfl (by kernel_rfl) (by kernel_rfl) (by kernel_rfl) (fun _ _ _ h => h) (Or.inl ⟨by kernel_rfl, ?_⟩) (by assumption) ?_
  rotate_left
  · (intro w9 hSw; clear hSw; go_simp; try with_reducible rfl)
  try simp only [o71_2_21, Act.put, List.setIfInBounds_toArray, List.set_cons_zero, List.set_cons_succ]
  refine wpAnyH_take (i := 22) (oi := o71_2_22) (v := ?_) rfl (by kernel_rfl) (by kernel_rfl) (by kernel_rfl) (fun _ _ _ h => h) (Or.inl ⟨by kernel_rfl, ?_⟩) (by assumption) ?_
  rotate_left
  · (intro w9 hSw; clear hSw; go_simp; try with_reducible rfl)
  try simp only [o71_2_22, Act.put, List.setIfInBounds_toArray, List.set_cons_zero, List.set_cons_succ]
  refine wpAnyH_take (i := 23) (oi := o71_2_23) (v := ?_) rfl (by kernel_rfl) (by kernel_rfl) (by kernel_rfl) (fun _ _ _ h => h) (Or.inl ⟨by kernel_rfl, ?_⟩) (by assumption) ?_
  rotate_left
  · (intro w9 hSw; clear hSw; go_simp; try with_reducible rfl)
  try simp only [o71_2_23, Act.put, List.setIfInBounds_toArray, List.set_cons_zero, List.set_cons_succ]
  refine wpAnyH_take (i := 24) (oi := o71_2_24) (v := ?_) rfl (by kernel_rfl) (by kernel_rfl) (by kernel_rfl) (fun _ _ _ h => h) (Or.inl ⟨by kernel_rfl, ?_⟩) (by assumption) ?_
  rotate_left
  · (intro w9 hSw; clear hSw; go_simp; try with_reducible rfl)
  try simp only [o71_2_24, Act.put, List.setIfInBounds_toArray, List.set_cons_zero, List.set_cons_succ]
  refine wpAnyH_take (i := 25) (oi := o71_2_25) (v := ?_) rfl (by kernel_rfl) (by kernel_rfl) (by kernel_rfl) (fun _ _ _ h => h) (Or.inl ⟨by kernel_rfl, ?_⟩) (by assumption) ?_
  rotate_left
  · (intro w9 hSw; clear hSw; go_simp; try with_reducible rfl)
  try simp only [o71_2_25, Act.put, List.setIfInBounds_toArray, List.set_cons_zero, List.set_cons_succ]
  refine wpAnyH_take (i := 26) (oi := o71_2_26) (v := ?_) rfl (by kernel_rfl) (by kernel_rfl) (by kernel_rfl) (fun _ _ _ h => h) (Or.inl ⟨by kernel_rfl, ?_⟩) (by assumption) ?_
  rotate_left
  · (intro w9 hSw; obtain ⟨s0, s1, s2, s3, s4, s5, s6, s7, s8, s9, s10, s11, s12, s13, s14, s15⟩ := hSw; (try dsimp only at hSw); go_simp; try with_reducible rfl)
  try simp only [o71_2_26, Act.put, List.setIfInBounds_toArray, List.set_cons_zero, List.set_cons_succ]
  refine wpAnyH_take (i := 27) (oi := o71_2_27) (v := ?_) rfl (by kernel_rfl) (by kernel_rfl) (by kernel_rfl) (fun _ _ _ h => h) (Or.inl ⟨by kernel_rfl, ?_⟩) (by assumption) ?_
  rotate_left
  · (intro w9 hSw; clear hSw; go_simp; try with_reducible rfl)
  try simp only [o71_2_27, Act.put, List.setIfInBounds_toArray, List.set_cons_zero, List.set_cons_succ]
  refine wpAnyH_take (i := 28) (oi := o71_2_28) (v := ?_) rfl (by kernel_rfl) (by kernel_rfl) (by kernel_rfl) (fun _ _ _ h => h) (Or.inl ⟨by kernel_rfl, ?_⟩) (by assumption) ?_
  rotate_left
  · (intro w9 hSw; clear hSw; go_simp; try with_reducible rfl)
  try simp only [o71_2_28, Act.put, List.setIfInBounds_toArray, List.set_cons_zero, List.set_cons_succ]
  refine wpAnyH_take (i := 29) (oi := o71_2_29) (v := ?_) rfl (by kernel_rfl) (by kernel_rfl) (by kernel_rfl) (fun _ _ _ h => h) (Or.inl ⟨by kernel_rfl, ?_⟩) (by assumption) ?_
  rotate_left
  · (intro w9 hSw; clear hSw; go_simp; try with_reducible rfl)
  try simp only [o71_2_29, Act.put, List.setIfInBounds_toArray, List.set_cons_zero, List.set_cons_succ]
  refine wpAnyH_take (i := 30) (oi := o71_2_30) (v := ?_) rfl (by kernel_rfl) (by kernel_rfl) (by kernel_rfl) (fun _ _ _ h => h) (Or.inl ⟨by kernel_rfl, ?_⟩) (by assumption) ?_
  rotate_left
  · (intro w9 hSw; obtain ⟨s0, s1, s2, s3, s4, s5, s6, s7, s8, s9, s10, s11, s12, s13, s14, s15⟩ := hSw; (try dsimp only at hSw); go_simp; try with_reducible rfl)
  try simp only [o71_2_30, Act.put, List.setIfInBounds_toArray, List.set_cons_zero, List.set_cons_succ]
  refine wpAnyH_take (i := 31) (oi := o71_2_31) (v := ?_) rfl (by kernel_rfl) (by kernel_rfl) (by kernel_rfl) (fun _ _ _ h => h) (Or.inl ⟨by kernel_rfl, ?_⟩) (by assumption) ?_
  rotate_left
  · (intro w9 hSw; clear hSw; go_simp; try with_reducible rfl)
  try simp only [o71_2_31, Act.put, List.setIfInBounds_toArray, List.set_cons_zero, List.set_cons_succ]
  refine wpAnyH_take (i := 32) (oi := o71_2_32) (v := ?_) rfl (by kernel_rfl) (by kernel_rfl) (by kernel_rfl) (fun _ _ _ h => h) (Or.inl ⟨by kernel_rfl, ?_⟩) (by assumption) ?_
  rotate_left
  · (intro w9 hSw; clear hSw; go_simp; try with_reducible rfl)
  try simp only [o71_2_32, Act.put, List.setIfInBounds_toArray, List.set_cons_zero, List.set_cons_succ]
  refine wpAnyH_take (i := 33) (oi := o71_2_33) (v := ?_) rfl (by kernel_rfl) (by kernel_rfl) (by kernel_rfl) (fun _ _ _ h => h) (Or.inl ⟨by kernel_rfl, ?_⟩) (by assumption) ?_
  rotate_left
  · (intro w9 hSw; clear hSw; go_simp; try with_reducible rfl)
  try simp only [o71_2_33, Act.put, List.setIfInBounds_toArray, List.set_cons_zero, List.set_cons_succ]
  refine wpAnyH_take (i := 34) (oi := o71_2_34) (v := undef) rfl (by kernel_rfl) (by kernel_rfl) (by kernel_rfl) (fun _ _ _ h => h) (Or.inr ⟨by kernel_rfl, rfl⟩) (by assumption) ?_
  try simp only [o71_2_34, Act.put, List.setIfInBounds_toArray, List.set_cons_zero, List.set_cons_succ]
  refine wpAnyH_take (i := 35) (oi := o71_2_35) (v := undef) rfl (by kernel_rfl) (by kernel_rfl) (by kernel_rfl) (fun _ _ _ h => h) (Or.inr ⟨by kernel_rfl, rfl⟩) (by assumption) ?_
  try simp only [o71_2_35, Act.put, List.setIfInBounds_toArray, List.set_cons_zero, List.set_cons_succ]
  refine wpAnyH_take (i := 36) (oi := o71_2_36) (v := undef) rfl (by kernel_rfl) (by kernel_rfl) (by kernel_rfl) (fun _ _ _ h => h) (Or.inr ⟨by kernel_rfl, rfl⟩) (by assumption) ?_
  try simp only [o71_2_36, Act.put, List.setIfInBounds_toArray, List.set_cons_zero, List.set_cons_succ]
  refine wpAnyH_take (i := 37) (oi := o71_2_37) (v := ?_) rfl (by kernel_rfl) (by kernel_rfl) (by kernel_rfl) (fun _ _ _ h => h) (Or.inl ⟨by kernel_rfl, ?_⟩) (by assumption) ?_
  rotate_left
  · (intro w9 hSw; clear hSw; go_simp; try with_reducible rfl)
  try simp only [o71_2_37, Act.put, List.setIfInBounds_toArray, List.set_cons_zero, List.set_cons_succ]
  refine wpAnyH_take (i := 38) (oi := o71_2_38) (v := ?_) rfl (by kernel_rfl) (by kernel_rfl) (by kernel_rfl) (fun _ _ _ h => h) (Or.inl ⟨by kernel_rfl, ?_⟩) (by assumption) ?_
  rotate_left
  · (intro w9 hSw; clear hSw; go_simp; try with_reducible rfl)
  try simp only [o71_2_38, Act.put, List.setIfInBounds_toArray, List.set_cons_zero, List.set_cons_succ]
  refine wpAnyH_take (i := 39) (oi := o71_2_39) (v := undef) rfl (by kernel_rfl) (by kernel_rfl) (by kernel_rfl) (fun _ _ _ h => h) (Or.inr ⟨by kernel_rfl, rfl⟩) (by assumption) ?_
  try simp only [o71_2_39, Act.put, List.setIfInBounds_toArray, List.set_cons_zero, List.set_cons_succ]
  refine wpAnyH_take (i := 40) (oi := o71_2_40) (v := undef) rfl (by kernel_rfl) (by kernel_rfl) (by kernel_rfl) (fun _ _ _ h => h) (Or.inr ⟨by kernel_rfl, rfl⟩) (by assumption) ?_
  try simp only [o71_2_40, Act.put, List.setIfInBounds_toArray, List.set_cons_zero, List.set_cons_succ]
  refine wpAnyH_take (i := 41) (oi := o71_2_41) (v := undef) rfl (by kernel_rfl) (by kernel_rfl) (by kernel_rfl) (fun _ _ _ h => h) (Or.inr ⟨by kernel_rfl, rfl⟩) (by assumption) ?_
  try simp only [o71_2_41, Act.put, List.setIfInBounds_toArray, List.set_cons_zero, List.set_cons_succ]
  refine wpAnyH_take (i := 42) (oi := o71_2_42) (v := undef) rfl (by kernel_rfl) (by kernel_rfl) (by kernel_rfl) (fun _ _ _ h => h) (Or.inr ⟨by kernel_rfl, rfl⟩) (by assumption) ?_
  try simp only [o71_2_42, Act.put, List.setIfInBounds_toArray, List.set_cons_zero, List.set_cons_succ]
  refine wpAnyH_take (i := 43) (oi := o71_2_43) (v := undef) rfl (by kernel_rfl) (by kernel_rfl) (by kernel_rfl) (fun _ _ _ h => h) (Or.inr ⟨by kernel_rfl, rfl⟩) (by assumption) ?_
  try simp only [o71_2_43, Act.put, List.setIfInBounds_toArray, List.set_cons_zero, List.set_cons_succ]
  refine wpAnyH_take (i := 44) (oi := o71_2_44) (v := ?_) rfl (by kernel_rfl) (by kernel_rfl) (by kernel_rfl) (fun _ _ _ h => h) (Or.inl ⟨by kernel_rfl, ?_⟩) (by assumption) ?_
  rotate_left
  · (intro w9 hSw; clear hSw; go_simp; try with_reducible rfl)
  try simp only [o71_2_44, Act.put, List.setIfInBounds_toArray, List.set_cons_zero, List.set_cons_succ]
  refine wpAnyH_take (i := 45) (oi := o71_2_45) (v := ?_) rfl (by kernel_rfl) (by kernel_rfl) (by kernel_rfl) (fun _ _ _ h => h) (Or.inl ⟨by kernel_rfl, ?_⟩) (by assumption) ?_
  rotate_left
  · (intro w9 hSw; clear hSw; go_simp; try with_reducible rfl)
  try simp only [o71_2_45, Act.put, List.setIfInBounds_toArray, List.set_cons_zero, List.set_cons_succ]
  refine wpAnyH_take (i := 46) (oi := o71_2_46) (v := undef) rfl (by kernel_rfl) (by kernel_rfl) (by kernel_rfl) (fun _ _ _ h => h) (Or.inr ⟨by kernel_rfl, rfl⟩) (by assumption) ?_
  try simp only [o71_2_46, Act.put, List.setIfInBounds_toArray, List.set_cons_zero, List.set_cons_succ]
  refine wpAnyH_take (i := 47) (oi := o71_2_47) (v := undef) rfl (by kernel_rfl) (by kernel_rfl) (by kernel_rfl) (fun _ _ _ h => h) (Or.inr ⟨by kernel_rfl, rfl⟩) (by assumption) ?_
  try simp only [o71_2_47, Act.put, List.setIfInBounds_toArray, List.set_cons_zero, List.set_cons_succ]
  refine wpAnyH_take (i := 48) (oi := o71_2_48) (v := undef) rfl (by kernel_rfl) (by kernel_rfl) (by kernel_rfl) (fun _ _ _ h => h) (Or.inr ⟨by kernel_rfl, rfl⟩) (by assumption) ?_
  try simp only [o71_2_48, Act.put, List.setIfInBounds_toArray, List.set_cons_zero, List.set_cons_succ]
  refine wpAnyH_take (i := 49) (oi := o71_2_49) (v := undef) rfl (by kernel_rfl) (by kernel_rfl) (by kernel_rfl) (fun _ _ _ h => h) (Or.inr ⟨by kernel_rfl, rfl⟩) (by assumption) ?_
  try simp only [o71_2_49, Act.put, List.setIfInBounds_toArray, List.set_cons_zero, List.set_cons_succ]
  refine wpAnyH_take (i := 50) (oi := o71_2_50) (v := undef) rfl (by kernel_rfl) (by kernel_rfl) (by kernel_rfl) (fun _ _ _ h => h) (Or.inr ⟨by kernel_rfl, rfl⟩) (by assumption) ?_
  try simp only [o71_2_50, Act.put, List.setIfInBounds_toArray, List.set_cons_zero, List.set_cons_succ]
  refine wpAnyH_take (i := 51) (oi := o71_2_51) (v := undef) rfl (by kernel_rfl) (by kernel_rfl) (by kernel_rfl) (fun _ _ _ h => h) (Or.inr ⟨by kernel_rfl, rfl⟩) (by assumption) ?_
  try simp only [o71_2_51, Act.put, List.setIfInBounds_toArray, List.set_cons_zero, List.set_cons_succ]
  refine wpAnyH_take (i := 52) (oi := o71_2_52) (v := undef) rfl (by kernel_rfl) (by kernel_rfl) (by kernel_rfl) (fun _ _ _ h => h) (Or.inr ⟨by kernel_rfl, rfl⟩) (by assumption) ?_
  try simp only [o71_2_52, Act.put, List.setIfInBounds_toArray, List.set_cons_zero, List.set_cons_succ]
  refine wpAnyH_take (i := 53) (oi := o71_2_53) (v := undef) rfl (by kernel_rfl) (by kernel_rfl) (by kernel_rfl) (fun _ _ _ h => h) (Or.inr ⟨by kernel_rfl, rfl⟩) (by assumption) ?_
  try simp only [o71_2_53, Act.put, List.setIfInBounds_toArray, List.set_cons_zero, List.set_cons_succ]
  refine wpAnyH_take (i := 54) (oi := o71_2_54) (v := undef) rfl (by kernel_rfl) (by kernel_rfl) (by kernel_rfl) (fun _ _ _ h => h) (Or.inr ⟨by kernel_rfl, rfl⟩) (by assumption) ?_
  try simp only [o71_2_54, Act.put, List.setIfInBounds_toArray, List.set_cons_zero, List.set_cons_succ]
  refine wpAnyH_take (i := 55) (oi := o71_2_55) (v := ?_) rfl (by kernel_rfl) (by kernel_rfl) (by kernel_rfl) (fun _ _ _ h => h) (Or.inl ⟨by kernel_rfl, ?_⟩) (by assumption) ?_
  rotate_left
  · (intro w9 hSw; clear hSw; go_simp; try with_reducible rfl)
  try simp only [o71_2_55, Act.put, List.setIfInBounds_toArray, List.set_cons_zero, List.set_cons_succ]
  refine wpAnyH_take (i := 56) (oi := o71_2_56) (v := ?_) rfl (by kernel_rfl) (by kernel_rfl) (by kernel_rfl) (fun _ _ _ h => h) (Or.inl ⟨by kernel_rfl, ?_⟩) (by assumption) ?_
  rotate_left
  · (intro w9 hSw; clear hSw; go_simp; try with_reducible rfl)
  try simp only [o71_2_56, Act.put, List.setIfInBounds_toArray, List.set_cons_zero, List.set_cons_succ]
  refine wpAnyH_done (by kernel_rfl) ?_ _
  all_goals go_wp2
  all_goals go_ret
  all_goals exact ⟨rfl, HK1.out.trans' (by first | exact ((Keeps.refl [] _).drew) | exact (((Keeps.refl [] _).drew).alloc _))⟩
set_option maxHeartbeats 4000000 in
theorem formed_5 {w w1 : World} {g c rb n : Nat} {j v1 v2 v3 sm : Int} {a0 a1 a2 a3 a4 a5 a6 a7 : Int} {b0 b1 b2 b3 b4 b5 b6 b7 : Int} {z1 z2 z3 : Bool} {r : List Value} (h1 : v1 = (n : Int)) (h2 : z1 = true) (h3 : j = v2) (h4 : a0 = b0 ∧ a1 = b1 ∧ a2 = b2 ∧ a3 = b3 ∧ a4 = b4 ∧ a5 = b5 ∧ a6 = b6 ∧ a7 = b7) (h5 : z2 = false) (F : Hid (FC w w1 g c rb n j v1 v2 v3 sm a0 a1 a2 a3 a4 a5 a6 a7 b0 b1 b2 b3 b4 b5 b6 b7 z1 z2 z3)) (hw1 : w1 = w.alloc (.cells r.toArray 52)) (hrb : rb = w.heap.size) (L : Int) (hr : r[33]? = some (.int .i64 L)) (HS68 : Hid (∀ W, Calls Tryd.prog 68 #[.int .i64 L, .int .i64 j] W fun e w' => e = .returned (.int .i64 (n : Int)) ∧ w' = W)) (hn : n ≤ 480) (hc : 512 ≤ c) :
    Calls Tryd.prog 71 #[.slice (some ⟨g, 0, none⟩) 512 c, .agg r.toArray, .int .i64 j] w fun e w' => e = .returned (.bool false) ∧ Keeps [] w w' := by
  subst h1
  subst h2
  subst h3
  obtain ⟨rfl, rfl, rfl, rfl, rfl, rfl, rfl, rfl⟩ := h4
  subst h5
  have hEq : ∀ W : World, (Op.equalIn 10000 181 (.agg #[.int .u8 a0, .int .u8 a1, .int .u8 a2, .int .u8 a3, .int .u8 a4, .int .u8 a5, .int .u8 a6, .int .u8 a7]) (.agg #[.int .u8 a0, .int .u8 a1, .int .u8 a2, .int .u8 a3, .int .u8 a4, .int .u8 a5, .int .u8 a6, .int .u8 a7])).run Tryd.prog W = .ok true W := fun W => (eq_bytes2 W 9998 181 5 8 [a0, a1, a2, a3, a4, a5, a6, a7] [a0, a1, a2, a3, a4, a5, a6, a7] Tryd.underlying181 Tryd.underlying5 info5s rfl rfl).trans (by rw [decide_eq_true rfl])
  have a33 : r.toArray[33]? = some (.int .i64 L) := by rw [List.getElem?_toArray]; exact hr
  have HK1 := Lib.hid (show Keeps [] w w1 from by rw [hw1]; exact (Keeps.refl [] w).alloc _)
  have HCL := Lib.hid (show w1.cell? ⟨rb, 33, none⟩ = some (.int .i64 L) from by rw [hw1, hrb, (StrAt.new w r.toArray 52).cell]; exact a33)
  have c4 : ¬ c = 4 := by omega
  have c6 : ¬ c = 6 := by omega
  have c8 : ¬ c = 8 := by omega
  have c12 : ¬ c = 12 := by omega
  have c20 : ¬ c = 20 := by omega
  have c508 : ¬ c = 508 := by omega
  have cc : 512 ≤ c := hc
  have l8 : 8 ≤ c := by omega
  have l20 : 20 ≤ c := by omega
  have l28 : 28 ≤ c := by omega
  have l508 : 508 ≤ c := by omega
  obtain ⟨q, hq⟩ : ∃ q, q = 28 + n := ⟨_, rfl⟩
  have HQ := Lib.hid hq
  have cq : ¬ c = q := by omega
  have q508 : q ≤ 508 := by omega
  have eq28 : 28 + (n : Int) = (q : Int) := by omega
  have wq : IntKind.i64.wrap (q : Int) = (q : Int) := IntWalk.i64_in _ (by omega)
  have i8 : ((8 : Int) ≤ (c : Int)) = True := eq_true (by omega)
  have i20 : ((20 : Int) ≤ (c : Int)) = True := eq_true (by omega)
  have i28 : ((28 : Int) ≤ (c : Int)) = True := eq_true (by omega)
  have i508 : ((508 : Int) ≤ (c : Int)) = True := eq_true (by omega)
  have iq : ((q : Int) ≤ 508) = True := eq_true (by omega)
  have hArG : ∀ W : World, (Instr.arrayAt 181 (.slice (some ⟨g, 12, none⟩) 8 (c - 12))).run Tryd.prog W = .ok (.pointer (some ⟨g, 12, none⟩)) W := fun W => by
    simp [Instr.arrayAt, run_underlying Tryd.underlying181, Result.andThen]
  have hArR : ∀ W : World, (Instr.arrayAt 181 (.slice (some ⟨rb, 0, none⟩) 8 32)).run Tryd.prog W = .ok (.pointer (some ⟨rb, 0, none⟩)) W := fun W => by
    simp [Instr.arrayAt, run_underlying Tryd.underlying181, Result.andThen]
  clear hn hq
  go_enter Tryd.func71, Tryd.ntmps71
  go_wp2_with (go_at_call 68; refine (HS68.out _).mono ?_; rintro e w0 ⟨rfl, rfl⟩)
  rw [← hw1, ← hrb]
  clear hw1 hrb a33 HCL
  refine wp_region_held_drew (S := fun W => W.cell? ⟨g, 12, none⟩ = some (.int .u8 a0) ∧ W.cell? ⟨g, 13, none⟩ = some (.int .u8 a1) ∧ W.cell? ⟨g, 14, none⟩ = some (.int .u8 a2) ∧ W.cell? ⟨g, 15, none⟩ = some (.int .u8 a3) ∧ W.cell? ⟨g, 16, none⟩ = some (.int .u8 a4) ∧ W.cell? ⟨g, 17, none⟩ = some (.int .u8 a5) ∧ W.cell? ⟨g, 18, none⟩ = some (.int .u8 a6) ∧ W.cell? ⟨g, 19, none⟩ = some (.int .u8 a7) ∧ W.cell? ⟨rb, 0, none⟩ = some (.int .u8 a0) ∧ W.cell? ⟨rb, 1, none⟩ = some (.int .u8 a1) ∧ W.cell? ⟨rb, 2, none⟩ = some (.int .u8 a2) ∧ W.cell? ⟨rb, 3, none⟩ = some (.int .u8 a3) ∧ W.cell? ⟨rb, 4, none⟩ = some (.int .u8 a4) ∧ W.cell? ⟨rb, 5, none⟩ = some (.int .u8 a5) ∧ W.cell? ⟨rb, 6, none⟩ = some (.int .u8 a6) ∧ W.cell? ⟨rb, 7, none⟩ = some (.int .u8 a7)) (by kernel_rfl) (F.out.ss _ ((Keeps.refl [] _).drew)) (fun hHeld => ?_)
  refine wpAnyH_take (i := 0) (oi := o71_2_0) (v := ?_) rfl (by kernel_rfl) (by kernel_rfl) (by kernel_rfl) (fun _ _ _ h => h) (Or.inl ⟨by kernel_rfl, ?_⟩) (by assumption) ?_
  rotate_left
  · (intro w9 hSw; clear hSw; go_simp; try with_reducible rfl)
  try simp only [o71_2_0, Act.put, List.setIfInBounds_toArray, List.set_cons_zero, List.set_cons_succ]
  refine wpAnyH_ready (rs := [1]) (by kernel_rfl) (by simp) ?_
  refine AllReadyH.cons (o := o71_2_1) rfl (fun K hK => ?_) AllReadyH.nil
  go_simp
  refine hK.out _ _ (F.out.ss _ ((Keeps.refl [] _).drew)) (fun hHeld1 => ?_)
  clear hK K hHeld
  try simp only [o71_2_1, Act.put, List.setIfInBounds_toArray, List.set_cons_zero, List.set_cons_succ]
  refine wpAnyH_take (i := 2) (oi := o71_2_2) (v := ?_) rfl (by kernel_rfl) (by kernel_rfl) (by kernel_rfl) (fun _ _ _ h => h) (Or.inl ⟨by kernel_rfl, ?_⟩) (by assumption) ?_
  rotate_left
  · (intro w9 hSw; clear hSw; go_simp; try with_reducible rfl)
  try simp only [o71_2_2, Act.put, List.setIfInBounds_toArray, List.set_cons_zero, List.set_cons_succ]
  refine wpAnyH_take (i := 3) (oi := o71_2_3) (v := ?_) rfl (by kernel_rfl) (by kernel_rfl) (by kernel_rfl) (fun _ _ _ h => h) (Or.inl ⟨by kernel_rfl, ?_⟩) (by assumption) ?_
  rotate_left
  · (intro w9 hSw; clear hSw; go_simp; try with_reducible rfl)
  try simp only [o71_2_3, Act.put, List.setIfInBounds_toArray, List.set_cons_zero, List.set_cons_succ]
  refine wpAnyH_take (i := 4) (oi := o71_2_4) (v := ?_) rfl (by kernel_rfl) (by kernel_rfl) (by kernel_rfl) (fun _ _ _ h => h) (Or.inl ⟨by kernel_rfl, ?_⟩) (by assumption) ?_
  rotate_left
  · (intro w9 hSw; clear hSw; go_simp; try with_reducible rfl)
  try simp only [o71_2_4, Act.put, List.setIfInBounds_toArray, List.set_cons_zero, List.set_cons_succ]
  refine wpAnyH_take (i := 5) (oi := o71_2_5) (v := ?_) rfl (by kernel_rfl) (by kernel_rfl) (by kernel_rfl) (fun _ _ _ h => h) (Or.inl ⟨by kernel_rfl, ?_⟩) (by assumption) ?_
  rotate_left
  · (intro w9 hSw; clear hSw; go_simp; try with_reducible rfl)
  try simp only [o71_2_5, Act.put, List.setIfInBounds_toArray, List.set_cons_zero, List.set_cons_succ]
  refine wpAnyH_take (i := 7) (oi := o71_2_7) (v := ?_) rfl (by kernel_rfl) (by kernel_rfl) (by kernel_rfl) (fun _ _ _ h => h) (Or.inl ⟨by kernel_rfl, ?_⟩) (by assumption) ?_
  rotate_left
  · (intro w9 hSw; clear hSw; go_simp; try with_reducible rfl)
  try simp only [o71_2_7, Act.put, List.setIfInBounds_toArray, List.set_cons_zero, List.set_cons_succ]
  refine wpAnyH_ready (rs := [6]) (by kernel_rfl) (by simp) ?_
  refine AllReadyH.cons (o := o71_2_6) rfl (fun K hK => ?_) AllReadyH.nil
  go_simp
  refine (F.out.n1 _ ((Keeps.refl [] _).drew)).mono ?_
  rintro e w9 ⟨rfl, rfl⟩
  refine hK.out _ _ (F.out.ss _ ((Keeps.refl [] _).drew)) (fun hHeld6 => ?_)
  clear hK K hHeld1
  try simp only [o71_2_6, Act.put, List.setIfInBounds_toArray, List.set_cons_zero, List.set_cons_succ]
  refine wpAnyH_take (i := 8) (oi := o71_2_8) (v := ?_) rfl (by kernel_rfl) (by kernel_rfl) (by kernel_rfl) (fun _ _ _ h => h) (Or.inl ⟨by kernel_rfl, ?_⟩) (by assumption) ?_
  rotate_left
  · (intro w9 hSw; clear hSw; go_simp; try with_reducible rfl)
  try simp only [o71_2_8, Act.put, List.setIfInBounds_toArray, List.set_cons_zero, List.set_cons_succ]
  refine wpAnyH_take (i := 9) (oi := o71_2_9) (v := ?_) rfl (by kernel_rfl) (by kernel_rfl) (by kernel_rfl) (fun _ _ _ h => h) (Or.inl ⟨by kernel_rfl, ?_⟩) (by assumption) ?_
  rotate_left
  · (intro w9 hSw; clear hSw; go_simp; try with_reducible rfl)
  try simp only [o71_2_9, Act.put, List.setIfInBounds_toArray, List.set_cons_zero, List.set_cons_succ]
  refine wpAnyH_take (i := 10) (oi := o71_2_10) (v := ?_) rfl (by kernel_rfl) (by kernel_rfl) (by kernel_rfl) (fun _ _ _ h => h) (Or.inl ⟨by kernel_rfl, ?_⟩) (by assumption) ?_
  rotate_left
  · (intro w9 hSw; clear hSw; go_simp; try with_reducible rfl)
  try simp only [o71_2_10, Act.put, List.setIfInBounds_toArray, List.set_cons_zero, List.set_cons_succ]
  refine wpAnyH_take (i := 11) (oi := o71_2_11) (v := ?_) rfl (by kernel_rfl) (by kernel_rfl) (by kernel_rfl) (fun _ _ _ h => h) (Or.inl ⟨by kernel_rfl, ?_⟩) (by assumption) ?_
  rotate_left
  · (intro w9 hSw; clear hSw; go_simp; try with_reducible rfl)
  try simp only [o71_2_11, Act.put, List.setIfInBounds_toArray, List.set_cons_zero, List.set_cons_succ]
  refine wpAnyH_take (i := 12) (oi := o71_2_12) (v := ?_) rfl (by kernel_rfl) (by kernel_rfl) (by kernel_rfl) (fun _ _ _ h => h) (Or.inl ⟨by kernel_rfl, ?_⟩) (by assumption) ?_
  rotate_left
  · (intro w9 hSw; clear hSw; go_simp; try with_reducible rfl)
  try simp only [o71_2_12, Act.put, List.setIfInBounds_toArray, List.set_cons_zero, List.set_cons_succ]
  refine wpAnyH_ready (rs := [13]) (by kernel_rfl) (by simp) ?_
  refine AllReadyH.cons (o := o71_2_13) rfl (fun K hK => ?_) AllReadyH.nil
  go_simp
  refine (F.out.y1 _ ((Keeps.refl [] _).drew)).mono ?_
  rintro e w9 ⟨rfl, rfl⟩
  refine hK.out _ _ (F.out.ss _ ((Keeps.refl [] _).drew)) (fun hHeld13 => ?_)
  clear hK K hHeld6
  try simp only [o71_2_13, Act.put, List.setIfInBounds_toArray, List.set_cons_zero, List.set_cons_succ]
  refine wpAnyH_take (i := 14) (oi := o71_2_14) (v := ?_) rfl (by kernel_rfl) (by kernel_rfl) (by kernel_rfl) (fun _ _ _ h => h) (Or.inl ⟨by kernel_rfl, ?_⟩) (by assumption) ?_
  rotate_left
  · (intro w9 hSw; clear hSw; go_simp; try with_reducible rfl)
  try simp only [o71_2_14, Act.put, List.setIfInBounds_toArray, List.set_cons_zero, List.set_cons_succ]
  refine wpAnyH_take (i := 15) (oi := o71_2_15) (v := ?_) rfl (by kernel_rfl) (by kernel_rfl) (by kernel_rfl) (fun _ _ _ h => h) (Or.inl ⟨by kernel_rfl, ?_⟩) (by assumption) ?_
  rotate_left
  · (intro w9 hSw; clear hSw; go_simp; try with_reducible rfl)
  try simp only [o71_2_15, Act.put, List.setIfInBounds_toArray, List.set_cons_zero, List.set_cons_succ]
  refine wpAnyH_take (i := 16) (oi := o71_2_16) (v := ?_) rfl (by kernel_rfl) (by kernel_rfl) (by kernel_rfl) (fun _ _ _ h => h) (Or.inl ⟨by kernel_rfl, ?_⟩) (by assumption) ?_
  rotate_left
  · (intro w9 hSw; clear hSw; go_simp; try with_reducible rfl)
  try simp only [o71_2_16, Act.put, List.setIfInBounds_toArray, List.set_cons_zero, List.set_cons_succ]
  refine wpAnyH_take (i := 17) (oi := o71_2_17) (v := ?_) rfl (by kernel_rfl) (by kernel_rfl) (by kernel_rfl) (fun _ _ _ h => h) (Or.inl ⟨by kernel_rfl, ?_⟩) (by assumption) ?_
  rotate_left
  · (intro w9 hSw; clear hSw; go_simp; try with_reducible rfl)
  try simp only [o71_2_17, Act.put, List.setIfInBounds_toArray, List.set_cons_zero, List.set_cons_succ]
  refine wpAnyH_take (i := 19) (oi := o71_2_19) (v := ?_) rfl (by kernel_rfl) (by kernel_rfl) (by kernel_rfl) (fun _ _ _ h => h) (Or.inl ⟨by kernel_rfl, ?_⟩) (by assumption) ?_
  rotate_left
  · (intro w9 hSw; clear hSw; go_simp; try with_reducible rfl)
  try simp only [o71_2_19, Act.put, List.setIfInBounds_toArray, List.set_cons_zero, List.set_cons_succ]
  refine wpAnyH_ready (rs := [18]) (by kernel_rfl) (by simp) ?_
  refine AllReadyH.cons (o := o71_2_18) rfl (fun K hK => ?_) AllReadyH.nil
  go_simp
  refine (F.out.n2 _ ((Keeps.refl [] _).drew)).mono ?_
  rintro e w9 ⟨rfl, rfl⟩
  refine hK.out _ _ (F.out.ss _ ((Keeps.refl [] _).drew)) (fun hHeld18 => ?_)
  clear hK K hHeld13
  try simp only [o71_2_18, Act.put, List.setIfInBounds_toArray, List.set_cons_zero, List.set_cons_succ]
  refine wpAnyH_take (i := 20) (oi := o71_2_20) (v := ?_) rfl (by kernel_rfl) (by kernel_rfl) (by kernel_rfl) (fun _ _ _ h => h) (Or.inl ⟨by kernel_rfl, ?_⟩) (by assumption) ?_
  rotate_left
  · (intro w9 hSw; clear hSw; go_simp; try with_reducible rfl)
  try simp only [o71_2_20, Act.put, List.setIfInBounds_toArray, List.set_cons_zero, List.set_cons_succ]
  refine wpAnyH_take (i := 21) (oi := o71_2_21) (v := ?_) rfl (by kernel_rfl) (by kernel_rfl) (by kernel_rfl) (fun _ _ _ h => h) (Or.inl ⟨by kernel_rfl, ?_⟩) (by assumption) ?_
  rotate_left
  · (intro w9 hSw; clear hSw; go_simp; try with_reducible rfl)
  try simp only [o71_2_21, Act.put, List.setIfInBounds_toArray, List.set_cons_zero, List.set_cons_succ]
  refine wpAnyH_take (i := 22) (oi := o71_2_22) (v := ?_) rfl (by kernel_rfl) (by kernel_rfl) (by kernel_rfl) (fun _ _ _ h => h) (Or.inl ⟨by kernel_rfl, ?_⟩) (by assumption) ?_
  rotate_left
  · (intro w9 hSw; clear hSw; go_simp; try with_reducible rfl)
  try simp only [o71_2_22, Act.put, List.setIfInBounds_toArray, List.set_cons_zero, List.set_cons_succ]
  refine wpAnyH_take (i := 23) (oi := o71_2_23) (v := ?_) rfl (by kernel_rfl) (by kernel_rfl) (by kernel_rfl) (fun _ _ _ h => h) (Or.inl ⟨by kernel_rfl, ?_⟩) (by assumption) ?_
  rotate_left
  · (intro w9 hSw; clear hSw; go_simp; try with_reducible rfl)
  try simp only [o71_2_23, Act.put, List.setIfInBounds_toArray, List.set_cons_zero, List.set_cons_succ]
  refine wpAnyH_take (i := 24) (oi := o71_2_24) (v := ?_) rfl (by kernel_rfl) (by kernel_rfl) (by kernel_rfl) (fun _ _ _ h => h) (Or.inl ⟨by kernel_rfl, ?_⟩) (by assumption) ?_
  rotate_left
  · (intro w9 hSw; clear hSw; go_simp; try with_reducible rfl)
  try simp only [o71_2_24, Act.put, List.setIfInBounds_toArray, List.set_cons_zero, List.set_cons_succ]
  refine wpAnyH_take (i := 25) (oi := o71_2_25) (v := ?_) rfl (by kernel_rfl) (by kernel_rfl) (by kernel_rfl) (fun _ _ _ h => h) (Or.inl ⟨by kernel_rfl, ?_⟩) (by assumption) ?_
  rotate_left
  · (intro w9 hSw; clear hSw; go_simp; try with_reducible rfl)
  try simp only [o71_2_25, Act.put, List.setIfInBounds_toArray, List.set_cons_zero, List.set_cons_succ]
  refine wpAnyH_take (i := 26) (oi := o71_2_26) (v := ?_) rfl (by kernel_rfl) (by kernel_rfl) (by kernel_rfl) (fun _ _ _ h => h) (Or.inl ⟨by kernel_rfl, ?_⟩) (by assumption) ?_
  rotate_left
  · (intro w9 hSw; obtain ⟨s0, s1, s2, s3, s4, s5, s6, s7, s8, s9, s10, s11, s12, s13, s14, s15⟩ := hSw; (try dsimp only at hSw); go_simp; try with_reducible rfl)
  try simp only [o71_2_26, Act.put, List.setIfInBounds_toArray, List.set_cons_zero, List.set_cons_succ]
  refine wpAnyH_take (i := 27) (oi := o71_2_27) (v := ?_) rfl (by kernel_rfl) (by kernel_rfl) (by kernel_rfl) (fun _ _ _ h => h) (Or.inl ⟨by kernel_rfl, ?_⟩) (by assumption) ?_
  rotate_left
  · (intro w9 hSw; clear hSw; go_simp; try with_reducible rfl)
  try simp only [o71_2_27, Act.put, List.setIfInBounds_toArray, List.set_cons_zero, List.set_cons_succ]
  refine wpAnyH_take (i := 28) (oi := o71_2_28) (v := ?_) rfl (by kernel_rfl) (by kernel_rfl) (by kernel_rfl) (fun _ _ _ h => h) (Or.inl ⟨by kernel_rfl, ?_⟩) (by assumption) ?_
  rotate_left
  · (intro w9 hSw; clear hSw; go_simp; try with_reducible rfl)
  try simp only [o71_2_28, Act.put, List.setIfInBounds_toArray, List.set_cons_zero, List.set_cons_succ]
  refine wpAnyH_take (i := 29) (oi := o71_2_29) (v := ?_) rfl (by kernel_rfl) (by kernel_rfl) (by kernel_rfl) (fun _ _ _ h => h) (Or.inl ⟨by kernel_rfl, ?_⟩) (by assumption) ?_
  rotate_left
  · (intro w9 hSw; clear hSw; go_simp; try with_reducible rfl)
  try simp only [o71_2_29, Act.put, List.setIfInBounds_toArray, List.set_cons_zero, List.set_cons_succ]
  refine wpAnyH_take (i := 30) (oi := o71_2_30) (v := ?_) rfl (by kernel_rfl) (by kernel_rfl) (by kernel_rfl) (fun _ _ _ h => h) (Or.inl ⟨by kernel_rfl, ?_⟩) (by assumption) ?_
  rotate_left
  · (intro w9 hSw; obtain ⟨s0, s1, s2, s3, s4, s5, s6, s7, s8, s9, s10, s11, s12, s13, s14, s15⟩ := hSw; (try dsimp only at hSw); go_simp; try with_reducible rfl)
  try simp only [o71_2_30, Act.put, List.setIfInBounds_toArray, List.set_cons_zero, List.set_cons_succ]
  refine wpAnyH_take (i := 31) (oi := o71_2_31) (v := ?_) rfl (by kernel_rfl) (by kernel_rfl) (by kernel_rfl) (fun _ _ _ h => h) (Or.inl ⟨by kernel_rfl, ?_⟩) (by assumption) ?_
  rotate_left
  · (intro w9 hSw; clear hSw; go_simp; try with_reducible rfl)
  try simp only [o71_2_31, Act.put, List.setIfInBounds_toArray, List.set_cons_zero, List.set_cons_succ]
  refine wpAnyH_take (i := 32) (oi := o71_2_32) (v := ?_) rfl (by kernel_rfl) (by kernel_rfl) (by kernel_rfl) (fun _ _ _ h => h) (Or.inl ⟨by kernel_rfl, ?_⟩) (by assumption) ?_
  rotate_left
  · (intro w9 hSw; clear hSw; go_simp; try with_reducible rfl)
  try simp only [o71_2_32, Act.put, List.setIfInBounds_toArray, List.set_cons_zero, List.set_cons_succ]
  refine wpAnyH_take (i := 33) (oi := o71_2_33) (v := ?_) rfl (by kernel_rfl) (by kernel_rfl) (by kernel_rfl) (fun _ _ _ h => h) (Or.inl ⟨by kernel_rfl, ?_⟩) (by assumption) ?_
  rotate_left
  · (intro w9 hSw; clear hSw; go_simp; try with_reducible rfl)
  try simp only [o71_2_33, Act.put, List.setIfInBounds_toArray, List.set_cons_zero, List.set_cons_succ]
  refine wpAnyH_take (i := 34) (oi := o71_2_34) (v := ?_) rfl (by kernel_rfl) (by kernel_rfl) (by kernel_rfl) (fun _ _ _ h => h) (Or.inl ⟨by kernel_rfl, ?_⟩) (by assumption) ?_
  rotate_left
  · (intro w9 hSw; clear hSw; go_simp; try with_reducible rfl)
  try simp only [o71_2_34, Act.put, List.setIfInBounds_toArray, List.set_cons_zero, List.set_cons_succ]
  refine wpAnyH_take (i := 35) (oi := o71_2_35) (v := ?_) rfl (by kernel_rfl) (by kernel_rfl) (by kernel_rfl) (fun _ _ _ h => h) (Or.inl ⟨by kernel_rfl, ?_⟩) (by assumption) ?_
  rotate_left
  · (intro w9 hSw; clear hSw; go_simp; try with_reducible rfl)
  try simp only [o71_2_35, Act.put, List.setIfInBounds_toArray, List.set_cons_zero, List.set_cons_succ]
  refine wpAnyH_ready (rs := [36]) (by kernel_rfl) (by simp) ?_
  refine AllReadyH.cons (o := o71_2_36) rfl (fun K hK => ?_) AllReadyH.nil
  go_simp
  refine (F.out.y2 _ ((Keeps.refl [] _).drew)).mono ?_
  rintro e w9 ⟨rfl, rfl⟩
  refine hK.out _ _ (F.out.ss _ ((Keeps.refl [] _).drew)) (fun hHeld36 => ?_)
  clear hK K hHeld18
  try simp only [o71_2_36, Act.put, List.setIfInBounds_toArray, List.set_cons_zero, List.set_cons_succ]
  refine wpAnyH_take (i := 37) (oi := o71_2_37) (v := ?_) rfl (by kernel_rfl) (by kernel_rfl) (by kernel_rfl) (fun _ _ _ h => h) (Or.inl ⟨by kernel_rfl, ?_⟩) (by assumption) ?_
  rotate_left
  · (intro w9 hSw; clear hSw; go_simp; try with_reducible rfl)
  try simp only [o71_2_37, Act.put, List.setIfInBounds_toArray, List.set_cons_zero, List.set_cons_succ]
  refine wpAnyH_take (i := 38) (oi := o71_2_38) (v := ?_) rfl (by kernel_rfl) (by kernel_rfl) (by kernel_rfl) (fun _ _ _ h => h) (Or.inl ⟨by kernel_rfl, ?_⟩) (by assumption) ?_
  rotate_left
  · (intro w9 hSw; clear hSw; go_simp; try with_reducible rfl)
  try simp only [o71_2_38, Act.put, List.setIfInBounds_toArray, List.set_cons_zero, List.set_cons_succ]
  refine wpAnyH_take (i := 39) (oi := o71_2_39) (v := undef) rfl (by kernel_rfl) (by kernel_rfl) (by kernel_rfl) (fun _ _ _ h => h) (Or.inr ⟨by kernel_rfl, rfl⟩) (by assumption) ?_
  try simp only [o71_2_39, Act.put, List.setIfInBounds_toArray, List.set_cons_zero, List.set_cons_succ]
  refine wpAnyH_take (i := 40) (oi := o71_2_40) (v := undef) rfl (by kernel_rfl) (by kernel_rfl) (by kernel_rfl) (fun _ _ _ h => h) (Or.inr ⟨by kernel_rfl, rfl⟩) (by assumption) ?_
  try simp only [o71_2_40, Act.put, List.setIfInBounds_toArray, List.set_cons_zero, List.set_cons_succ]
  refine wpAnyH_take (i := 41) (oi := o71_2_41) (v := undef) rfl (by kernel_rfl) (by kernel_rfl) (by kernel_rfl) (fun _ _ _ h => h) (Or.inr ⟨by kernel_rfl, rfl⟩) (by assumption) ?_
  try simp only [o71_2_41, Act.put, List.setIfInBounds_toArray, List.set_cons_zero, List.set_cons_succ]
  refine wpAnyH_take (i := 42) (oi := o71_2_42) (v := undef) rfl (by kernel_rfl) (by kernel_rfl) (by kernel_rfl) (fun _ _ _ h => h) (Or.inr ⟨by kernel_rfl, rfl⟩) (by assumption) ?_
  try simp only [o71_2_42, Act.put, List.setIfInBounds_toArray, List.set_cons_zero, List.set_cons_succ]
  refine wpAnyH_take (i := 43) (oi := o71_2_43) (v := undef) rfl (by kernel_rfl) (by kernel_rfl) (by kernel_rfl) (fun _ _ _ h => h) (Or.inr ⟨by kernel_rfl, rfl⟩) (by assumption) ?_
  try simp only [o71_2_43, Act.put, List.setIfInBounds_toArray, List.set_cons_zero, List.set_cons_succ]
  refine wpAnyH_take (i := 44) (oi := o71_2_44) (v := ?_) rfl (by kernel_rfl) (by kernel_rfl) (by kernel_rfl) (fun _ _ _ h => h) (Or.inl ⟨by kernel_rfl, ?_⟩) (by assumption) ?_
  rotate_left
  · (intro w9 hSw; clear hSw; go_simp; try with_reducible rfl)
  try simp only [o71_2_44, Act.put, List.setIfInBounds_toArray, List.set_cons_zero, List.set_cons_succ]
  refine wpAnyH_take (i := 45) (oi := o71_2_45) (v := ?_) rfl (by kernel_rfl) (by kernel_rfl) (by kernel_rfl) (fun _ _ _ h => h) (Or.inl ⟨by kernel_rfl, ?_⟩) (by assumption) ?_
  rotate_left
  · (intro w9 hSw; clear hSw; go_simp; try with_reducible rfl)
  try simp only [o71_2_45, Act.put, List.setIfInBounds_toArray, List.set_cons_zero, List.set_cons_succ]
  refine wpAnyH_take (i := 46) (oi := o71_2_46) (v := undef) rfl (by kernel_rfl) (by kernel_rfl) (by kernel_rfl) (fun _ _ _ h => h) (Or.inr ⟨by kernel_rfl, rfl⟩) (by assumption) ?_
  try simp only [o71_2_46, Act.put, List.setIfInBounds_toArray, List.set_cons_zero, List.set_cons_succ]
  refine wpAnyH_take (i := 47) (oi := o71_2_47) (v := undef) rfl (by kernel_rfl) (by kernel_rfl) (by kernel_rfl) (fun _ _ _ h => h) (Or.inr ⟨by kernel_rfl, rfl⟩) (by assumption) ?_
  try simp only [o71_2_47, Act.put, List.setIfInBounds_toArray, List.set_cons_zero, List.set_cons_succ]
  refine wpAnyH_take (i := 48) (oi := o71_2_48) (v := undef) rfl (by kernel_rfl) (by kernel_rfl) (by kernel_rfl) (fun _ _ _ h => h) (Or.inr ⟨by kernel_rfl, rfl⟩) (by assumption) ?_
  try simp only [o71_2_48, Act.put, List.setIfInBounds_toArray, List.set_cons_zero, List.set_cons_succ]
  refine wpAnyH_take (i := 49) (oi := o71_2_49) (v := undef) rfl (by kernel_rfl) (by kernel_rfl) (by kernel_rfl) (fun _ _ _ h => h) (Or.inr ⟨by kernel_rfl, rfl⟩) (by assumption) ?_
  try simp only [o71_2_49, Act.put, List.setIfInBounds_toArray, List.set_cons_zero, List.set_cons_succ]
  refine wpAnyH_take (i := 50) (oi := o71_2_50) (v := undef) rfl (by kernel_rfl) (by kernel_rfl) (by kernel_rfl) (fun _ _ _ h => h) (Or.inr ⟨by kernel_rfl, rfl⟩) (by assumption) ?_
  try simp only [o71_2_50, Act.put, List.setIfInBounds_toArray, List.set_cons_zero, List.set_cons_succ]
  refine wpAnyH_take (i := 51) (oi := o71_2_51) (v := undef) rfl (by kernel_rfl) (by kernel_rfl) (by kernel_rfl) (fun _ _ _ h => h) (Or.inr ⟨by kernel_rfl, rfl⟩) (by assumption) ?_
  try simp only [o71_2_51, Act.put, List.setIfInBounds_toArray, List.set_cons_zero, List.set_cons_succ]
  refine wpAnyH_take (i := 52) (oi := o71_2_52) (v := undef) rfl (by kernel_rfl) (by kernel_rfl) (by kernel_rfl) (fun _ _ _ h => h) (Or.inr ⟨by kernel_rfl, rfl⟩) (by assumption) ?_
  try simp only [o71_2_52, Act.put, List.setIfInBounds_toArray, List.set_cons_zero, List.set_cons_succ]
  refine wpAnyH_take (i := 53) (oi := o71_2_53) (v := undef) rfl (by kernel_rfl) (by kernel_rfl) (by kernel_rfl) (fun _ _ _ h => h) (Or.inr ⟨by kernel_rfl, rfl⟩) (by assumption) ?_
  try simp only [o71_2_53, Act.put, List.setIfInBounds_toArray, List.set_cons_zero, List.set_cons_succ]
  refine wpAnyH_take (i := 54) (oi := o71_2_54) (v := undef) rfl (by kernel_rfl) (by kernel_rfl) (by kernel_rfl) (fun _ _ _ h => h) (Or.inr ⟨by kernel_rfl, rfl⟩) (by assumption) ?_
  try simp only [o71_2_54, Act.put, List.setIfInBounds_toArray, List.set_cons_zero, List.set_cons_succ]
  refine wpAnyH_take (i := 55) (oi := o71_2_55) (v := ?_) rfl (by kernel_rfl) (by kernel_rfl) (by kernel_rfl) (fun _ _ _ h => h) (Or.inl ⟨by kernel_rfl, ?_⟩) (by assumption) ?_
  rotate_left
  · (intro w9 hSw; clear hSw; go_simp; try with_reducible rfl)
  try simp only [o71_2_55, Act.put, List.setIfInBounds_toArray, List.set_cons_zero, List.set_cons_succ]
  refine wpAnyH_take (i := 56) (oi := o71_2_56) (v := ?_) rfl (by kernel_rfl) (by kernel_rfl) (by kernel_rfl) (fun _ _ _ h => h) (Or.inl ⟨by kernel_rfl, ?_⟩) (by assumption) ?_
  rotate_left
  · (intro w9 hSw; clear hSw; go_simp; try with_reducible rfl)
  try simp only [o71_2_56, Act.put, List.setIfInBounds_toArray, List.set_cons_zero, List.set_cons_succ]
  refine wpAnyH_done (by kernel_rfl) ?_ _
  all_goals go_wp2
  all_goals go_ret
  all_goals exact ⟨rfl, HK1.out.trans' (by first | exact ((Keeps.refl [] _).drew) | exact (((Keeps.refl [] _).drew).alloc _))⟩
set_option maxHeartbeats 4000000 in
theorem formed_6 {w w1 : World} {g c rb n : Nat} {j v1 v2 v3 sm : Int} {a0 a1 a2 a3 a4 a5 a6 a7 : Int} {b0 b1 b2 b3 b4 b5 b6 b7 : Int} {z1 z2 z3 : Bool} {r : List Value} (h1 : v1 = (n : Int)) (h2 : z1 = true) (h3 : j = v2) (h4 : a0 = b0 ∧ a1 = b1 ∧ a2 = b2 ∧ a3 = b3 ∧ a4 = b4 ∧ a5 = b5 ∧ a6 = b6 ∧ a7 = b7) (h5 : z2 = true) (h6 : z3 = false) (F : Hid (FC w w1 g c rb n j v1 v2 v3 sm a0 a1 a2 a3 a4 a5 a6 a7 b0 b1 b2 b3 b4 b5 b6 b7 z1 z2 z3)) (hw1 : w1 = w.alloc (.cells r.toArray 52)) (hrb : rb = w.heap.size) (L : Int) (hr : r[33]? = some (.int .i64 L)) (HS68 : Hid (∀ W, Calls Tryd.prog 68 #[.int .i64 L, .int .i64 j] W fun e w' => e = .returned (.int .i64 (n : Int)) ∧ w' = W)) (hn : n ≤ 480) (hc : 512 ≤ c) :
    Calls Tryd.prog 71 #[.slice (some ⟨g, 0, none⟩) 512 c, .agg r.toArray, .int .i64 j] w fun e w' => e = .returned (.bool false) ∧ Keeps [] w w' := by
  subst h1
  subst h2
  subst h3
  obtain ⟨rfl, rfl, rfl, rfl, rfl, rfl, rfl, rfl⟩ := h4
  subst h5
  subst h6
  have hEq : ∀ W : World, (Op.equalIn 10000 181 (.agg #[.int .u8 a0, .int .u8 a1, .int .u8 a2, .int .u8 a3, .int .u8 a4, .int .u8 a5, .int .u8 a6, .int .u8 a7]) (.agg #[.int .u8 a0, .int .u8 a1, .int .u8 a2, .int .u8 a3, .int .u8 a4, .int .u8 a5, .int .u8 a6, .int .u8 a7])).run Tryd.prog W = .ok true W := fun W => (eq_bytes2 W 9998 181 5 8 [a0, a1, a2, a3, a4, a5, a6, a7] [a0, a1, a2, a3, a4, a5, a6, a7] Tryd.underlying181 Tryd.underlying5 info5s rfl rfl).trans (by rw [decide_eq_true rfl])
  have a33 : r.toArray[33]? = some (.int .i64 L) := by rw [List.getElem?_toArray]; exact hr
  have HK1 := Lib.hid (show Keeps [] w w1 from by rw [hw1]; exact (Keeps.refl [] w).alloc _)
  have HCL := Lib.hid (show w1.cell? ⟨rb, 33, none⟩ = some (.int .i64 L) from by rw [hw1, hrb, (StrAt.new w r.toArray 52).cell]; exact a33)
  have c4 : ¬ c = 4 := by omega
  have c6 : ¬ c = 6 := by omega
  have c8 : ¬ c = 8 := by omega
  have c12 : ¬ c = 12 := by omega
  have c20 : ¬ c = 20 := by omega
  have c508 : ¬ c = 508 := by omega
  have cc : 512 ≤ c := hc
  have l8 : 8 ≤ c := by omega
  have l20 : 20 ≤ c := by omega
  have l28 : 28 ≤ c := by omega
  have l508 : 508 ≤ c := by omega
  obtain ⟨q, hq⟩ : ∃ q, q = 28 + n := ⟨_, rfl⟩
  have HQ := Lib.hid hq
  have cq : ¬ c = q := by omega
  have q508 : q ≤ 508 := by omega
  have eq28 : 28 + (n : Int) = (q : Int) := by omega
  have wq : IntKind.i64.wrap (q : Int) = (q : Int) := IntWalk.i64_in _ (by omega)
  have i8 : ((8 : Int) ≤ (c : Int)) = True := eq_true (by omega)
  have i20 : ((20 : Int) ≤ (c : Int)) = True := eq_true (by omega)
  have i28 : ((28 : Int) ≤ (c : Int)) = True := eq_true (by omega)
  have i508 : ((508 : Int) ≤ (c : Int)) = True := eq_true (by omega)
  have iq : ((q : Int) ≤ 508) = True := eq_true (by omega)
  have hArG : ∀ W : World, (Instr.arrayAt 181 (.slice (some ⟨g, 12, none⟩) 8 (c - 12))).run Tryd.prog W = .ok (.pointer (some ⟨g, 12, none⟩)) W := fun W => by
    simp [Instr.arrayAt, run_underlying Tryd.underlying181, Result.andThen]
  have hArR : ∀ W : World, (Instr.arrayAt 181 (.slice (some ⟨rb, 0, none⟩) 8 32)).run Tryd.prog W = .ok (.pointer (some ⟨rb, 0, none⟩)) W := fun W => by
    simp [Instr.arrayAt, run_underlying Tryd.underlying181, Result.andThen]
  clear hn hq
  go_enter Tryd.func71, Tryd.ntmps71
  go_wp2_with (go_at_call 68; refine (HS68.out _).mono ?_; rintro e w0 ⟨rfl, rfl⟩)
  rw [← hw1, ← hrb]
  clear hw1 hrb a33 HCL
  refine wp_region_held_drew (S := fun W => W.cell? ⟨g, 12, none⟩ = some (.int .u8 a0) ∧ W.cell? ⟨g, 13, none⟩ = some (.int .u8 a1) ∧ W.cell? ⟨g, 14, none⟩ = some (.int .u8 a2) ∧ W.cell? ⟨g, 15, none⟩ = some (.int .u8 a3) ∧ W.cell? ⟨g, 16, none⟩ = some (.int .u8 a4) ∧ W.cell? ⟨g, 17, none⟩ = some (.int .u8 a5) ∧ W.cell? ⟨g, 18, none⟩ = some (.int .u8 a6) ∧ W.cell? ⟨g, 19, none⟩ = some (.int .u8 a7) ∧ W.cell? ⟨rb, 0, none⟩ = some (.int .u8 a0) ∧ W.cell? ⟨rb, 1, none⟩ = some (.int .u8 a1) ∧ W.cell? ⟨rb, 2, none⟩ = some (.int .u8 a2) ∧ W.cell? ⟨rb, 3, none⟩ = some (.int .u8 a3) ∧ W.cell? ⟨rb, 4, none⟩ = some (.int .u8 a4) ∧ W.cell? ⟨rb, 5, none⟩ = some (.int .u8 a5) ∧ W.cell? ⟨rb, 6, none⟩ = some (.int .u8 a6) ∧ W.cell? ⟨rb, 7, none⟩ = some (.int .u8 a7)) (by kernel_rfl) (F.out.ss _ ((Keeps.refl [] _).drew)) (fun hHeld => ?_)
  refine wpAnyH_take (i := 0) (oi := o71_2_0) (v := ?_) rfl (by kernel_rfl) (by kernel_rfl) (by kernel_rfl) (fun _ _ _ h => h) (Or.inl ⟨by kernel_rfl, ?_⟩) (by assumption) ?_
  rotate_left
  · (intro w9 hSw; clear hSw; go_simp; try with_reducible rfl)
  try simp only [o71_2_0, Act.put, List.setIfInBounds_toArray, List.set_cons_zero, List.set_cons_succ]
  refine wpAnyH_ready (rs := [1]) (by kernel_rfl) (by simp) ?_
  refine AllReadyH.cons (o := o71_2_1) rfl (fun K hK => ?_) AllReadyH.nil
  go_simp
  refine hK.out _ _ (F.out.ss _ ((Keeps.refl [] _).drew)) (fun hHeld1 => ?_)
  clear hK K hHeld
  try simp only [o71_2_1, Act.put, List.setIfInBounds_toArray, List.set_cons_zero, List.set_cons_succ]
  refine wpAnyH_take (i := 2) (oi := o71_2_2) (v := ?_) rfl (by kernel_rfl) (by kernel_rfl) (by kernel_rfl) (fun _ _ _ h => h) (Or.inl ⟨by kernel_rfl, ?_⟩) (by assumption) ?_
  rotate_left
  · (intro w9 hSw; clear hSw; go_simp; try with_reducible rfl)
  try simp only [o71_2_2, Act.put, List.setIfInBounds_toArray, List.set_cons_zero, List.set_cons_succ]
  refine wpAnyH_take (i := 3) (oi := o71_2_3) (v := ?_) rfl (by kernel_rfl) (by kernel_rfl) (by kernel_rfl) (fun _ _ _ h => h) (Or.inl ⟨by kernel_rfl, ?_⟩) (by assumption) ?_
  rotate_left
  · (intro w9 hSw; clear hSw; go_simp; try with_reducible rfl)
  try simp only [o71_2_3, Act.put, List.setIfInBounds_toArray, List.set_cons_zero, List.set_cons_succ]
  refine wpAnyH_take (i := 4) (oi := o71_2_4) (v := ?_) rfl (by kernel_rfl) (by kernel_rfl) (by kernel_rfl) (fun _ _ _ h => h) (Or.inl ⟨by kernel_rfl, ?_⟩) (by assumption) ?_
  rotate_left
  · (intro w9 hSw; clear hSw; go_simp; try with_reducible rfl)
  try simp only [o71_2_4, Act.put, List.setIfInBounds_toArray, List.set_cons_zero, List.set_cons_succ]
  refine wpAnyH_take (i := 5) (oi := o71_2_5) (v := ?_) rfl (by kernel_rfl) (by kernel_rfl) (by kernel_rfl) (fun _ _ _ h => h) (Or.inl ⟨by kernel_rfl, ?_⟩) (by assumption) ?_
  rotate_left
  · (intro w9 hSw; clear hSw; go_simp; try with_reducible rfl)
  try simp only [o71_2_5, Act.put, List.setIfInBounds_toArray, List.set_cons_zero, List.set_cons_succ]
  refine wpAnyH_take (i := 7) (oi := o71_2_7) (v := ?_) rfl (by kernel_rfl) (by kernel_rfl) (by kernel_rfl) (fun _ _ _ h => h) (Or.inl ⟨by kernel_rfl, ?_⟩) (by assumption) ?_
  rotate_left
  · (intro w9 hSw; clear hSw; go_simp; try with_reducible rfl)
  try simp only [o71_2_7, Act.put, List.setIfInBounds_toArray, List.set_cons_zero, List.set_cons_succ]
  refine wpAnyH_ready (rs := [6]) (by kernel_rfl) (by simp) ?_
  refine AllReadyH.cons (o := o71_2_6) rfl (fun K hK => ?_) AllReadyH.nil
  go_simp
  refine (F.out.n1 _ ((Keeps.refl [] _).drew)).mono ?_
  rintro e w9 ⟨rfl, rfl⟩
  refine hK.out _ _ (F.out.ss _ ((Keeps.refl [] _).drew)) (fun hHeld6 => ?_)
  clear hK K hHeld1
  try simp only [o71_2_6, Act.put, List.setIfInBounds_toArray, List.set_cons_zero, List.set_cons_succ]
  refine wpAnyH_take (i := 8) (oi := o71_2_8) (v := ?_) rfl (by kernel_rfl) (by kernel_rfl) (by kernel_rfl) (fun _ _ _ h => h) (Or.inl ⟨by kernel_rfl, ?_⟩) (by assumption) ?_
  rotate_left
  · (intro w9 hSw; clear hSw; go_simp; try with_reducible rfl)
  try simp only [o71_2_8, Act.put, List.setIfInBounds_toArray, List.set_cons_zero, List.set_cons_succ]
  refine wpAnyH_take (i := 9) (oi := o71_2_9) (v := ?_) rfl (by kernel_rfl) (by kernel_rfl) (by kernel_rfl) (fun _ _ _ h => h) (Or.inl ⟨by kernel_rfl, ?_⟩) (by assumption) ?_
  rotate_left
  · (intro w9 hSw; clear hSw; go_simp; try with_reducible rfl)
  try simp only [o71_2_9, Act.put, List.setIfInBounds_toArray, List.set_cons_zero, List.set_cons_succ]
  refine wpAnyH_take (i := 10) (oi := o71_2_10) (v := ?_) rfl (by kernel_rfl) (by kernel_rfl) (by kernel_rfl) (fun _ _ _ h => h) (Or.inl ⟨by kernel_rfl, ?_⟩) (by assumption) ?_
  rotate_left
  · (intro w9 hSw; clear hSw; go_simp; try with_reducible rfl)
  try simp only [o71_2_10, Act.put, List.setIfInBounds_toArray, List.set_cons_zero, List.set_cons_succ]
  refine wpAnyH_take (i := 11) (oi := o71_2_11) (v := ?_) rfl (by kernel_rfl) (by kernel_rfl) (by kernel_rfl) (fun _ _ _ h => h) (Or.inl ⟨by kernel_rfl, ?_⟩) (by assumption) ?_
  rotate_left
  · (intro w9 hSw; clear hSw; go_simp; try with_reducible rfl)
  try simp only [o71_2_11, Act.put, List.setIfInBounds_toArray, List.set_cons_zero, List.set_cons_succ]
  refine wpAnyH_take (i := 12) (oi := o71_2_12) (v := ?_) rfl (by kernel_rfl) (by kernel_rfl) (by kernel_rfl) (fun _ _ _ h => h) (Or.inl ⟨by kernel_rfl, ?_⟩) (by assumption) ?_
  rotate_left
  · (intro w9 hSw; clear hSw; go_simp; try with_reducible rfl)
  try simp only [o71_2_12, Act.put, List.setIfInBounds_toArray, List.set_cons_zero, List.set_cons_succ]
  refine wpAnyH_ready (rs := [13]) (by kernel_rfl) (by simp) ?_
  refine AllReadyH.cons (o := o71_2_13) rfl (fun K hK => ?_) AllReadyH.nil
  go_simp
  refine (F.out.y1 _ ((Keeps.refl [] _).drew)).mono ?_
  rintro e w9 ⟨rfl, rfl⟩
  refine hK.out _ _ (F.out.ss _ ((Keeps.refl [] _).drew)) (fun hHeld13 => ?_)
  clear hK K hHeld6
  try simp only [o71_2_13, Act.put, List.setIfInBounds_toArray, List.set_cons_zero, List.set_cons_succ]
  refine wpAnyH_take (i := 14) (oi := o71_2_14) (v := ?_) rfl (by kernel_rfl) (by kernel_rfl) (by kernel_rfl) (fun _ _ _ h => h) (Or.inl ⟨by kernel_rfl, ?_⟩) (by assumption) ?_
  rotate_left
  · (intro w9 hSw; clear hSw; go_simp; try with_reducible rfl)
  try simp only [o71_2_14, Act.put, List.setIfInBounds_toArray, List.set_cons_zero, List.set_cons_succ]
  refine wpAnyH_take (i := 15) (oi := o71_2_15) (v := ?_) rfl (by kernel_rfl) (by kernel_rfl) (by kernel_rfl) (fun _ _ _ h => h) (Or.inl ⟨by kernel_rfl, ?_⟩) (by assumption) ?_
  rotate_left
  · (intro w9 hSw; clear hSw; go_simp; try with_reducible rfl)
  try simp only [o71_2_15, Act.put, List.setIfInBounds_toArray, List.set_cons_zero, List.set_cons_succ]
  refine wpAnyH_take (i := 16) (oi := o71_2_16) (v := ?_) rfl (by kernel_rfl) (by kernel_rfl) (by kernel_rfl) (fun _ _ _ h => h) (Or.inl ⟨by kernel_rfl, ?_⟩) (by assumption) ?_
  rotate_left
  · (intro w9 hSw; clear hSw; go_simp; try with_reducible rfl)
  try simp only [o71_2_16, Act.put, List.setIfInBounds_toArray, List.set_cons_zero, List.set_cons_succ]
  refine wpAnyH_take (i := 17) (oi := o71_2_17) (v := ?_) rfl (by kernel_rfl) (by kernel_rfl) (by kernel_rfl) (fun _ _ _ h => h) (Or.inl ⟨by kernel_rfl, ?_⟩) (by assumption) ?_
  rotate_left
  · (intro w9 hSw; clear hSw; go_simp; try with_reducible rfl)
  try simp only [o71_2_17, Act.put, List.setIfInBounds_toArray, List.set_cons_zero, List.set_cons_succ]
  refine wpAnyH_take (i := 19) (oi := o71_2_19) (v := ?_) rfl (by kernel_rfl) (by kernel_rfl) (by kernel_rfl) (fun _ _ _ h => h) (Or.inl ⟨by kernel_rfl, ?_⟩) (by assumption) ?_
  rotate_left
  · (intro w9 hSw; clear hSw; go_simp; try with_reducible rfl)
  try simp only [o71_2_19, Act.put, List.setIfInBounds_toArray, List.set_cons_zero, List.set_cons_succ]
  refine wpAnyH_ready (rs := [18]) (by kernel_rfl) (by simp) ?_
  refine AllReadyH.cons (o := o71_2_18) rfl (fun K hK => ?_) AllReadyH.nil
  go_simp
  refine (F.out.n2 _ ((Keeps.refl [] _).drew)).mono ?_
  rintro e w9 ⟨rfl, rfl⟩
  refine hK.out _ _ (F.out.ss _ ((Keeps.refl [] _).drew)) (fun hHeld18 => ?_)
  clear hK K hHeld13
  try simp only [o71_2_18, Act.put, List.setIfInBounds_toArray, List.set_cons_zero, List.set_cons_succ]
  refine wpAnyH_take (i := 20) (oi := o71_2_20) (v := ?_) rfl (by kernel_rfl) (by kernel_rfl) (by kernel_rfl) (fun _ _ _ h => h) (Or.inl ⟨by kernel_rfl, ?_⟩) (by assumption) ?_
  rotate_left
  · (intro w9 hSw; clear hSw; go_simp; try with_reducible rfl)
  try simp only [o71_2_20, Act.put, List.setIfInBounds_toArray, List.set_cons_zero, List.set_cons_succ]
  refine wpAnyH_take (i := 21) (oi := o71_2_21) (v := ?_) rfl (by kernel_rfl) (by kernel_rfl) (by kernel_rfl) (fun _ _ _ h => h) (Or.inl ⟨by kernel_rfl, ?_⟩) (by assumption) ?_
  rotate_left
  · (intro w9 hSw; clear hSw; go_simp; try with_reducible rfl)
  try simp only [o71_2_21, Act.put, List.setIfInBounds_toArray, List.set_cons_zero, List.set_cons_succ]
  refine wpAnyH_take (i := 22) (oi := o71_2_22) (v := ?_) rfl (by kernel_rfl) (by kernel_rfl) (by kernel_rfl) (fun _ _ _ h => h) (Or.inl ⟨by kernel_rfl, ?_⟩) (by assumption) ?_
  rotate_left
  · (intro w9 hSw; clear hSw; go_simp; try with_reducible rfl)
  try simp only [o71_2_22, Act.put, List.setIfInBounds_toArray, List.set_cons_zero, List.set_cons_succ]
  refine wpAnyH_take (i := 23) (oi := o71_2_23) (v := ?_) rfl (by kernel_rfl) (by kernel_rfl) (by kernel_rfl) (fun _ _ _ h => h) (Or.inl ⟨by kernel_rfl, ?_⟩) (by assumption) ?_
  rotate_left
  · (intro w9 hSw; clear hSw; go_simp; try with_reducible rfl)
  try simp only [o71_2_23, Act.put, List.setIfInBounds_toArray, List.set_cons_zero, List.set_cons_succ]
  refine wpAnyH_take (i := 24) (oi := o71_2_24) (v := ?_) rfl (by kernel_rfl) (by kernel_rfl) (by kernel_rfl) (fun _ _ _ h => h) (Or.inl ⟨by kernel_rfl, ?_⟩) (by assumption) ?_
  rotate_left
  · (intro w9 hSw; clear hSw; go_simp; try with_reducible rfl)
  try simp only [o71_2_24, Act.put, List.setIfInBounds_toArray, List.set_cons_zero, List.set_cons_succ]
  refine wpAnyH_take (i := 25) (oi := o71_2_25) (v := ?_) rfl (by kernel_rfl) (by kernel_rfl) (by kernel_rfl) (fun _ _ _ h => h) (Or.inl ⟨by kernel_rfl, ?_⟩) (by assumption) ?_
  rotate_left
  · (intro w9 hSw; clear hSw; go_simp; try with_reducible rfl)
  try simp only [o71_2_25, Act.put, List.setIfInBounds_toArray, List.set_cons_zero, List.set_cons_succ]
  refine wpAnyH_take (i := 26) (oi := o71_2_26) (v := ?_) rfl (by kernel_rfl) (by kernel_rfl) (by kernel_rfl) (fun _ _ _ h => h) (Or.inl ⟨by kernel_rfl, ?_⟩) (by assumption) ?_
  rotate_left
  · (intro w9 hSw; obtain ⟨s0, s1, s2, s3, s4, s5, s6, s7, s8, s9, s10, s11, s12, s13, s14, s15⟩ := hSw; (try dsimp only at hSw); go_simp; try with_reducible rfl)
  try simp only [o71_2_26, Act.put, List.setIfInBounds_toArray, List.set_cons_zero, List.set_cons_succ]
  refine wpAnyH_take (i := 27) (oi := o71_2_27) (v := ?_) rfl (by kernel_rfl) (by kernel_rfl) (by kernel_rfl) (fun _ _ _ h => h) (Or.inl ⟨by kernel_rfl, ?_⟩) (by assumption) ?_
  rotate_left
  · (intro w9 hSw; clear hSw; go_simp; try with_reducible rfl)
  try simp only [o71_2_27, Act.put, List.setIfInBounds_toArray, List.set_cons_zero, List.set_cons_succ]
  refine wpAnyH_take (i := 28) (oi := o71_2_28) (v := ?_) rfl (by kernel_rfl) (by kernel_rfl) (by kernel_rfl) (fun _ _ _ h => h) (Or.inl ⟨by kernel_rfl, ?_⟩) (by assumption) ?_
  rotate_left
  · (intro w9 hSw; clear hSw; go_simp; try with_reducible rfl)
  try simp only [o71_2_28, Act.put, List.setIfInBounds_toArray, List.set_cons_zero, List.set_cons_succ]
  refine wpAnyH_take (i := 29) (oi := o71_2_29) (v := ?_) rfl (by kernel_rfl) (by kernel_rfl) (by kernel_rfl) (fun _ _ _ h => h) (Or.inl ⟨by kernel_rfl, ?_⟩) (by assumption) ?_
  rotate_left
  · (intro w9 hSw; clear hSw; go_simp; try with_reducible rfl)
  try simp only [o71_2_29, Act.put, List.setIfInBounds_toArray, List.set_cons_zero, List.set_cons_succ]
  refine wpAnyH_take (i := 30) (oi := o71_2_30) (v := ?_) rfl (by kernel_rfl) (by kernel_rfl) (by kernel_rfl) (fun _ _ _ h => h) (Or.inl ⟨by kernel_rfl, ?_⟩) (by assumption) ?_
  rotate_left
  · (intro w9 hSw; obtain ⟨s0, s1, s2, s3, s4, s5, s6, s7, s8, s9, s10, s11, s12, s13, s14, s15⟩ := hSw; (try dsimp only at hSw); go_simp; try with_reducible rfl)
  try simp only [o71_2_30, Act.put, List.setIfInBounds_toArray, List.set_cons_zero, List.set_cons_succ]
  refine wpAnyH_take (i := 31) (oi := o71_2_31) (v := ?_) rfl (by kernel_rfl) (by kernel_rfl) (by kernel_rfl) (fun _ _ _ h => h) (Or.inl ⟨by kernel_rfl, ?_⟩) (by assumption) ?_
  rotate_left
  · (intro w9 hSw; clear hSw; go_simp; try with_reducible rfl)
  try simp only [o71_2_31, Act.put, List.setIfInBounds_toArray, List.set_cons_zero, List.set_cons_succ]
  refine wpAnyH_take (i := 32) (oi := o71_2_32) (v := ?_) rfl (by kernel_rfl) (by kernel_rfl) (by kernel_rfl) (fun _ _ _ h => h) (Or.inl ⟨by kernel_rfl, ?_⟩) (by assumption) ?_
  rotate_left
  · (intro w9 hSw; clear hSw; go_simp; try with_reducible rfl)
  try simp only [o71_2_32, Act.put, List.setIfInBounds_toArray, List.set_cons_zero, List.set_cons_succ]
  refine wpAnyH_take (i := 33) (oi := o71_2_33) (v := ?_) rfl (by kernel_rfl) (by kernel_rfl) (by kernel_rfl) (fun _ _ _ h => h) (Or.inl ⟨by kernel_rfl, ?_⟩) (by assumption) ?_
  rotate_left
  · (intro w9 hSw; clear hSw; go_simp; try with_reducible rfl)
  try simp only [o71_2_33, Act.put, List.setIfInBounds_toArray, List.set_cons_zero, List.set_cons_succ]
  refine wpAnyH_take (i := 34) (oi := o71_2_34) (v := ?_) rfl (by kernel_rfl) (by kernel_rfl) (by kernel_rfl) (fun _ _ _ h => h) (Or.inl ⟨by kernel_rfl, ?_⟩) (by assumption) ?_
  rotate_left
  · (intro w9 hSw; clear hSw; go_simp; try with_reducible rfl)
  try simp only [o71_2_34, Act.put, List.setIfInBounds_toArray, List.set_cons_zero, List.set_cons_succ]
  refine wpAnyH_take (i := 35) (oi := o71_2_35) (v := ?_) rfl (by kernel_rfl) (by kernel_rfl) (by kernel_rfl) (fun _ _ _ h => h) (Or.inl ⟨by kernel_rfl, ?_⟩) (by assumption) ?_
  rotate_left
  · (intro w9 hSw; clear hSw; go_simp; try with_reducible rfl)
  try simp only [o71_2_35, Act.put, List.setIfInBounds_toArray, List.set_cons_zero, List.set_cons_succ]
  refine wpAnyH_ready (rs := [36]) (by kernel_rfl) (by simp) ?_
  refine AllReadyH.cons (o := o71_2_36) rfl (fun K hK => ?_) AllReadyH.nil
  go_simp
  refine (F.out.y2 _ ((Keeps.refl [] _).drew)).mono ?_
  rintro e w9 ⟨rfl, rfl⟩
  refine hK.out _ _ (F.out.ss _ ((Keeps.refl [] _).drew)) (fun hHeld36 => ?_)
  clear hK K hHeld18
  try simp only [o71_2_36, Act.put, List.setIfInBounds_toArray, List.set_cons_zero, List.set_cons_succ]
  refine wpAnyH_take (i := 37) (oi := o71_2_37) (v := ?_) rfl (by kernel_rfl) (by kernel_rfl) (by kernel_rfl) (fun _ _ _ h => h) (Or.inl ⟨by kernel_rfl, ?_⟩) (by assumption) ?_
  rotate_left
  · (intro w9 hSw; clear hSw; go_simp; try with_reducible rfl)
  try simp only [o71_2_37, Act.put, List.setIfInBounds_toArray, List.set_cons_zero, List.set_cons_succ]
  refine wpAnyH_take (i := 38) (oi := o71_2_38) (v := ?_) rfl (by kernel_rfl) (by kernel_rfl) (by kernel_rfl) (fun _ _ _ h => h) (Or.inl ⟨by kernel_rfl, ?_⟩) (by assumption) ?_
  rotate_left
  · (intro w9 hSw; clear hSw; go_simp; try with_reducible rfl)
  try simp only [o71_2_38, Act.put, List.setIfInBounds_toArray, List.set_cons_zero, List.set_cons_succ]
  refine wpAnyH_take (i := 39) (oi := o71_2_39) (v := ?_) rfl (by kernel_rfl) (by kernel_rfl) (by kernel_rfl) (fun _ _ _ h => h) (Or.inl ⟨by kernel_rfl, ?_⟩) (by assumption) ?_
  rotate_left
  · (intro w9 hSw; clear hSw; go_simp; try with_reducible rfl)
  try simp only [o71_2_39, Act.put, List.setIfInBounds_toArray, List.set_cons_zero, List.set_cons_succ]
  refine wpAnyH_take (i := 40) (oi := o71_2_40) (v := ?_) rfl (by kernel_rfl) (by kernel_rfl) (by kernel_rfl) (fun _ _ _ h => h) (Or.inl ⟨by kernel_rfl, ?_⟩) (by assumption) ?_
  rotate_left
  · (intro w9 hSw; clear hSw; go_simp; try with_reducible rfl)
  try simp only [o71_2_40, Act.put, List.setIfInBounds_toArray, List.set_cons_zero, List.set_cons_succ]
  refine wpAnyH_take (i := 41) (oi := o71_2_41) (v := ?_) rfl (by kernel_rfl) (by kernel_rfl) (by kernel_rfl) (fun _ _ _ h => h) (Or.inl ⟨by kernel_rfl, ?_⟩) (by assumption) ?_
  rotate_left
  · (intro w9 hSw; clear hSw; go_simp; try with_reducible rfl)
  try simp only [o71_2_41, Act.put, List.setIfInBounds_toArray, List.set_cons_zero, List.set_cons_succ]
  refine wpAnyH_take (i := 42) (oi := o71_2_42) (v := ?_) rfl (by kernel_rfl) (by kernel_rfl) (by kernel_rfl) (fun _ _ _ h => h) (Or.inl ⟨by kernel_rfl, ?_⟩) (by assumption) ?_
  rotate_left
  · (intro w9 hSw; clear hSw; go_simp; try with_reducible rfl)
  try simp only [o71_2_42, Act.put, List.setIfInBounds_toArray, List.set_cons_zero, List.set_cons_succ]
  refine wpAnyH_ready (rs := [43]) (by kernel_rfl) (by simp) ?_
  refine AllReadyH.cons (o := o71_2_43) rfl (fun K hK => ?_) AllReadyH.nil
  go_simp
  refine (F.out.y3 _ _ HQ.out ((Keeps.refl [] _).drew)).mono ?_
  rintro e w9 ⟨rfl, rfl⟩
  refine hK.out _ _ (F.out.ss _ ((Keeps.refl [] _).drew)) (fun hHeld43 => ?_)
  clear hK K hHeld36
  try simp only [o71_2_43, Act.put, List.setIfInBounds_toArray, List.set_cons_zero, List.set_cons_succ]
  refine wpAnyH_take (i := 44) (oi := o71_2_44) (v := ?_) rfl (by kernel_rfl) (by kernel_rfl) (by kernel_rfl) (fun _ _ _ h => h) (Or.inl ⟨by kernel_rfl, ?_⟩) (by assumption) ?_
  rotate_left
  · (intro w9 hSw; clear hSw; go_simp; try with_reducible rfl)
  try simp only [o71_2_44, Act.put, List.setIfInBounds_toArray, List.set_cons_zero, List.set_cons_succ]
  refine wpAnyH_take (i := 45) (oi := o71_2_45) (v := ?_) rfl (by kernel_rfl) (by kernel_rfl) (by kernel_rfl) (fun _ _ _ h => h) (Or.inl ⟨by kernel_rfl, ?_⟩) (by assumption) ?_
  rotate_left
  · (intro w9 hSw; clear hSw; go_simp; try with_reducible rfl)
  try simp only [o71_2_45, Act.put, List.setIfInBounds_toArray, List.set_cons_zero, List.set_cons_succ]
  refine wpAnyH_take (i := 46) (oi := o71_2_46) (v := undef) rfl (by kernel_rfl) (by kernel_rfl) (by kernel_rfl) (fun _ _ _ h => h) (Or.inr ⟨by kernel_rfl, rfl⟩) (by assumption) ?_
  try simp only [o71_2_46, Act.put, List.setIfInBounds_toArray, List.set_cons_zero, List.set_cons_succ]
  refine wpAnyH_take (i := 47) (oi := o71_2_47) (v := undef) rfl (by kernel_rfl) (by kernel_rfl) (by kernel_rfl) (fun _ _ _ h => h) (Or.inr ⟨by kernel_rfl, rfl⟩) (by assumption) ?_
  try simp only [o71_2_47, Act.put, List.setIfInBounds_toArray, List.set_cons_zero, List.set_cons_succ]
  refine wpAnyH_take (i := 48) (oi := o71_2_48) (v := undef) rfl (by kernel_rfl) (by kernel_rfl) (by kernel_rfl) (fun _ _ _ h => h) (Or.inr ⟨by kernel_rfl, rfl⟩) (by assumption) ?_
  try simp only [o71_2_48, Act.put, List.setIfInBounds_toArray, List.set_cons_zero, List.set_cons_succ]
  refine wpAnyH_take (i := 49) (oi := o71_2_49) (v := undef) rfl (by kernel_rfl) (by kernel_rfl) (by kernel_rfl) (fun _ _ _ h => h) (Or.inr ⟨by kernel_rfl, rfl⟩) (by assumption) ?_
  try simp only [o71_2_49, Act.put, List.setIfInBounds_toArray, List.set_cons_zero, List.set_cons_succ]
  refine wpAnyH_take (i := 50) (oi := o71_2_50) (v := undef) rfl (by kernel_rfl) (by kernel_rfl) (by kernel_rfl) (fun _ _ _ h => h) (Or.inr ⟨by kernel_rfl, rfl⟩) (by assumption) ?_
  try simp only [o71_2_50, Act.put, List.setIfInBounds_toArray, List.set_cons_zero, List.set_cons_succ]
  refine wpAnyH_take (i := 51) (oi := o71_2_51) (v := undef) rfl (by kernel_rfl) (by kernel_rfl) (by kernel_rfl) (fun _ _ _ h => h) (Or.inr ⟨by kernel_rfl, rfl⟩) (by assumption) ?_
  try simp only [o71_2_51, Act.put, List.setIfInBounds_toArray, List.set_cons_zero, List.set_cons_succ]
  refine wpAnyH_take (i := 52) (oi := o71_2_52) (v := undef) rfl (by kernel_rfl) (by kernel_rfl) (by kernel_rfl) (fun _ _ _ h => h) (Or.inr ⟨by kernel_rfl, rfl⟩) (by assumption) ?_
  try simp only [o71_2_52, Act.put, List.setIfInBounds_toArray, List.set_cons_zero, List.set_cons_succ]
  refine wpAnyH_take (i := 53) (oi := o71_2_53) (v := undef) rfl (by kernel_rfl) (by kernel_rfl) (by kernel_rfl) (fun _ _ _ h => h) (Or.inr ⟨by kernel_rfl, rfl⟩) (by assumption) ?_
  try simp only [o71_2_53, Act.put, List.setIfInBounds_toArray, List.set_cons_zero, List.set_cons_succ]
  refine wpAnyH_take (i := 54) (oi := o71_2_54) (v := undef) rfl (by kernel_rfl) (by kernel_rfl) (by kernel_rfl) (fun _ _ _ h => h) (Or.inr ⟨by kernel_rfl, rfl⟩) (by assumption) ?_
  try simp only [o71_2_54, Act.put, List.setIfInBounds_toArray, List.set_cons_zero, List.set_cons_succ]
  refine wpAnyH_take (i := 55) (oi := o71_2_55) (v := ?_) rfl (by kernel_rfl) (by kernel_rfl) (by kernel_rfl) (fun _ _ _ h => h) (Or.inl ⟨by kernel_rfl, ?_⟩) (by assumption) ?_
  rotate_left
  · (intro w9 hSw; clear hSw; go_simp; try with_reducible rfl)
  try simp only [o71_2_55, Act.put, List.setIfInBounds_toArray, List.set_cons_zero, List.set_cons_succ]
  refine wpAnyH_take (i := 56) (oi := o71_2_56) (v := ?_) rfl (by kernel_rfl) (by kernel_rfl) (by kernel_rfl) (fun _ _ _ h => h) (Or.inl ⟨by kernel_rfl, ?_⟩) (by assumption) ?_
  rotate_left
  · (intro w9 hSw; clear hSw; go_simp; try with_reducible rfl)
  try simp only [o71_2_56, Act.put, List.setIfInBounds_toArray, List.set_cons_zero, List.set_cons_succ]
  refine wpAnyH_done (by kernel_rfl) ?_ _
  all_goals go_wp2
  all_goals go_ret
  all_goals exact ⟨rfl, HK1.out.trans' (by first | exact ((Keeps.refl [] _).drew) | exact (((Keeps.refl [] _).drew).alloc _))⟩
set_option maxHeartbeats 4000000 in
theorem formed_7 {w w1 : World} {g c rb n : Nat} {j v1 v2 v3 sm : Int} {a0 a1 a2 a3 a4 a5 a6 a7 : Int} {b0 b1 b2 b3 b4 b5 b6 b7 : Int} {z1 z2 z3 : Bool} {r : List Value} (h1 : v1 = (n : Int)) (h2 : z1 = true) (h3 : j = v2) (h4 : a0 = b0 ∧ a1 = b1 ∧ a2 = b2 ∧ a3 = b3 ∧ a4 = b4 ∧ a5 = b5 ∧ a6 = b6 ∧ a7 = b7) (h5 : z2 = true) (h6 : z3 = true) (h7 : ¬ sm = v3) (F : Hid (FC w w1 g c rb n j v1 v2 v3 sm a0 a1 a2 a3 a4 a5 a6 a7 b0 b1 b2 b3 b4 b5 b6 b7 z1 z2 z3)) (hw1 : w1 = w.alloc (.cells r.toArray 52)) (hrb : rb = w.heap.size) (L : Int) (hr : r[33]? = some (.int .i64 L)) (HS68 : Hid (∀ W, Calls Tryd.prog 68 #[.int .i64 L, .int .i64 j] W fun e w' => e = .returned (.int .i64 (n : Int)) ∧ w' = W)) (hn : n ≤ 480) (hc : 512 ≤ c) :
    Calls Tryd.prog 71 #[.slice (some ⟨g, 0, none⟩) 512 c, .agg r.toArray, .int .i64 j] w fun e w' => e = .returned (.bool false) ∧ Keeps [] w w' := by
  subst h1
  subst h2
  subst h3
  obtain ⟨rfl, rfl, rfl, rfl, rfl, rfl, rfl, rfl⟩ := h4
  subst h5
  subst h6
  have e7 : (v3 == sm) = false := by simpa using fun h => h7 h.symm
  have hEq : ∀ W : World, (Op.equalIn 10000 181 (.agg #[.int .u8 a0, .int .u8 a1, .int .u8 a2, .int .u8 a3, .int .u8 a4, .int .u8 a5, .int .u8 a6, .int .u8 a7]) (.agg #[.int .u8 a0, .int .u8 a1, .int .u8 a2, .int .u8 a3, .int .u8 a4, .int .u8 a5, .int .u8 a6, .int .u8 a7])).run Tryd.prog W = .ok true W := fun W => (eq_bytes2 W 9998 181 5 8 [a0, a1, a2, a3, a4, a5, a6, a7] [a0, a1, a2, a3, a4, a5, a6, a7] Tryd.underlying181 Tryd.underlying5 info5s rfl rfl).trans (by rw [decide_eq_true rfl])
  have a33 : r.toArray[33]? = some (.int .i64 L) := by rw [List.getElem?_toArray]; exact hr
  have HK1 := Lib.hid (show Keeps [] w w1 from by rw [hw1]; exact (Keeps.refl [] w).alloc _)
  have HCL := Lib.hid (show w1.cell? ⟨rb, 33, none⟩ = some (.int .i64 L) from by rw [hw1, hrb, (StrAt.new w r.toArray 52).cell]; exact a33)
  have c4 : ¬ c = 4 := by omega
  have c6 : ¬ c = 6 := by omega
  have c8 : ¬ c = 8 := by omega
  have c12 : ¬ c = 12 := by omega
  have c20 : ¬ c = 20 := by omega
  have c508 : ¬ c = 508 := by omega
  have cc : 512 ≤ c := hc
  have l8 : 8 ≤ c := by omega
  have l20 : 20 ≤ c := by omega
  have l28 : 28 ≤ c := by omega
  have l508 : 508 ≤ c := by omega
  obtain ⟨q, hq⟩ : ∃ q, q = 28 + n := ⟨_, rfl⟩
  have HQ := Lib.hid hq
  have cq : ¬ c = q := by omega
  have q508 : q ≤ 508 := by omega
  have eq28 : 28 + (n : Int) = (q : Int) := by omega
  have wq : IntKind.i64.wrap (q : Int) = (q : Int) := IntWalk.i64_in _ (by omega)
  have i8 : ((8 : Int) ≤ (c : Int)) = True := eq_true (by omega)
  have i20 : ((20 : Int) ≤ (c : Int)) = True := eq_true (by omega)
  have i28 : ((28 : Int) ≤ (c : Int)) = True := eq_true (by omega)
  have i508 : ((508 : Int) ≤ (c : Int)) = True := eq_true (by omega)
  have iq : ((q : Int) ≤ 508) = True := eq_true (by omega)
  have wsm : IntKind.i64.wrap sm = sm := IntWalk.i64_in _ (by have := F.out.s0; omega)
  have hArG : ∀ W : World, (Instr.arrayAt 181 (.slice (some ⟨g, 12, none⟩) 8 (c - 12))).run Tryd.prog W = .ok (.pointer (some ⟨g, 12, none⟩)) W := fun W => by
    simp [Instr.arrayAt, run_underlying Tryd.underlying181, Result.andThen]
  have hArR : ∀ W : World, (Instr.arrayAt 181 (.slice (some ⟨rb, 0, none⟩) 8 32)).run Tryd.prog W = .ok (.pointer (some ⟨rb, 0, none⟩)) W := fun W => by
    simp [Instr.arrayAt, run_underlying Tryd.underlying181, Result.andThen]
  clear hn hq
  go_enter Tryd.func71, Tryd.ntmps71
  go_wp2_with (go_at_call 68; refine (HS68.out _).mono ?_; rintro e w0 ⟨rfl, rfl⟩)
  rw [← hw1, ← hrb]
  clear hw1 hrb a33 HCL
  refine wp_region_held_drew (S := fun W => W.cell? ⟨g, 12, none⟩ = some (.int .u8 a0) ∧ W.cell? ⟨g, 13, none⟩ = some (.int .u8 a1) ∧ W.cell? ⟨g, 14, none⟩ = some (.int .u8 a2) ∧ W.cell? ⟨g, 15, none⟩ = some (.int .u8 a3) ∧ W.cell? ⟨g, 16, none⟩ = some (.int .u8 a4) ∧ W.cell? ⟨g, 17, none⟩ = some (.int .u8 a5) ∧ W.cell? ⟨g, 18, none⟩ = some (.int .u8 a6) ∧ W.cell? ⟨g, 19, none⟩ = some (.int .u8 a7) ∧ W.cell? ⟨rb, 0, none⟩ = some (.int .u8 a0) ∧ W.cell? ⟨rb, 1, none⟩ = some (.int .u8 a1) ∧ W.cell? ⟨rb, 2, none⟩ = some (.int .u8 a2) ∧ W.cell? ⟨rb, 3, none⟩ = some (.int .u8 a3) ∧ W.cell? ⟨rb, 4, none⟩ = some (.int .u8 a4) ∧ W.cell? ⟨rb, 5, none⟩ = some (.int .u8 a5) ∧ W.cell? ⟨rb, 6, none⟩ = some (.int .u8 a6) ∧ W.cell? ⟨rb, 7, none⟩ = some (.int .u8 a7)) (by kernel_rfl) (F.out.ss _ ((Keeps.refl [] _).drew)) (fun hHeld => ?_)
  refine wpAnyH_take (i := 0) (oi := o71_2_0) (v := ?_) rfl (by kernel_rfl) (by kernel_rfl) (by kernel_rfl) (fun _ _ _ h => h) (Or.inl ⟨by kernel_rfl, ?_⟩) (by assumption) ?_
  rotate_left
  · (intro w9 hSw; clear hSw; go_simp; try with_reducible rfl)
  try simp only [o71_2_0, Act.put, List.setIfInBounds_toArray, List.set_cons_zero, List.set_cons_succ]
  refine wpAnyH_ready (rs := [1]) (by kernel_rfl) (by simp) ?_
  refine AllReadyH.cons (o := o71_2_1) rfl (fun K hK => ?_) AllReadyH.nil
  go_simp
  refine hK.out _ _ (F.out.ss _ ((Keeps.refl [] _).drew)) (fun hHeld1 => ?_)
  clear hK K hHeld
  try simp only [o71_2_1, Act.put, List.setIfInBounds_toArray, List.set_cons_zero, List.set_cons_succ]
  refine wpAnyH_take (i := 2) (oi := o71_2_2) (v := ?_) rfl (by kernel_rfl) (by kernel_rfl) (by kernel_rfl) (fun _ _ _ h => h) (Or.inl ⟨by kernel_rfl, ?_⟩) (by assumption) ?_
  rotate_left
  · (intro w9 hSw; clear hSw; go_simp; try with_reducible rfl)
  try simp only [o71_2_2, Act.put, List.setIfInBounds_toArray, List.set_cons_zero, List.set_cons_succ]
  refine wpAnyH_take (i := 3) (oi := o71_2_3) (v := ?_) rfl (by kernel_rfl) (by kernel_rfl) (by kernel_rfl) (fun _ _ _ h => h) (Or.inl ⟨by kernel_rfl, ?_⟩) (by assumption) ?_
  rotate_left
  · (intro w9 hSw; clear hSw; go_simp; try with_reducible rfl)
  try simp only [o71_2_3, Act.put, List.setIfInBounds_toArray, List.set_cons_zero, List.set_cons_succ]
  refine wpAnyH_take (i := 4) (oi := o71_2_4) (v := ?_) rfl (by kernel_rfl) (by kernel_rfl) (by kernel_rfl) (fun _ _ _ h => h) (Or.inl ⟨by kernel_rfl, ?_⟩) (by assumption) ?_
  rotate_left
  · (intro w9 hSw; clear hSw; go_simp; try with_reducible rfl)
  try simp only [o71_2_4, Act.put, List.setIfInBounds_toArray, List.set_cons_zero, List.set_cons_succ]
  refine wpAnyH_take (i := 5) (oi := o71_2_5) (v := ?_) rfl (by kernel_rfl) (by kernel_rfl) (by kernel_rfl) (fun _ _ _ h => h) (Or.inl ⟨by kernel_rfl, ?_⟩) (by assumption) ?_
  rotate_left
  · (intro w9 hSw; clear hSw; go_simp; try with_reducible rfl)
  try simp only [o71_2_5, Act.put, List.setIfInBounds_toArray, List.set_cons_zero, List.set_cons_succ]
  refine wpAnyH_take (i := 7) (oi := o71_2_7) (v := ?_) rfl (by kernel_rfl) (by kernel_rfl) (by kernel_rfl) (fun _ _ _ h => h) (Or.inl ⟨by kernel_rfl, ?_⟩) (by assumption) ?_
  rotate_left
  · (intro w9 hSw; clear hSw; go_simp; try with_reducible rfl)
  try simp only [o71_2_7, Act.put, List.setIfInBounds_toArray, List.set_cons_zero, List.set_cons_succ]
  refine wpAnyH_ready (rs := [6]) (by kernel_rfl) (by simp) ?_
  refine AllReadyH.cons (o := o71_2_6) rfl (fun K hK => ?_) AllReadyH.nil
  go_simp
  refine (F.out.n1 _ ((Keeps.refl [] _).drew)).mono ?_
  rintro e w9 ⟨rfl, rfl⟩
  refine hK.out _ _ (F.out.ss _ ((Keeps.refl [] _).drew)) (fun hHeld6 => ?_)
  clear hK K hHeld1
  try simp only [o71_2_6, Act.put, List.setIfInBounds_toArray, List.set_cons_zero, List.set_cons_succ]
  refine wpAnyH_take (i := 8) (oi := o71_2_8) (v := ?_) rfl (by kernel_rfl) (by kernel_rfl) (by kernel_rfl) (fun _ _ _ h => h) (Or.inl ⟨by kernel_rfl, ?_⟩) (by assumption) ?_
  rotate_left
  · (intro w9 hSw; clear hSw; go_simp; try with_reducible rfl)
  try simp only [o71_2_8, Act.put, List.setIfInBounds_toArray, List.set_cons_zero, List.set_cons_succ]
  refine wpAnyH_take (i := 9) (oi := o71_2_9) (v := ?_) rfl (by kernel_rfl) (by kernel_rfl) (by kernel_rfl) (fun _ _ _ h => h) (Or.inl ⟨by kernel_rfl, ?_⟩) (by assumption) ?_
  rotate_left
  · (intro w9 hSw; clear hSw; go_simp; try with_reducible rfl)
  try simp only [o71_2_9, Act.put, List.setIfInBounds_toArray, List.set_cons_zero, List.set_cons_succ]
  refine wpAnyH_take (i := 10) (oi := o71_2_10) (v := ?_) rfl (by kernel_rfl) (by kernel_rfl) (by kernel_rfl) (fun _ _ _ h => h) (Or.inl ⟨by kernel_rfl, ?_⟩) (by assumption) ?_
  rotate_left
  · (intro w9 hSw; clear hSw; go_simp; try with_reducible rfl)
  try simp only [o71_2_10, Act.put, List.setIfInBounds_toArray, List.set_cons_zero, List.set_cons_succ]
  refine wpAnyH_take (i := 11) (oi := o71_2_11) (v := ?_) rfl (by kernel_rfl) (by kernel_rfl) (by kernel_rfl) (fun _ _ _ h => h) (Or.inl ⟨by kernel_rfl, ?_⟩) (by assumption) ?_
  rotate_left
  · (intro w9 hSw; clear hSw; go_simp; try with_reducible rfl)
  try simp only [o71_2_11, Act.put, List.setIfInBounds_toArray, List.set_cons_zero, List.set_cons_succ]
  refine wpAnyH_take (i := 12) (oi := o71_2_12) (v := ?_) rfl (by kernel_rfl) (by kernel_rfl) (by kernel_rfl) (fun _ _ _ h => h) (Or.inl ⟨by kernel_rfl, ?_⟩) (by assumption) ?_
  rotate_left
  · (intro w9 hSw; clear hSw; go_simp; try with_reducible rfl)
  try simp only [o71_2_12, Act.put, List.setIfInBounds_toArray, List.set_cons_zero, List.set_cons_succ]
  refine wpAnyH_ready (rs := [13]) (by kernel_rfl) (by simp) ?_
  refine AllReadyH.cons (o := o71_2_13) rfl (fun K hK => ?_) AllReadyH.nil
  go_simp
  refine (F.out.y1 _ ((Keeps.refl [] _).drew)).mono ?_
  rintro e w9 ⟨rfl, rfl⟩
  refine hK.out _ _ (F.out.ss _ ((Keeps.refl [] _).drew)) (fun hHeld13 => ?_)
  clear hK K hHeld6
  try simp only [o71_2_13, Act.put, List.setIfInBounds_toArray, List.set_cons_zero, List.set_cons_succ]
  refine wpAnyH_take (i := 14) (oi := o71_2_14) (v := ?_) rfl (by kernel_rfl) (by kernel_rfl) (by kernel_rfl) (fun _ _ _ h => h) (Or.inl ⟨by kernel_rfl, ?_⟩) (by assumption) ?_
  rotate_left
  · (intro w9 hSw; clear hSw; go_simp; try with_reducible rfl)
  try simp only [o71_2_14, Act.put, List.setIfInBounds_toArray, List.set_cons_zero, List.set_cons_succ]
  refine wpAnyH_take (i := 15) (oi := o71_2_15) (v := ?_) rfl (by kernel_rfl) (by kernel_rfl) (by kernel_rfl) (fun _ _ _ h => h) (Or.inl ⟨by kernel_rfl, ?_⟩) (by assumption) ?_
  rotate_left
  · (intro w9 hSw; clear hSw; go_simp; try with_reducible rfl)
  try simp only [o71_2_15, Act.put, List.setIfInBounds_toArray, List.set_cons_zero, List.set_cons_succ]
  refine wpAnyH_take (i := 16) (oi := o71_2_16) (v := ?_) rfl (by kernel_rfl) (by kernel_rfl) (by kernel_rfl) (fun _ _ _ h => h) (Or.inl ⟨by kernel_rfl, ?_⟩) (by assumption) ?_
  rotate_left
  · (intro w9 hSw; clear hSw; go_simp; try with_reducible rfl)
  try simp only [o71_2_16, Act.put, List.setIfInBounds_toArray, List.set_cons_zero, List.set_cons_succ]
  refine wpAnyH_take (i := 17) (oi := o71_2_17) (v := ?_) rfl (by kernel_rfl) (by kernel_rfl) (by kernel_rfl) (fun _ _ _ h => h) (Or.inl ⟨by kernel_rfl, ?_⟩) (by assumption) ?_
  rotate_left
  · (intro w9 hSw; clear hSw; go_simp; try with_reducible rfl)
  try simp only [o71_2_17, Act.put, List.setIfInBounds_toArray, List.set_cons_zero, List.set_cons_succ]
  refine wpAnyH_take (i := 19) (oi := o71_2_19) (v := ?_) rfl (by kernel_rfl) (by kernel_rfl) (by kernel_rfl) (fun _ _ _ h => h) (Or.inl ⟨by kernel_rfl, ?_⟩) (by assumption) ?_
  rotate_left
  · (intro w9 hSw; clear hSw; go_simp; try with_reducible rfl)
  try simp only [o71_2_19, Act.put, List.setIfInBounds_toArray, List.set_cons_zero, List.set_cons_succ]
  refine wpAnyH_ready (rs := [18]) (by kernel_rfl) (by simp) ?_
  refine AllReadyH.cons (o := o71_2_18) rfl (fun K hK => ?_) AllReadyH.nil
  go_simp
  refine (F.out.n2 _ ((Keeps.refl [] _).drew)).mono ?_
  rintro e w9 ⟨rfl, rfl⟩
  refine hK.out _ _ (F.out.ss _ ((Keeps.refl [] _).drew)) (fun hHeld18 => ?_)
  clear hK K hHeld13
  try simp only [o71_2_18, Act.put, List.setIfInBounds_toArray, List.set_cons_zero, List.set_cons_succ]
  refine wpAnyH_take (i := 20) (oi := o71_2_20) (v := ?_) rfl (by kernel_rfl) (by kernel_rfl) (by kernel_rfl) (fun _ _ _ h => h) (Or.inl ⟨by kernel_rfl, ?_⟩) (by assumption) ?_
  rotate_left
  · (intro w9 hSw; clear hSw; go_simp; try with_reducible rfl)
  try simp only [o71_2_20, Act.put, List.setIfInBounds_toArray, List.set_cons_zero, List.set_cons_succ]
  refine wpAnyH_take (i := 21) (oi := o71_2_21) (v := ?_) rfl (by kernel_rfl) (by kernel_rfl) (by kernel_rfl) (fun _ _ _ h => h) (Or.inl ⟨by kernel_rfl, ?_⟩) (by assumption) ?_
  rotate_left
  · (intro w9 hSw; clear hSw; go_simp; try with_reducible rfl)
  try simp only [o71_2_21, Act.put, List.setIfInBounds_toArray, List.set_cons_zero, List.set_cons_succ]
  refine wpAnyH_take (i := 22) (oi := o71_2_22) (v := ?_) rfl (by kernel_rfl) (by kernel_rfl) (by kernel_rfl) (fun _ _ _ h => h) (Or.inl ⟨by kernel_rfl, ?_⟩) (by assumption) ?_
  rotate_left
  · (intro w9 hSw; clear hSw; go_simp; try with_reducible rfl)
  try simp only [o71_2_22, Act.put, List.setIfInBounds_toArray, List.set_cons_zero, List.set_cons_succ]
  refine wpAnyH_take (i := 23) (oi := o71_2_23) (v := ?_) rfl (by kernel_rfl) (by kernel_rfl) (by kernel_rfl) (fun _ _ _ h => h) (Or.inl ⟨by kernel_rfl, ?_⟩) (by assumption) ?_
  rotate_left
  · (intro w9 hSw; clear hSw; go_simp; try with_reducible rfl)
  try simp only [o71_2_23, Act.put, List.setIfInBounds_toArray, List.set_cons_zero, List.set_cons_succ]
  refine wpAnyH_take (i := 24) (oi := o71_2_24) (v := ?_) rfl (by kernel_rfl) (by kernel_rfl) (by kernel_rfl) (fun _ _ _ h => h) (Or.inl ⟨by kernel_rfl, ?_⟩) (by assumption) ?_
  rotate_left
  · (intro w9 hSw; clear hSw; go_simp; try with_reducible rfl)
  try simp only [o71_2_24, Act.put, List.setIfInBounds_toArray, List.set_cons_zero, List.set_cons_succ]
  refine wpAnyH_take (i := 25) (oi := o71_2_25) (v := ?_) rfl (by kernel_rfl) (by kernel_rfl) (by kernel_rfl) (fun _ _ _ h => h) (Or.inl ⟨by kernel_rfl, ?_⟩) (by assumption) ?_
  rotate_left
  · (intro w9 hSw; clear hSw; go_simp; try with_reducible rfl)
  try simp only [o71_2_25, Act.put, List.setIfInBounds_toArray, List.set_cons_zero, List.set_cons_succ]
  refine wpAnyH_take (i := 26) (oi := o71_2_26) (v := ?_) rfl (by kernel_rfl) (by kernel_rfl) (by kernel_rfl) (fun _ _ _ h => h) (Or.inl ⟨by kernel_rfl, ?_⟩) (by assumption) ?_
  rotate_left
  · (intro w9 hSw; obtain ⟨s0, s1, s2, s3, s4, s5, s6, s7, s8, s9, s10, s11, s12, s13, s14, s15⟩ := hSw; (try dsimp only at hSw); go_simp; try with_reducible rfl)
  try simp only [o71_2_26, Act.put, List.setIfInBounds_toArray, List.set_cons_zero, List.set_cons_succ]
  refine wpAnyH_take (i := 27) (oi := o71_2_27) (v := ?_) rfl (by kernel_rfl) (by kernel_rfl) (by kernel_rfl) (fun _ _ _ h => h) (Or.inl ⟨by kernel_rfl, ?_⟩) (by assumption) ?_
  rotate_left
  · (intro w9 hSw; clear hSw; go_simp; try with_reducible rfl)
  try simp only [o71_2_27, Act.put, List.setIfInBounds_toArray, List.set_cons_zero, List.set_cons_succ]
  refine wpAnyH_take (i := 28) (oi := o71_2_28) (v := ?_) rfl (by kernel_rfl) (by kernel_rfl) (by kernel_rfl) (fun _ _ _ h => h) (Or.inl ⟨by kernel_rfl, ?_⟩) (by assumption) ?_
  rotate_left
  · (intro w9 hSw; clear hSw; go_simp; try with_reducible rfl)
  try simp only [o71_2_28, Act.put, List.setIfInBounds_toArray, List.set_cons_zero, List.set_cons_succ]
  refine wpAnyH_take (i := 29) (oi := o71_2_29) (v := ?_) rfl (by kernel_rfl) (by kernel_rfl) (by kernel_rfl) (fun _ _ _ h => h) (Or.inl ⟨by kernel_rfl, ?_⟩) (by assumption) ?_
  rotate_left
  · (intro w9 hSw; clear hSw; go_simp; try with_reducible rfl)
  try simp only [o71_2_29, Act.put, List.setIfInBounds_toArray, List.set_cons_zero, List.set_cons_succ]
  refine wpAnyH_take (i := 30) (oi := o71_2_30) (v := ?_) rfl (by kernel_rfl) (by kernel_rfl) (by kernel_rfl) (fun _ _ _ h => h) (Or.inl ⟨by kernel_rfl, ?_⟩) (by assumption) ?_
  rotate_left
  · (intro w9 hSw; obtain ⟨s0, s1, s2, s3, s4, s5, s6, s7, s8, s9, s10, s11, s12, s13, s14, s15⟩ := hSw; (try dsimp only at hSw); go_simp; try with_reducible rfl)
  try simp only [o71_2_30, Act.put, List.setIfInBounds_toArray, List.set_cons_zero, List.set_cons_succ]
  refine wpAnyH_take (i := 31) (oi := o71_2_31) (v := ?_) rfl (by kernel_rfl) (by kernel_rfl) (by kernel_rfl) (fun _ _ _ h => h) (Or.inl ⟨by kernel_rfl, ?_⟩) (by assumption) ?_
  rotate_left
  · (intro w9 hSw; clear hSw; go_simp; try with_reducible rfl)
  try simp only [o71_2_31, Act.put, List.setIfInBounds_toArray, List.set_cons_zero, List.set_cons_succ]
  refine wpAnyH_take (i := 32) (oi := o71_2_32) (v := ?_) rfl (by kernel_rfl) (by kernel_rfl) (by kernel_rfl) (fun _ _ _ h => h) (Or.inl ⟨by kernel_rfl, ?_⟩) (by assumption) ?_
  rotate_left
  · (intro w9 hSw; clear hSw; go_simp; try with_reducible rfl)
  try simp only [o71_2_32, Act.put, List.setIfInBounds_toArray, List.set_cons_zero, List.set_cons_succ]
  refine wpAnyH_take (i := 33) (oi := o71_2_33) (v := ?_) rfl (by kernel_rfl) (by kernel_rfl) (by kernel_rfl) (fun _ _ _ h => h) (Or.inl ⟨by kernel_rfl, ?_⟩) (by assumption) ?_
  rotate_left
  · (intro w9 hSw; clear hSw; go_simp; try with_reducible rfl)
  try simp only [o71_2_33, Act.put, List.setIfInBounds_toArray, List.set_cons_zero, List.set_cons_succ]
  refine wpAnyH_take (i := 34) (oi := o71_2_34) (v := ?_) rfl (by kernel_rfl) (by kernel_rfl) (by kernel_rfl) (fun _ _ _ h => h) (Or.inl ⟨by kernel_rfl, ?_⟩) (by assumption) ?_
  rotate_left
  · (intro w9 hSw; clear hSw; go_simp; try with_reducible rfl)
  try simp only [o71_2_34, Act.put, List.setIfInBounds_toArray, List.set_cons_zero, List.set_cons_succ]
  refine wpAnyH_take (i := 35) (oi := o71_2_35) (v := ?_) rfl (by kernel_rfl) (by kernel_rfl) (by kernel_rfl) (fun _ _ _ h => h) (Or.inl ⟨by kernel_rfl, ?_⟩) (by assumption) ?_
  rotate_left
  · (intro w9 hSw; clear hSw; go_simp; try with_reducible rfl)
  try simp only [o71_2_35, Act.put, List.setIfInBounds_toArray, List.set_cons_zero, List.set_cons_succ]
  refine wpAnyH_ready (rs := [36]) (by kernel_rfl) (by simp) ?_
  refine AllReadyH.cons (o := o71_2_36) rfl (fun K hK => ?_) AllReadyH.nil
  go_simp
  refine (F.out.y2 _ ((Keeps.refl [] _).drew)).mono ?_
  rintro e w9 ⟨rfl, rfl⟩
  refine hK.out _ _ (F.out.ss _ ((Keeps.refl [] _).drew)) (fun hHeld36 => ?_)
  clear hK K hHeld18
  try simp only [o71_2_36, Act.put, List.setIfInBounds_toArray, List.set_cons_zero, List.set_cons_succ]
  refine wpAnyH_take (i := 37) (oi := o71_2_37) (v := ?_) rfl (by kernel_rfl) (by kernel_rfl) (by kernel_rfl) (fun _ _ _ h => h) (Or.inl ⟨by kernel_rfl, ?_⟩) (by assumption) ?_
  rotate_left
  · (intro w9 hSw; clear hSw; go_simp; try with_reducible rfl)
  try simp only [o71_2_37, Act.put, List.setIfInBounds_toArray, List.set_cons_zero, List.set_cons_succ]
  refine wpAnyH_take (i := 38) (oi := o71_2_38) (v := ?_) rfl (by kernel_rfl) (by kernel_rfl) (by kernel_rfl) (fun _ _ _ h => h) (Or.inl ⟨by kernel_rfl, ?_⟩) (by assumption) ?_
  rotate_left
  · (intro w9 hSw; clear hSw; go_simp; try with_reducible rfl)
  try simp only [o71_2_38, Act.put, List.setIfInBounds_toArray, List.set_cons_zero, List.set_cons_succ]
  refine wpAnyH_take (i := 39) (oi := o71_2_39) (v := ?_) rfl (by kernel_rfl) (by kernel_rfl) (by kernel_rfl) (fun _ _ _ h => h) (Or.inl ⟨by kernel_rfl, ?_⟩) (by assumption) ?_
  rotate_left
  · (intro w9 hSw; clear hSw; go_simp; try with_reducible rfl)
  try simp only [o71_2_39, Act.put, List.setIfInBounds_toArray, List.set_cons_zero, List.set_cons_succ]
  refine wpAnyH_take (i := 40) (oi := o71_2_40) (v := ?_) rfl (by kernel_rfl) (by kernel_rfl) (by kernel_rfl) (fun _ _ _ h => h) (Or.inl ⟨by kernel_rfl, ?_⟩) (by assumption) ?_
  rotate_left
  · (intro w9 hSw; clear hSw; go_simp; try with_reducible rfl)
  try simp only [o71_2_40, Act.put, List.setIfInBounds_toArray, List.set_cons_zero, List.set_cons_succ]
  refine wpAnyH_take (i := 41) (oi := o71_2_41) (v := ?_) rfl (by kernel_rfl) (by kernel_rfl) (by kernel_rfl) (fun _ _ _ h => h) (Or.inl ⟨by kernel_rfl, ?_⟩) (by assumption) ?_
  rotate_left
  · (intro w9 hSw; clear hSw; go_simp; try with_reducible rfl)
  try simp only [o71_2_41, Act.put, List.setIfInBounds_toArray, List.set_cons_zero, List.set_cons_succ]
  refine wpAnyH_take (i := 42) (oi := o71_2_42) (v := ?_) rfl (by kernel_rfl) (by kernel_rfl) (by kernel_rfl) (fun _ _ _ h => h) (Or.inl ⟨by kernel_rfl, ?_⟩) (by assumption) ?_
  rotate_left
  · (intro w9 hSw; clear hSw; go_simp; try with_reducible rfl)
  try simp only [o71_2_42, Act.put, List.setIfInBounds_toArray, List.set_cons_zero, List.set_cons_succ]
  refine wpAnyH_ready (rs := [43]) (by kernel_rfl) (by simp) ?_
  refine AllReadyH.cons (o := o71_2_43) rfl (fun K hK => ?_) AllReadyH.nil
  go_simp
  refine (F.out.y3 _ _ HQ.out ((Keeps.refl [] _).drew)).mono ?_
  rintro e w9 ⟨rfl, rfl⟩
  refine hK.out _ _ (F.out.ss _ ((Keeps.refl [] _).drew)) (fun hHeld43 => ?_)
  clear hK K hHeld36
  try simp only [o71_2_43, Act.put, List.setIfInBounds_toArray, List.set_cons_zero, List.set_cons_succ]
  refine wpAnyH_take (i := 44) (oi := o71_2_44) (v := ?_) rfl (by kernel_rfl) (by kernel_rfl) (by kernel_rfl) (fun _ _ _ h => h) (Or.inl ⟨by kernel_rfl, ?_⟩) (by assumption) ?_
  rotate_left
  · (intro w9 hSw; clear hSw; go_simp; try with_reducible rfl)
  try simp only [o71_2_44, Act.put, List.setIfInBounds_toArray, List.set_cons_zero, List.set_cons_succ]
  refine wpAnyH_take (i := 45) (oi := o71_2_45) (v := ?_) rfl (by kernel_rfl) (by kernel_rfl) (by kernel_rfl) (fun _ _ _ h => h) (Or.inl ⟨by kernel_rfl, ?_⟩) (by assumption) ?_
  rotate_left
  · (intro w9 hSw; clear hSw; go_simp; try with_reducible rfl)
  try simp only [o71_2_45, Act.put, List.setIfInBounds_toArray, List.set_cons_zero, List.set_cons_succ]
  refine wpAnyH_take (i := 46) (oi := o71_2_46) (v := ?_) rfl (by kernel_rfl) (by kernel_rfl) (by kernel_rfl) (fun _ _ _ h => h) (Or.inl ⟨by kernel_rfl, ?_⟩) (by assumption) ?_
  rotate_left
  · (intro w9 hSw; clear hSw; go_simp; try with_reducible rfl)
  try simp only [o71_2_46, Act.put, List.setIfInBounds_toArray, List.set_cons_zero, List.set_cons_succ]
  refine wpAnyH_take (i := 47) (oi := o71_2_47) (v := ?_) rfl (by kernel_rfl) (by kernel_rfl) (by kernel_rfl) (fun _ _ _ h => h) (Or.inl ⟨by kernel_rfl, ?_⟩) (by assumption) ?_
  rotate_left
  · (intro w9 hSw; clear hSw; go_simp; try with_reducible rfl)
  try simp only [o71_2_47, Act.put, List.setIfInBounds_toArray, List.set_cons_zero, List.set_cons_succ]
  refine wpAnyH_take (i := 49) (oi := o71_2_49) (v := ?_) rfl (by kernel_rfl) (by kernel_rfl) (by kernel_rfl) (fun _ _ _ h => h) (Or.inl ⟨by kernel_rfl, ?_⟩) (by assumption) ?_
  rotate_left
  · (intro w9 hSw; clear hSw; go_simp; try with_reducible rfl)
  try simp only [o71_2_49, Act.put, List.setIfInBounds_toArray, List.set_cons_zero, List.set_cons_succ]
  refine wpAnyH_take (i := 50) (oi := o71_2_50) (v := ?_) rfl (by kernel_rfl) (by kernel_rfl) (by kernel_rfl) (fun _ _ _ h => h) (Or.inl ⟨by kernel_rfl, ?_⟩) (by assumption) ?_
  rotate_left
  · (intro w9 hSw; clear hSw; go_simp; try with_reducible rfl)
  try simp only [o71_2_50, Act.put, List.setIfInBounds_toArray, List.set_cons_zero, List.set_cons_succ]
  refine wpAnyH_ready (rs := [48, 51]) (by kernel_rfl) (by simp) ?_
  refine AllReadyH.cons (o := o71_2_48) rfl (fun K hK => ?_) (AllReadyH.cons (o := o71_2_51) rfl (fun K hK => ?_) AllReadyH.nil)
  focus
    go_simp
    refine (F.out.n3 _ (by first | exact ((Keeps.refl [] _).drew) | exact (((Keeps.refl [] _).drew).alloc _))).mono ?_
    rintro e w9 ⟨rfl, rfl⟩
    refine hK.out _ _ (F.out.ss _ (by first | exact ((Keeps.refl [] _).drew) | exact (((Keeps.refl [] _).drew).alloc _))) (fun hHeld48 => ?_)
    clear hK K hHeld43
    try simp only [o71_2_48, Act.put, List.setIfInBounds_toArray, List.set_cons_zero, List.set_cons_succ]
    refine wpAnyH_ready (rs := [51]) (by kernel_rfl) (by simp) ?_
    refine AllReadyH.cons (o := o71_2_51) rfl (fun K hK => ?_) AllReadyH.nil
    go_simp
    refine hK.out _ _ (F.out.ss _ (by first | exact ((Keeps.refl [] _).drew) | exact (((Keeps.refl [] _).drew).alloc _))) (fun hHeld51 => ?_)
    clear hK K hHeld48
    try simp only [o71_2_51, Act.put, List.setIfInBounds_toArray, List.set_cons_zero, List.set_cons_succ]
    refine wpAnyH_ready (rs := [52]) (by kernel_rfl) (by simp) ?_
    refine AllReadyH.cons (o := o71_2_52) rfl (fun K hK => ?_) AllReadyH.nil
    go_simp
    refine (F.out.c4 _ (by first | exact ((Keeps.refl [] _).drew) | exact (((Keeps.refl [] _).drew).alloc _)) _ _ (by have := (StrAt.new w1.drew #[Value.slice (some ⟨g, 0, none⟩) 508 c] 22).cell 0; exact this)).mono ?_
    rintro e w9 ⟨rfl, rfl⟩
    refine hK.out _ _ (F.out.ss _ (by first | exact ((Keeps.refl [] _).drew) | exact (((Keeps.refl [] _).drew).alloc _))) (fun hHeld52 => ?_)
    clear hK K hHeld51
    try simp only [o71_2_52, Act.put, List.setIfInBounds_toArray, List.set_cons_zero, List.set_cons_succ]
    refine wpAnyH_take (i := 53) (oi := o71_2_53) (v := ?_) rfl (by kernel_rfl) (by kernel_rfl) (by kernel_rfl) (fun _ _ _ h => h) (Or.inl ⟨by kernel_rfl, ?_⟩) (by assumption) ?_
    rotate_left
    · (intro w9 hSw; clear hSw; go_simp; try with_reducible rfl)
    try simp only [o71_2_53, Act.put, List.setIfInBounds_toArray, List.set_cons_zero, List.set_cons_succ]
    refine wpAnyH_take (i := 54) (oi := o71_2_54) (v := ?_) rfl (by kernel_rfl) (by kernel_rfl) (by kernel_rfl) (fun _ _ _ h => h) (Or.inl ⟨by kernel_rfl, ?_⟩) (by assumption) ?_
    rotate_left
    · (intro w9 hSw; clear hSw; go_simp; try with_reducible rfl)
    try simp only [o71_2_54, Act.put, List.setIfInBounds_toArray, List.set_cons_zero, List.set_cons_succ]
    refine wpAnyH_take (i := 55) (oi := o71_2_55) (v := ?_) rfl (by kernel_rfl) (by kernel_rfl) (by kernel_rfl) (fun _ _ _ h => h) (Or.inl ⟨by kernel_rfl, ?_⟩) (by assumption) ?_
    rotate_left
    · (intro w9 hSw; clear hSw; go_simp; try with_reducible rfl)
    try simp only [o71_2_55, Act.put, List.setIfInBounds_toArray, List.set_cons_zero, List.set_cons_succ]
    refine wpAnyH_take (i := 56) (oi := o71_2_56) (v := ?_) rfl (by kernel_rfl) (by kernel_rfl) (by kernel_rfl) (fun _ _ _ h => h) (Or.inl ⟨by kernel_rfl, ?_⟩) (by assumption) ?_
    rotate_left
    · (intro w9 hSw; clear hSw; go_simp; try with_reducible rfl)
    try simp only [o71_2_56, Act.put, List.setIfInBounds_toArray, List.set_cons_zero, List.set_cons_succ]
    refine wpAnyH_done (by kernel_rfl) ?_ _
  rotate_left 1
  focus
    go_simp
    refine hK.out _ _ (F.out.ss _ (by first | exact ((Keeps.refl [] _).drew) | exact (((Keeps.refl [] _).drew).alloc _))) (fun hHeld51 => ?_)
    clear hK K hHeld43
    try simp only [o71_2_51, Act.put, List.setIfInBounds_toArray, List.set_cons_zero, List.set_cons_succ]
    refine wpAnyH_ready (rs := [48]) (by kernel_rfl) (by simp) ?_
    refine AllReadyH.cons (o := o71_2_48) rfl (fun K hK => ?_) AllReadyH.nil
    go_simp
    refine (F.out.n3 _ (by first | exact ((Keeps.refl [] _).drew) | exact (((Keeps.refl [] _).drew).alloc _))).mono ?_
    rintro e w9 ⟨rfl, rfl⟩
    refine hK.out _ _ (F.out.ss _ (by first | exact ((Keeps.refl [] _).drew) | exact (((Keeps.refl [] _).drew).alloc _))) (fun hHeld48 => ?_)
    clear hK K hHeld51
    try simp only [o71_2_48, Act.put, List.setIfInBounds_toArray, List.set_cons_zero, List.set_cons_succ]
    refine wpAnyH_ready (rs := [52]) (by kernel_rfl) (by simp) ?_
    refine AllReadyH.cons (o := o71_2_52) rfl (fun K hK => ?_) AllReadyH.nil
    go_simp
    refine (F.out.c4 _ (by first | exact ((Keeps.refl [] _).drew) | exact (((Keeps.refl [] _).drew).alloc _)) _ _ (by have := (StrAt.new w1.drew #[Value.slice (some ⟨g, 0, none⟩) 508 c] 22).cell 0; exact this)).mono ?_
    rintro e w9 ⟨rfl, rfl⟩
    refine hK.out _ _ (F.out.ss _ (by first | exact ((Keeps.refl [] _).drew) | exact (((Keeps.refl [] _).drew).alloc _))) (fun hHeld52 => ?_)
    clear hK K hHeld48
    try simp only [o71_2_52, Act.put, List.setIfInBounds_toArray, List.set_cons_zero, List.set_cons_succ]
    refine wpAnyH_take (i := 53) (oi := o71_2_53) (v := ?_) rfl (by kernel_rfl) (by kernel_rfl) (by kernel_rfl) (fun _ _ _ h => h) (Or.inl ⟨by kernel_rfl, ?_⟩) (by assumption) ?_
    rotate_left
    · (intro w9 hSw; clear hSw; go_simp; try with_reducible rfl)
    try simp only [o71_2_53, Act.put, List.setIfInBounds_toArray, List.set_cons_zero, List.set_cons_succ]
    refine wpAnyH_take (i := 54) (oi := o71_2_54) (v := ?_) rfl (by kernel_rfl) (by kernel_rfl) (by kernel_rfl) (fun _ _ _ h => h) (Or.inl ⟨by kernel_rfl, ?_⟩) (by assumption) ?_
    rotate_left
    · (intro w9 hSw; clear hSw; go_simp; try with_reducible rfl)
    try simp only [o71_2_54, Act.put, List.setIfInBounds_toArray, List.set_cons_zero, List.set_cons_succ]
    refine wpAnyH_take (i := 55) (oi := o71_2_55) (v := ?_) rfl (by kernel_rfl) (by kernel_rfl) (by kernel_rfl) (fun _ _ _ h => h) (Or.inl ⟨by kernel_rfl, ?_⟩) (by assumption) ?_
    rotate_left
    · (intro w9 hSw; clear hSw; go_simp; try with_reducible rfl)
    try simp only [o71_2_55, Act.put, List.setIfInBounds_toArray, List.set_cons_zero, List.set_cons_succ]
    refine wpAnyH_take (i := 56) (oi := o71_2_56) (v := ?_) rfl (by kernel_rfl) (by kernel_rfl) (by kernel_rfl) (fun _ _ _ h => h) (Or.inl ⟨by kernel_rfl, ?_⟩) (by assumption) ?_
    rotate_left
    · (intro w9 hSw; clear hSw; go_simp; try with_reducible rfl)
    try simp only [o71_2_56, Act.put, List.setIfInBounds_toArray, List.set_cons_zero, List.set_cons_succ]
    refine wpAnyH_done (by kernel_rfl) ?_ _
  rotate_left 1
  all_goals go_wp2
  all_goals go_ret
  all_goals exact ⟨rfl, HK1.out.trans' (by first | exact ((Keeps.refl [] _).drew) | exact (((Keeps.refl [] _).drew).alloc _))⟩
set_option maxHeartbeats 4000000 in
theorem formed_8 {w w1 : World} {g c rb n : Nat} {j v1 v2 v3 sm : Int} {a0 a1 a2 a3 a4 a5 a6 a7 : Int} {b0 b1 b2 b3 b4 b5 b6 b7 : Int} {z1 z2 z3 : Bool} {r : List Value} (h1 : v1 = (n : Int)) (h2 : z1 = true) (h3 : j = v2) (h4 : a0 = b0 ∧ a1 = b1 ∧ a2 = b2 ∧ a3 = b3 ∧ a4 = b4 ∧ a5 = b5 ∧ a6 = b6 ∧ a7 = b7) (h5 : z2 = true) (h6 : z3 = true) (h7 : sm = v3) (F : Hid (FC w w1 g c rb n j v1 v2 v3 sm a0 a1 a2 a3 a4 a5 a6 a7 b0 b1 b2 b3 b4 b5 b6 b7 z1 z2 z3)) (hw1 : w1 = w.alloc (.cells r.toArray 52)) (hrb : rb = w.heap.size) (L : Int) (hr : r[33]? = some (.int .i64 L)) (HS68 : Hid (∀ W, Calls Tryd.prog 68 #[.int .i64 L, .int .i64 j] W fun e w' => e = .returned (.int .i64 (n : Int)) ∧ w' = W)) (hn : n ≤ 480) (hc : 512 ≤ c) :
    Calls Tryd.prog 71 #[.slice (some ⟨g, 0, none⟩) 512 c, .agg r.toArray, .int .i64 j] w fun e w' => e = .returned (.bool true) ∧ Keeps [] w w' := by
  subst h1
  subst h2
  subst h3
  obtain ⟨rfl, rfl, rfl, rfl, rfl, rfl, rfl, rfl⟩ := h4
  subst h5
  subst h6
  subst h7
  have hEq : ∀ W : World, (Op.equalIn 10000 181 (.agg #[.int .u8 a0, .int .u8 a1, .int .u8 a2, .int .u8 a3, .int .u8 a4, .int .u8 a5, .int .u8 a6, .int .u8 a7]) (.agg #[.int .u8 a0, .int .u8 a1, .int .u8 a2, .int .u8 a3, .int .u8 a4, .int .u8 a5, .int .u8 a6, .int .u8 a7])).run Tryd.prog W = .ok true W := fun W => (eq_bytes2 W 9998 181 5 8 [a0, a1, a2, a3, a4, a5, a6, a7] [a0, a1, a2, a3, a4, a5, a6, a7] Tryd.underlying181 Tryd.underlying5 info5s rfl rfl).trans (by rw [decide_eq_true rfl])
  have a33 : r.toArray[33]? = some (.int .i64 L) := by rw [List.getElem?_toArray]; exact hr
  have HK1 := Lib.hid (show Keeps [] w w1 from by rw [hw1]; exact (Keeps.refl [] w).alloc _)
  have HCL := Lib.hid (show w1.cell? ⟨rb, 33, none⟩ = some (.int .i64 L) from by rw [hw1, hrb, (StrAt.new w r.toArray 52).cell]; exact a33)
  have c4 : ¬ c = 4 := by omega
  have c6 : ¬ c = 6 := by omega
  have c8 : ¬ c = 8 := by omega
  have c12 : ¬ c = 12 := by omega
  have c20 : ¬ c = 20 := by omega
  have c508 : ¬ c = 508 := by omega
  have cc : 512 ≤ c := hc
  have l8 : 8 ≤ c := by omega
  have l20 : 20 ≤ c := by omega
  have l28 : 28 ≤ c := by omega
  have l508 : 508 ≤ c := by omega
  obtain ⟨q, hq⟩ : ∃ q, q = 28 + n := ⟨_, rfl⟩
  have HQ := Lib.hid hq
  have cq : ¬ c = q := by omega
  have q508 : q ≤ 508 := by omega
  have eq28 : 28 + (n : Int) = (q : Int) := by omega
  have wq : IntKind.i64.wrap (q : Int) = (q : Int) := IntWalk.i64_in _ (by omega)
  have i8 : ((8 : Int) ≤ (c : Int)) = True := eq_true (by omega)
  have i20 : ((20 : Int) ≤ (c : Int)) = True := eq_true (by omega)
  have i28 : ((28 : Int) ≤ (c : Int)) = True := eq_true (by omega)
  have i508 : ((508 : Int) ≤ (c : Int)) = True := eq_true (by omega)
  have iq : ((q : Int) ≤ 508) = True := eq_true (by omega)
  have wsm : IntKind.i64.wrap sm = sm := IntWalk.i64_in _ (by have := F.out.s0; omega)
  have hArG : ∀ W : World, (Instr.arrayAt 181 (.slice (some ⟨g, 12, none⟩) 8 (c - 12))).run Tryd.prog W = .ok (.pointer (some ⟨g, 12, none⟩)) W := fun W => by
    simp [Instr.arrayAt, run_underlying Tryd.underlying181, Result.andThen]
  have hArR : ∀ W : World, (Instr.arrayAt 181 (.slice (some ⟨rb, 0, none⟩) 8 32)).run Tryd.prog W = .ok (.pointer (some ⟨rb, 0, none⟩)) W := fun W => by
    simp [Instr.arrayAt, run_underlying Tryd.underlying181, Result.andThen]
  clear hn hq
  go_enter Tryd.func71, Tryd.ntmps71
  go_wp2_with (go_at_call 68; refine (HS68.out _).mono ?_; rintro e w0 ⟨rfl, rfl⟩)
  rw [← hw1, ← hrb]
  clear hw1 hrb a33 HCL
  refine wp_region_held_drew (S := fun W => W.cell? ⟨g, 12, none⟩ = some (.int .u8 a0) ∧ W.cell? ⟨g, 13, none⟩ = some (.int .u8 a1) ∧ W.cell? ⟨g, 14, none⟩ = some (.int .u8 a2) ∧ W.cell? ⟨g, 15, none⟩ = some (.int .u8 a3) ∧ W.cell? ⟨g, 16, none⟩ = some (.int .u8 a4) ∧ W.cell? ⟨g, 17, none⟩ = some (.int .u8 a5) ∧ W.cell? ⟨g, 18, none⟩ = some (.int .u8 a6) ∧ W.cell? ⟨g, 19, none⟩ = some (.int .u8 a7) ∧ W.cell? ⟨rb, 0, none⟩ = some (.int .u8 a0) ∧ W.cell? ⟨rb, 1, none⟩ = some (.int .u8 a1) ∧ W.cell? ⟨rb, 2, none⟩ = some (.int .u8 a2) ∧ W.cell? ⟨rb, 3, none⟩ = some (.int .u8 a3) ∧ W.cell? ⟨rb, 4, none⟩ = some (.int .u8 a4) ∧ W.cell? ⟨rb, 5, none⟩ = some (.int .u8 a5) ∧ W.cell? ⟨rb, 6, none⟩ = some (.int .u8 a6) ∧ W.cell? ⟨rb, 7, none⟩ = some (.int .u8 a7)) (by kernel_rfl) (F.out.ss _ ((Keeps.refl [] _).drew)) (fun hHeld => ?_)
  refine wpAnyH_take (i := 0) (oi := o71_2_0) (v := ?_) rfl (by kernel_rfl) (by kernel_rfl) (by kernel_rfl) (fun _ _ _ h => h) (Or.inl ⟨by kernel_rfl, ?_⟩) (by assumption) ?_
  rotate_left
  · (intro w9 hSw; clear hSw; go_simp; try with_reducible rfl)
  try simp only [o71_2_0, Act.put, List.setIfInBounds_toArray, List.set_cons_zero, List.set_cons_succ]
  refine wpAnyH_ready (rs := [1]) (by kernel_rfl) (by simp) ?_
  refine AllReadyH.cons (o := o71_2_1) rfl (fun K hK => ?_) AllReadyH.nil
  go_simp
  refine hK.out _ _ (F.out.ss _ ((Keeps.refl [] _).drew)) (fun hHeld1 => ?_)
  clear hK K hHeld
  try simp only [o71_2_1, Act.put, List.setIfInBounds_toArray, List.set_cons_zero, List.set_cons_succ]
  refine wpAnyH_take (i := 2) (oi := o71_2_2) (v := ?_) rfl (by kernel_rfl) (by kernel_rfl) (by kernel_rfl) (fun _ _ _ h => h) (Or.inl ⟨by kernel_rfl, ?_⟩) (by assumption) ?_
  rotate_left
  · (intro w9 hSw; clear hSw; go_simp; try with_reducible rfl)
  try simp only [o71_2_2, Act.put, List.setIfInBounds_toArray, List.set_cons_zero, List.set_cons_succ]
  refine wpAnyH_take (i := 3) (oi := o71_2_3) (v := ?_) rfl (by kernel_rfl) (by kernel_rfl) (by kernel_rfl) (fun _ _ _ h => h) (Or.inl ⟨by kernel_rfl, ?_⟩) (by assumption) ?_
  rotate_left
  · (intro w9 hSw; clear hSw; go_simp; try with_reducible rfl)
  try simp only [o71_2_3, Act.put, List.setIfInBounds_toArray, List.set_cons_zero, List.set_cons_succ]
  refine wpAnyH_take (i := 4) (oi := o71_2_4) (v := ?_) rfl (by kernel_rfl) (by kernel_rfl) (by kernel_rfl) (fun _ _ _ h => h) (Or.inl ⟨by kernel_rfl, ?_⟩) (by assumption) ?_
  rotate_left
  · (intro w9 hSw; clear hSw; go_simp; try with_reducible rfl)
  try simp only [o71_2_4, Act.put, List.setIfInBounds_toArray, List.set_cons_zero, List.set_cons_succ]
  refine wpAnyH_take (i := 5) (oi := o71_2_5) (v := ?_) rfl (by kernel_rfl) (by kernel_rfl) (by kernel_rfl) (fun _ _ _ h => h) (Or.inl ⟨by kernel_rfl, ?_⟩) (by assumption) ?_
  rotate_left
  · (intro w9 hSw; clear hSw; go_simp; try with_reducible rfl)
  try simp only [o71_2_5, Act.put, List.setIfInBounds_toArray, List.set_cons_zero, List.set_cons_succ]
  refine wpAnyH_take (i := 7) (oi := o71_2_7) (v := ?_) rfl (by kernel_rfl) (by kernel_rfl) (by kernel_rfl) (fun _ _ _ h => h) (Or.inl ⟨by kernel_rfl, ?_⟩) (by assumption) ?_
  rotate_left
  · (intro w9 hSw; clear hSw; go_simp; try with_reducible rfl)
  try simp only [o71_2_7, Act.put, List.setIfInBounds_toArray, List.set_cons_zero, List.set_cons_succ]
  refine wpAnyH_ready (rs := [6]) (by kernel_rfl) (by simp) ?_
  refine AllReadyH.cons (o := o71_2_6) rfl (fun K hK => ?_) AllReadyH.nil
  go_simp
  refine (F.out.n1 _ ((Keeps.refl [] _).drew)).mono ?_
  rintro e w9 ⟨rfl, rfl⟩
  refine hK.out _ _ (F.out.ss _ ((Keeps.refl [] _).drew)) (fun hHeld6 => ?_)
  clear hK K hHeld1
  try simp only [o71_2_6, Act.put, List.setIfInBounds_toArray, List.set_cons_zero, List.set_cons_succ]
  refine wpAnyH_take (i := 8) (oi := o71_2_8) (v := ?_) rfl (by kernel_rfl) (by kernel_rfl) (by kernel_rfl) (fun _ _ _ h => h) (Or.inl ⟨by kernel_rfl, ?_⟩) (by assumption) ?_
  rotate_left
  · (intro w9 hSw; clear hSw; go_simp; try with_reducible rfl)
  try simp only [o71_2_8, Act.put, List.setIfInBounds_toArray, List.set_cons_zero, List.set_cons_succ]
  refine wpAnyH_take (i := 9) (oi := o71_2_9) (v := ?_) rfl (by kernel_rfl) (by kernel_rfl) (by kernel_rfl) (fun _ _ _ h => h) (Or.inl ⟨by kernel_rfl, ?_⟩) (by assumption) ?_
  rotate_left
  · (intro w9 hSw; clear hSw; go_simp; try with_reducible rfl)
  try simp only [o71_2_9, Act.put, List.setIfInBounds_toArray, List.set_cons_zero, List.set_cons_succ]
  refine wpAnyH_take (i := 10) (oi := o71_2_10) (v := ?_) rfl (by kernel_rfl) (by kernel_rfl) (by kernel_rfl) (fun _ _ _ h => h) (Or.inl ⟨by kernel_rfl, ?_⟩) (by assumption) ?_
  rotate_left
  · (intro w9 hSw; clear hSw; go_simp; try with_reducible rfl)
  try simp only [o71_2_10, Act.put, List.setIfInBounds_toArray, List.set_cons_zero, List.set_cons_succ]
  refine wpAnyH_take (i := 11) (oi := o71_2_11) (v := ?_) rfl (by kernel_rfl) (by kernel_rfl) (by kernel_rfl) (fun _ _ _ h => h) (Or.inl ⟨by kernel_rfl, ?_⟩) (by assumption) ?_
  rotate_left
  · (intro w9 hSw; clear hSw; go_simp; try with_reducible rfl)
  try simp only [o71_2_11, Act.put, List.setIfInBounds_toArray, List.set_cons_zero, List.set_cons_succ]
  refine wpAnyH_take (i := 12) (oi := o71_2_12) (v := ?_) rfl (by kernel_rfl) (by kernel_rfl) (by kernel_rfl) (fun _ _ _ h => h) (Or.inl ⟨by kernel_rfl, ?_⟩) (by assumption) ?_
  rotate_left
  · (intro w9 hSw; clear hSw; go_simp; try with_reducible rfl)
  try simp only [o71_2_12, Act.put, List.setIfInBounds_toArray, List.set_cons_zero, List.set_cons_succ]
  refine wpAnyH_ready (rs := [13]) (by kernel_rfl) (by simp) ?_
  refine AllReadyH.cons (o := o71_2_13) rfl (fun K hK => ?_) AllReadyH.nil
  go_simp
  refine (F.out.y1 _ ((Keeps.refl [] _).drew)).mono ?_
  rintro e w9 ⟨rfl, rfl⟩
  refine hK.out _ _ (F.out.ss _ ((Keeps.refl [] _).drew)) (fun hHeld13 => ?_)
  clear hK K hHeld6
  try simp only [o71_2_13, Act.put, List.setIfInBounds_toArray, List.set_cons_zero, List.set_cons_succ]
  refine wpAnyH_take (i := 14) (oi := o71_2_14) (v := ?_) rfl (by kernel_rfl) (by kernel_rfl) (by kernel_rfl) (fun _ _ _ h => h) (Or.inl ⟨by kernel_rfl, ?_⟩) (by assumption) ?_
  rotate_left
  · (intro w9 hSw; clear hSw; go_simp; try with_reducible rfl)
  try simp only [o71_2_14, Act.put, List.setIfInBounds_toArray, List.set_cons_zero, List.set_cons_succ]
  refine wpAnyH_take (i := 15) (oi := o71_2_15) (v := ?_) rfl (by kernel_rfl) (by kernel_rfl) (by kernel_rfl) (fun _ _ _ h => h) (Or.inl ⟨by kernel_rfl, ?_⟩) (by assumption) ?_
  rotate_left
  · (intro w9 hSw; clear hSw; go_simp; try with_reducible rfl)
  try simp only [o71_2_15, Act.put, List.setIfInBounds_toArray, List.set_cons_zero, List.set_cons_succ]
  refine wpAnyH_take (i := 16) (oi := o71_2_16) (v := ?_) rfl (by kernel_rfl) (by kernel_rfl) (by kernel_rfl) (fun _ _ _ h => h) (Or.inl ⟨by kernel_rfl, ?_⟩) (by assumption) ?_
  rotate_left
  · (intro w9 hSw; clear hSw; go_simp; try with_reducible rfl)
  try simp only [o71_2_16, Act.put, List.setIfInBounds_toArray, List.set_cons_zero, List.set_cons_succ]
  refine wpAnyH_take (i := 17) (oi := o71_2_17) (v := ?_) rfl (by kernel_rfl) (by kernel_rfl) (by kernel_rfl) (fun _ _ _ h => h) (Or.inl ⟨by kernel_rfl, ?_⟩) (by assumption) ?_
  rotate_left
  · (intro w9 hSw; clear hSw; go_simp; try with_reducible rfl)
  try simp only [o71_2_17, Act.put, List.setIfInBounds_toArray, List.set_cons_zero, List.set_cons_succ]
  refine wpAnyH_take (i := 19) (oi := o71_2_19) (v := ?_) rfl (by kernel_rfl) (by kernel_rfl) (by kernel_rfl) (fun _ _ _ h => h) (Or.inl ⟨by kernel_rfl, ?_⟩) (by assumption) ?_
  rotate_left
  · (intro w9 hSw; clear hSw; go_simp; try with_reducible rfl)
  try simp only [o71_2_19, Act.put, List.setIfInBounds_toArray, List.set_cons_zero, List.set_cons_succ]
  refine wpAnyH_ready (rs := [18]) (by kernel_rfl) (by simp) ?_
  refine AllReadyH.cons (o := o71_2_18) rfl (fun K hK => ?_) AllReadyH.nil
  go_simp
  refine (F.out.n2 _ ((Keeps.refl [] _).drew)).mono ?_
  rintro e w9 ⟨rfl, rfl⟩
  refine hK.out _ _ (F.out.ss _ ((Keeps.refl [] _).drew)) (fun hHeld18 => ?_)
  clear hK K hHeld13
  try simp only [o71_2_18, Act.put, List.setIfInBounds_toArray, List.set_cons_zero, List.set_cons_succ]
  refine wpAnyH_take (i := 20) (oi := o71_2_20) (v := ?_) rfl (by kernel_rfl) (by kernel_rfl) (by kernel_rfl) (fun _ _ _ h => h) (Or.inl ⟨by kernel_rfl, ?_⟩) (by assumption) ?_
  rotate_left
  · (intro w9 hSw; clear hSw; go_simp; try with_reducible rfl)
  try simp only [o71_2_20, Act.put, List.setIfInBounds_toArray, List.set_cons_zero, List.set_cons_succ]
  refine wpAnyH_take (i := 21) (oi := o71_2_21) (v := ?_) rfl (by kernel_rfl) (by kernel_rfl) (by kernel_rfl) (fun _ _ _ h => h) (Or.inl ⟨by kernel_rfl, ?_⟩) (by assumption) ?_
  rotate_left
  · (intro w9 hSw; clear hSw; go_simp; try with_reducible rfl)
  try simp only [o71_2_21, Act.put, List.setIfInBounds_toArray, List.set_cons_zero, List.set_cons_succ]
  refine wpAnyH_take (i := 22) (oi := o71_2_22) (v := ?_) rfl (by kernel_rfl) (by kernel_rfl) (by kernel_rfl) (fun _ _ _ h => h) (Or.inl ⟨by kernel_rfl, ?_⟩) (by assumption) ?_
  rotate_left
  · (intro w9 hSw; clear hSw; go_simp; try with_reducible rfl)
  try simp only [o71_2_22, Act.put, List.setIfInBounds_toArray, List.set_cons_zero, List.set_cons_succ]
  refine wpAnyH_take (i := 23) (oi := o71_2_23) (v := ?_) rfl (by kernel_rfl) (by kernel_rfl) (by kernel_rfl) (fun _ _ _ h => h) (Or.inl ⟨by kernel_rfl, ?_⟩) (by assumption) ?_
  rotate_left
  · (intro w9 hSw; clear hSw; go_simp; try with_reducible rfl)
  try simp only [o71_2_23, Act.put, List.setIfInBounds_toArray, List.set_cons_zero, List.set_cons_succ]
  refine wpAnyH_take (i := 24) (oi := o71_2_24) (v := ?_) rfl (by kernel_rfl) (by kernel_rfl) (by kernel_rfl) (fun _ _ _ h => h) (Or.inl ⟨by kernel_rfl, ?_⟩) (by assumption) ?_
  rotate_left
  · (intro w9 hSw; clear hSw; go_simp; try with_reducible rfl)
  try simp only [o71_2_24, Act.put, List.setIfInBounds_toArray, List.set_cons_zero, List.set_cons_succ]
  refine wpAnyH_take (i := 25) (oi := o71_2_25) (v := ?_) rfl (by kernel_rfl) (by kernel_rfl) (by kernel_rfl) (fun _ _ _ h => h) (Or.inl ⟨by kernel_rfl, ?_⟩) (by assumption) ?_
  rotate_left
  · (intro w9 hSw; clear hSw; go_simp; try with_reducible rfl)
  try simp only [o71_2_25, Act.put, List.setIfInBounds_toArray, List.set_cons_zero, List.set_cons_succ]
  refine wpAnyH_take (i := 26) (oi := o71_2_26) (v := ?_) rfl (by kernel_rfl) (by kernel_rfl) (by kernel_rfl) (fun _ _ _ h => h) (Or.inl ⟨by kernel_rfl, ?_⟩) (by assumption) ?_
  rotate_left
  · (intro w9 hSw; obtain ⟨s0, s1, s2, s3, s4, s5, s6, s7, s8, s9, s10, s11, s12, s13, s14, s15⟩ := hSw; (try dsimp only at hSw); go_simp; try with_reducible rfl)
  try simp only [o71_2_26, Act.put, List.setIfInBounds_toArray, List.set_cons_zero, List.set_cons_succ]
  refine wpAnyH_take (i := 27) (oi := o71_2_27) (v := ?_) rfl (by kernel_rfl) (by kernel_rfl) (by kernel_rfl) (fun _ _ _ h => h) (Or.inl ⟨by kernel_rfl, ?_⟩) (by assumption) ?_
  rotate_left
  · (intro w9 hSw; clear hSw; go_simp; try with_reducible rfl)
  try simp only [o71_2_27, Act.put, List.setIfInBounds_toArray, List.set_cons_zero, List.set_cons_succ]
  refine wpAnyH_take (i := 28) (oi := o71_2_28) (v := ?_) rfl (by kernel_rfl) (by kernel_rfl) (by kernel_rfl) (fun _ _ _ h => h) (Or.inl ⟨by kernel_rfl, ?_⟩) (by assumption) ?_
  rotate_left
  · (intro w9 hSw; clear hSw; go_simp; try with_reducible rfl)
  try simp only [o71_2_28, Act.put, List.setIfInBounds_toArray, List.set_cons_zero, List.set_cons_succ]
  refine wpAnyH_take (i := 29) (oi := o71_2_29) (v := ?_) rfl (by kernel_rfl) (by kernel_rfl) (by kernel_rfl) (fun _ _ _ h => h) (Or.inl ⟨by kernel_rfl, ?_⟩) (by assumption) ?_
  rotate_left
  · (intro w9 hSw; clear hSw; go_simp; try with_reducible rfl)
  try simp only [o71_2_29, Act.put, List.setIfInBounds_toArray, List.set_cons_zero, List.set_cons_succ]
  refine wpAnyH_take (i := 30) (oi := o71_2_30) (v := ?_) rfl (by kernel_rfl) (by kernel_rfl) (by kernel_rfl) (fun _ _ _ h => h) (Or.inl ⟨by kernel_rfl, ?_⟩) (by assumption) ?_
  rotate_left
  · (intro w9 hSw; obtain ⟨s0, s1, s2, s3, s4, s5, s6, s7, s8, s9, s10, s11, s12, s13, s14, s15⟩ := hSw; (try dsimp only at hSw); go_simp; try with_reducible rfl)
  try simp only [o71_2_30, Act.put, List.setIfInBounds_toArray, List.set_cons_zero, List.set_cons_succ]
  refine wpAnyH_take (i := 31) (oi := o71_2_31) (v := ?_) rfl (by kernel_rfl) (by kernel_rfl) (by kernel_rfl) (fun _ _ _ h => h) (Or.inl ⟨by kernel_rfl, ?_⟩) (by assumption) ?_
  rotate_left
  · (intro w9 hSw; clear hSw; go_simp; try with_reducible rfl)
  try simp only [o71_2_31, Act.put, List.setIfInBounds_toArray, List.set_cons_zero, List.set_cons_succ]
  refine wpAnyH_take (i := 32) (oi := o71_2_32) (v := ?_) rfl (by kernel_rfl) (by kernel_rfl) (by kernel_rfl) (fun _ _ _ h => h) (Or.inl ⟨by kernel_rfl, ?_⟩) (by assumption) ?_
  rotate_left
  · (intro w9 hSw; clear hSw; go_simp; try with_reducible rfl)
  try simp only [o71_2_32, Act.put, List.setIfInBounds_toArray, List.set_cons_zero, List.set_cons_succ]
  refine wpAnyH_take (i := 33) (oi := o71_2_33) (v := ?_) rfl (by kernel_rfl) (by kernel_rfl) (by kernel_rfl) (fun _ _ _ h => h) (Or.inl ⟨by kernel_rfl, ?_⟩) (by assumption) ?_
  rotate_left
  · (intro w9 hSw; clear hSw; go_simp; try with_reducible rfl)
  try simp only [o71_2_33, Act.put, List.setIfInBounds_toArray, List.set_cons_zero, List.set_cons_succ]
  refine wpAnyH_take (i := 34) (oi := o71_2_34) (v := ?_) rfl (by kernel_rfl) (by kernel_rfl) (by kernel_rfl) (fun _ _ _ h => h) (Or.inl ⟨by kernel_rfl, ?_⟩) (by assumption) ?_
  rotate_left
  · (intro w9 hSw; clear hSw; go_simp; try with_reducible rfl)
  try simp only [o71_2_34, Act.put, List.setIfInBounds_toArray, List.set_cons_zero, List.set_cons_succ]
  refine wpAnyH_take (i := 35) (oi := o71_2_35) (v := ?_) rfl (by kernel_rfl) (by kernel_rfl) (by kernel_rfl) (fun _ _ _ h => h) (Or.inl ⟨by kernel_rfl, ?_⟩) (by assumption) ?_
  rotate_left
  · (intro w9 hSw; clear hSw; go_simp; try with_reducible rfl)
  try simp only [o71_2_35, Act.put, List.setIfInBounds_toArray, List.set_cons_zero, List.set_cons_succ]
  refine wpAnyH_ready (rs := [36]) (by kernel_rfl) (by simp) ?_
  refine AllReadyH.cons (o := o71_2_36) rfl (fun K hK => ?_) AllReadyH.nil
  go_simp
  refine (F.out.y2 _ ((Keeps.refl [] _).drew)).mono ?_
  rintro e w9 ⟨rfl, rfl⟩
  refine hK.out _ _ (F.out.ss _ ((Keeps.refl [] _).drew)) (fun hHeld36 => ?_)
  clear hK K hHeld18
  try simp only [o71_2_36, Act.put, List.setIfInBounds_toArray, List.set_cons_zero, List.set_cons_succ]
  refine wpAnyH_take (i := 37) (oi := o71_2_37) (v := ?_) rfl (by kernel_rfl) (by kernel_rfl) (by kernel_rfl) (fun _ _ _ h => h) (Or.inl ⟨by kernel_rfl, ?_⟩) (by assumption) ?_
  rotate_left
  · (intro w9 hSw; clear hSw; go_simp; try with_reducible rfl)
  try simp only [o71_2_37, Act.put, List.setIfInBounds_toArray, List.set_cons_zero, List.set_cons_succ]
  refine wpAnyH_take (i := 38) (oi := o71_2_38) (v := ?_) rfl (by kernel_rfl) (by kernel_rfl) (by kernel_rfl) (fun _ _ _ h => h) (Or.inl ⟨by kernel_rfl, ?_⟩) (by assumption) ?_
  rotate_left
  · (intro w9 hSw; clear hSw; go_simp; try with_reducible rfl)
  try simp only [o71_2_38, Act.put, List.setIfInBounds_toArray, List.set_cons_zero, List.set_cons_succ]
  refine wpAnyH_take (i := 39) (oi := o71_2_39) (v := ?_) rfl (by kernel_rfl) (by kernel_rfl) (by kernel_rfl) (fun _ _ _ h => h) (Or.inl ⟨by kernel_rfl, ?_⟩) (by assumption) ?_
  rotate_left
  · (intro w9 hSw; clear hSw; go_simp; try with_reducible rfl)
  try simp only [o71_2_39, Act.put, List.setIfInBounds_toArray, List.set_cons_zero, List.set_cons_succ]
  refine wpAnyH_take (i := 40) (oi := o71_2_40) (v := ?_) rfl (by kernel_rfl) (by kernel_rfl) (by kernel_rfl) (fun _ _ _ h => h) (Or.inl ⟨by kernel_rfl, ?_⟩) (by assumption) ?_
  rotate_left
  · (intro w9 hSw; clear hSw; go_simp; try with_reducible rfl)
  try simp only [o71_2_40, Act.put, List.setIfInBounds_toArray, List.set_cons_zero, List.set_cons_succ]
  refine wpAnyH_take (i := 41) (oi := o71_2_41) (v := ?_) rfl (by kernel_rfl) (by kernel_rfl) (by kernel_rfl) (fun _ _ _ h => h) (Or.inl ⟨by kernel_rfl, ?_⟩) (by assumption) ?_
  rotate_left
  · (intro w9 hSw; clear hSw; go_simp; try with_reducible rfl)
  try simp only [o71_2_41, Act.put, List.setIfInBounds_toArray, List.set_cons_zero, List.set_cons_succ]
  refine wpAnyH_take (i := 42) (oi := o71_2_42) (v := ?_) rfl (by kernel_rfl) (by kernel_rfl) (by kernel_rfl) (fun _ _ _ h => h) (Or.inl ⟨by kernel_rfl, ?_⟩) (by assumption) ?_
  rotate_left
  · (intro w9 hSw; clear hSw; go_simp; try with_reducible rfl)
  try simp only [o71_2_42, Act.put, List.setIfInBounds_toArray, List.set_cons_zero, List.set_cons_succ]
  refine wpAnyH_ready (rs := [43]) (by kernel_rfl) (by simp) ?_
  refine AllReadyH.cons (o := o71_2_43) rfl (fun K hK => ?_) AllReadyH.nil
  go_simp
  refine (F.out.y3 _ _ HQ.out ((Keeps.refl [] _).drew)).mono ?_
  rintro e w9 ⟨rfl, rfl⟩
  refine hK.out _ _ (F.out.ss _ ((Keeps.refl [] _).drew)) (fun hHeld43 => ?_)
  clear hK K hHeld36
  try simp only [o71_2_43, Act.put, List.setIfInBounds_toArray, List.set_cons_zero, List.set_cons_succ]
  refine wpAnyH_take (i := 44) (oi := o71_2_44) (v := ?_) rfl (by kernel_rfl) (by kernel_rfl) (by kernel_rfl) (fun _ _ _ h => h) (Or.inl ⟨by kernel_rfl, ?_⟩) (by assumption) ?_
  rotate_left
  · (intro w9 hSw; clear hSw; go_simp; try with_reducible rfl)
  try simp only [o71_2_44, Act.put, List.setIfInBounds_toArray, List.set_cons_zero, List.set_cons_succ]
  refine wpAnyH_take (i := 45) (oi := o71_2_45) (v := ?_) rfl (by kernel_rfl) (by kernel_rfl) (by kernel_rfl) (fun _ _ _ h => h) (Or.inl ⟨by kernel_rfl, ?_⟩) (by assumption) ?_
  rotate_left
  · (intro w9 hSw; clear hSw; go_simp; try with_reducible rfl)
  try simp only [o71_2_45, Act.put, List.setIfInBounds_toArray, List.set_cons_zero, List.set_cons_succ]
  refine wpAnyH_take (i := 46) (oi := o71_2_46) (v := ?_) rfl (by kernel_rfl) (by kernel_rfl) (by kernel_rfl) (fun _ _ _ h => h) (Or.inl ⟨by kernel_rfl, ?_⟩) (by assumption) ?_
  rotate_left
  · (intro w9 hSw; clear hSw; go_simp; try with_reducible rfl)
  try simp only [o71_2_46, Act.put, List.setIfInBounds_toArray, List.set_cons_zero, List.set_cons_succ]
  refine wpAnyH_take (i := 47) (oi := o71_2_47) (v := ?_) rfl (by kernel_rfl) (by kernel_rfl) (by kernel_rfl) (fun _ _ _ h => h) (Or.inl ⟨by kernel_rfl, ?_⟩) (by assumption) ?_
  rotate_left
  · (intro w9 hSw; clear hSw; go_simp; try with_reducible rfl)
  try simp only [o71_2_47, Act.put, List.setIfInBounds_toArray, List.set_cons_zero, List.set_cons_succ]
  refine wpAnyH_take (i := 49) (oi := o71_2_49) (v := ?_) rfl (by kernel_rfl) (by kernel_rfl) (by kernel_rfl) (fun _ _ _ h => h) (Or.inl ⟨by kernel_rfl, ?_⟩) (by assumption) ?_
  rotate_left
  · (intro w9 hSw; clear hSw; go_simp; try with_reducible rfl)
  try simp only [o71_2_49, Act.put, List.setIfInBounds_toArray, List.set_cons_zero, List.set_cons_succ]
  refine wpAnyH_take (i := 50) (oi := o71_2_50) (v := ?_) rfl (by kernel_rfl) (by kernel_rfl) (by kernel_rfl) (fun _ _ _ h => h) (Or.inl ⟨by kernel_rfl, ?_⟩) (by assumption) ?_
  rotate_left
  · (intro w9 hSw; clear hSw; go_simp; try with_reducible rfl)
  try simp only [o71_2_50, Act.put, List.setIfInBounds_toArray, List.set_cons_zero, List.set_cons_succ]
  refine wpAnyH_ready (rs := [48, 51]) (by kernel_rfl) (by simp) ?_
  refine AllReadyH.cons (o := o71_2_48) rfl (fun K hK => ?_) (AllReadyH.cons (o := o71_2_51) rfl (fun K hK => ?_) AllReadyH.nil)
  focus
    go_simp
    refine (F.out.n3 _ (by first | exact ((Keeps.refl [] _).drew) | exact (((Keeps.refl [] _).drew).alloc _))).mono ?_
    rintro e w9 ⟨rfl, rfl⟩
    refine hK.out _ _ (F.out.ss _ (by first | exact ((Keeps.refl [] _).drew) | exact (((Keeps.refl [] _).drew).alloc _))) (fun hHeld48 => ?_)
    clear hK K hHeld43
    try simp only [o71_2_48, Act.put, List.setIfInBounds_toArray, List.set_cons_zero, List.set_cons_succ]
    refine wpAnyH_ready (rs := [51]) (by kernel_rfl) (by simp) ?_
    refine AllReadyH.cons (o := o71_2_51) rfl (fun K hK => ?_) AllReadyH.nil
    go_simp
    refine hK.out _ _ (F.out.ss _ (by first | exact ((Keeps.refl [] _).drew) | exact (((Keeps.refl [] _).drew).alloc _))) (fun hHeld51 => ?_)
    clear hK K hHeld48
    try simp only [o71_2_51, Act.put, List.setIfInBounds_toArray, List.set_cons_zero, List.set_cons_succ]
    refine wpAnyH_ready (rs := [52]) (by kernel_rfl) (by simp) ?_
    refine AllReadyH.cons (o := o71_2_52) rfl (fun K hK => ?_) AllReadyH.nil
    go_simp
    refine (F.out.c4 _ (by first | exact ((Keeps.refl [] _).drew) | exact (((Keeps.refl [] _).drew).alloc _)) _ _ (by have := (StrAt.new w1.drew #[Value.slice (some ⟨g, 0, none⟩) 508 c] 22).cell 0; exact this)).mono ?_
    rintro e w9 ⟨rfl, rfl⟩
    refine hK.out _ _ (F.out.ss _ (by first | exact ((Keeps.refl [] _).drew) | exact (((Keeps.refl [] _).drew).alloc _))) (fun hHeld52 => ?_)
    clear hK K hHeld51
    try simp only [o71_2_52, Act.put, List.setIfInBounds_toArray, List.set_cons_zero, List.set_cons_succ]
    refine wpAnyH_take (i := 53) (oi := o71_2_53) (v := ?_) rfl (by kernel_rfl) (by kernel_rfl) (by kernel_rfl) (fun _ _ _ h => h) (Or.inl ⟨by kernel_rfl, ?_⟩) (by assumption) ?_
    rotate_left
    · (intro w9 hSw; clear hSw; go_simp; try with_reducible rfl)
    try simp only [o71_2_53, Act.put, List.setIfInBounds_toArray, List.set_cons_zero, List.set_cons_succ]
    refine wpAnyH_take (i := 54) (oi := o71_2_54) (v := ?_) rfl (by kernel_rfl) (by kernel_rfl) (by kernel_rfl) (fun _ _ _ h => h) (Or.inl ⟨by kernel_rfl, ?_⟩) (by assumption) ?_
    rotate_left
    · (intro w9 hSw; clear hSw; go_simp; try with_reducible rfl)
    try simp only [o71_2_54, Act.put, List.setIfInBounds_toArray, List.set_cons_zero, List.set_cons_succ]
    refine wpAnyH_take (i := 55) (oi := o71_2_55) (v := ?_) rfl (by kernel_rfl) (by kernel_rfl) (by kernel_rfl) (fun _ _ _ h => h) (Or.inl ⟨by kernel_rfl, ?_⟩) (by assumption) ?_
    rotate_left
    · (intro w9 hSw; clear hSw; go_simp; try with_reducible rfl)
    try simp only [o71_2_55, Act.put, List.setIfInBounds_toArray, List.set_cons_zero, List.set_cons_succ]
    refine wpAnyH_take (i := 56) (oi := o71_2_56) (v := ?_) rfl (by kernel_rfl) (by kernel_rfl) (by kernel_rfl) (fun _ _ _ h => h) (Or.inl ⟨by kernel_rfl, ?_⟩) (by assumption) ?_
    rotate_left
    · (intro w9 hSw; clear hSw; go_simp; try with_reducible rfl)
    try simp only [o71_2_56, Act.put, List.setIfInBounds_toArray, List.set_cons_zero, List.set_cons_succ]
    refine wpAnyH_done (by kernel_rfl) ?_ _
  rotate_left 1
  focus
    go_simp
    refine hK.out _ _ (F.out.ss _ (by first | exact ((Keeps.refl [] _).drew) | exact (((Keeps.refl [] _).drew).alloc _))) (fun hHeld51 => ?_)
    clear hK K hHeld43
    try simp only [o71_2_51, Act.put, List.setIfInBounds_toArray, List.set_cons_zero, List.set_cons_succ]
    refine wpAnyH_ready (rs := [48]) (by kernel_rfl) (by simp) ?_
    refine AllReadyH.cons (o := o71_2_48) rfl (fun K hK => ?_) AllReadyH.nil
    go_simp
    refine (F.out.n3 _ (by first | exact ((Keeps.refl [] _).drew) | exact (((Keeps.refl [] _).drew).alloc _))).mono ?_
    rintro e w9 ⟨rfl, rfl⟩
    refine hK.out _ _ (F.out.ss _ (by first | exact ((Keeps.refl [] _).drew) | exact (((Keeps.refl [] _).drew).alloc _))) (fun hHeld48 => ?_)
    clear hK K hHeld51
    try simp only [o71_2_48, Act.put, List.setIfInBounds_toArray, List.set_cons_zero, List.set_cons_succ]
    refine wpAnyH_ready (rs := [52]) (by kernel_rfl) (by simp) ?_
    refine AllReadyH.cons (o := o71_2_52) rfl (fun K hK => ?_) AllReadyH.nil
    go_simp
    refine (F.out.c4 _ (by first | exact ((Keeps.refl [] _).drew) | exact (((Keeps.refl [] _).drew).alloc _)) _ _ (by have := (StrAt.new w1.drew #[Value.slice (some ⟨g, 0, none⟩) 508 c] 22).cell 0; exact this)).mono ?_
    rintro e w9 ⟨rfl, rfl⟩
    refine hK.out _ _ (F.out.ss _ (by first | exact ((Keeps.refl [] _).drew) | exact (((Keeps.refl [] _).drew).alloc _))) (fun hHeld52 => ?_)
    clear hK K hHeld48
    try simp only [o71_2_52, Act.put, List.setIfInBounds_toArray, List.set_cons_zero, List.set_cons_succ]
    refine wpAnyH_take (i := 53) (oi := o71_2_53) (v := ?_) rfl (by kernel_rfl) (by kernel_rfl) (by kernel_rfl) (fun _ _ _ h => h) (Or.inl ⟨by kernel_rfl, ?_⟩) (by assumption) ?_
    rotate_left
    · (intro w9 hSw; clear hSw; go_simp; try with_reducible rfl)
    try simp only [o71_2_53, Act.put, List.setIfInBounds_toArray, List.set_cons_zero, List.set_cons_succ]
    refine wpAnyH_take (i := 54) (oi := o71_2_54) (v := ?_) rfl (by kernel_rfl) (by kernel_rfl) (by kernel_rfl) (fun _ _ _ h => h) (Or.inl ⟨by kernel_rfl, ?_⟩) (by assumption) ?_
    rotate_left
    · (intro w9 hSw; clear hSw; go_simp; try with_reducible rfl)
    try simp only [o71_2_54, Act.put, List.setIfInBounds_toArray, List.set_cons_zero, List.set_cons_succ]
    refine wpAnyH_take (i := 55) (oi := o71_2_55) (v := ?_) rfl (by kernel_rfl) (by kernel_rfl) (by kernel_rfl) (fun _ _ _ h => h) (Or.inl ⟨by kernel_rfl, ?_⟩) (by assumption) ?_
    rotate_left
    · (intro w9 hSw; clear hSw; go_simp; try with_reducible rfl)
    try simp only [o71_2_55, Act.put, List.setIfInBounds_toArray, List.set_cons_zero, List.set_cons_succ]
    refine wpAnyH_take (i := 56) (oi := o71_2_56) (v := ?_) rfl (by kernel_rfl) (by kernel_rfl) (by kernel_rfl) (fun _ _ _ h => h) (Or.inl ⟨by kernel_rfl, ?_⟩) (by assumption) ?_
    rotate_left
    · (intro w9 hSw; clear hSw; go_simp; try with_reducible rfl)
    try simp only [o71_2_56, Act.put, List.setIfInBounds_toArray, List.set_cons_zero, List.set_cons_succ]
    refine wpAnyH_done (by kernel_rfl) ?_ _
  rotate_left 1
  all_goals go_wp2
  all_goals go_ret
  all_goals exact ⟨rfl, HK1.out.trans' (by first | exact ((Keeps.refl [] _).drew) | exact (((Keeps.refl [] _).drew).alloc _))⟩
end Go.Proofs.YtgcpcgcfpjolnaaDoor.G
