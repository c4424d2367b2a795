import Derived.Test.YtgcpcgcfpjolnaaDoorPC
import Derived.Test.YtgcpcgcfpjolnaaDoorPD
import Derived.Test.YtgcpcgcfpjolnaaDoorPB
-- chain.put of two bytes; chain.sector.
namespace Go.Proofs.YtgcpcgcfpjolnaaDoor.G
open Go.RowKit Go.Proofs.YtgcpcgcfpjolnaaDoorW.PrintWords Go.Proofs.YtgcpcgcfpjolnaaDoorW.PrintLast Go.Proofs.YtgcpcgcfpjolnaaDoorW.PrintMore
set_option linter.unusedVariables false
set_option linter.unusedSimpArgs false
set_option maxRecDepth 10000
theorem put2_calls {w : World} {g cap N : Nat} {xs : List Int} (h : RowAt w g 5 1 N cap (by8 xs)) (o len c : Nat) (hl : 2 ≤ len) (ho : o + 2 ≤ N) (v : Int) (h0 : 0 ≤ v) (h1 : v ≤ 9223372036854775807) :
    Calls Tryd.prog 103 #[.slice (some ⟨g, o, none⟩) len c, .int .i64 v, .int .i64 2] w fun e w' => e = .returned (.tuple #[]) ∧ RowAt w' g 5 1 N cap (by8 (putAt xs o (le 2 v))) ∧ Keeps [g] w w' := by
  have hxn : xs.length = N := by have := h.1; rw [by8_length] at this; omega
  have cell : ∀ j, j < 2 → ∃ x, w.cell? ⟨g, o + j, none⟩ = some (.int .u8 x) := fun j hj => ⟨xs[o + j]'(by omega), by rw [RowAt.cell h (o + j) (by omega), by8_get, List.getElem?_eq_getElem (by omega)]; rfl⟩
  obtain ⟨x0, c0⟩ := cell 0 (by decide)
  obtain ⟨x1, c1⟩ := cell 1 (by decide)
  rw [Nat.add_zero] at c0
  have f0 := RowAt.frozen h o
  have f1 := RowAt.frozen h (o + 1)
  have HR := Lib.hid (RowAt_setCells (by8 (le 2 v)) o w (by8 xs) h (by rw [by8_length, by8_length]; simp [le]; omega))
  have HK := Lib.hid (keeps_setCells (S := [g]) (g := g) (by simp) (by8 (le 2 v)) o w w (Keeps.refl _ _))
  clear cell h
  go_enter Tryd.func103, Tryd.ntmps103
  go_wp2
  refine wp_loop_rounds 3 ?_
  rw [rounds_succ]
  go_wp2
  rw [rounds_succ]
  go_wp2
  rw [rounds_succ]
  go_wp2
  go_end0
  have e1 : (le 2 v) = [v % 256, v / 256 % 256] := by
    simp [le, List.range_succ]
  have HR2 : RowAt (w.setCells g o (by8 (le 2 v))) g 5 1 N cap (by8 (putAt xs o (le 2 v))) := by unfold by8; rw [putAt_map]; exact HR.out
  have HK2 := HK.out
  rw [e1] at HR2 HK2
  exact ⟨rfl, by rw [e1]; exact HR2, HK2⟩
theorem sumN {w : World} (g cap : Nat) (A : Option Addr) (c n : Nat) (xs : List Int) (hn : xs.length = n) (hg : w.cell? ⟨g, 0, none⟩ = some (.slice A n c)) (hx : Kd.C (Kd.int .u8) w A n xs) (hH : HalfW w) :
    Calls Tryd.prog 104 #[.slice (some ⟨g, 0, none⟩) 1 cap] w fun e w' => e = .returned (.int .u32 (crcF xs)) ∧ w' = w := by
  subst hn
  exact sum_calls g cap A c xs w hg hx hH
theorem made8 (n : Nat) : (madeCells #[Value.int .u8 0] n).toList = by8 (zs n) := by
  rw [toList_madeCells_one]
  simp [by8, zs]
theorem row_range8 {w : World} {g cap n : Nat} {xs : List Int} (h : RowAt w g 5 1 n cap (by8 xs)) : w.rangeAt g 0 (by8 xs) := fun j v hj => by
  have h1 := h.1
  have h2 := (List.getElem?_eq_some_iff.1 hj).1
  rw [Nat.zero_add, RowAt.cell h j (by omega)]
  exact hj
set_option maxHeartbeats 1000000 in
theorem sector_calls {w : World} (h : List Int) (hh : h.length = 32) (place next : Int) (p0 : 0 ≤ place) (p1 : place ≤ 9223372036854775807) (n0 : 0 ≤ next) (n1 : next ≤ 9223372036854775807) (A : Option Addr) (pc L : Nat) (ps : List Int) (hp : Kd.C (Kd.int .u8) w A L ps) (hA : ∀ a, A = some a → a.block < w.heap.size) (hL : L ≤ 480) (hH : HalfW w) (hw1 : 0 < w.heap.size) :
    Calls Tryd.prog 70 #[.agg (by8 h).toArray, .int .i64 place, .int .i64 next, .slice A L pc] w fun e w' => ∃ g, e = .returned (.slice (some ⟨g, 0, none⟩) 512 512) ∧ w.heap.size ≤ g ∧ RowAt w' g 5 1 512 512 (by8 (secB h place next ps)) ∧ Keeps [] w w' := by
  have HPC := Lib.hid (show ∀ S W, Keeps S w W → (∀ k ∈ S, w.heap.size ≤ k) → Kd.C (Kd.int .u8) W A L ps from fun S W hk hs => by
    cases A with
    | none => exact ⟨hp.1, hp.2.1, fun h0 => by obtain ⟨ad, e, _⟩ := hp.2.2 h0; cases e⟩
    | some a => exact C_keeps hp hk fun hm => by have := hs _ hm; have := hA a rfl; omega)
  have HL := Lib.hid hp.1
  have HHL := Lib.hid hh
  have HHW := Lib.hid hH
  have HB := Lib.hid (StrAt.new w (by8 h).toArray 50)
  clear hp hA hh hH
  go_enter Tryd.func70, Tryd.ntmps70
  go_wp2_with (refine wp_make rfl _ _ 22 5 (.int .u8 0) 1 1 rfl Tryd.underlying22 info5c 512 rfl rfl rfl rfl (by decide) (by decide) ?_)
  intro w1 hr1 hk1
  rw [made8] at hr1
  obtain ⟨hb, hhb⟩ : ∃ hb, hb = w.heap.size := ⟨_, rfl⟩
  have HB1 := HB.out.keeps hk1 (by simp)
  rw [← hhb] at HB1 ⊢
  have hr1' : RowAt w1 (hb + 1) 5 1 512 512 (by8 (zs 512)) := by rw [hhb]; exact hr1
  have k1 : Keeps [] w w1 := ((Keeps.refl [] w).alloc _).trans' hk1
  have HHB := Lib.hid hhb
  clear hr1 hk1 hhb HB
  obtain ⟨g, hg⟩ : ∃ g, g = hb + 1 := ⟨_, rfl⟩
  rw [← hg] at hr1' ⊢
  have hgb : hb < g := by omega
  have HG := Lib.hid hg
  clear hg
  have hX0 := zs_length 512
  generalize hZ : zs 512 = X0 at hr1' hX0
  have HZ := Lib.hid hZ
  clear hZ
  go_wp2_with (first | (go_at_call 103; refine (put4_calls hr3 8 504 504 (by omega) (by omega) place p0 p1).mono ?_; rintro e w4 ⟨rfl, hr4, hk4⟩) | (go_at_call 103; refine (put2_calls hr2 4 508 508 (by omega) (by omega) (L : Int) (by omega) (by omega)).mono ?_; rintro e w3 ⟨rfl, hr3, hk3⟩) | (go_at_call 103; refine (put4_calls hr1' 0 512 512 (by omega) (by omega) next n0 n1).mono ?_; rintro e w2 ⟨rfl, hr2, hk2⟩))
  have k4 : Keeps [] w w4 := (((k1.trans hk2 (by have := HHB.out; simp; omega)).trans hk3 (by have := HHB.out; simp; omega)).trans hk4 (by have := HHB.out; simp; omega))
  have hb4 : StrAt w4 hb (by8 h).toArray 50 := ((HB1.keeps hk2 (by simp; omega)).keeps hk3 (by simp; omega)).keeps hk4 (by simp; omega)
  generalize hX3 : putAt (putAt (putAt X0 0 (le 4 next)) 4 (le 2 (L : Int))) 8 (le 4 place) = X3 at hr4
  have HX3 := Lib.hid hX3
  have hX3l : X3.length = 512 := by have := hr4.1; rw [by8_length] at this; omega
  clear hr1' hr2 hr3 hk2 hk3 hk4 hX3 HB1 k1
  have HC5 := Lib.hid (show Kd.C (Kd.int .u8) w4.drew (some ⟨hb, 0, none⟩) 32 h from by
    have := str_read hb4.drew1 (by rw [HHL.out]; decide)
    rwa [HHL.out] at this)
  have HR5 := Lib.hid (show RowAt w4.drew g 5 1 512 512 (by8 X3) from hr4)
  have HR6 := Lib.hid (show RowAt (w4.drew.setCells g 12 (by8 (h.take 8))) g 5 1 512 512 (by8 (putAt X3 12 (h.take 8))) from by
    have := RowAt_setCells (by8 (h.take 8)) 12 w4.drew (by8 X3) hr4 (by rw [by8_length, by8_length, hX3l]; simp; omega)
    unfold by8 at this ⊢
    rwa [← putAt_map] at this)
  have HK6 := Lib.hid (show Keeps [] w (w4.drew.setCells g 12 (by8 (h.take 8))) from by
    have := keeps_setCells (S := [g]) (g := g) (by simp) (by8 (h.take 8)) 12 w _ ((k4.drew).mono (by simp))
    exact this.mono (by have := HHB.out; simp; omega))
  have HK4 := Lib.hid k4
  clear hr4 k4 hb4
  go_region_law (first | (refine step_copy8 rfl (.tmp 24) (.tmp 25) 22 22 5 rfl Tryd.underlying22 info5s rfl rfl HC5.out HR5.out (by decide) ?_) | fail)
  generalize hW6 : w4.drew.setCells g 12 (by8 (h.take 8)) = w6 at HR6 HK6 ⊢
  clear hW6
  obtain ⟨X4, hX4⟩ : ∃ X, X = putAt X3 12 (h.take 8) := ⟨_, rfl⟩
  have hX4l : X4.length = 512 := by rw [hX4, putAt_length _ _ _ (by simp; omega)]; exact hX3l
  rw [← hX4] at HR6
  have HX4 := Lib.hid hX4
  have HP6 := Lib.hid (HPC.out [] w6 HK6.out (by simp))
  have HR7 := Lib.hid (show RowAt (w6.setCells g 28 (by8 (ps.take 480))) g 5 1 512 512 (by8 (putAt X4 28 (ps.take 480))) from by
    have := RowAt_setCells (by8 (ps.take 480)) 28 w6 (by8 X4) HR6.out (by rw [by8_length, by8_length, hX4l]; simp; omega)
    unfold by8 at this ⊢
    rwa [← putAt_map] at this)
  have HK7 := Lib.hid (show Keeps [] w (w6.setCells g 28 (by8 (ps.take 480))) from by
    have := keeps_setCells (S := [g]) (g := g) (by simp) (by8 (ps.take 480)) 28 w _ ((HK6.out).mono (by simp))
    exact this.mono (by have := HHB.out; simp; omega))
  clear hX4
  go_wp2_with (refine wp_copy8 rfl (.tmp 28) (.tmp 29) 22 22 5 rfl Tryd.underlying22 info5s rfl rfl HP6.out HR6.out (by decide) ?_; generalize hW7 : w6.setCells g 28 (by8 (ps.take 480)) = w7 at HR7 HK7 ⊢; clear hW7)
  obtain ⟨X5, hX5⟩ : ∃ X, X = putAt X4 28 (ps.take 480) := ⟨_, rfl⟩
  have hX5l : X5.length = 512 := by rw [hX5, putAt_length _ _ _ (by simp; omega)]; exact hX4l
  rw [← hX5] at HR7
  have HLH := Lib.hid (show X5 = laidH h place next ps by unfold laidH; rw [hX5, HX4.out, ← HX3.out, ← HZ.out, HL.out])
  have hc0 := crcF_lo (X5.take 508)
  have hc1 := crcF_hi (X5.take 508)
  have HSM := Lib.hid (show ∀ W, Keeps [] w7 W → ∀ q cp, W.cell? ⟨q, 0, none⟩ = some (.slice (some ⟨g, 0, none⟩) 508 512) → Calls Tryd.prog 104 #[.slice (some ⟨q, 0, none⟩) 1 cp] W fun e w' => e = .returned (.int .u32 (crcF (X5.take 508))) ∧ w' = W from fun W hk q cp hq =>
    sumN q cp (some ⟨g, 0, none⟩) 512 508 (X5.take 508) (by simp; omega) hq (by
      have := C_of_range (range_take (row_range8 (RowAt.keeps HR7.out hk (by simp))) 508) (by simp; omega)
      rwa [show (X5.take 508).length = 508 by simp; omega] at this) ((HHW.out.keeps HK7.out (by simp)).keeps hk (by simp)))
  have HPT := Lib.hid (show ∀ W, Keeps [] w7 W → ∀ v : Int, 0 ≤ v → v ≤ 9223372036854775807 → Calls Tryd.prog 103 #[.slice (some ⟨g, 508, none⟩) 4 4, .int .i64 v, .int .i64 4] W fun e w' => e = .returned (.tuple #[]) ∧ RowAt w' g 5 1 512 512 (by8 (putAt X5 508 (le 4 v))) ∧ Keeps [g] W w' from fun W hk v v0 v1 =>
    put4_calls (RowAt.keeps HR7.out hk (by simp)) 508 4 4 (by decide) (by decide) v v0 v1)
  generalize hS : crcF (X5.take 508) = sm at hc0 hc1 HSM
  have HS := Lib.hid hS
  clear hX5 hS
  have HWR := Lib.hid (show IntKind.i64.wrap sm = sm from IntWalk.i64_in sm (by omega))
  have HCE := Lib.hid (show (w7.drew.alloc (.cells #[.slice (some ⟨g, 0, none⟩) 508 512] 22)).cell? ⟨w7.heap.size, 0, none⟩ = some (.slice (some ⟨g, 0, none⟩) 508 512) from by
    have := (StrAt.new w7.drew #[Value.slice (some ⟨g, 0, none⟩) 508 512] 22).cell 0
    simpa using this)
  go_region_held3 (fun _ => True) (first | trivial) (first | (go_at_call 104; refine (HSM.out _ (((Keeps.refl [] w7).drew).alloc _) _ _ HCE.out).mono ?_; rintro e w' ⟨rfl, rfl⟩) | (go_at_call 103; rw [HWR.out]; refine (HPT.out _ (((Keeps.refl [] w7).alloc _).drew) sm hc0 (by omega)).mono ?_; rintro e w9 ⟨rfl, hr9, hk9⟩) | fail)
  go_wp2
  go_ret
  refine ⟨g, rfl, by have := HHB.out; omega, ?_, ?_⟩
  · have e1 := laid_secB h place next ps (by rw [HHL.out]; decide) (by rw [HL.out]; exact hL)
    rw [← HLH.out, HS.out] at e1
    rw [← e1]; exact hr9
  · exact (((HK7.out.alloc _).drew)).trans hk9 (by have := HHB.out; simp; omega)
end Go.Proofs.YtgcpcgcfpjolnaaDoor.G
-- Structs that are built of parts; what a ref is.
namespace Go.Proofs.YtgcpcgcfpjolnaaDoor.G
open Go.RowKit Go.Proofs.YtgcpcgcfpjolnaaDoorW.PrintWords Go.Proofs.YtgcpcgcfpjolnaaDoorW.PrintLast Go.Proofs.YtgcpcgcfpjolnaaDoorW.PrintMore
set_option linter.unusedVariables false
set_option linter.unusedSimpArgs false
set_option maxRecDepth 10000
theorem fold_setO (l : List Value) (off : Nat) : ∀ (k : Nat) (base : Array Value), off + k + l.length ≤ base.size → (l.zipIdx k).foldl (fun b p => b.setIfInBounds (off + p.2) p.1) base = (putAt base.toList (off + k) l).toArray := by
  induction l with
  | nil => intro k base _; simp [putAt_nil]
  | cons v l ih =>
    intro k base h
    simp only [List.length_cons] at h
    rw [List.zipIdx_cons, List.foldl_cons, ih (k + 1) _ (by simp; omega), ← putAt_cons base.toList (off + k) v l (by simp; omega), Array.toList_setIfInBounds]
    rfl
theorem fill_step (place : Nat → Option (Nat × Nat)) (base : Array Value) (i : Nat) (v : Value) (rest : List (Nat × Value)) (off size : Nat) (hp : place i = some (off, size)) (hv : v.cells.size = size) (ho : off + size ≤ base.size) :
    Instr.fill place base ((i, v) :: rest) = Instr.fill place (putAt base.toList off v.cells.toList).toArray rest := by
  have e1 : v.cells.zipIdx.foldl (fun (b : Array Value) (p : Value × Nat) => b.setIfInBounds (off + p.2) p.1) base = (putAt base.toList off v.cells.toList).toArray := by
    rw [← Array.foldl_toList, Array.toList_zipIdx, fold_setO v.cells.toList off 0 base (by simp; omega), Nat.add_zero]
  conv => lhs; unfold Instr.fill
  simp only [hp]
  rw [if_neg (by simp [hv]; omega)]
  exact congrArg (fun b => Instr.fill place b rest) e1
def refC (h : List Int) (fi len : Int) : List Value := by8 h ++ [Value.int .i64 fi, Value.int .i64 len]
theorem info52 : (Tryd.prog.info? 52).map (fun i => (i.zero, i.size, i.bytes)) = some (some (.agg (by8 (zs 32) ++ [Value.int .i64 0, Value.int .i64 0]).toArray), 34, 48) := by kernel_rfl
theorem info50 : (Tryd.prog.info? 50).map (fun i => (i.zero, i.size, i.bytes)) = some (some (.agg (by8 (zs 32)).toArray), 32, 32) := by kernel_rfl
theorem build52 (w : World) (h : List Int) (hh : h.length = 32) (fi len : Int) : (Instr.build 52 #[(0, .agg (by8A h)), (1, .int .i64 fi), (2, .int .i64 len)]).run Tryd.prog w = .ok (.agg (refC h fi len).toArray) w := by
  obtain ⟨i0, hi, hz0, hz1, hz2⟩ := info_parts info52
  obtain ⟨i1, hi1, _, hz11, _⟩ := info_parts info50
  obtain ⟨i2, hi2, _, hz21, _⟩ := info_parts info3c
  have hf : Instr.fill (fun x => [(0, 32), (32, 1), (33, 1)][x]?) (by8 (zs 32) ++ [Value.int .i64 0, Value.int .i64 0]).toArray [(0, .agg (by8A h)), (1, .int .i64 fi), (2, .int .i64 len)] = some (refC h fi len).toArray := by
    have hhl : (by8 h).length = 32 := by rw [by8_length, hh]
    rw [fill_step _ _ 0 _ _ 0 32 rfl (by rw [show (Value.agg (by8A h)).cells = by8A h from rfl, by8A_size, hh]) (by simp [by8_length, zs])]
    rw [show (putAt (by8 (zs 32) ++ [Value.int .i64 0, Value.int .i64 0]).toArray.toList 0 (Value.agg (by8A h)).cells.toList) = by8 h ++ [Value.int .i64 0, Value.int .i64 0] from
      putAt_mid [] (by8 (zs 32)) _ (by8 h) 0 rfl (by rw [hhl, by8_length, zs_length])]
    rw [fill_step _ _ 1 _ _ 32 1 rfl rfl (by simp [hhl])]
    rw [show (putAt (by8 h ++ [Value.int .i64 0, Value.int .i64 0]).toArray.toList 32 (Value.int .i64 fi).cells.toList) = by8 h ++ [Value.int .i64 fi, Value.int .i64 0] from
      putAt_mid (by8 h) [Value.int .i64 0] [Value.int .i64 0] [Value.int .i64 fi] 32 hhl rfl]
    rw [fill_step _ _ 2 _ _ 33 1 rfl rfl (by simp [hhl])]
    rw [show (putAt (by8 h ++ [Value.int .i64 fi, Value.int .i64 0]).toArray.toList 33 (Value.int .i64 len).cells.toList) = refC h fi len from by
      have := putAt_mid (by8 h ++ [Value.int .i64 fi]) [Value.int .i64 0] [] [Value.int .i64 len] 33 (by simp [hhl]) rfl
      simp only [List.append_assoc, List.cons_append, List.nil_append, List.append_nil] at this
      exact this]
    rfl
  simp [Instr.build, zeroValue, typeInfo, hi, hz0, run_underlying Tryd.underlying52, sizeOf, hi1, hz11, hi2, hz21, Value.cells, Result.andThen]
  rw [hf]
  rfl
theorem refC_length (h : List Int) (fi len : Int) (hh : h.length = 32) : (refC h fi len).length = 34 := by simp [refC, by8_length, hh]
/-- the cells of a line, and what stands behind it -/
def lnL (db : Nat) (h : List Int) (fi len : Int) (nv : Value) (done : Int) (tl : List Value) : List Value := Value.pointer (some ⟨db, 0, none⟩) :: (by8 h ++ (Value.int .i64 fi :: Value.int .i64 len :: nv :: Value.int .i64 done :: tl))
def lnC (db : Nat) (h : List Int) (fi len : Int) (nv : Value) (done : Int) (tl : List Value) : Array Value := (lnL db h fi len nv done tl).toArray
def z34 : List Value := by8 (zs 32) ++ [Value.int .i64 0, Value.int .i64 0]
theorem info54 : (Tryd.prog.info? 54).map (fun i => (i.zero, i.size, i.bytes)) = some (some (.agg ([Value.pointer none] ++ (z34 ++ [Value.slice none 0 0, Value.int .i64 0])).toArray), 37, 88) := by kernel_rfl
theorem info56 : (Tryd.prog.info? 56).map (fun i => (i.zero, i.size, i.bytes)) = some (some (.agg ([Value.pointer none] ++ (z34 ++ [Value.slice none 0 0, Value.int .i64 0]) ++ [Value.slice none 0 0]).toArray), 38, 112) := by kernel_rfl
theorem info23 : (Tryd.prog.info? 23).map (fun i => (i.zero, i.size, i.bytes)) = some (some (.pointer none), 1, 8) := by kernel_rfl
theorem info47 : (Tryd.prog.info? 47).map (fun i => (i.zero, i.size, i.bytes)) = some (some (.slice none 0 0), 1, 24) := by kernel_rfl
theorem z34_length : z34.length = 34 := by simp [z34, by8_length, zs]
theorem build54 (w : World) (db : Nat) (h : List Int) (hh : h.length = 32) (fi len : Int) (nv : Value) (hn : nv.cells = #[nv]) : (Instr.build 54 #[(0, .pointer (some ⟨db, 0, none⟩)), (1, .agg (refC h fi len).toArray), (2, nv)]).run Tryd.prog w = .ok (.agg (lnC db h fi len nv 0 [])) w := by
  obtain ⟨i0, hi, hz0, hz1, hz2⟩ := info_parts info54
  obtain ⟨i1, hi1, _, hz11, _⟩ := info_parts info52
  obtain ⟨i2, hi2, _, hz21, _⟩ := info_parts info3c
  obtain ⟨i3, hi3, _, hz31, _⟩ := info_parts info23
  obtain ⟨i4, hi4, _, hz41, _⟩ := info_parts info47
  have hf : Instr.fill (fun x => [(0, 1), (1, 34), (35, 1), (36, 1)][x]?) ([Value.pointer none] ++ (z34 ++ [Value.slice none 0 0, Value.int .i64 0])).toArray [(0, .pointer (some ⟨db, 0, none⟩)), (1, .agg (refC h fi len).toArray), (2, nv)] = some (lnC db h fi len nv 0 []) := by
    have hrl := refC_length h fi len hh
    rw [fill_step _ _ 0 _ _ 0 1 rfl rfl (by simp [z34_length])]
    rw [show (putAt ([Value.pointer none] ++ (z34 ++ [Value.slice none 0 0, Value.int .i64 0])).toArray.toList 0 (Value.pointer (some ⟨db, 0, none⟩)).cells.toList) = [Value.pointer (some ⟨db, 0, none⟩)] ++ (z34 ++ [Value.slice none 0 0, Value.int .i64 0]) from
      putAt_mid [] [Value.pointer none] _ [Value.pointer (some ⟨db, 0, none⟩)] 0 rfl rfl]
    rw [fill_step _ _ 1 _ _ 1 34 rfl (by rw [show (Value.agg (refC h fi len).toArray).cells = (refC h fi len).toArray from rfl, List.size_toArray, hrl]) (by simp [z34_length])]
    rw [show (putAt ([Value.pointer (some ⟨db, 0, none⟩)] ++ (z34 ++ [Value.slice none 0 0, Value.int .i64 0])).toArray.toList 1 (Value.agg (refC h fi len).toArray).cells.toList) = [Value.pointer (some ⟨db, 0, none⟩)] ++ (refC h fi len ++ [Value.slice none 0 0, Value.int .i64 0]) from
      putAt_mid [Value.pointer (some ⟨db, 0, none⟩)] z34 _ (refC h fi len) 1 rfl (by rw [hrl, z34_length])]
    rw [fill_step _ _ 2 _ _ 35 1 rfl (by rw [hn]; rfl) (by simp [hrl])]
    rw [show (putAt ([Value.pointer (some ⟨db, 0, none⟩)] ++ (refC h fi len ++ [Value.slice none 0 0, Value.int .i64 0])).toArray.toList 35 nv.cells.toList) = lnL db h fi len nv 0 [] from by
      have := putAt_mid ([Value.pointer (some ⟨db, 0, none⟩)] ++ refC h fi len) [Value.slice none 0 0] [Value.int .i64 0] [nv] 35 (by simp [hrl]) rfl
      rw [hn]
      simpa [refC, lnL] using this]
    rfl
  simp [Instr.build, zeroValue, typeInfo, hi, hz0, run_underlying Tryd.underlying54, sizeOf, hi1, hz11, hi2, hz21, hi3, hz31, hi4, hz41, Value.cells, Result.andThen]
  simp at hf
  rw [hf]
  rfl
theorem lnL_length (db : Nat) (h : List Int) (hh : h.length = 32) (fi len : Int) (nv : Value) (done : Int) (tl : List Value) : (lnL db h fi len nv done tl).length = 37 + tl.length := by
  simp [lnL, by8_length, hh]; omega
theorem lnL_app (db : Nat) (h : List Int) (fi len : Int) (nv : Value) (done : Int) (tl : List Value) : lnL db h fi len nv done tl = lnL db h fi len nv done [] ++ tl := by simp [lnL]
theorem build56 (w : World) (db : Nat) (h : List Int) (hh : h.length = 32) (fi len : Int) (nv bv : Value) (hb : bv.cells = #[bv]) : (Instr.build 56 #[(0, .agg (lnC db h fi len nv 0 [])), (1, bv)]).run Tryd.prog w = .ok (.agg (lnC db h fi len nv 0 [bv])) w := by
  obtain ⟨i0, hi, hz0, hz1, hz2⟩ := info_parts info56
  obtain ⟨i1, hi1, _, hz11, _⟩ := info_parts info54
  obtain ⟨i2, hi2, _, hz21, _⟩ := info_parts info22
  have hf : Instr.fill (fun x => [(0, 37), (37, 1)][x]?) ([Value.pointer none] ++ (z34 ++ [Value.slice none 0 0, Value.int .i64 0]) ++ [Value.slice none 0 0]).toArray [(0, .agg (lnC db h fi len nv 0 [])), (1, bv)] = some (lnC db h fi len nv 0 [bv]) := by
    have hrl := lnL_length db h hh fi len nv 0 []
    have hzl : ([Value.pointer none] ++ (z34 ++ [Value.slice none 0 0, Value.int .i64 0])).length = 37 := by simp [z34_length]
    rw [fill_step _ _ 0 _ _ 0 37 rfl (by rw [show (Value.agg (lnC db h fi len nv 0 [])).cells = (lnL db h fi len nv 0 []).toArray from rfl, List.size_toArray, hrl]; rfl) (by rw [List.size_toArray, List.length_append, hzl]; decide)]
    rw [show (putAt ([Value.pointer none] ++ (z34 ++ [Value.slice none 0 0, Value.int .i64 0]) ++ [Value.slice none 0 0]).toArray.toList 0 (Value.agg (lnC db h fi len nv 0 [])).cells.toList) = lnL db h fi len nv 0 [] ++ [Value.slice none 0 0] from
      putAt_mid [] ([Value.pointer none] ++ (z34 ++ [Value.slice none 0 0, Value.int .i64 0])) [Value.slice none 0 0] (lnL db h fi len nv 0 []) 0 rfl (by rw [hrl, hzl]; rfl)]
    rw [fill_step _ _ 1 _ _ 37 1 rfl (by rw [hb]; rfl) (by rw [List.size_toArray, List.length_append, hrl]; decide)]
    rw [show (putAt (lnL db h fi len nv 0 [] ++ [Value.slice none 0 0]).toArray.toList 37 bv.cells.toList) = lnL db h fi len nv 0 [bv] from by
      have := putAt_mid (lnL db h fi len nv 0 []) [Value.slice none 0 0] [] [bv] 37 (by rw [hrl]; rfl) rfl
      rw [hb, lnL_app db h fi len nv 0 [bv]]
      exact this]
    rfl
  simp [Instr.build, zeroValue, typeInfo, hi, hz0, run_underlying Tryd.underlying56, sizeOf, hi1, hz11, hi2, hz21, Value.cells, Result.andThen]
  simp at hf
  rw [hf]
  rfl
section
variable {w : World} {b db : Nat} {h : List Int} {fi len done : Int} {nv : Value} {tl : List Value} {T : TypeId}
theorem lnL_get (hh : h.length = 32) (k : Nat) : (lnL db h fi len nv done tl)[33 + k]? = (Value.int .i64 fi :: Value.int .i64 len :: nv :: Value.int .i64 done :: tl)[k]? := by
  unfold lnL
  rw [show 33 + k = (32 + k) + 1 by omega, List.getElem?_cons_succ, List.getElem?_append_right (by rw [by8_length, hh]; omega), by8_length, hh, show 32 + k - 32 = k by omega]
theorem ln_get (hs : StrAt w b (lnC db h fi len nv done tl) T) (hh : h.length = 32) (k : Nat) : w.cell? ⟨b, 33 + k, none⟩ = (Value.int .i64 fi :: Value.int .i64 len :: nv :: Value.int .i64 done :: tl)[k]? := by
  rw [hs.cell, ← lnL_get (db := db) hh k]
  simp [lnC]
theorem ln_0 (hs : StrAt w b (lnC db h fi len nv done tl) T) : w.cell? ⟨b, 0, none⟩ = some (.pointer (some ⟨db, 0, none⟩)) := by
  rw [hs.cell]; rfl
theorem ln_33 (hs : StrAt w b (lnC db h fi len nv done tl) T) (hh : h.length = 32) : w.cell? ⟨b, 33, none⟩ = some (.int .i64 fi) := ln_get hs hh 0
theorem ln_34 (hs : StrAt w b (lnC db h fi len nv done tl) T) (hh : h.length = 32) : w.cell? ⟨b, 34, none⟩ = some (.int .i64 len) := ln_get hs hh 1
theorem ln_35 (hs : StrAt w b (lnC db h fi len nv done tl) T) (hh : h.length = 32) : w.cell? ⟨b, 35, none⟩ = some nv := ln_get hs hh 2
theorem ln_36 (hs : StrAt w b (lnC db h fi len nv done tl) T) (hh : h.length = 32) : w.cell? ⟨b, 36, none⟩ = some (.int .i64 done) := ln_get hs hh 3
theorem ln_tl (hs : StrAt w b (lnC db h fi len nv done tl) T) (hh : h.length = 32) (i : Nat) : w.cell? ⟨b, 37 + i, none⟩ = tl[i]? := by
  have := ln_get hs hh (4 + i)
  rw [show 33 + (4 + i) = 37 + i by omega] at this
  rw [this, show 4 + i = i + 4 by omega]
  rfl
theorem ln_ref (hs : StrAt w b (lnC db h fi len nv done tl) T) : w.rangeAt b 1 (refC h fi len) := fun j v hj => by
  rw [hs.cell]
  have : (lnL db h fi len nv done tl)[1 + j]? = (refC h fi len)[j]? := by
    have e : lnL db h fi len nv done tl = Value.pointer (some ⟨db, 0, none⟩) :: (refC h fi len ++ (nv :: Value.int .i64 done :: tl)) := by simp [lnL, refC]
    rw [e, show 1 + j = j + 1 by omega, List.getElem?_cons_succ, List.getElem?_append_left (List.getElem?_eq_some_iff.1 hj).1]
  simp only [lnC, List.getElem?_toArray]
  rw [this]; exact hj
theorem ln_hash (hs : StrAt w b (lnC db h fi len nv done tl) T) : w.rangeAt b 1 (by8 h) := fun j v hj =>
  ln_ref hs j v (by unfold refC; rw [List.getElem?_append_left (List.getElem?_eq_some_iff.1 hj).1]; exact hj)
theorem lnL_set (hh : h.length = 32) (k : Nat) (v : Value) : (lnL db h fi len nv done tl).set (33 + k) v = Value.pointer (some ⟨db, 0, none⟩) :: (by8 h ++ (Value.int .i64 fi :: Value.int .i64 len :: nv :: Value.int .i64 done :: tl).set k v) := by
  unfold lnL
  rw [show 33 + k = (32 + k) + 1 by omega, List.set_cons_succ, List.set_append_right _ _ (by rw [by8_length, hh]; omega), by8_length, hh, show 32 + k - 32 = k by omega]
theorem ln_set (hs : StrAt w b (lnC db h fi len nv done tl) T) (hh : h.length = 32) (k : Nat) (v : Value) : StrAt (w.setCell ⟨b, 33 + k, none⟩ v) b (Value.pointer (some ⟨db, 0, none⟩) :: (by8 h ++ (Value.int .i64 fi :: Value.int .i64 len :: nv :: Value.int .i64 done :: tl).set k v)).toArray T := by
  have := hs.set (33 + k) v
  rw [← lnL_set (db := db) hh k v]
  simpa [lnC] using this
theorem ln_set35 (hs : StrAt w b (lnC db h fi len nv done tl) T) (hh : h.length = 32) (v : Value) : StrAt (w.setCell ⟨b, 35, none⟩ v) b (lnC db h fi len v done tl) T := ln_set hs hh 2 v
theorem ln_set36 (hs : StrAt w b (lnC db h fi len nv done tl) T) (hh : h.length = 32) (x : Int) : StrAt (w.setCell ⟨b, 36, none⟩ (.int .i64 x)) b (lnC db h fi len nv x tl) T := ln_set hs hh 3 (.int .i64 x)
theorem ln_settl (hs : StrAt w b (lnC db h fi len nv done tl) T) (hh : h.length = 32) (i : Nat) (v : Value) : StrAt (w.setCell ⟨b, 37 + i, none⟩ v) b (lnC db h fi len nv done (tl.set i v)) T := by
  have := ln_set hs hh (4 + i) v
  rw [show 33 + (4 + i) = 37 + i by omega, show 4 + i = i + 4 by omega] at this
  exact this
end
/-- a slice that is owned, as calls read it -/
theorem own_C {k : IntKind} {w : World} {e n : Nat} {v : Value} {xs : List Int} (h : w.ownsRow 0 e 1 v n (xs.map (Value.int k))) :
    ∃ A c, v = .slice A n c ∧ n ≤ c ∧ Kd.C (Kd.int k) w A n xs ∧ ((A = none ∧ n = 0 ∧ xs = []) ∨ ∃ g, A = some ⟨g, 0, none⟩ ∧ RowAt w g e 1 n c (xs.map (Value.int k))) := by
  rcases own_form h with ⟨rfl, rfl, hx⟩ | ⟨g, cap, rfl, hr⟩
  · have : xs = [] := by simpa using hx
    subst this
    exact ⟨none, 0, rfl, Nat.le_refl _, ⟨rfl, by decide, fun h0 => absurd h0 (by decide)⟩, .inl ⟨rfl, rfl, rfl⟩⟩
  · have hxn : xs.length = n := by have := hr.1; simpa using this
    refine ⟨some ⟨g, 0, none⟩, cap, rfl, hr.capLe.1, ⟨hxn, by have h1 := hr.capLe.1; have h2 := hr.capLe.2; unfold maxLen at h2; omega, fun _ => ⟨_, rfl, fun j t hj => ⟨_, rfl, rfl, fun i u hu => ?_⟩⟩⟩, .inr ⟨g, rfl, hr⟩⟩
    have hi : i < 1 := (List.getElem?_eq_some_iff.1 hu).1
    obtain rfl : i = 0 := by omega
    simp at hu
    subst hu
    have hjl := (List.getElem?_eq_some_iff.1 hj).1
    have ea : (⟨g, 0, none⟩ : Addr).add (j * (Kd.int k).sz + 0) = ⟨g, j, none⟩ := by
      have e1 : j * (Kd.int k).sz + 0 = j := Nat.mul_one j
      rw [e1]; unfold Addr.add; split <;> simp_all
    rw [ea, RowAt.cell hr j (by omega), List.getElem?_map, hj]; rfl
end Go.Proofs.YtgcpcgcfpjolnaaDoor.G
-- refOf, Numbers, Done, Ref.
namespace Go.Proofs.YtgcpcgcfpjolnaaDoor.G
open Go.RowKit Go.Proofs.YtgcpcgcfpjolnaaDoorW.PrintWords Go.Proofs.YtgcpcgcfpjolnaaDoorW.PrintLast Go.Proofs.YtgcpcgcfpjolnaaDoorW.PrintMore
set_option linter.unusedVariables false
set_option linter.unusedSimpArgs false
set_option maxRecDepth 10000
/-- bytes that a slice shows -/
def BSl (w : World) (A : Option Addr) (L c : Nat) (xs : List Int) : Prop := xs.length = L ∧ L ≤ c ∧ ((A = none ∧ xs = [] ∧ L = 0) ∨ ∃ g o, A = some ⟨g, o, none⟩ ∧ w.rangeAt g o (by8 xs) ∧ xs.length = L ∧ g < w.heap.size)
theorem BSl.keeps {w w' : World} {S : List Nat} {A : Option Addr} {L c : Nat} {xs : List Int} (h : BSl w A L c xs) (hk : Keeps S w w') (hn : ∀ g o, A = some ⟨g, o, none⟩ → g ∉ S) : BSl w' A L c xs := by
  refine ⟨h.1, h.2.1, ?_⟩
  rcases h.2.2 with h1 | ⟨g, o, rfl, h2, h3, h4⟩
  · exact .inl h1
  · exact .inr ⟨g, o, rfl, range_keeps h2 hk (hn g o rfl), h3, Nat.lt_of_lt_of_le h4 hk.size⟩
theorem BSl.C {w : World} {A : Option Addr} {L c : Nat} {xs : List Int} (h : BSl w A L c xs) (hl : L ≤ 9223372036854775807) : Kd.C (Kd.int .u8) w A L xs := by
  rcases h.2.2 with ⟨rfl, rfl, rfl⟩ | ⟨g, o, rfl, h2, h3, h4⟩
  · exact ⟨rfl, by decide, fun h0 => absurd h0 (by decide)⟩
  · have := C_of_range h2 (by omega)
    rwa [h3] at this
theorem BSl.lt {w : World} {A : Option Addr} {L c : Nat} {xs : List Int} (h : BSl w A L c xs) : ∀ a, A = some a → a.block < w.heap.size := by
  intro a ha
  rcases h.2.2 with ⟨rfl, _⟩ | ⟨g, o, rfl, _, _, h4⟩
  · cases ha
  · cases ha; exact h4
theorem wp_build {P : Program} {ops : Array Oper} {rest : List Oper} {o : Oper} {a : Act} {Q : Exit → Act → World → Prop} {w : World} (hg : o.guard = none) (t : TypeId) (parts : Array (Nat × Operand)) (hop : o.op = Op.build t parts) (v : Value)
    (hrun : (Instr.build t (parts.map fun (i, x) => (i, a.eval x))).run P w = .ok v w) (hK : wpList P ops Q rest (a.put o.dst v) w) : wpList P ops Q (o :: rest) a w := by
  refine wpList_plain hg fun K' hK' => ?_
  unfold Oper.wp
  simp only [execOp, hop, Sem.run_bind, hrun, Result.andThen_ok]
  exact hK' _ _ hK
theorem size52 : (Tryd.prog.info? 52).map (·.size) = some 34 := by kernel_rfl
theorem refC_one (h : List Int) (fi len : Int) : ∀ u ∈ refC h fi len, u.oneCell' = true := by
  intro u hu
  rcases List.mem_append.1 hu with h1 | h1
  · exact by8_one h u h1
  · simp at h1; rcases h1 with rfl | rfl <;> rfl
set_option maxHeartbeats 1000000 in
theorem refOf_calls {w : World} {A : Option Addr} {L c : Nat} {xs : List Int} (hb : BSl w A L c xs) (hl : L ≤ 1073741824) (fi : Int) (hT : ShaW w) (hw1 : 1 < w.heap.size) :
    Calls Tryd.prog 65 #[.slice A L c, .int .i64 fi] w fun e w' => e = .returned (.agg (refC (shaF xs) fi (L : Int)).toArray) ∧ Keeps [] w w' := by
  have HB := Lib.hid hb
  have HT := Lib.hid hT
  have HR := Lib.hid (StrAt.new w z34.toArray 52)
  have HS := Lib.hid (show Calls Tryd.prog 52 #[.slice (some ⟨w.heap.size + 1, 0, none⟩) 1 1] ((w.alloc (.cells z34.toArray 52)).alloc (.cells #[.slice A L c] 22)) fun e w' => e = .returned (.agg (by8A (shaF xs))) ∧ Keeps [] ((w.alloc (.cells z34.toArray 52)).alloc (.cells #[.slice A L c] 22)) w' from by
    have k : Keeps [] w ((w.alloc (.cells z34.toArray 52)).alloc (.cells #[.slice A L c] 22)) := ((Keeps.refl [] w).alloc _).alloc _
    refine sum_hash (w.heap.size + 1) 1 A c L xs ?_ (hb.keeps k (by simp)).2.2 hb.2.1 hl (hT.keeps k (by simp)) (by simp)
    exact (StrAt_new1 w _ #[Value.slice A L c] 22).cell 0)
  have HFL := Lib.hid (shaF_length xs)
  clear hb hT
  go_enter Tryd.func65, Tryd.ntmps65
  go_wp2_with (first | (go_at_call 52; refine HS.out.mono ?_; rintro e w3 ⟨rfl, k3⟩) | (refine wp_build rfl 52 _ rfl (.agg (refC (shaF xs) fi (L : Int)).toArray) (by simp only [List.map_toArray, List.map_cons, List.map_nil]; exact build52 _ (shaF xs) HFL.out fi (L : Int)) ?_) | (refine wpList_store_mid rfl 52 (.tmp 4) (.tmp 11) rfl w.heap.size 0 (refC (shaF xs) fi (L : Int)).toArray rfl rfl (StrAt_there (((HR.out.alloc _).keeps k3 (by simp))) 0 _ (by simp [refC_length _ _ _ HFL.out, z34_length])) (by rw [size52, List.size_toArray, refC_length _ _ _ HFL.out]) (all_oneCell_toArray (refC_one _ _ _)) ?_))
  have hr3 := (HR.out.alloc (.cells #[.slice A L c] 22)).keeps k3 (by simp)
  have hw := StrAt_whole hr3 (refC (shaF xs) fi (L : Int)) (by simp [refC_length _ _ _ HFL.out, z34_length])
  refine bodyPost_ret (results_cell rfl _ _ w.heap.size 0 rfl (refC (shaF xs) fi (L : Int)) (str_range hw) Tryd.underlying52 rfl (by rw [size52, refC_length _ _ _ HFL.out])) rfl ?_
  refine ⟨rfl, ?_⟩
  have k : Keeps [] w w3 := (((Keeps.refl [] w).alloc _).alloc _).trans' k3
  have := keeps_setCells (S := [w.heap.size]) (g := w.heap.size) (by simp) (refC (shaF xs) fi (L : Int)) 0 w w3 (k.mono (by simp))
  exact this.mono (by simp)
/-- a copy of numbers, or of bytes, that a call tells -/
def CopyI (ns : List Int) (w : World) (e : Ending) (w' : World) : Prop := ∃ v, e = .returned v ∧ w'.ownsRow 0 3 1 v ns.length (ints ns) ∧ Fresh w v ∧ Keeps [] w w'
theorem R_rowI {w : World} {B : Nat} {v : Value} {xs : List Int} {ok : Nat → Prop} (h : Kd.R (Kd.int .i64) 3 w B ok v xs) : w.ownsRow 0 3 1 v xs.length (ints xs) := by
  have h1 := Kd.own_of_R h
  refine ⟨h1.1, ?_⟩
  rcases h1.2 with h2 | ⟨g, cap, cur, e, _, h3⟩
  · exact .inl h2
  · exact .inr ⟨g, cap, cur, e, Nat.zero_le _, h3⟩
theorem numbers_calls {w : World} {b db : Nat} {h : List Int} {fi len done : Int} {nv : Value} {tl : List Value} {T : TypeId} (hs : StrAt w b (lnC db h fi len nv done tl) T) (hh : h.length = 32) (ns : List Int) (hn : w.ownsRow 0 3 1 nv ns.length (ints ns)) (hl : ns.length ≤ 65536) :
    Calls Tryd.prog 18 #[.pointer (some ⟨b, 0, none⟩)] w (CopyI ns w) := by
  have c35 := ln_35 hs hh
  obtain ⟨A, c, rfl, _, hC, _⟩ := own_C (k := .i64) hn
  have HC := Lib.hid (cloneI_calls A c ns w hC (by omega))
  clear hs hn hC
  go_enter Tryd.func18, Tryd.ntmps18
  go_wp2_with (go_at_call 67; refine HC.out.mono ?_; rintro e w' ⟨v, rfl, hR, hB⟩)
  go_ret
  exact ⟨v, rfl, R_rowI hR, fun k hk => (World.ownsRow.lt (Kd.own_of_R hR) k hk).1, Keeps.of_below hB⟩
theorem done_calls {w : World} {b db : Nat} {h : List Int} {fi len done : Int} {nv : Value} {tl : List Value} {T : TypeId} (hs : StrAt w b (lnC db h fi len nv done tl) T) (hh : h.length = 32) :
    Calls Tryd.prog 31 #[.pointer (some ⟨b, 0, none⟩)] w fun e w' => e = .returned (.int .i64 done) ∧ w' = w := by
  have c36 := ln_36 hs hh
  clear hs
  go_enter Tryd.func31, Tryd.ntmps31
  go_wp2
  go_ret
  exact ⟨rfl, rfl⟩
theorem ref_calls {w : World} {b db : Nat} {h : List Int} {fi len done : Int} {nv : Value} {tl : List Value} {T : TypeId} (hs : StrAt w b (lnC db h fi len nv done tl) T) (hh : h.length = 32) :
    Calls Tryd.prog 20 #[.pointer (some ⟨b, 0, none⟩)] w fun e w' => e = .returned (.agg (refC h fi len).toArray) ∧ Keeps [] w w' := by
  have HR := Lib.hid (ln_ref hs)
  have HZ := Lib.hid (StrAt.new w z34.toArray 52)
  have HL := Lib.hid (show ∀ W, Keeps [] w W → W.rangeAt b 1 (refC h fi len) from fun W hk => range_keeps HR.out hk (by simp))
  have HSZ := Lib.hid (show (Tryd.prog.info? 52).map (·.size) = some (refC h fi len).length by rw [size52, refC_length _ _ _ hh])
  have HTh := Lib.hid (StrAt_there HZ.out 0 (refC h fi len).toArray.size (by simp [refC_length _ _ _ hh, z34_length]))
  clear hs
  go_enter Tryd.func20, Tryd.ntmps20
  go_wp2_with (first | (refine wpList_load_mid rfl 52 (.tmp 6) rfl b 1 rfl (refC h fi len) _ (HL.out _ ((Keeps.refl _ _).alloc _)) Tryd.underlying52 rfl HSZ.out ?_) | (refine wpList_store_mid rfl 52 (.tmp 2) (.tmp 7) rfl w.heap.size 0 (refC h fi len).toArray rfl rfl HTh.out (by rw [HSZ.out, List.size_toArray]) (all_oneCell_toArray (refC_one _ _ _)) ?_))
  have hw := StrAt_whole HZ.out (refC h fi len) (by simp [refC_length _ _ _ hh, z34_length])
  refine bodyPost_ret (results_cell rfl _ _ w.heap.size 0 rfl (refC h fi len) (str_range hw) Tryd.underlying52 rfl HSZ.out) rfl ?_
  refine ⟨rfl, ?_⟩
  have := keeps_setCells (S := [w.heap.size]) (g := w.heap.size) (by simp) (refC h fi len) 0 w _ ((Keeps.refl _ _).alloc (.cells z34.toArray 52))
  exact this.mono (by simp)
end Go.Proofs.YtgcpcgcfpjolnaaDoor.G
-- chain.NewWriter where there is room.
namespace Go.Proofs.YtgcpcgcfpjolnaaDoor.G
open Go.RowKit Go.Proofs.YtgcpcgcfpjolnaaDoorW.PrintWords Go.Proofs.YtgcpcgcfpjolnaaDoorW.PrintLast Go.Proofs.YtgcpcgcfpjolnaaDoorW.PrintMore
set_option linter.unusedVariables false
set_option linter.unusedSimpArgs false
set_option maxRecDepth 10000
theorem _root_.Go.Proofs.YtgcpcgcfpjolnaaDoor.Sp.local {w w' : World} {b g cap fr hi : Nat} {is : List Bool} (h : Sp w b g cap fr hi is) (hk : ∀ k ∈ [b, g], w'.heap[k]? = w.heap[k]?) : Sp w' b g cap fr hi is := by
  obtain ⟨free, low, ws, h⟩ := h
  exact ⟨free, low, ws, h.inv, (hk b (by simp)).trans h.blk, ownsRow_local h.row fun k e => by cases e; exact hk g (by simp), h.ne, h.b0, h.g0, h.lt, h.le⟩
/-- a space: where it lies, what is free -/
structure SI where
  b : Nat
  g : Nat
  cap : Nat
  fr : Nat
  hi : Nat
  is : List Bool
def spT (x : SI) : Thing where
  fp := [x.b, x.g]
  P := fun w => Sp w x.b x.g x.cap x.fr x.hi x.is
  loc := fun h hk => Sp.local h hk
  lt := fun h k hk => by have := Sp.facts h; simp at hk; omega
/-- how many sectors so many bytes have -/
def nSec (L : Nat) : Nat := max 1 ((L + 479) / 480)
theorem nSec_le (L : Nat) (h : L ≤ 1048576) : 1 ≤ nSec L ∧ nSec L ≤ 2185 := by unfold nSec; omega
theorem sectors33 (L : Nat) (h : L ≤ 1048576) (w : World) : Calls Tryd.prog 33 #[.int .i64 (L : Int)] w fun e w' => e = .returned (.int .i64 (nSec L : Int)) ∧ w' = w := by
  have e1 : decide ((L : Int) < 0) = false := by simp
  have e2 : decide (1048576 < (L : Int)) = false := by simp; omega
  have e3 : ((L : Int) + 480 - 1).tdiv 480 = (((L + 479) / 480 : Nat) : Int) := by rw [Int.tdiv_eq_ediv_of_nonneg (by omega)]; omega
  have e4 : ((L : Int) + 480 - 1) / 480 = (((L + 479) / 480 : Nat) : Int) := by omega
  have HN := Lib.hid (show nSec L = max 1 ((L + 479) / 480) from rfl)
  have hq : (L + 479) / 480 ≤ 2185 := by omega
  generalize (L + 479) / 480 = q at e3 e4 HN hq
  go_enter Tryd.func33, Tryd.ntmps33
  go_wp2
  · go_ret
    exact ⟨by rw [HN.out, Nat.max_eq_right (by omega)]; rfl, rfl⟩
  · go_ret
    exact ⟨by rw [HN.out, Nat.max_eq_left (by omega)]; rfl, rfl⟩
/-- a writer: where it lies, what it writes -/
structure WI where
  wb : Nat
  h : List Int
  fi : Int
  len : Nat
  nv : Value
  ns : List Int
  done : Nat
  bv : Value
  bs : List Int
def WLs (db : Nat) (x : WI) : List Thing := [strT x.wb (lnC db x.h x.fi (x.len : Int) x.nv (x.done : Int) [x.bv]) 56, rowT x.nv 3 1 x.ns.length (ints x.ns), rowT x.bv 5 1 x.bs.length (by8 x.bs)]
def NewWPost (db : Nat) (s : SI) (ns xs : List Int) (is' : List Bool) (w : World) (e : Ending) (w' : World) : Prop :=
  ∃ x : WI, e = .returned (.tuple #[.pointer (some ⟨x.wb, 0, none⟩), .int .i64 0]) ∧ x.h = shaF xs ∧ x.fi = ns.getD 0 0 ∧ x.len = xs.length ∧ x.ns = ns ∧ x.done = 0 ∧ x.bs = xs ∧ Moves [spT s] (WLs db x ++ [spT { s with is := is' }]) w w'
theorem own_cells {w : World} {e size n : Nat} {v : Value} {xs : List Value} (h : w.ownsRow 0 e size v n xs) : v.cells = #[v] := by
  rcases own_form h with ⟨rfl, _, _⟩ | ⟨g, cap, rfl, _⟩ <;> rfl
theorem cloneB {w : World} {A : Option Addr} {L c : Nat} {xs : List Int} (h : BSl w A L c xs) (hl : L ≤ 1073741824) : Calls Tryd.prog 66 #[.slice A L c] w fun e w' => ∃ v, e = .returned v ∧ w'.ownsRow 0 5 1 v xs.length (by8 xs) ∧ Fresh w v ∧ Keeps [] w w' := by
  have hn := h.1
  have := clone8_calls A c xs w (by have := h.C (by omega); rwa [← hn] at this) (by omega)
  rw [hn] at this
  refine this.mono ?_
  rintro e w' ⟨v, rfl, hR, hB⟩
  exact ⟨v, rfl, R_row8 hR, fun k hk => (World.ownsRow.lt (Kd.own_of_R hR) k hk).1, Keeps.of_below hB⟩
theorem newW_moves {w w1 w4 w5 : World} {db q k cq : Nat} {s : SI} {ns : List Int} {is' : List Bool} (h : Has 3 w [spT s]) (hSp : Sp w1 s.b s.g s.cap s.fr s.hi is') (hK1 : Keeps [s.b, s.g] w w1)
    (hrow : RowAt w1 q 3 1 k cq (ints ns)) (hq : w.heap.size ≤ q) (hk4 : Keeps [] w1 w4) (v5 : Value) (xs : List Int) (h5 : w5.ownsRow 0 5 1 v5 xs.length (by8 xs)) (hf5 : Fresh w4 v5) (hk5 : Keeps [] w4 w5) (cs : Array Value) :
    Moves [spT s] ([strT w5.heap.size cs 56, rowT (.slice (some ⟨q, 0, none⟩) k cq) 3 1 k (ints ns), rowT v5 5 1 xs.length (by8 xs)] ++ [spT { s with is := is' }]) w (w5.alloc (.cells cs 56)) := by
  have hw3 := h.le
  have hsb := (Sp.facts (h.get 0 rfl : Sp w s.b s.g s.cap s.fr s.hi s.is))
  have m1 : Moves [spT s] [spT { s with is := is' }] w w1 := Moves.at h 0 (spT { s with is := is' }) rfl hK1 hSp (by have := hsb.2.2.2.2.1; simp [spT, this]) (fun b hb => .inl hb)
  have m2 : Moves [spT s] ([rowT (.slice (some ⟨q, 0, none⟩) k cq) 3 1 k (ints ns)] ++ [spT { s with is := is' }]) w w1 := m1.add (rowH hrow (fun b hb => by simp [Value.ownBlock] at hb; omega) (by have := hK1.size; omega)) (fun b hb => by
    have : b = q := by simpa [fps, rowT, Value.ownBlock] using hb
    subst this
    refine ⟨hq, fun hm => ?_⟩
    have : b = s.b ∨ b = s.g := by simpa [fps, spT] using hm
    omega)
  have m3 := m2.trans (Moves.of_below m2.has hk4)
  have m4 := m3.trans (Moves.cons m3.has hk5 (t' := rowT v5 5 1 xs.length (by8 xs)) h5 (rowT_nodup ..) (fun b hb => hf5 b (by simpa [rowT] using hb)))
  have m5 := m4.trans (Moves.cons m4.has ((Keeps.refl [] w5).alloc (.cells cs 56)) (t' := strT w5.heap.size cs 56) (StrAt.new w5 cs 56) (strT_nodup ..) (by simp [strT]))
  exact m5.perm (List.Perm.refl _) (List.Perm.cons _ (List.Perm.swap _ _ _))
set_option maxHeartbeats 1000000 in
theorem newWriter_calls {w : World} {d : DK} {s : SI} (h : Has 3 w (DL d ++ [spT s])) (A : Option Addr) (L c : Nat) (xs : List Int) (hb : BSl w A L c xs) (hA : ∀ g o, A = some ⟨g, o, none⟩ → g ≠ s.b ∧ g ≠ s.g) (hL : L ≤ 1048576) (hTab : TabW w) (hT : ShaW w)
    (hok : takeAllOk s.is (nSec L : Int) = true) (ns : List Int) (hns : ns = takeAllOut s.fr s.is (nSec L : Int)) (hn0 : 1 ≤ ns.getD 0 0) (hn1 : ns.getD (nSec L - 1) 0 < (d.last.length : Int)) :
    Calls Tryd.prog 16 #[.pointer (some ⟨d.db, 0, none⟩), .pointer (some ⟨s.b, 0, none⟩), .slice A L c] w (NewWPost d.db s ns xs (takeAllS s.is (nSec L : Int)) w) := by
  have hS : StrAt w d.db (dCells d) 125 := h.get 0 rfl
  have hsp : Sp w s.b s.g s.cap s.fr s.hi s.is := h.right.get 0 rfl
  have hap := h.apart2
  have hdb : d.db ∉ [s.b, s.g] := fun hm => hap d.db (by simp [DL, fps, strT]) (by simpa [fps, spT] using hm)
  obtain ⟨hk1, hk2⟩ := nSec_le L hL
  have hnl : ns.length = nSec L := by
    rw [hns]
    unfold takeAllOut
    rw [if_pos hok, nums_length, List.length_take]
    simp [takeAllOk] at hok
    simp; omega
  have HTA := Lib.hid (takeAll_yes hsp hTab (nSec L : Int) hok)
  rw [show TakeAllPost s.fr s.hi s.b s.g s.cap s.is (nSec L : Int) w = fun e w' => ∃ v, e = .returned (.tuple #[v, .bool true]) ∧ IntsAt w' v ns ∧ Fresh w v ∧ Sp w' s.b s.g s.cap s.fr s.hi (takeAllS s.is (nSec L : Int)) ∧ Keeps [s.b, s.g] w w' from by
    funext e w'; unfold TakeAllPost; rw [hok, ← hns]] at HTA
  have e9 : decide (1048576 < (L : Int)) = false := by simp; omega
  have HSE := Lib.hid (sectors33 L hL)
  obtain ⟨k, hk⟩ : ∃ k, k = nSec L := ⟨_, rfl⟩
  rw [← hk] at HTA HSE hn1 hk1 hk2 hnl
  have HB := Lib.hid hb
  have HK := Lib.hid hk
  have HS := Lib.hid hS
  have HNS := Lib.hid hns
  clear hb hk hS hns hok hsp
  go_enter Tryd.func16, Tryd.ntmps16
  go_wp2_with (first | (go_at_call 33; refine (HSE.out _).mono ?_; rintro e w0 ⟨rfl, rfl⟩) | (go_at_call 62; refine HTA.out.mono ?_; rintro e w1 ⟨v, rfl, hI, hF, hSp, hK1⟩; obtain ⟨q, cq, rfl, hrow⟩ := own_some hI (by omega)))
  have hrl := hrow.1
  obtain ⟨j, hj⟩ : ∃ j, k = j + 1 := ⟨k - 1, by omega⟩
  have hkj : k - 1 = j := by omega
  rw [hkj] at hn1
  have ci : ∀ i, i < k → w1.cell? ⟨q, i, none⟩ = some (.int .i64 (ns.getD i 0)) := fun i hi => by
    rw [RowAt.cell hrow i (by omega)]
    simp [ints, List.getD_eq_getElem?_getD, List.getElem?_eq_getElem (show i < ns.length by omega)]
  have c0 := ci 0 (by omega)
  have c1 := ci j (by omega)
  have HN0 : Hid (∃ z, z = ns.getD 0 0) := Lib.hid ⟨_, rfl⟩
  obtain ⟨n0, hn0e⟩ := HN0.out
  rw [← hn0e] at c0 hn0
  have HN0E := Lib.hid hn0e
  generalize ns.getD j 0 = nl at c1 hn1
  have ekj : (k : Int) - 1 = (j : Int) := by omega
  have hS1 := Lib.hid (HS.out.keeps hK1 hdb)
  have b0 : decide (n0 < 1) = false := by simp; omega
  have b1 : decide ((d.last.length : Int) ≤ nl) = false := by simp; omega
  have ekw : IntKind.i64.wrap (j : Int) = (j : Int) := IntWalk.i64_in _ (by omega)
  have hjk : j < k := by omega
  have h0k : 0 < k := by omega
  have HRW := Lib.hid hrow
  have HFR := Lib.hid (hF q rfl)
  have HSP := Lib.hid hSp
  have HK1 := Lib.hid hK1
  have HB1 := Lib.hid (HB.out.keeps hK1 (fun g o e => by simpa using hA g o e))
  have HT1 := Lib.hid (hT.keeps hK1 (by have := (Sp.facts (h.right.get 0 rfl : Sp w0 s.b s.g s.cap s.fr s.hi s.is)); simp; omega))
  have HW1 := Lib.hid (show 1 < w1.heap.size by have := hrow.lt; have := hF q rfl; have := h.le; omega)
  have HH := Lib.hid h
  have HFL := Lib.hid (shaF_length xs)
  have HNL := Lib.hid hnl
  clear ci hI hrl hj hkj hn0e hSp hrow hF hK1 h hT hTab HTA hnl HSE
  go_region_held3 (fun W => W.cell? ⟨q, 0, none⟩ = some (.int .i64 n0) ∧ W.cell? ⟨q, j, none⟩ = some (.int .i64 nl)) (first | exact ⟨c0, c1⟩ | assumption) (first | (go_at_call 63; refine (sectors_calls (d := d) hS1.out.drew1).mono ?_; rintro e w' ⟨rfl, rfl⟩) | fail)
  have HRF := Lib.hid (refOf_calls (fi := n0) (HB1.out.keeps ((Keeps.refl [] w1).drew) (by simp)) (by omega) (HT1.out.keeps ((Keeps.refl [] w1).drew) (by simp)) HW1.out)
  have HCB := Lib.hid (show ∀ W, Keeps [] w1 W → Calls Tryd.prog 66 #[.slice A L c] W fun e w' => ∃ v, e = .returned v ∧ w'.ownsRow 0 5 1 v xs.length (by8 xs) ∧ Fresh W v ∧ Keeps [] W w' from fun W hk => cloneB (HB1.out.keeps hk (by simp)) (by omega))
  have HXL := Lib.hid (HB1.out.1)
  clear c1 hn1 hn0 b1 ekj ekw hjk
  go_wp2_with (first | (go_at_call 65; refine HRF.out.mono ?_; rintro e w4 ⟨rfl, k4⟩) | (go_at_call 66; refine (HCB.out _ ((((Keeps.refl [] w1).drew)).trans' k4)).mono ?_; rintro e w5 ⟨v5, rfl, h5, f5, k5⟩) | (refine wp_build rfl 54 _ rfl (.agg (lnC d.db (shaF xs) n0 (L : Int) (.slice (some ⟨q, 0, none⟩) k cq) 0 [])) (by simp only [List.map_toArray, List.map_cons, List.map_nil]; exact build54 _ d.db (shaF xs) HFL.out n0 (L : Int) _ rfl) ?_) | (refine wp_build rfl 56 _ rfl (.agg (lnC d.db (shaF xs) n0 (L : Int) (.slice (some ⟨q, 0, none⟩) k cq) 0 [v5])) (by simp only [List.map_toArray, List.map_cons, List.map_nil]; exact build56 _ d.db (shaF xs) HFL.out n0 (L : Int) _ v5 (own_cells h5)) ?_))
  go_ret2
  have m := newW_moves (db := d.db) HH.out.right HSP.out HK1.out HRW.out HFR.out (((Keeps.refl [] w1).drew).trans' k4) v5 xs h5 f5 k5 (lnC d.db (shaF xs) n0 (L : Int) (.slice (some ⟨q, 0, none⟩) k cq) 0 [v5])
  refine ⟨⟨w5.heap.size, shaF xs, n0, L, .slice (some ⟨q, 0, none⟩) k cq, ns, 0, v5, xs⟩, rfl, rfl, HN0E.out, HXL.out.symm, rfl, rfl, rfl, ?_⟩
  rw [HNL.out] at m
  rw [HK.out] at m ⊢
  unfold WLs
  simp only [HNL.out, HK.out]
  exact m
end Go.Proofs.YtgcpcgcfpjolnaaDoor.G
-- (*chain.Writer).Step.
namespace Go.Proofs.YtgcpcgcfpjolnaaDoor.G
open Go.RowKit Go.Proofs.YtgcpcgcfpjolnaaDoorW.PrintWords Go.Proofs.YtgcpcgcfpjolnaaDoorW.PrintLast Go.Proofs.YtgcpcgcfpjolnaaDoorW.PrintMore
set_option linter.unusedVariables false
set_option linter.unusedSimpArgs false
set_option maxRecDepth 10000
theorem size68 (L j : Nat) (h : L ≤ 1048576) (hj : 480 * j ≤ L) (w : World) : Calls Tryd.prog 68 #[.int .i64 (L : Int), .int .i64 (j : Int)] w fun e w' => e = .returned (.int .i64 ((min 480 (L - 480 * j) : Nat) : Int)) ∧ w' = w := by
  have e1 : (j : Int) * 480 = ((480 * j : Nat) : Int) := by omega
  obtain ⟨m, hm⟩ : ∃ m, m = min 480 (L - 480 * j) := ⟨_, rfl⟩
  rw [← hm]
  have HM := Lib.hid hm
  obtain ⟨p, hp⟩ : ∃ p, p = 480 * j := ⟨_, rfl⟩
  rw [← hp] at e1 hj HM
  have e2 : (L : Int) - (p : Int) = ((L - p : Nat) : Int) := by omega
  have hj8 : j ≤ 1048576 := by omega
  obtain ⟨r, hr⟩ : ∃ r, r = L - p := ⟨_, rfl⟩
  rw [← hr] at e2 HM
  clear hm hp hr
  go_enter Tryd.func68, Tryd.ntmps68
  go_wp2
  all_goals go_ret
  · exact ⟨by rw [HM.out, Nat.min_eq_right (by omega)]; rfl, rfl⟩
  · exact ⟨by rw [HM.out, Nat.min_eq_left (by omega)]; rfl, rfl⟩
/-- a piece, and the number that its sector names -/
def pieceB (bs : List Int) (j : Nat) : List Int := (bs.drop (480 * j)).take 480
def nextI (ns : List Int) (j : Nat) : Int := if j + 1 < ns.length then ns.getD (j + 1) 0 else 0
def StepPost (d : DK) (x : WI) (w : World) (e : Ending) (w' : World) : Prop :=
  e = .returned (.tuple #[.bool (decide (x.done + 1 = x.ns.length)), .int .i64 0]) ∧ ∃ d', DOk d' ∧ Moves (DL d ++ WLs d.db x) (DL d' ++ WLs d'.db { x with done := x.done + 1 }) w w' ∧
    (∀ j, d'.cur j = if j = x.ns.getD x.done 0 then secB x.h (x.done : Int) (nextI x.ns x.done) (pieceB x.bs x.done) else d.cur j) ∧ d'.db = d.db ∧ d'.last = d.last ∧ d'.rd = d.rd ∧ d'.wr = d.wr + 1 ∧ d'.fl = d.fl
/-- a writer at its end does nothing -/
theorem step_end {w : World} {db : Nat} {x : WI} (hs : StrAt w x.wb (lnC db x.h x.fi (x.len : Int) x.nv (x.done : Int) [x.bv]) 56) (hh : x.h.length = 32) (hn : w.ownsRow 0 3 1 x.nv x.ns.length (ints x.ns)) (he : x.done = x.ns.length) :
    Calls Tryd.prog 19 #[.pointer (some ⟨x.wb, 0, none⟩)] w fun e w' => e = .returned (.tuple #[.bool true, .int .i64 0]) ∧ Keeps [] w w' := by
  have c35 := ln_35 hs hh
  have c36 := ln_36 hs hh
  obtain ⟨A, c, hv, _⟩ := own_C (k := .i64) hn
  rw [hv] at c35
  rw [← he] at c35
  clear hs hn hv
  go_enter Tryd.func19, Tryd.ntmps19
  go_wp2
  go_region
  go_wp2
  go_ret2
  exact ⟨rfl, (Keeps.refl _ _).drew⟩
theorem Moves.wideR {M M' L : List Thing} {w w' : World} (m : Moves M M' w w') (h : Has 3 w (L ++ M)) : Moves (L ++ M) (L ++ M') w w' :=
  (m.wide (h.perm List.perm_append_comm)).perm List.perm_append_comm List.perm_append_comm
theorem step_moves {w w70 w69 : World} {d d' : DK} {x : WI} (h : Has 3 w (DL d ++ WLs d.db x)) (h32 : x.h.length = 32) (k70 : Keeps [] w w70) (m69 : Moves (DL d) (DL d') w70 w69) (hdb : d'.db = d.db) (D1 : Nat) :
    Moves (DL d ++ WLs d.db x) (DL d' ++ WLs d'.db { x with done := D1 }) w (w69.setCell ⟨x.wb, 36, none⟩ (.int .i64 (D1 : Int))).drew := by
  have m0 := Moves.of_below h k70
  have m1 := m0.trans (m69.wide m0.has)
  have hw : Has 3 w69 (WLs d.db x) := m1.has.right
  have hs : StrAt w69 x.wb (lnC d.db x.h x.fi (x.len : Int) x.nv (x.done : Int) [x.bv]) 56 := hw.get 0 rfl
  have m2 : Moves (WLs d.db x) (WLs d.db { x with done := D1 }) w69 (w69.setCell ⟨x.wb, 36, none⟩ (.int .i64 (D1 : Int))) :=
    Moves.at hw 0 (strT x.wb (lnC d.db x.h x.fi (x.len : Int) x.nv (D1 : Int) [x.bv]) 56) rfl ((Keeps.refl _ _).setCell (by simp [strT]) _) (ln_set36 hs h32 _) (strT_nodup ..) (fun k hk => .inl hk)
  have m3 := m1.trans (Moves.wideR m2 m1.has)
  rw [hdb]
  exact m3.trans (Moves.of_below m3.has (drew_keepsC _))
structure WOk (d : DK) (x : WI) : Prop where
  h32 : x.h.length = 32
  len : x.len = x.bs.length
  le : x.bs.length ≤ 1048576
  ns : x.ns.length = nSec x.bs.length
  nin : ∀ m ∈ x.ns, 1 ≤ m ∧ m < (d.last.length : Int)
set_option maxHeartbeats 4000000 in
theorem step_calls {w : World} {d : DK} {x : WI} (h : Has 3 w (DL d ++ WLs d.db x)) (ok : DOk d) (wo : WOk d x) (hd : x.done < x.ns.length) (hwr : d.wr < 1073741824) (hH : HalfW w) (gb cb : Nat) (hbv : x.bv = .slice (some ⟨gb, 0, none⟩) x.bs.length cb) (hb1 : 480 * x.done < cb ∨ x.done = 0) :
    Calls Tryd.prog 19 #[.pointer (some ⟨x.wb, 0, none⟩)] w (StepPost d x w) := by
  have hs : StrAt w x.wb (lnC d.db x.h x.fi (x.len : Int) x.nv (x.done : Int) [x.bv]) 56 := h.right.get 0 rfl
  have hn : w.ownsRow 0 3 1 x.nv x.ns.length (ints x.ns) := h.right.get 1 rfl
  have hb : w.ownsRow 0 5 1 x.bv x.bs.length (by8 x.bs) := h.right.get 2 rfl
  obtain ⟨q, cq, hnv, hrow⟩ := own_some hn (by omega)
  have c0 := ln_0 hs
  have c35 := ln_35 hs wo.h32
  have c36 := ln_36 hs wo.h32
  have c37 : w.cell? ⟨x.wb, 37, none⟩ = some x.bv := ln_tl hs wo.h32 0
  have f36 := hs.frozen 36
  have hr := ln_hash hs
  rw [hnv] at c35
  rw [hbv] at c37
  have hll := wo.len
  have hnsl := wo.ns
  have hle := wo.le
  have hk := nSec_le x.bs.length hle
  have hdn : 480 * x.done ≤ x.bs.length := by unfold nSec at hnsl; omega
  have hbr : RowAt w gb 5 1 x.bs.length cb (by8 x.bs) := by rw [hbv] at hb; exact hb
  have ci : ∀ i, i < x.ns.length → w.cell? ⟨q, i, none⟩ = some (.int .i64 (x.ns.getD i 0)) := fun i hi => by
    rw [RowAt.cell hrow i (by omega)]
    simp [ints, List.getD_eq_getElem?_getD, List.getElem?_eq_getElem hi]
  have cn := ci x.done hd
  have hnin : ∀ i, i < x.ns.length → 1 ≤ x.ns.getD i 0 ∧ x.ns.getD i 0 < (d.last.length : Int) := fun i hi => wo.nin _ (by rw [List.getD_eq_getElem?_getD, List.getElem?_eq_getElem hi]; exact List.getElem_mem hi)
  have hnd := hnin x.done hd
  have e0 : (((x.done : Int)) == (x.ns.length : Int)) = false := by simp; omega
  have hd0 : x.done < 2185 := by omega
  have hcap := hbr.capLe.1
  obtain ⟨K, hK⟩ : ∃ K, K = x.ns.length := ⟨_, rfl⟩
  obtain ⟨L, hL⟩ : ∃ L, L = x.bs.length := ⟨_, rfl⟩
  obtain ⟨D, hD⟩ : ∃ D, D = x.done := ⟨_, rfl⟩
  obtain ⟨nd, hND⟩ : ∃ n, n = x.ns.getD x.done 0 := ⟨_, rfl⟩
  rw [← hK] at c35 e0 hd
  rw [← hL] at c37 hle hdn hcap
  rw [← hND] at cn hnd
  rw [← hD] at c36 e0 hd hd0 cn hdn hb1
  have HKV := Lib.hid hK
  have HLV := Lib.hid hL
  have HDV := Lib.hid hD
  have HNDV := Lib.hid hND
  have HCI := Lib.hid ci
  have HNIN := Lib.hid hnin
  have HS := Lib.hid hs
  have HROW := Lib.hid hrow
  have HBR := Lib.hid hbr
  have HNV := Lib.hid hnv
  have HBV := Lib.hid hbv
  have HHH := Lib.hid h
  have HW := Lib.hid wo
  have HHALF := Lib.hid hH
  clear hK hL hD hND ci hnin hs hrow hbr hnv hbv h wo hH hn hb hll hnsl hk
  obtain ⟨wb, hwb⟩ : ∃ wb, wb = x.wb := ⟨_, rfl⟩
  rw [← hwb] at c0 c35 c36 c37 f36 hr ⊢
  have HWB := Lib.hid hwb
  clear hwb
  have s480 : (D : Int) * 480 = ((480 * D : Nat) : Int) := by omega
  have w480 : IntKind.i64.wrap ((480 * D : Nat) : Int) = ((480 * D : Nat) : Int) := IntWalk.i64_in _ (by omega)
  obtain ⟨F, hF⟩ : ∃ F, F = 480 * D := ⟨_, rfl⟩
  rw [← hF] at s480 w480 hb1 hdn
  have HF := Lib.hid hF
  clear hF
  have hDK : D < K := hd
  obtain ⟨D1, hD1⟩ : ∃ D1, D1 = D + 1 := ⟨_, rfl⟩
  have eD1 : (D : Int) + 1 = (D1 : Int) := by omega
  have wD1 : IntKind.i64.wrap (D1 : Int) = (D1 : Int) := IntWalk.i64_in _ (by omega)
  have HD1 := Lib.hid hD1
  clear hD1
  obtain ⟨m, hm⟩ : ∃ m, m = min 480 (L - F) := ⟨_, rfl⟩
  have HSZ := Lib.hid (show ∀ W, Calls Tryd.prog 68 #[.int .i64 (L : Int), .int .i64 (D : Int)] W fun e w' => e = .returned (.int .i64 (m : Int)) ∧ w' = W from fun W => by
    have := size68 L D hle (by have := HF.out; omega) W
    rw [← HF.out, ← hm] at this
    exact this)
  have HPB := Lib.hid (show pieceB x.bs x.done = (x.bs.drop F).take m by
    unfold pieceB
    rw [← HDV.out, ← HF.out]
    have e1 : (x.bs.drop F).length = L - F := by rw [List.length_drop, HLV.out]
    rcases Nat.le_total 480 (L - F) with h9 | h9
    · rw [hm, Nat.min_eq_left h9]
    · rw [hm, Nat.min_eq_right h9, List.take_of_length_le (by omega), List.take_of_length_le (by omega)])
  have hm480 : m ≤ 480 := by omega
  have hml : F + m ≤ L := by omega
  have HPL := Lib.hid (show ((x.bs.drop F).take m).length = m by rw [List.length_take, List.length_drop, ← HLV.out]; omega)
  clear hm
  obtain ⟨E, hE⟩ : ∃ E, E = F + m := ⟨_, rfl⟩
  have eE : (F : Int) + (m : Int) = (E : Int) := by omega
  have wE : IntKind.i64.wrap (E : Int) = (E : Int) := IntWalk.i64_in _ (by omega)
  have eEF : E - F = m := by omega
  have hE1 : F ≤ E := by omega
  have hE2 : E ≤ cb := by omega
  have hif : (if cb = F then (some ⟨gb, 0, none⟩ : Option Addr) else some ⟨gb, F, none⟩) = some ⟨gb, F, none⟩ := by
    have := HF.out
    by_cases h9 : cb = F
    · rw [if_pos h9]
      have : F = 0 := by omega
      rw [this]
    · rw [if_neg h9]
  clear hE
  have HS7 := Lib.hid (show ∀ W, Keeps [] w W → W.cell? ⟨wb, 37, none⟩ = some (.slice (some ⟨gb, 0, none⟩) L cb) ∧ W.cell? ⟨wb, 36, none⟩ = some (.int .i64 (D : Int)) from fun W hk => ⟨hk.cell c37 (by simp), hk.cell c36 (by simp)⟩)
  have hnap := HHH.out.apart2
  have hwbn : wb ∉ fps (DL d) := fun hm9 => hnap wb hm9 (by rw [HWB.out]; simp [WLs, fps, strT])
  have hqn : q ∉ fps (DL d) := fun hm9 => hnap q hm9 (by simp [WLs, fps, strT, rowT, HNV.out, Value.ownBlock])
  have HS8 := Lib.hid (show ∀ W, Keeps (fps (DL d)) w W → W.cell? ⟨wb, 0, none⟩ = some (.pointer (some ⟨d.db, 0, none⟩)) ∧ W.cell? ⟨wb, 35, none⟩ = some (.slice (some ⟨q, 0, none⟩) K cq) ∧ W.cell? ⟨q, D, none⟩ = some (.int .i64 nd) ∧ W.rangeAt wb 1 (by8 x.h) ∧ W.cell? ⟨wb, 36, none⟩ = some (.int .i64 (D : Int)) from fun W hk =>
    ⟨hk.cell c0 hwbn, hk.cell c35 hwbn, hk.cell cn hqn, range_keeps hr hk hwbn, hk.cell c36 hwbn⟩)
  have HSF := Lib.hid (show ∀ W, Keeps (fps (DL d)) w W → W.frozen? ⟨wb, 36, none⟩ = false from fun W hk => ((HWB.out ▸ HS.out : StrAt w wb (lnC d.db x.h x.fi (x.len : Int) x.nv (x.done : Int) [x.bv]) 56).keeps hk hwbn).frozen 36)
  have HBQ := Lib.hid (show ((D1 : Int) == (K : Int)) = decide (x.done + 1 = x.ns.length) from by
    rw [← HDV.out, ← HKV.out, ← HD1.out]
    by_cases h9 : D1 = K
    · simp [h9]
    · simp [h9]
      omega)
  have hu50 := Tryd.underlying50
  have hs50 : (Tryd.prog.info? 50).map (·.size) = some (by8 x.h).length := by rw [size50, by8_length, HW.out.h32]
  clear hwbn hqn hnap hr
  by_cases hlast : D + 1 < K
  · have hnx := HNIN.out (D + 1) (by have := HKV.out; omega)
    have cnx := HCI.out (D + 1) (by have := HKV.out; omega)
    obtain ⟨nx, hNX⟩ : ∃ n, n = x.ns.getD (D + 1) 0 := ⟨_, rfl⟩
    rw [← hNX] at hnx cnx
    have HNXV := Lib.hid (show nextI x.ns x.done = nx from by unfold nextI; rw [← HDV.out, ← HKV.out, if_pos (by omega)]; exact hNX.symm)
    rw [← HD1.out] at cnx hlast
    have b5 : D1 < K := hlast
    clear hNX
    have HSEC := Lib.hid (show ∀ W, Keeps [] w W → Calls Tryd.prog 70 #[.agg (by8 x.h).toArray, .int .i64 (D : Int), .int .i64 nx, .slice (some ⟨gb, F, none⟩) m (cb - F)] W fun e w' => ∃ g, e = .returned (.slice (some ⟨g, 0, none⟩) 512 512) ∧ w.heap.size ≤ g ∧ RowAt w' g 5 1 512 512 (by8 (secB x.h (D : Int) nx ((x.bs.drop F).take m))) ∧ Keeps [] w w' from fun W hk => by
      have hrr := range_take (range_drop (row_range8 (RowAt.keeps HBR.out hk (by simp))) F) m
      rw [Nat.zero_add] at hrr
      have hC := C_of_range hrr (by rw [HPL.out]; omega)
      rw [HPL.out] at hC
      refine (sector_calls x.h HW.out.h32 (D : Int) nx (by omega) (by omega) (by omega) (by have := ok.hi; omega) (some ⟨gb, F, none⟩) (cb - F) m _ hC (fun a e => by cases e; exact Nat.lt_of_lt_of_le HBR.out.lt hk.size) hm480 (HHALF.out.keeps hk (by simp)) (by have := HBR.out.lt; have := hk.size; omega)).mono ?_
      rintro e w' ⟨g, rfl, g1, g2, g3⟩
      exact ⟨g, rfl, Nat.le_trans hk.size g1, g2, hk.trans' g3⟩)
    have HWR := Lib.hid (show ∀ W g, Keeps [] w W → w.heap.size ≤ g → RowAt W g 5 1 512 512 (by8 (secB x.h (D : Int) nx ((x.bs.drop F).take m))) → Calls Tryd.prog 69 #[.pointer (some ⟨d.db, 0, none⟩), .int .i64 nd, .slice (some ⟨g, 0, none⟩) 512 512] W (WritePost d nd (secB x.h (D : Int) nx ((x.bs.drop F).take m)) W) from fun W g hk hg hrow => by
      have hsl := secB_length x.h (D : Int) nx ((x.bs.drop F).take m) (by rw [HW.out.h32]; decide) (by rw [HPL.out]; exact hm480)
      have hC := row_read0 hrow (by decide)
      rw [hsl] at hC
      exact write_calls (HHH.out.left.keeps0 hk) ok nd (by omega) hnd.2 hwr g 0 512 _ hC (fun hm9 => by have := HHH.out.left.lt g hm9; omega))
    go_enter Tryd.func19, Tryd.ntmps19
    go_wp2
    go_region
    go_wp2
    go_region
    go_wp2
    go_region
    go_wp2
    go_region_held3 (fun W' => W'.cell? ⟨wb, 37, none⟩ = some (.slice (some ⟨gb, 0, none⟩) L cb) ∧ W'.cell? ⟨wb, 36, none⟩ = some (.int .i64 (D : Int))) (first | assumption | exact HS7.out _ (by first | exact ((((Keeps.refl [] w).drew).drew).drew).drew | exact (((((Keeps.refl [] w).drew).drew).drew).drew).drew | exact (((Keeps.refl [] w).drew).drew).drew)) (first | (go_at_call 68; refine (HSZ.out _).mono ?_; rintro e w' ⟨rfl, rfl⟩) | fail)
    go_wp2
    go_region_held3 (fun W => W.cell? ⟨wb, 0, none⟩ = some (.pointer (some ⟨d.db, 0, none⟩)) ∧ W.cell? ⟨wb, 35, none⟩ = some (.slice (some ⟨q, 0, none⟩) K cq) ∧ W.cell? ⟨q, D, none⟩ = some (.int .i64 nd) ∧ W.rangeAt wb 1 (by8 x.h) ∧ W.cell? ⟨wb, 36, none⟩ = some (.int .i64 (D : Int))) (first | exact HS8.out _ k69q | exact HS8.out _ k70q | exact HS8.out _ ((((((Keeps.refl [] w).drew).drew).drew).drew).mono (S' := fps (DL d)) (by simp)) | exact HS8.out _ (((((((Keeps.refl [] w).drew).drew).drew).drew).drew).mono (S' := fps (DL d)) (by simp)) | exact HS8.out _ (((((Keeps.refl [] w).drew).drew).drew).mono (S' := fps (DL d)) (by simp)) | assumption) (first | (go_at_call 69; refine (HWR.out _ g70 k70w hg70 hr70).mono ?_; rintro e w69 ⟨rfl, d9, ok9, m9, cur9, db9, last9, rd9, wr9, fl9⟩; have k69q := (k70w.mono (S' := fps (DL d)) (by simp)).trans' m9.keeps; have c36q := (HS8.out _ k69q).2.2.2.2; have c35q := (HS8.out _ k69q).2.1; have f36q := HSF.out _ k69q) | (go_at_call 70; refine (HSEC.out _ (by first | exact ((((Keeps.refl [] w).drew).drew).drew).drew | exact (((((Keeps.refl [] w).drew).drew).drew).drew).drew | exact (((Keeps.refl [] w).drew).drew).drew)).mono ?_; rintro e w70 ⟨g70, rfl, hg70, hr70, k70w⟩; have k70q := k70w.mono (S' := fps (DL d)) (by simp)) | fail)
    go_wp2
    go_region
    go_wp2
    go_ret2
    refine ⟨?_, d9, ok9, ?_, fun j => ?_, db9, last9, rd9, wr9, fl9⟩
    · rw [← HBQ.out]; rfl
    · have mm := step_moves HHH.out HW.out.h32 k70w m9 db9 D1
      have e9 : D1 = x.done + 1 := by rw [HD1.out, HDV.out]
      rw [HWB.out, ← e9]
      exact mm
    · rw [HNXV.out, HPB.out, ← HNDV.out, ← HDV.out]
      exact cur9 j
  · have HNXV := Lib.hid (show nextI x.ns x.done = 0 from by unfold nextI; rw [← HDV.out, ← HKV.out, if_neg hlast])
    have b5 : (D1 < K) = False := eq_false (by have := HD1.out; omega)
    have b6 : ((D1 : Int) < (K : Int)) = False := eq_false (by have := HD1.out; omega)
    clear hlast
    have HSEC := Lib.hid (show ∀ W, Keeps [] w W → Calls Tryd.prog 70 #[.agg (by8 x.h).toArray, .int .i64 (D : Int), .int .i64 0, .slice (some ⟨gb, F, none⟩) m (cb - F)] W fun e w' => ∃ g, e = .returned (.slice (some ⟨g, 0, none⟩) 512 512) ∧ w.heap.size ≤ g ∧ RowAt w' g 5 1 512 512 (by8 (secB x.h (D : Int) 0 ((x.bs.drop F).take m))) ∧ Keeps [] w w' from fun W hk => by
      have hrr := range_take (range_drop (row_range8 (RowAt.keeps HBR.out hk (by simp))) F) m
      rw [Nat.zero_add] at hrr
      have hC := C_of_range hrr (by rw [HPL.out]; omega)
      rw [HPL.out] at hC
      refine (sector_calls x.h HW.out.h32 (D : Int) 0 (by omega) (by omega) (by omega) (by omega) (some ⟨gb, F, none⟩) (cb - F) m _ hC (fun a e => by cases e; exact Nat.lt_of_lt_of_le HBR.out.lt hk.size) hm480 (HHALF.out.keeps hk (by simp)) (by have := HBR.out.lt; have := hk.size; omega)).mono ?_
      rintro e w' ⟨g, rfl, g1, g2, g3⟩
      exact ⟨g, rfl, Nat.le_trans hk.size g1, g2, hk.trans' g3⟩)
    have HWR := Lib.hid (show ∀ W g, Keeps [] w W → w.heap.size ≤ g → RowAt W g 5 1 512 512 (by8 (secB x.h (D : Int) 0 ((x.bs.drop F).take m))) → Calls Tryd.prog 69 #[.pointer (some ⟨d.db, 0, none⟩), .int .i64 nd, .slice (some ⟨g, 0, none⟩) 512 512] W (WritePost d nd (secB x.h (D : Int) 0 ((x.bs.drop F).take m)) W) from fun W g hk hg hrow => by
      have hsl := secB_length x.h (D : Int) 0 ((x.bs.drop F).take m) (by rw [HW.out.h32]; decide) (by rw [HPL.out]; exact hm480)
      have hC := row_read0 hrow (by decide)
      rw [hsl] at hC
      exact write_calls (HHH.out.left.keeps0 hk) ok nd (by omega) hnd.2 hwr g 0 512 _ hC (fun hm9 => by have := HHH.out.left.lt g hm9; omega))
    go_enter Tryd.func19, Tryd.ntmps19
    go_wp2
    go_region
    go_wp2
    go_region
    go_wp2
    go_region_held3 (fun W' => W'.cell? ⟨wb, 37, none⟩ = some (.slice (some ⟨gb, 0, none⟩) L cb) ∧ W'.cell? ⟨wb, 36, none⟩ = some (.int .i64 (D : Int))) (first | assumption | exact HS7.out _ (by first | exact ((((Keeps.refl [] w).drew).drew).drew).drew | exact (((((Keeps.refl [] w).drew).drew).drew).drew).drew | exact (((Keeps.refl [] w).drew).drew).drew)) (first | (go_at_call 68; refine (HSZ.out _).mono ?_; rintro e w' ⟨rfl, rfl⟩) | fail)
    go_wp2
    go_region_held3 (fun W => W.cell? ⟨wb, 0, none⟩ = some (.pointer (some ⟨d.db, 0, none⟩)) ∧ W.cell? ⟨wb, 35, none⟩ = some (.slice (some ⟨q, 0, none⟩) K cq) ∧ W.cell? ⟨q, D, none⟩ = some (.int .i64 nd) ∧ W.rangeAt wb 1 (by8 x.h) ∧ W.cell? ⟨wb, 36, none⟩ = some (.int .i64 (D : Int))) (first | exact HS8.out _ k69q | exact HS8.out _ k70q | exact HS8.out _ ((((((Keeps.refl [] w).drew).drew).drew).drew).mono (S' := fps (DL d)) (by simp)) | exact HS8.out _ (((((((Keeps.refl [] w).drew).drew).drew).drew).drew).mono (S' := fps (DL d)) (by simp)) | exact HS8.out _ (((((Keeps.refl [] w).drew).drew).drew).mono (S' := fps (DL d)) (by simp)) | assumption) (first | (go_at_call 69; refine (HWR.out _ g70 k70w hg70 hr70).mono ?_; rintro e w69 ⟨rfl, d9, ok9, m9, cur9, db9, last9, rd9, wr9, fl9⟩; have k69q := (k70w.mono (S' := fps (DL d)) (by simp)).trans' m9.keeps; have c36q := (HS8.out _ k69q).2.2.2.2; have c35q := (HS8.out _ k69q).2.1; have f36q := HSF.out _ k69q) | (go_at_call 70; refine (HSEC.out _ (by first | exact ((((Keeps.refl [] w).drew).drew).drew).drew | exact (((((Keeps.refl [] w).drew).drew).drew).drew).drew | exact (((Keeps.refl [] w).drew).drew).drew)).mono ?_; rintro e w70 ⟨g70, rfl, hg70, hr70, k70w⟩; have k70q := k70w.mono (S' := fps (DL d)) (by simp)) | fail)
    go_wp2
    go_region
    go_wp2
    go_ret2
    refine ⟨?_, d9, ok9, ?_, fun j => ?_, db9, last9, rd9, wr9, fl9⟩
    · rw [← HBQ.out]; rfl
    · have mm := step_moves HHH.out HW.out.h32 k70w m9 db9 D1
      have e9 : D1 = x.done + 1 := by rw [HD1.out, HDV.out]
      rw [HWB.out, ← e9]
      exact mm
    · rw [HNXV.out, HPB.out, ← HNDV.out, ← HDV.out]
      exact cur9 j
end Go.Proofs.YtgcpcgcfpjolnaaDoor.G
-- chain.number, chain.zeros.
namespace Go.Proofs.YtgcpcgcfpjolnaaDoor.G
open Go.RowKit Go.Proofs.YtgcpcgcfpjolnaaDoorW.PrintWords Go.Proofs.YtgcpcgcfpjolnaaDoorW.PrintLast Go.Proofs.YtgcpcgcfpjolnaaDoorW.PrintMore
set_option linter.unusedVariables false
set_option linter.unusedSimpArgs false
set_option maxRecDepth 10000
theorem or256 (x b : Int) (hx0 : 0 ≤ x) (hx : x < 4294967296) (hb0 : 0 ≤ b) (hb : b < 256) : bits .or .u64 (x * 256) b = x * 256 + b := by
  obtain ⟨n, rfl⟩ := Int.eq_ofNat_of_zero_le hx0
  obtain ⟨m, rfl⟩ := Int.eq_ofNat_of_zero_le hb0
  have e : (n : Int) * 256 = ((n * 256 : Nat) : Int) := by omega
  rw [e, bits_or_u64_nat _ _ (by omega) (by omega)]
  have := Nat.shiftLeft_add_eq_or_of_lt (b := m) (i := 8) (by omega) n
  rw [Nat.shiftLeft_eq] at this
  have e2 : n * 2 ^ 8 = n * 256 := by omega
  rw [e2] at this
  rw [← this]
  omega
theorem rf4 {w : World} {g o c L : Nat} {xs : List Int} (hx : w.rangeAt g o (by8 xs)) (hl : xs.length = L) (h4 : 4 ≤ L) (hL : L ≤ 1073741824) (hb : ∀ j, j < 4 → 0 ≤ xs.getD j 0 ∧ xs.getD j 0 < 256) :
    Calls Tryd.prog 106 #[.slice (some ⟨g, o, none⟩) L c, .int .i64 0, .int .i64 4] w fun e w' => e = .returned (.tuple #[.int .u64 (numB (xs.take 4)), .int .i64 4, .int .i64 0]) ∧ w' = w := by
  have cell : ∀ j, j < 4 → w.cell? ⟨g, o + j, none⟩ = some (.int .u8 (xs.getD j 0)) := fun j hj => hx j _ (by rw [by8_get, List.getElem?_eq_getElem (by omega)]; simp [List.getD_eq_getElem?_getD, List.getElem?_eq_getElem (show j < xs.length by omega)])
  have c0 := cell 0 (by decide)
  have c1 := cell 1 (by decide)
  have c2 := cell 2 (by decide)
  have c3 := cell 3 (by decide)
  have b0 := hb 0 (by decide)
  have b1 := hb 1 (by decide)
  have b2 := hb 2 (by decide)
  have b3 := hb 3 (by decide)
  rw [Nat.add_zero] at c0
  have HN := Lib.hid (show numB (xs.take 4) = xs.getD 0 0 + 256 * (xs.getD 1 0 + 256 * (xs.getD 2 0 + 256 * xs.getD 3 0)) from by
    match xs, (show 4 ≤ xs.length by omega) with
    | x0 :: x1 :: x2 :: x3 :: t, _ => simp [numB])
  generalize xs.getD 0 0 = x0 at c0 b0 HN
  generalize xs.getD 1 0 = x1 at c1 b1 HN
  generalize xs.getD 2 0 = x2 at c2 b2 HN
  generalize xs.getD 3 0 = x3 at c3 b3 HN
  have o1 : bits .or .u64 0 x3 = x3 := by simpa using or256 0 x3 (by decide) (by decide) b3.1 b3.2
  have o2 := or256 x3 x2 (by omega) (by omega) b2.1 b2.2
  have o3 := or256 (x3 * 256 + x2) x1 (by omega) (by omega) b1.1 b1.2
  have o4 := or256 ((x3 * 256 + x2) * 256 + x1) x0 (by omega) (by omega) b0.1 b0.2
  clear cell hx hb
  go_enter Tryd.func106, Tryd.ntmps106
  go_wp2
  refine wp_loop_rounds 5 ?_
  rw [rounds_succ]
  go_wp2
  rw [rounds_succ]
  go_wp2
  rw [rounds_succ]
  go_wp2
  rw [rounds_succ]
  go_wp2
  rw [rounds_succ]
  go_wp2
  go_ret3
  exact ⟨by rw [HN.out, show x0 + 256 * (x1 + 256 * (x2 + 256 * x3)) = ((x3 * 256 + x2) * 256 + x1) * 256 + x0 by omega]; rfl, rfl⟩
theorem rf2 {w : World} {g o c L : Nat} {xs : List Int} (hx : w.rangeAt g o (by8 xs)) (hl : xs.length = L) (h4 : 2 ≤ L) (hL : L ≤ 1073741824) (hb : ∀ j, j < 2 → 0 ≤ xs.getD j 0 ∧ xs.getD j 0 < 256) :
    Calls Tryd.prog 106 #[.slice (some ⟨g, o, none⟩) L c, .int .i64 0, .int .i64 2] w fun e w' => e = .returned (.tuple #[.int .u64 (numB (xs.take 2)), .int .i64 2, .int .i64 0]) ∧ w' = w := by
  have cell : ∀ j, j < 2 → w.cell? ⟨g, o + j, none⟩ = some (.int .u8 (xs.getD j 0)) := fun j hj => hx j _ (by rw [by8_get, List.getElem?_eq_getElem (by omega)]; simp [List.getD_eq_getElem?_getD, List.getElem?_eq_getElem (show j < xs.length by omega)])
  have c0 := cell 0 (by decide)
  have c1 := cell 1 (by decide)
  have b0 := hb 0 (by decide)
  have b1 := hb 1 (by decide)
  rw [Nat.add_zero] at c0
  have HN := Lib.hid (show numB (xs.take 2) = xs.getD 0 0 + 256 * xs.getD 1 0 from by
    match xs, (show 2 ≤ xs.length by omega) with
    | x0 :: x1 :: t, _ => simp [numB])
  generalize xs.getD 0 0 = x0 at c0 b0 HN
  generalize xs.getD 1 0 = x1 at c1 b1 HN
  have o1 : bits .or .u64 0 x1 = x1 := by simpa using or256 0 x1 (by decide) (by decide) b1.1 b1.2
  have o2 := or256 x1 x0 (by omega) (by omega) b0.1 b0.2
  clear cell hx hb
  go_enter Tryd.func106, Tryd.ntmps106
  go_wp2
  refine wp_loop_rounds 3 ?_
  rw [rounds_succ]
  go_wp2
  rw [rounds_succ]
  go_wp2
  rw [rounds_succ]
  go_wp2
  go_ret3
  exact ⟨by rw [HN.out, show x0 + 256 * x1 = x1 * 256 + x0 by omega]; rfl, rfl⟩
theorem number4 {w : World} {g o c L : Nat} {xs : List Int} (hx : w.rangeAt g o (by8 xs)) (hl : xs.length = L) (h4 : 4 ≤ L) (hL : L ≤ 1073741824) (hb : ∀ j, j < 4 → 0 ≤ xs.getD j 0 ∧ xs.getD j 0 < 256) :
    Calls Tryd.prog 73 #[.slice (some ⟨g, o, none⟩) L c, .int .i64 4] w fun e w' => e = .returned (.int .i64 (numB (xs.take 4))) ∧ w' = w := by
  have HC := Lib.hid (rf4 (c := c) hx hl h4 hL hb)
  have hr : 0 ≤ numB (xs.take 4) ∧ numB (xs.take 4) < 4294967296 := by
    have b0 := hb 0 (by decide)
    have b1 := hb 1 (by decide)
    have b2 := hb 2 (by decide)
    have b3 := hb 3 (by decide)
    match xs, (show 4 ≤ xs.length by omega) with
    | x0 :: x1 :: x2 :: x3 :: t, _ =>
      simp at b0 b1 b2 b3
      simp only [List.take_succ_cons, List.take_zero, numB]
      omega
  generalize numB (xs.take 4) = v at HC hr
  clear hx hb
  go_enter Tryd.func73, Tryd.ntmps73
  go_wp2_with (go_at_call 106; refine HC.out.mono ?_; rintro e w' ⟨rfl, rfl⟩)
  go_ret
  exact ⟨rfl, rfl⟩
theorem number2 {w : World} {g o c L : Nat} {xs : List Int} (hx : w.rangeAt g o (by8 xs)) (hl : xs.length = L) (h4 : 2 ≤ L) (hL : L ≤ 1073741824) (hb : ∀ j, j < 2 → 0 ≤ xs.getD j 0 ∧ xs.getD j 0 < 256) :
    Calls Tryd.prog 73 #[.slice (some ⟨g, o, none⟩) L c, .int .i64 2] w fun e w' => e = .returned (.int .i64 (numB (xs.take 2))) ∧ w' = w := by
  have HC := Lib.hid (rf2 (c := c) hx hl h4 hL hb)
  have hr : 0 ≤ numB (xs.take 2) ∧ numB (xs.take 2) < 65536 := by
    have b0 := hb 0 (by decide)
    have b1 := hb 1 (by decide)
    match xs, (show 2 ≤ xs.length by omega) with
    | x0 :: x1 :: t, _ =>
      simp at b0 b1
      simp only [List.take_succ_cons, List.take_zero, numB]
      omega
  generalize numB (xs.take 2) = v at HC hr
  clear hx hb
  go_enter Tryd.func73, Tryd.ntmps73
  go_wp2_with (go_at_call 106; refine HC.out.mono ?_; rintro e w' ⟨rfl, rfl⟩)
  go_ret
  exact ⟨rfl, rfl⟩
theorem zeros_calls {w : World} {g o c : Nat} (n : Nat) (hx : w.rangeAt g o (by8 (zs n))) (hn : n ≤ 1073741824) :
    Calls Tryd.prog 105 #[.slice (some ⟨g, o, none⟩) n c] w fun e w' => e = .returned (.bool true) ∧ w' = w := by
  have HX := Lib.hid (show ∀ j, j < n → w.cell? ⟨g, o + j, none⟩ = some (.int .u8 0) from fun j hj => hx j _ (by simp [by8, zs, hj]))
  clear hx
  go_enter Tryd.func105, Tryd.ntmps105
  go_wp2
  go_loopw [7] (fun i W => W = w ∧ ∃ j : Nat, j ≤ n ∧ i = .int .i64 (j : Int)) (fun i _ => n - (intOf i).toNat)
  case atStart => exact ⟨rfl, 0, by omega, rfl⟩
  case round =>
    obtain ⟨rfl, j, hj, rfl⟩ := hrel
    by_cases hlt : j < n
    · have b1 : ((j : Int) < (n : Int)) = True := eq_true (by omega)
      have y := HX.out j hlt
      go_wp2
      go_roundw
      case rel => exact ⟨trivial, j + 1, by omega, by go_num⟩
      case measure => simp [intOf]; omega
    · have b1 : ((j : Int) < (n : Int)) = False := eq_false (by omega)
      go_wp2
      go_ret
      exact ⟨rfl, rfl⟩
end Go.Proofs.YtgcpcgcfpjolnaaDoor.G
-- chain.formed, where it is true.
namespace Go.Proofs.YtgcpcgcfpjolnaaDoor.G
open Go.RowKit Go.Proofs.YtgcpcgcfpjolnaaDoorW.PrintWords Go.Proofs.YtgcpcgcfpjolnaaDoorW.PrintLast Go.Proofs.YtgcpcgcfpjolnaaDoorW.PrintMore
set_option linter.unusedVariables false
set_option linter.unusedSimpArgs false
set_option maxRecDepth 10000
theorem le_range (n : Nat) (v : Int) (j : Nat) (hj : j < n) : 0 ≤ (le n v).getD j 0 ∧ (le n v).getD j 0 < 256 := by
  unfold le
  rw [List.getD_eq_getElem?_getD, List.getElem?_map, List.getElem?_range hj]
  simp only [Option.map_some, Option.getD_some]
  omega
/-- the parts of a sector, as they lie -/
theorem sec_parts (h : List Int) (place next : Int) (pc : List Int) (hh : 8 ≤ h.length) (hp : pc.length ≤ 480) :
    (∃ t, (secB h place next pc).drop 4 = le 2 pc.length ++ t) ∧ (∃ t, (secB h place next pc).drop 6 = zs 2 ++ t) ∧ (∃ t, (secB h place next pc).drop 8 = le 4 place ++ t) ∧ (∃ t, (secB h place next pc).drop 12 = h.take 8 ++ t) ∧ (∃ t, (secB h place next pc).drop 20 = zs 8 ++ t) ∧
      (∃ t, (secB h place next pc).drop 28 = pc ++ t) ∧ (∃ t, (secB h place next pc).drop (28 + pc.length) = zs (480 - pc.length) ++ t) ∧ (secB h place next pc).drop 508 = le 4 (crcF ((secB h place next pc).take 508)) ∧ (∃ t, (secB h place next pc) = le 4 next ++ t) := by
  have hh8 : (h.take 8).length = 8 := by simp; omega
  have hl := secHead_length h place next pc hh hp
  have e : secB h place next pc = le 4 next ++ (le 2 pc.length ++ (zs 2 ++ (le 4 place ++ (h.take 8 ++ (zs 8 ++ (pc ++ (zs (480 - pc.length) ++ le 4 (crcF (secHead h place next pc))))))))) := by
    simp only [secB, secHead, List.append_assoc]
  have ht : (secB h place next pc).take 508 = secHead h place next pc := by rw [secB, ← hl]; simp
  have dr : ∀ (A B : List Int) (o : Nat), A.length = o → (A ++ B).drop o = B := fun A B o ho => by subst ho; simp
  refine ⟨?_, ?_, ?_, ?_, ?_, ?_, ?_, ?_, ⟨_, e⟩⟩
  · exact ⟨_, by rw [e]; exact dr (le 4 next) _ 4 (le_length ..)⟩
  · exact ⟨_, by rw [e, ← List.append_assoc]; exact dr (le 4 next ++ le 2 _) _ 6 (by simp [le_length])⟩
  · exact ⟨_, by rw [e, ← List.append_assoc, ← List.append_assoc]; exact dr _ _ 8 (by simp [le_length, zs_length])⟩
  · exact ⟨_, by rw [e, ← List.append_assoc, ← List.append_assoc, ← List.append_assoc]; exact dr _ _ 12 (by simp [le_length, zs_length])⟩
  · exact ⟨_, by rw [e, ← List.append_assoc, ← List.append_assoc, ← List.append_assoc, ← List.append_assoc]; exact dr _ _ 20 (by simp [le_length, zs_length]; omega)⟩
  · exact ⟨_, by rw [e, ← List.append_assoc, ← List.append_assoc, ← List.append_assoc, ← List.append_assoc, ← List.append_assoc]; exact dr _ _ 28 (by simp [le_length, zs_length]; omega)⟩
  · exact ⟨_, by rw [e, ← List.append_assoc, ← List.append_assoc, ← List.append_assoc, ← List.append_assoc, ← List.append_assoc, ← List.append_assoc]; exact dr _ _ _ (by simp [le_length, zs_length]; omega)⟩
  · rw [ht]
    have : secB h place next pc = secHead h place next pc ++ le 4 (crcF (secHead h place next pc)) := rfl
    rw [this]; exact dr _ _ 508 hl
theorem range_app {w : World} {g o : Nat} {A B : List Int} (h : w.rangeAt g o (by8 (A ++ B))) : w.rangeAt g o (by8 A) := fun j v hj => h j v (by rw [by8_append, List.getElem?_append_left (List.getElem?_eq_some_iff.1 hj).1]; exact hj)
theorem getD_app {A B : List Int} {j : Nat} (hj : j < A.length) : (A ++ B).getD j 0 = A.getD j 0 := by
  rw [List.getD_eq_getElem?_getD, List.getD_eq_getElem?_getD, List.getElem?_append_left hj]
theorem take_app (A B : List Int) (n : Nat) (h : A.length = n) : (A ++ B).take n = A := by subst h; simp
set_option maxHeartbeats 4000000 in
theorem formed_yes {w : World} {g c L j n : Nat} {h pc : List Int} {fi next : Int} (hx : w.rangeAt g 0 (by8 (secB h (j : Int) next pc))) (hh : h.length = 32) (hL : L ≤ 1048576) (hj : 480 * j ≤ L) (hn : n = min 480 (L - 480 * j)) (hpn : pc.length = n) (hc : 512 ≤ c) (hg : g < w.heap.size) (hH : HalfW w) :
    Calls Tryd.prog 71 #[.slice (some ⟨g, 0, none⟩) 512 c, .agg (refC h fi (L : Int)).toArray, .int .i64 (j : Int)] w fun e w' => e = .returned (.bool true) ∧ Keeps [] w w' := by
  have hn480 : n ≤ 480 := by omega
  obtain ⟨⟨t4, p4⟩, ⟨t6, p6⟩, ⟨t8, p8⟩, ⟨t12, p12⟩, ⟨t20, p20⟩, _, ⟨tn, pn⟩, p508, _⟩ := sec_parts h (j : Int) next pc (by omega) (by omega)
  have hsl := secB_length h (j : Int) next pc (by omega) (by omega)
  rw [hpn] at p4 pn
  have HS68 := Lib.hid (show ∀ W, Calls Tryd.prog 68 #[.int .i64 (L : Int), .int .i64 (j : Int)] W fun e w' => e = .returned (.int .i64 (n : Int)) ∧ w' = W from fun W => by rw [hn]; exact size68 L j hL hj W)
  have HX := Lib.hid (show ∀ W, Keeps [] w W → W.rangeAt g 0 (by8 (secB h (j : Int) next pc)) from fun W hk => range_keeps hx hk (by simp))
  have HN1 := Lib.hid (show ∀ W, Keeps [] w W → Calls Tryd.prog 73 #[.slice (some ⟨g, 4, none⟩) 508 (c - 4), .int .i64 2] W fun e w' => e = .returned (.int .i64 (n : Int)) ∧ w' = W from fun W hk => by
    have h1 := range_drop (HX.out W hk) 4
    rw [Nat.zero_add] at h1
    have h2 := number2 (c := c - 4) h1 (L := 508) (by simp [hsl]) (by decide) (by decide) (fun i hi => by rw [p4, getD_app (by rw [le_length]; exact hi)]; exact le_range 2 _ i hi)
    rw [p4, take_app _ _ 2 (le_length ..), numB_le2 _ (by omega) (by omega)] at h2
    exact h2)
  have HN2 := Lib.hid (show ∀ W, Keeps [] w W → Calls Tryd.prog 73 #[.slice (some ⟨g, 8, none⟩) 504 (c - 8), .int .i64 4] W fun e w' => e = .returned (.int .i64 (j : Int)) ∧ w' = W from fun W hk => by
    have h1 := range_drop (HX.out W hk) 8
    rw [Nat.zero_add] at h1
    have h2 := number4 (c := c - 8) h1 (L := 504) (by simp [hsl]) (by decide) (by decide) (fun i hi => by rw [p8, getD_app (by rw [le_length]; exact hi)]; exact le_range 4 _ i hi)
    rw [p8, take_app _ _ 4 (le_length ..), numB_le4 _ (by omega) (by omega)] at h2
    exact h2)
  obtain ⟨sm, hsm⟩ : ∃ sm, sm = crcF ((secB h (j : Int) next pc).take 508) := ⟨_, rfl⟩
  have hsm0 := crcF_lo ((secB h (j : Int) next pc).take 508)
  have hsm1 := crcF_hi ((secB h (j : Int) next pc).take 508)
  rw [← hsm] at hsm0 hsm1 p508
  have HN3 := Lib.hid (show ∀ W, Keeps [] w W → Calls Tryd.prog 73 #[.slice (some ⟨g, 508, none⟩) 4 (c - 508), .int .i64 4] W fun e w' => e = .returned (.int .i64 sm) ∧ w' = W from fun W hk => by
    have h1 := range_drop (HX.out W hk) 508
    rw [Nat.zero_add] at h1
    have h2 := number4 (c := c - 508) h1 (L := 4) (by simp [hsl]) (by decide) (by decide) (fun i hi => by rw [p508]; exact le_range 4 _ i hi)
    rw [p508, List.take_of_length_le (by rw [le_length]; decide), numB_le4 _ hsm0 hsm1] at h2
    exact h2)
  have HZ1 := Lib.hid (show ∀ W, Keeps [] w W → Calls Tryd.prog 105 #[.slice (some ⟨g, 6, none⟩) 2 (c - 6)] W fun e w' => e = .returned (.bool true) ∧ w' = W from fun W hk => by
    have h1 := range_drop (HX.out W hk) 6
    rw [Nat.zero_add, p6] at h1
    exact zeros_calls 2 (range_app h1) (by decide))
  have HZ2 := Lib.hid (show ∀ W, Keeps [] w W → Calls Tryd.prog 105 #[.slice (some ⟨g, 20, none⟩) 8 (c - 20)] W fun e w' => e = .returned (.bool true) ∧ w' = W from fun W hk => by
    have h1 := range_drop (HX.out W hk) 20
    rw [Nat.zero_add, p20] at h1
    exact zeros_calls 8 (range_app h1) (by decide))
  obtain ⟨q, hq⟩ : ∃ q, q = 28 + n := ⟨_, rfl⟩
  have HZ3 := Lib.hid (show ∀ W, Keeps [] w W → Calls Tryd.prog 105 #[.slice (some ⟨g, q, none⟩) (508 - q) (c - q)] W fun e w' => e = .returned (.bool true) ∧ w' = W from fun W hk => by
    have h1 := range_drop (HX.out W hk) (28 + n)
    rw [Nat.zero_add, pn] at h1
    rw [hq, show 508 - (28 + n) = 480 - n by omega]
    exact zeros_calls (480 - n) (range_app h1) (by omega))
  have HSM := Lib.hid (show ∀ W, Keeps [] w W → ∀ p cp, W.cell? ⟨p, 0, none⟩ = some (.slice (some ⟨g, 0, none⟩) 508 c) → Calls Tryd.prog 104 #[.slice (some ⟨p, 0, none⟩) 1 cp] W fun e w' => e = .returned (.int .u32 sm) ∧ w' = W from fun W hk p cp hp => by
    have h1 := C_of_range (range_take (HX.out W hk) 508) (by simp; omega)
    rw [show ((secB h (j : Int) next pc).take 508).length = 508 by simp [hsl]] at h1
    rw [hsm]
    exact sumN p cp _ c 508 _ (by simp [hsl]) hp h1 (hH.keeps hk (by simp)))
  obtain ⟨b0, b1, b2, b3, b4, b5, b6, b7, hb8⟩ := list8 (show (h.take 8).length = 8 by simp; omega)
  have HCG := Lib.hid (show ∀ W, Keeps [] w W → W.rangeAt g 12 [.int .u8 b0, .int .u8 b1, .int .u8 b2, .int .u8 b3, .int .u8 b4, .int .u8 b5, .int .u8 b6, .int .u8 b7] from fun W hk => by
    have h1 := range_drop (HX.out W hk) 12
    rw [Nat.zero_add, p12, hb8] at h1
    exact range_app h1)
  have HCR := Lib.hid (show (w.alloc (.cells (refC h fi (L : Int)).toArray 52)).rangeAt w.heap.size 0 [.int .u8 b0, .int .u8 b1, .int .u8 b2, .int .u8 b3, .int .u8 b4, .int .u8 b5, .int .u8 b6, .int .u8 b7] from by
    have h1 := str_range (StrAt.new w (refC h fi (L : Int)).toArray 52)
    have h2 : (w.alloc (.cells (refC h fi (L : Int)).toArray 52)).rangeAt w.heap.size 0 (by8 h) := fun i v hv => h1 i v (by simp only [refC]; rw [List.getElem?_append_left (List.getElem?_eq_some_iff.1 hv).1]; exact hv)
    have h3 := range_take h2 8
    rw [hb8] at h3
    exact h3)
  have HCL := Lib.hid (show (w.alloc (.cells (refC h fi (L : Int)).toArray 52)).cell? ⟨w.heap.size, 33, none⟩ = some (.int .i64 (L : Int)) from by
    rw [(StrAt.new w (refC h fi (L : Int)).toArray 52).cell]
    simp [refC, by8_length, hh])
  have r33 : (refC h fi (L : Int))[33]? = some (.int .i64 (L : Int)) := by simp [refC, by8_length, hh]
  have a33 : (refC h fi (L : Int)).toArray[33]? = some (.int .i64 (L : Int)) := by rw [List.getElem?_toArray]; exact r33
  have hk1 : Keeps [] w (w.alloc (.cells (refC h fi (L : Int)).toArray 52)) := (Keeps.refl [] w).alloc _
  have HK1 := Lib.hid hk1
  have c4 : ¬ c = 4 := by omega
  have c6 : ¬ c = 6 := by omega
  have c8 : ¬ c = 8 := by omega
  have c12 : ¬ c = 12 := by omega
  have c20 : ¬ c = 20 := by omega
  have c508 : ¬ c = 508 := by omega
  have cq : ¬ c = q := by omega
  have cc : 512 ≤ c := hc
  have l8 : 8 ≤ c := by omega
  have l20 : 20 ≤ c := by omega
  have l28 : 28 ≤ c := by omega
  have l508 : 508 ≤ c := by omega
  have q508 : q ≤ 508 := by omega
  have eq28 : 28 + (n : Int) = (q : Int) := by omega
  have wq : IntKind.i64.wrap (q : Int) = (q : Int) := IntWalk.i64_in _ (by omega)
  have wsm : IntKind.i64.wrap sm = sm := IntWalk.i64_in _ (by omega)
  have HRB : Hid (w.heap.size = w.heap.size) := Lib.hid rfl
  clear hx p4 p6 p8 p12 p20 pn p508 hsl hsm hq hn hpn hj hH hb8 hc hk1
  go_enter Tryd.func71, Tryd.ntmps71
  go_wp2_with (go_at_call 68; refine (HS68.out _).mono ?_; rintro e w0 ⟨rfl, rfl⟩)
  generalize hW1 : w.alloc (.cells (refC h fi (L : Int)).toArray 52) = w1 at HK1 HCR ⊢
  generalize hRB : w.heap.size = rb at HCR ⊢
  have HCR1 := Lib.hid HCR.out
  have HSS := Lib.hid (show ∀ W, Keeps [] w1 W → W.cell? ⟨g, 12, none⟩ = some (.int .u8 b0) ∧ W.cell? ⟨g, 13, none⟩ = some (.int .u8 b1) ∧ W.cell? ⟨g, 14, none⟩ = some (.int .u8 b2) ∧ W.cell? ⟨g, 15, none⟩ = some (.int .u8 b3) ∧ W.cell? ⟨g, 16, none⟩ = some (.int .u8 b4) ∧ W.cell? ⟨g, 17, none⟩ = some (.int .u8 b5) ∧ W.cell? ⟨g, 18, none⟩ = some (.int .u8 b6) ∧ W.cell? ⟨g, 19, none⟩ = some (.int .u8 b7) ∧ W.cell? ⟨rb, 0, none⟩ = some (.int .u8 b0) ∧ W.cell? ⟨rb, 1, none⟩ = some (.int .u8 b1) ∧ W.cell? ⟨rb, 2, none⟩ = some (.int .u8 b2) ∧ W.cell? ⟨rb, 3, none⟩ = some (.int .u8 b3) ∧ W.cell? ⟨rb, 4, none⟩ = some (.int .u8 b4) ∧ W.cell? ⟨rb, 5, none⟩ = some (.int .u8 b5) ∧ W.cell? ⟨rb, 6, none⟩ = some (.int .u8 b6) ∧ W.cell? ⟨rb, 7, none⟩ = some (.int .u8 b7) from fun W hk => ⟨(range_keeps (HCG.out w (Keeps.refl _ _)) (HK1.out.trans' hk) (by simp)) 0 _ rfl, (range_keeps (HCG.out w (Keeps.refl _ _)) (HK1.out.trans' hk) (by simp)) 1 _ rfl, (range_keeps (HCG.out w (Keeps.refl _ _)) (HK1.out.trans' hk) (by simp)) 2 _ rfl, (range_keeps (HCG.out w (Keeps.refl _ _)) (HK1.out.trans' hk) (by simp)) 3 _ rfl, (range_keeps (HCG.out w (Keeps.refl _ _)) (HK1.out.trans' hk) (by simp)) 4 _ rfl, (range_keeps (HCG.out w (Keeps.refl _ _)) (HK1.out.trans' hk) (by simp)) 5 _ rfl, (range_keeps (HCG.out w (Keeps.refl _ _)) (HK1.out.trans' hk) (by simp)) 6 _ rfl, (range_keeps (HCG.out w (Keeps.refl _ _)) (HK1.out.trans' hk) (by simp)) 7 _ rfl, by have := (range_keeps HCR1.out hk (by simp)) 0 _ rfl; simpa using this, by have := (range_keeps HCR1.out hk (by simp)) 1 _ rfl; simpa using this, by have := (range_keeps HCR1.out hk (by simp)) 2 _ rfl; simpa using this, by have := (range_keeps HCR1.out hk (by simp)) 3 _ rfl; simpa using this, by have := (range_keeps HCR1.out hk (by simp)) 4 _ rfl; simpa using this, by have := (range_keeps HCR1.out hk (by simp)) 5 _ rfl; simpa using this, by have := (range_keeps HCR1.out hk (by simp)) 6 _ rfl; simpa using this, by have := (range_keeps HCR1.out hk (by simp)) 7 _ rfl; simpa using this⟩)
  have HCEL := Lib.hid (show (w1.drew.alloc (.cells #[.slice (some ⟨g, 0, none⟩) 508 c] 22)).cell? ⟨w1.heap.size, 0, none⟩ = some (.slice (some ⟨g, 0, none⟩) 508 c) from by
    have := (StrAt.new w1.drew #[Value.slice (some ⟨g, 0, none⟩) 508 c] 22).cell 0
    simpa using this)
  have hArG : ∀ W : World, (Instr.arrayAt 181 (.slice (some ⟨g, 12, none⟩) 8 (c - 12))).run Tryd.prog W = .ok (.pointer (some ⟨g, 12, none⟩)) W := fun W => by
    simp [Instr.arrayAt, run_underlying Tryd.underlying181, Result.andThen]
  have hArR : ∀ W : World, (Instr.arrayAt 181 (.slice (some ⟨rb, 0, none⟩) 8 32)).run Tryd.prog W = .ok (.pointer (some ⟨rb, 0, none⟩)) W := fun W => by
    simp [Instr.arrayAt, run_underlying Tryd.underlying181, Result.andThen]
  have hEq : ∀ W : World, (Op.equalIn 10000 181 (.agg #[.int .u8 b0, .int .u8 b1, .int .u8 b2, .int .u8 b3, .int .u8 b4, .int .u8 b5, .int .u8 b6, .int .u8 b7]) (.agg #[.int .u8 b0, .int .u8 b1, .int .u8 b2, .int .u8 b3, .int .u8 b4, .int .u8 b5, .int .u8 b6, .int .u8 b7])).run Tryd.prog W = .ok true W := fun W => eq_bytes W 9998 181 5 8 [b0, b1, b2, b3, b4, b5, b6, b7] Tryd.underlying181 Tryd.underlying5 info5s rfl
  have i8 : ((8 : Int) ≤ (c : Int)) = True := eq_true (by omega)
  have i20 : ((20 : Int) ≤ (c : Int)) = True := eq_true (by omega)
  have i28 : ((28 : Int) ≤ (c : Int)) = True := eq_true (by omega)
  have i508 : ((508 : Int) ≤ (c : Int)) = True := eq_true (by omega)
  have iq : ((q : Int) ≤ 508) = True := eq_true (by omega)
  clear HCR HCL hW1 hRB r33 a33
  go_region_held3 (fun W => W.cell? ⟨g, 12, none⟩ = some (.int .u8 b0) ∧ W.cell? ⟨g, 13, none⟩ = some (.int .u8 b1) ∧ W.cell? ⟨g, 14, none⟩ = some (.int .u8 b2) ∧ W.cell? ⟨g, 15, none⟩ = some (.int .u8 b3) ∧ W.cell? ⟨g, 16, none⟩ = some (.int .u8 b4) ∧ W.cell? ⟨g, 17, none⟩ = some (.int .u8 b5) ∧ W.cell? ⟨g, 18, none⟩ = some (.int .u8 b6) ∧ W.cell? ⟨g, 19, none⟩ = some (.int .u8 b7) ∧ W.cell? ⟨rb, 0, none⟩ = some (.int .u8 b0) ∧ W.cell? ⟨rb, 1, none⟩ = some (.int .u8 b1) ∧ W.cell? ⟨rb, 2, none⟩ = some (.int .u8 b2) ∧ W.cell? ⟨rb, 3, none⟩ = some (.int .u8 b3) ∧ W.cell? ⟨rb, 4, none⟩ = some (.int .u8 b4) ∧ W.cell? ⟨rb, 5, none⟩ = some (.int .u8 b5) ∧ W.cell? ⟨rb, 6, none⟩ = some (.int .u8 b6) ∧ W.cell? ⟨rb, 7, none⟩ = some (.int .u8 b7)) (first | assumption | exact HSS.out _ (by first | exact (Keeps.refl [] w1).drew | exact ((Keeps.refl [] w1).drew).alloc _ | exact ((Keeps.refl [] w1).alloc _).drew)) (first | (have _z := mkZ2; go_at_call 105; refine (HZ3.out _ (HK1.out.trans' (by first | exact (Keeps.refl [] w1).drew | exact ((Keeps.refl [] w1).drew).alloc _ | exact ((Keeps.refl [] w1).alloc _).drew))).mono ?_; rintro e w' ⟨rfl, rfl⟩) | (have _z := mkZ1; go_at_call 105; refine (HZ2.out _ (HK1.out.trans' (by first | exact (Keeps.refl [] w1).drew | exact ((Keeps.refl [] w1).drew).alloc _ | exact ((Keeps.refl [] w1).alloc _).drew))).mono ?_; rintro e w' ⟨rfl, rfl⟩; have mkZ2 := Lib.hid hh) | (go_at_call 105; refine (HZ1.out _ (HK1.out.trans' (by first | exact (Keeps.refl [] w1).drew | exact ((Keeps.refl [] w1).drew).alloc _ | exact ((Keeps.refl [] w1).alloc _).drew))).mono ?_; rintro e w' ⟨rfl, rfl⟩; have mkZ1 := Lib.hid hh) | (have _z := mkN2; go_at_call 73; refine (HN3.out _ (HK1.out.trans' (by first | exact (Keeps.refl [] w1).drew | exact ((Keeps.refl [] w1).drew).alloc _ | exact ((Keeps.refl [] w1).alloc _).drew))).mono ?_; rintro e w' ⟨rfl, rfl⟩) | (have _z := mkN1; go_at_call 73; refine (HN2.out _ (HK1.out.trans' (by first | exact (Keeps.refl [] w1).drew | exact ((Keeps.refl [] w1).drew).alloc _ | exact ((Keeps.refl [] w1).alloc _).drew))).mono ?_; rintro e w' ⟨rfl, rfl⟩; have mkN2 := Lib.hid hh) | (go_at_call 73; refine (HN1.out _ (HK1.out.trans' (by first | exact (Keeps.refl [] w1).drew | exact ((Keeps.refl [] w1).drew).alloc _ | exact ((Keeps.refl [] w1).alloc _).drew))).mono ?_; rintro e w' ⟨rfl, rfl⟩; have mkN1 := Lib.hid hh) | (go_at_call 104; refine (HSM.out _ (HK1.out.trans' (by first | exact (Keeps.refl [] w1).drew | exact ((Keeps.refl [] w1).drew).alloc _ | exact ((Keeps.refl [] w1).alloc _).drew)) _ _ HCEL.out).mono ?_; rintro e w' ⟨rfl, rfl⟩) | fail)
  all_goals go_wp2
  all_goals go_ret
  all_goals exact ⟨rfl, (HK1.out.alloc _).drew⟩
end Go.Proofs.YtgcpcgcfpjolnaaDoor.G
