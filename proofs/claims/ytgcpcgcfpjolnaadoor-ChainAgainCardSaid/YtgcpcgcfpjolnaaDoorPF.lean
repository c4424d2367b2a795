import Derived.Test.YtgcpcgcfpjolnaaDoorPE
import Derived.Test.YtgcpcgcfpjolnaaDoorPD
import Derived.Test.YtgcpcgcfpjolnaaDoorPX
import Derived.Deep.DeepCutAuto
-- chain.NewReader, Bytes, Broken.
namespace Go.Proofs.YtgcpcgcfpjolnaaDoor.G
open Go.RowKit Go.Proofs.YtgcpcgcfpjolnaaDoorW.PrintWords Go.Proofs.YtgcpcgcfpjolnaaDoorW.PrintLast Go.Proofs.YtgcpcgcfpjolnaaDoorW.PrintMore
set_option linter.unusedVariables false
set_option linter.unusedSimpArgs false
set_option maxRecDepth 10000
/-- a reader: where it lies, what it has read -/
structure RI where
  rb : Nat
  h : List Int
  fi : Int
  len : Nat
  nv : Value
  ns : List Int
  done : Nat
  heap : Int
  at_ : Int
  bv : Value
  bs : List Int
  over : Bool
  err : Int
  broken : Int
def rTl (x : RI) : List Value := [.int .i64 x.heap, .int .i64 x.at_, x.bv, .bool x.over, .int .i64 x.err, .int .i64 x.broken]
def RLs (db : Nat) (x : RI) : List Thing := [strT x.rb (lnC db x.h x.fi (x.len : Int) x.nv (x.done : Int) (rTl x)) 71, rowT x.nv 3 1 x.ns.length (ints x.ns), rowT x.bv 5 1 x.bs.length (by8 x.bs)]
theorem broken_calls {w : World} {b db : Nat} {h : List Int} {fi len done : Int} {nv : Value} {x : RI} {T : TypeId} (hs : StrAt w b (lnC db h fi len nv done (rTl x)) T) (hh : h.length = 32) :
    Calls Tryd.prog 51 #[.pointer (some ⟨b, 0, none⟩)] w fun e w' => e = .returned (.int .i64 x.broken) ∧ w' = w := by
  have c42 : w.cell? ⟨b, 42, none⟩ = some (.int .i64 x.broken) := ln_tl hs hh 5
  clear hs
  go_enter Tryd.func51, Tryd.ntmps51
  go_wp2
  go_ret
  exact ⟨rfl, rfl⟩
/-- Bytes of a reader that has ended well -/
theorem bytes_calls {w : World} {b db : Nat} {h : List Int} {fi len done : Int} {nv : Value} {x : RI} {T : TypeId} (hs : StrAt w b (lnC db h fi len nv done (rTl x)) T) (hh : h.length = 32) (ho : x.over = true) (he : x.err = 0) (hb : w.ownsRow 0 5 1 x.bv x.bs.length (by8 x.bs)) (hl : x.bs.length ≤ 1073741824) :
    Calls Tryd.prog 27 #[.pointer (some ⟨b, 0, none⟩)] w fun e w' => ∃ v, e = .returned v ∧ w'.ownsRow 0 5 1 v x.bs.length (by8 x.bs) ∧ Fresh w v ∧ Keeps [] w w' := by
  have c39 : w.cell? ⟨b, 39, none⟩ = some x.bv := ln_tl hs hh 2
  have c40 : w.cell? ⟨b, 40, none⟩ = some (.bool x.over) := ln_tl hs hh 3
  have c41 : w.cell? ⟨b, 41, none⟩ = some (.int .i64 x.err) := ln_tl hs hh 4
  rw [ho] at c40
  rw [he] at c41
  obtain ⟨A, c, hv, hc, _, hform⟩ := own_C (k := .u8) hb
  rw [hv] at c39
  have HB := Lib.hid (show BSl w A x.bs.length c x.bs from ⟨rfl, hc, by
    rcases hform with ⟨h1, h2, h3⟩ | ⟨g, h1, h2⟩
    · exact .inl ⟨h1, h3, h2⟩
    · exact .inr ⟨g, 0, h1, row_range8 h2, rfl, h2.lt⟩⟩)
  have HC := Lib.hid (cloneB HB.out hl)
  clear hs hb hform hv HB
  go_enter Tryd.func27, Tryd.ntmps27
  go_wp2_with (go_at_call 66; refine HC.out.mono ?_; rintro e w' ⟨v, rfl, h1, h2, h3⟩)
  go_ret
  exact ⟨v, rfl, h1, h2, h3⟩
end Go.Proofs.YtgcpcgcfpjolnaaDoor.G
-- chain.NewReader where all is in its bounds.
namespace Go.Proofs.YtgcpcgcfpjolnaaDoor.G
open Go.RowKit Go.Proofs.YtgcpcgcfpjolnaaDoorW.PrintWords Go.Proofs.YtgcpcgcfpjolnaaDoorW.PrintLast Go.Proofs.YtgcpcgcfpjolnaaDoorW.PrintMore
set_option linter.unusedVariables false
set_option linter.unusedSimpArgs false
set_option maxRecDepth 10000
theorem build54b (w : World) (db : Nat) (h : List Int) (hh : h.length = 32) (fi len : Int) : (Instr.build 54 #[(0, .pointer (some ⟨db, 0, none⟩)), (1, .agg (refC h fi len).toArray)]).run Tryd.prog w = .ok (.agg (lnC db h fi len (.slice none 0 0) 0 [])) w := by
  obtain ⟨i0, hi, hz0, hz1, hz2⟩ := info_parts info54
  obtain ⟨i1, hi1, _, hz11, _⟩ := info_parts info52
  obtain ⟨i2, hi2, _, hz21, _⟩ := info_parts info3c
  obtain ⟨i3, hi3, _, hz31, _⟩ := info_parts info23
  obtain ⟨i4, hi4, _, hz41, _⟩ := info_parts info47
  have hf : Instr.fill (fun x => [(0, 1), (1, 34), (35, 1), (36, 1)][x]?) ([Value.pointer none] ++ (z34 ++ [Value.slice none 0 0, Value.int .i64 0])).toArray [(0, .pointer (some ⟨db, 0, none⟩)), (1, .agg (refC h fi len).toArray)] = some (lnC db h fi len (.slice none 0 0) 0 []) := by
    have hrl := refC_length h fi len hh
    rw [fill_step _ _ 0 _ _ 0 1 rfl rfl (by simp [z34_length])]
    rw [show (putAt ([Value.pointer none] ++ (z34 ++ [Value.slice none 0 0, Value.int .i64 0])).toArray.toList 0 (Value.pointer (some ⟨db, 0, none⟩)).cells.toList) = [Value.pointer (some ⟨db, 0, none⟩)] ++ (z34 ++ [Value.slice none 0 0, Value.int .i64 0]) from
      putAt_mid [] [Value.pointer none] _ [Value.pointer (some ⟨db, 0, none⟩)] 0 rfl rfl]
    rw [fill_step _ _ 1 _ _ 1 34 rfl (by rw [show (Value.agg (refC h fi len).toArray).cells = (refC h fi len).toArray from rfl, List.size_toArray, hrl]) (by simp [z34_length])]
    rw [show (putAt ([Value.pointer (some ⟨db, 0, none⟩)] ++ (z34 ++ [Value.slice none 0 0, Value.int .i64 0])).toArray.toList 1 (Value.agg (refC h fi len).toArray).cells.toList) = lnL db h fi len (.slice none 0 0) 0 [] from by
      have := putAt_mid [Value.pointer (some ⟨db, 0, none⟩)] z34 [Value.slice none 0 0, Value.int .i64 0] (refC h fi len) 1 rfl (by rw [hrl, z34_length])
      refine this.trans ?_
      simp [refC, lnL]]
    rfl
  simp [Instr.build, zeroValue, typeInfo, hi, hz0, run_underlying Tryd.underlying54, sizeOf, hi1, hz11, hi2, hz21, hi3, hz31, hi4, hz41, Value.cells, Result.andThen]
  simp at hf
  rw [hf]
  rfl
def zTl : List Value := [.int .i64 0, .int .i64 0, .slice none 0 0, .bool false, .int .i64 0, .int .i64 0]
theorem info71 : (Tryd.prog.info? 71).map (fun i => (i.zero, i.size, i.bytes)) = some (some (.agg (([Value.pointer none] ++ (z34 ++ [Value.slice none 0 0, Value.int .i64 0])) ++ zTl).toArray), 43, 152) := by kernel_rfl
theorem info4c : (Tryd.prog.info? 4).map (fun i => (i.zero, i.size, i.bytes)) = some (some (.bool false), 1, 1) := by kernel_rfl
theorem info24c : (Tryd.prog.info? 24).map (fun i => (i.zero, i.size, i.bytes)) = some (some (.int .i64 0), 1, 8) := by kernel_rfl
theorem build71 (w : World) (db : Nat) (h : List Int) (hh : h.length = 32) (fi len hp at_ : Int) : (Instr.build 71 #[(0, .agg (lnC db h fi len (.slice none 0 0) 0 [])), (1, .int .i64 hp), (2, .int .i64 at_)]).run Tryd.prog w = .ok (.agg (lnC db h fi len (.slice none 0 0) 0 [.int .i64 hp, .int .i64 at_, .slice none 0 0, .bool false, .int .i64 0, .int .i64 0])) w := by
  obtain ⟨i0, hi, hz0, hz1, hz2⟩ := info_parts info71
  obtain ⟨i1, hi1, _, hz11, _⟩ := info_parts info54
  obtain ⟨i2, hi2, _, hz21, _⟩ := info_parts info3c
  obtain ⟨i3, hi3, _, hz31, _⟩ := info_parts info22
  obtain ⟨i4, hi4, _, hz41, _⟩ := info_parts info4c
  obtain ⟨i5, hi5, _, hz51, _⟩ := info_parts info24c
  have hf : Instr.fill (fun x => [(0, 37), (37, 1), (38, 1), (39, 1), (40, 1), (41, 1), (42, 1)][x]?) (([Value.pointer none] ++ (z34 ++ [Value.slice none 0 0, Value.int .i64 0])) ++ zTl).toArray [(0, .agg (lnC db h fi len (.slice none 0 0) 0 [])), (1, .int .i64 hp), (2, .int .i64 at_)] = some (lnC db h fi len (.slice none 0 0) 0 [.int .i64 hp, .int .i64 at_, .slice none 0 0, .bool false, .int .i64 0, .int .i64 0]) := by
    have hrl := lnL_length db h hh fi len (.slice none 0 0) 0 []
    have hzl : ([Value.pointer none] ++ (z34 ++ [Value.slice none 0 0, Value.int .i64 0])).length = 37 := by simp [z34_length]
    rw [fill_step _ _ 0 _ _ 0 37 rfl (by rw [show (Value.agg (lnC db h fi len (.slice none 0 0) 0 [])).cells = (lnL db h fi len (.slice none 0 0) 0 []).toArray from rfl, List.size_toArray, hrl]; rfl) (by rw [List.size_toArray, List.length_append, hzl]; decide)]
    rw [show (putAt (([Value.pointer none] ++ (z34 ++ [Value.slice none 0 0, Value.int .i64 0])) ++ zTl).toArray.toList 0 (Value.agg (lnC db h fi len (.slice none 0 0) 0 [])).cells.toList) = lnL db h fi len (.slice none 0 0) 0 [] ++ zTl from
      putAt_mid [] ([Value.pointer none] ++ (z34 ++ [Value.slice none 0 0, Value.int .i64 0])) zTl (lnL db h fi len (.slice none 0 0) 0 []) 0 rfl (by rw [hrl, hzl]; rfl)]
    rw [fill_step _ _ 1 _ _ 37 1 rfl rfl (by rw [List.size_toArray, List.length_append, hrl]; simp [zTl])]
    rw [show (putAt (lnL db h fi len (.slice none 0 0) 0 [] ++ zTl).toArray.toList 37 (Value.int .i64 hp).cells.toList) = lnL db h fi len (.slice none 0 0) 0 [] ++ [Value.int .i64 hp, Value.int .i64 0, Value.slice none 0 0, Value.bool false, Value.int .i64 0, Value.int .i64 0] from
      putAt_mid (lnL db h fi len (.slice none 0 0) 0 []) [Value.int .i64 0] [Value.int .i64 0, Value.slice none 0 0, Value.bool false, Value.int .i64 0, Value.int .i64 0] [Value.int .i64 hp] 37 (by rw [hrl]; rfl) rfl]
    rw [fill_step _ _ 2 _ _ 38 1 rfl rfl (by rw [List.size_toArray, List.length_append, hrl]; simp)]
    rw [show (putAt (lnL db h fi len (.slice none 0 0) 0 [] ++ [Value.int .i64 hp, Value.int .i64 0, Value.slice none 0 0, Value.bool false, Value.int .i64 0, Value.int .i64 0]).toArray.toList 38 (Value.int .i64 at_).cells.toList) = lnL db h fi len (.slice none 0 0) 0 [.int .i64 hp, .int .i64 at_, .slice none 0 0, .bool false, .int .i64 0, .int .i64 0] from by
      have := putAt_mid (lnL db h fi len (.slice none 0 0) 0 [] ++ [Value.int .i64 hp]) [Value.int .i64 0] [Value.slice none 0 0, Value.bool false, Value.int .i64 0, Value.int .i64 0] [Value.int .i64 at_] 38 (by rw [List.length_append, hrl]; rfl) rfl
      simp only [List.append_assoc, List.cons_append, List.nil_append] at this
      rw [lnL_app db h fi len (.slice none 0 0) 0 [.int .i64 hp, .int .i64 at_, .slice none 0 0, .bool false, .int .i64 0, .int .i64 0]]
      exact this]
    rfl
  simp [Instr.build, zeroValue, typeInfo, hi, hz0, run_underlying Tryd.underlying71, sizeOf, hi1, hz11, hi2, hz21, hi3, hz31, hi4, hz41, hi5, hz51, Value.cells, Result.andThen]
  simp at hf
  rw [hf]
  rfl
def NewRPost (db : Nat) (h : List Int) (fi : Int) (len : Nat) (hp : Int) (w : World) (e : Ending) (w' : World) : Prop :=
  ∃ b, e = .returned (.tuple #[.pointer (some ⟨b, 0, none⟩), .int .i64 0]) ∧ w.heap.size ≤ b ∧ StrAt w' b (lnC db h fi (len : Int) (.slice none 0 0) 0 [.int .i64 hp, .int .i64 fi, .slice none 0 0, .bool false, .int .i64 0, .int .i64 0]) 71 ∧ Keeps [] w w'
set_option maxHeartbeats 1000000 in
theorem newReader_calls {w : World} {d : DK} (hS : StrAt w d.db (dCells d) 125) (hp : Int) (h1 : 1 ≤ hp) (h2 : hp ≤ (d.last.length : Int)) (h : List Int) (hh : h.length = 32) (fi : Int) (f1 : hp ≤ fi) (f2 : fi < (d.last.length : Int)) (L : Nat) (hL : L ≤ 1048576) :
    Calls Tryd.prog 23 #[.pointer (some ⟨d.db, 0, none⟩), .int .i64 hp, .agg (refC h fi (L : Int)).toArray] w (NewRPost d.db h fi L hp w) := by
  have b1 : decide (hp < 1) = false := by simp; omega
  have b2 : decide ((d.last.length : Int) < hp) = false := by simp; omega
  have b3 : decide ((L : Int) < 0) = false := by simp
  have b4 : decide (1048576 < (L : Int)) = false := by simp; omega
  have b5 : decide (fi < hp) = false := by simp; omega
  have b6 : decide ((d.last.length : Int) ≤ fi) = false := by simp; omega
  have r32 : (refC h fi (L : Int))[32]? = some (.int .i64 fi) := by simp [refC, by8_length, hh]
  have r33 : (refC h fi (L : Int))[33]? = some (.int .i64 (L : Int)) := by simp [refC, by8_length, hh]
  have a32 : (refC h fi (L : Int)).toArray[32]? = some (.int .i64 fi) := by rw [List.getElem?_toArray]; exact r32
  have a33 : (refC h fi (L : Int)).toArray[33]? = some (.int .i64 (L : Int)) := by rw [List.getElem?_toArray]; exact r33
  have HS := Lib.hid (show ∀ W, Keeps [] w W → StrAt W d.db (dCells d) 125 from fun W hk => hS.keeps hk (by simp))
  have HHH := Lib.hid hh
  clear hS hh
  go_enter Tryd.func23, Tryd.ntmps23
  go_wp2_with (go_at_call 63; refine (sectors_calls (d := d) (HS.out _ ((Keeps.refl _ _).alloc _))).mono ?_; rintro e w' ⟨rfl, rfl⟩)
  have HRL := Lib.hid (refC_length h fi (L : Int) HHH.out)
  have HRE : Hid (∃ RC, RC = refC h fi (L : Int)) := Lib.hid ⟨_, rfl⟩
  obtain ⟨RC, hRC⟩ := HRE.out
  rw [← hRC] at r32 r33 a32 a33 HRL ⊢
  clear HRE
  have HRC := Lib.hid hRC
  clear hRC
  have hthere : StrAt (w.alloc (.cells RC.toArray 52)) w.heap.size RC.toArray 52 := StrAt.new _ _ _
  have cfi : (w.alloc (.cells RC.toArray 52)).cell? ⟨w.heap.size, 32, none⟩ = some (.int .i64 fi) := (hthere.cell 32).trans a32
  have HSD := Lib.hid (HS.out _ (((Keeps.refl [] w).alloc (.cells RC.toArray 52)).drew))
  have HTH := Lib.hid hthere
  clear hthere
  go_region_held3 (fun W => W.cell? ⟨w.heap.size, 32, none⟩ = some (.int .i64 fi)) (first | exact cfi | assumption) (first | (go_at_call 63; refine (sectors_calls (d := d) HSD.out).mono ?_; rintro e w' ⟨rfl, rfl⟩) | fail)
  have HLD := Lib.hid (show (w.alloc (.cells RC.toArray 52)).drew.rangeAt w.heap.size 0 RC from (by have := str_range (HTH.out.drewN 1); rwa [List.toList_toArray] at this))
  have B1 := Lib.hid (fun W : World => build54b W d.db h HHH.out fi (L : Int))
  rw [← HRC.out] at B1
  have B2 := Lib.hid (fun W : World => build71 W d.db h HHH.out fi (L : Int) hp fi)
  have HSZ := Lib.hid (show (Tryd.prog.info? 52).map (·.size) = some RC.length by rw [HRL.out]; obtain ⟨i, hi, _, hz, _⟩ := info_parts info52; rw [hi]; simp [hz])
  clear r32 r33 a32 a33 cfi
  go_wp2_with (first | (refine wpList_load_mid rfl 52 (.tmp 5) rfl w.heap.size 0 rfl RC _ HLD.out Tryd.underlying52 rfl HSZ.out ?_) | (refine wp_build rfl 54 _ rfl (.agg (lnC d.db h fi (L : Int) (.slice none 0 0) 0 [])) (by simp only [List.map_toArray, List.map_cons, List.map_nil]; exact B1.out _) ?_) | (refine wp_build rfl 71 _ rfl (.agg (lnC d.db h fi (L : Int) (.slice none 0 0) 0 [.int .i64 hp, .int .i64 fi, .slice none 0 0, .bool false, .int .i64 0, .int .i64 0])) (by simp only [List.map_toArray, List.map_cons, List.map_nil]; exact B2.out _) ?_))
  go_ret2
  refine ⟨w.heap.size + 1, rfl, by omega, ?_, ?_⟩
  · have := (StrAt.new (w.alloc (Obj.cells RC.toArray 52)) (lnC d.db h fi (L : Int) (.slice none 0 0) 0 [.int .i64 hp, .int .i64 fi, .slice none 0 0, .bool false, .int .i64 0, .int .i64 0]) 71)
    rw [show (w.alloc (Obj.cells RC.toArray 52)).heap.size = w.heap.size + 1 from Array.size_push ..] at this
    exact this.drewN 1
  · exact (((Keeps.refl [] w).alloc _).alloc _).drew
end Go.Proofs.YtgcpcgcfpjolnaaDoor.G
-- may; a piece of a row behind another row; what a reader's list becomes.
namespace Go.Proofs.YtgcpcgcfpjolnaaDoor.G
open Go.RowKit Go.Proofs.YtgcpcgcfpjolnaaDoorW.PrintWords Go.Proofs.YtgcpcgcfpjolnaaDoorW.PrintLast Go.Proofs.YtgcpcgcfpjolnaaDoorW.PrintMore
set_option linter.unusedVariables false
set_option linter.unusedSimpArgs false
set_option maxRecDepth 10000
theorem index_none (l : List Int) (a : Int) (ha : a ∉ l) (hl : l.length ≤ 1073741824) : ∀ k i, i ≤ l.length → l.length < i + k → slices_Index_int_int.l0 k l a (l.length : Int) (i : Int) = some (-1)
  | 0, i, h1, h2 => by omega
  | k + 1, i, h1, h2 => by
    unfold slices_Index_int_int.l0
    by_cases h : i < l.length
    · have hne : ¬ (a = rd l (i : Int)) := fun e => ha (by
        rw [e]; unfold rd
        rw [Int.toNat_natCast, List.getD_eq_getElem?_getD, List.getElem?_eq_getElem h]
        exact List.getElem_mem h)
      rw [if_pos (by omega), if_pos (by omega), if_pos (by omega), if_neg hne]
      rw [show wrap64 ((i : Int) + 1) = ((i + 1 : Nat) : Int) from by
        unfold wrap64; omega]
      exact index_none l a ha hl k (i + 1) (by omega) (by omega)
    · rw [if_neg (by omega)]
theorem contains_no {w : World} {A : Option Addr} {c : Nat} {l : List Int} {a : Int} (hC : Kd.C (Kd.int .i64) w A l.length l) (hc : l.length ≤ c) (ha : a ∉ l) (hl : l.length ≤ 1073741824) :
    Calls Tryd.prog 107 #[.slice A l.length c, .int .i64 a] w fun e w' => e = .returned (.bool false) ∧ Keeps [] w w' := by
  refine (slices_Contains_int_int.calls (l.length + 1) A c l a false w hC hc ?_).mono ?_
  · unfold slices_Contains_int_int.f slices_Index_int_int.f
    rw [show (0 : Int) = ((0 : Nat) : Int) from rfl, index_none l a ha hl (l.length + 1) 0 (by omega) (by omega)]
    rfl
  · rintro e w' ⟨rfl, ⟨n, rfl⟩⟩
    exact ⟨rfl, (Keeps.refl _ _).drewN n⟩
/-- the place may be read -/
theorem may_calls {w : World} {d : DK} {b : Nat} {h : List Int} {fi len done : Int} {nv : Value} {x : RI} {T : TypeId} (hs : StrAt w b (lnC d.db h fi len nv done (rTl x)) T) (hh : h.length = 32) (hS : StrAt w d.db (dCells d) 125)
    (ns : List Int) (hn : w.ownsRow 0 3 1 nv ns.length (ints ns)) (hl : ns.length ≤ 65536) (k : Int) (k1 : x.heap ≤ k) (k2 : k < (d.last.length : Int)) (hk : k ∉ ns) :
    Calls Tryd.prog 74 #[.pointer (some ⟨b, 0, none⟩), .int .i64 k] w fun e w' => e = .returned (.bool true) ∧ Keeps [] w w' := by
  have c0 := ln_0 hs
  have c35 := ln_35 hs hh
  have c37 : w.cell? ⟨b, 37, none⟩ = some (.int .i64 x.heap) := ln_tl hs hh 0
  obtain ⟨A, c, hv, hc, hC, _⟩ := own_C (k := .i64) hn
  rw [hv] at c35
  have e1 : decide (x.heap ≤ k) = true := by simp; omega
  have e2 : decide (k < (d.last.length : Int)) = true := by simp; omega
  have HC := Lib.hid (contains_no (a := k) hC hc hk (by omega))
  have HS := Lib.hid (sectors_calls (d := d) hS)
  clear hs hS hn hv hC hk
  go_enter Tryd.func74, Tryd.ntmps74
  go_wp2_with (first | (go_at_call 63; refine HS.out.mono ?_; rintro e w' ⟨rfl, rfl⟩) | (go_at_call 107; refine HC.out.mono ?_; rintro e w' ⟨rfl, k1⟩))
  go_ret
  exact ⟨rfl, k1⟩
/-- append of a piece of a row, in a region that draws -/
theorem step_append_mid {P : Program} {ops : Array Oper} {o : Oper} {a : Act} {Q : Exit → Act → World → Prop} {W : World} {K : Act → World → Prop} {E : Prop} (hgd : o.guard = none) (s x : Operand) (t e : TypeId) (z : Value) (bytes : Nat)
    (ho : o.op = .call { callee := .builtin .append, args := #[s, x], argTypes := #[t, t] })
    (ht : P.underlying t = some (.slice e)) (hinfo : (P.info? e).map (fun i => (i.zero, i.size, i.bytes)) = some (some z, 1, bytes)) (hz : z.cells.size = 1) (hb0 : 0 < bytes)
    (v : Value) (n : Nat) (xs : List Value) (g p m c : Nat) (ys : List Value) (hs : a.eval s = v) (hx : a.eval x = .slice (some ⟨g, p, none⟩) m c) (hys : W.rangeAt g p ys) (hyl : ys.length = m) (h1 : ∀ u ∈ ys, u.oneCell' = true)
    (HO : W.ownsRow 0 e 1 v n xs) (hl : (n + m) * bytes ≤ 140737488355328)
    (h : ∀ v1 w1, w1.ownsRow 0 e 1 v1 (n + m) (xs ++ ys) → Keeps v.ownBlock.toList W w1 → (∀ k, v1.ownBlock = some k → v.ownBlock = some k ∨ W.heap.size ≤ k) → K (a.put o.dst v1) w1) :
    if Region.wanted o (yielded ops a.tmps) = true then Oper.wp P o a W K Q else E := by
  have hw : Region.wanted o (yielded ops a.tmps) = true := by simp [Region.wanted, hgd]
  rw [if_pos hw]
  obtain ⟨i0, hi, hzz⟩ := Option.map_eq_some_iff.1 hinfo
  simp only [Prod.mk.injEq] at hzz
  obtain ⟨hz0, hz1, hz2⟩ := hzz
  have hlen : n + m ≤ 140737488355328 := Nat.le_trans (Nat.le_mul_of_pos_right _ hb0) hl
  obtain ⟨v1, w1, hr, h2, h3, h4, h5⟩ := run_append_own_at (P := P) W 0 t o.type e i0 z 1 bytes ht hi hz0 hz1 hz2 hz (by decide) v n xs HO ⟨g, p, none⟩ m c ys (by omega) (fun j u hj => by
    have e2 : (⟨g, p, none⟩ : Addr).add j = ⟨g, p + j, none⟩ := by unfold Addr.add; split <;> simp_all
    rw [e2]
    exact hys j u hj) h1 (by simp only [maxLen]; omega) hl (Nat.zero_le _)
  unfold Oper.wp execOp
  simp only [ho, resolve, invoke, builtin, Sem.run_bind, Sem.run_pure, Result.andThen_ok, List.map_toArray, List.map_cons, List.map_nil, hs, hx, hr]
  refine h v1 w1 h2 (Keeps.of_grownBy h3) ?_
  intro k hk
  rcases h5 with hat | hat
  · exact .inl (hat ▸ hk)
  · rw [hat] at hk
    cases hk
    exact .inr (Nat.le_refl _)
end Go.Proofs.YtgcpcgcfpjolnaaDoor.G
-- What a reader's Step does to its things.
namespace Go.Proofs.YtgcpcgcfpjolnaaDoor.G
open Go.RowKit Go.Proofs.YtgcpcgcfpjolnaaDoorW.PrintWords Go.Proofs.YtgcpcgcfpjolnaaDoorW.PrintLast Go.Proofs.YtgcpcgcfpjolnaaDoorW.PrintMore
set_option linter.unusedVariables false
set_option linter.unusedSimpArgs false
set_option maxRecDepth 10000
/-- a reader, the sector that it has read, the disk -/
def RM (db : Nat) (x : RI) (pv : Value) (s : List Int) (d : DK) : List Thing := RLs db x ++ (rowT pv 5 1 s.length (by8 s) :: DL d)
def rdUp (d : DK) : DK := { d with rd := d.rd + 1 }
theorem rm_start {w w1 : World} {d : DK} {x : RI} {v : Value} {s : List Int} (h : Has 3 w (DL d ++ RLs d.db x)) (m : Moves (DL d) (DL (rdUp d)) w w1) (hv : w1.ownsRow 0 5 1 v s.length (by8 s)) (hf : Fresh w v) :
    Moves (DL d ++ RLs d.db x) (RM d.db x v s (rdUp d)) w w1 := by
  have m1 := m.wide h
  have hfp : fps (DL (rdUp d) ++ RLs d.db x) = fps (DL d ++ RLs d.db x) := rfl
  have m2 : Moves (DL d ++ RLs d.db x) ([rowT v 5 1 s.length (by8 s)] ++ (DL (rdUp d) ++ RLs d.db x)) w w1 := m1.add (rowH hv (fun k hk => Nat.le_trans h.le (hf k hk)) (Nat.le_trans h.le m1.keeps.size)) (fun k hk => by
    have hk1 : v.ownBlock = some k := by simpa [fps, rowT] using hk
    have hk2 := hf k hk1
    exact ⟨hk2, fun hm => by rw [hfp] at hm; have := h.lt k hm; omega⟩)
  refine m2.perm (List.Perm.refl _) ?_
  unfold RM
  rw [← List.append_assoc]
  exact (List.perm_append_comm : (([rowT v 5 1 s.length (by8 s)] ++ DL (rdUp d)) ++ RLs d.db x).Perm (RLs d.db x ++ ([rowT v 5 1 s.length (by8 s)] ++ DL (rdUp d))))
theorem rm_end {w W : World} {M : List Thing} {db : Nat} {x : RI} {pv : Value} {s : List Int} {d : DK} (m : Moves M (RM db x pv s d) w W) : Moves M (DL d ++ RLs db x) w W := by
  have p : (RM db x pv s d).Perm ([rowT pv 5 1 s.length (by8 s)] ++ (DL d ++ RLs db x)) := by
    unfold RM
    rw [← List.append_assoc]
    exact (List.perm_append_comm : (RLs db x ++ ([rowT pv 5 1 s.length (by8 s)] ++ DL d)).Perm (([rowT pv 5 1 s.length (by8 s)] ++ DL d) ++ RLs db x))
  exact (m.perm (List.Perm.refl _) p).drop
section
variable {w W : World} {M : List Thing} {db rb : Nat} {h : List Int} {fi : Int} {len : Nat} {nv : Value} {ns : List Int} {done : Nat} {heap at_ : Int} {bv : Value} {bs : List Int} {over : Bool} {err broken : Int} {pv : Value} {s : List Int} {d : DK}
theorem rm_below (m : Moves M (RM db ⟨rb, h, fi, len, nv, ns, done, heap, at_, bv, bs, over, err, broken⟩ pv s d) w W) {W2 : World} (k : Keeps [] W W2) : Moves M (RM db ⟨rb, h, fi, len, nv, ns, done, heap, at_, bv, bs, over, err, broken⟩ pv s d) w W2 := m.trans (Moves.of_below m.has k)
theorem rm_str (m : Moves M (RM db ⟨rb, h, fi, len, nv, ns, done, heap, at_, bv, bs, over, err, broken⟩ pv s d) w W) : StrAt W rb (lnC db h fi (len : Int) nv (done : Int) [.int .i64 heap, .int .i64 at_, bv, .bool over, .int .i64 err, .int .i64 broken]) 71 := m.has.get 0 rfl
theorem rm_ns (m : Moves M (RM db ⟨rb, h, fi, len, nv, ns, done, heap, at_, bv, bs, over, err, broken⟩ pv s d) w W) : W.ownsRow 0 3 1 nv ns.length (ints ns) := m.has.get 1 rfl
theorem rm_bs (m : Moves M (RM db ⟨rb, h, fi, len, nv, ns, done, heap, at_, bv, bs, over, err, broken⟩ pv s d) w W) : W.ownsRow 0 5 1 bv bs.length (by8 bs) := m.has.get 2 rfl
theorem rm_pc (m : Moves M (RM db ⟨rb, h, fi, len, nv, ns, done, heap, at_, bv, bs, over, err, broken⟩ pv s d) w W) : W.ownsRow 0 5 1 pv s.length (by8 s) := m.has.get 3 rfl
theorem rm_dk (m : Moves M (RM db ⟨rb, h, fi, len, nv, ns, done, heap, at_, bv, bs, over, err, broken⟩ pv s d) w W) : StrAt W d.db (dCells d) 125 := m.has.get 4 rfl
theorem rm_rb_ns (m : Moves M (RM db ⟨rb, h, fi, len, nv, ns, done, heap, at_, bv, bs, over, err, broken⟩ pv s d) w W) : rb ∉ nv.ownBlock.toList := m.has.ne 0 1 rfl rfl (by decide) rb (by simp [strT])
theorem rm_rb_bs (m : Moves M (RM db ⟨rb, h, fi, len, nv, ns, done, heap, at_, bv, bs, over, err, broken⟩ pv s d) w W) : rb ∉ bv.ownBlock.toList := m.has.ne 0 2 rfl rfl (by decide) rb (by simp [strT])
theorem rm_set (m : Moves M (RM db ⟨rb, h, fi, len, nv, ns, done, heap, at_, bv, bs, over, err, broken⟩ pv s d) w W) (W2 : World) (hk : Keeps [rb] W W2) (done' : Nat) (at' : Int) (over' : Bool)
    (hs : StrAt W2 rb (lnC db h fi (len : Int) nv (done' : Int) [.int .i64 heap, .int .i64 at', bv, .bool over', .int .i64 err, .int .i64 broken]) 71) : Moves M (RM db ⟨rb, h, fi, len, nv, ns, done', heap, at', bv, bs, over', err, broken⟩ pv s d) w W2 :=
  m.trans (Moves.at m.has 0 (strT rb (lnC db h fi (len : Int) nv (done' : Int) [.int .i64 heap, .int .i64 at', bv, .bool over', .int .i64 err, .int .i64 broken]) 71) rfl hk hs (strT_nodup ..) (fun k hk => .inl hk))
theorem rm_done (hh : h.length = 32) (m : Moves M (RM db ⟨rb, h, fi, len, nv, ns, done, heap, at_, bv, bs, over, err, broken⟩ pv s d) w W) (done' : Nat) : Moves M (RM db ⟨rb, h, fi, len, nv, ns, done', heap, at_, bv, bs, over, err, broken⟩ pv s d) w (W.setCell ⟨rb, 36, none⟩ (.int .i64 (done' : Int))) :=
  rm_set m _ ((Keeps.refl _ _).setCell (by simp) _) done' at_ over (ln_set36 (rm_str m) hh _)
theorem rm_at (hh : h.length = 32) (m : Moves M (RM db ⟨rb, h, fi, len, nv, ns, done, heap, at_, bv, bs, over, err, broken⟩ pv s d) w W) (at' : Int) : Moves M (RM db ⟨rb, h, fi, len, nv, ns, done, heap, at', bv, bs, over, err, broken⟩ pv s d) w (W.setCell ⟨rb, 38, none⟩ (.int .i64 at')) :=
  rm_set m _ ((Keeps.refl _ _).setCell (by simp) _) done at' over (ln_settl (rm_str m) hh 1 _)
theorem rm_over (hh : h.length = 32) (m : Moves M (RM db ⟨rb, h, fi, len, nv, ns, done, heap, at_, bv, bs, over, err, broken⟩ pv s d) w W) (b' : Bool) : Moves M (RM db ⟨rb, h, fi, len, nv, ns, done, heap, at_, bv, bs, b', err, broken⟩ pv s d) w (W.setCell ⟨rb, 40, none⟩ (.bool b')) :=
  rm_set m _ ((Keeps.refl _ _).setCell (by simp) _) done at_ b' (ln_settl (rm_str m) hh 3 _)
theorem rm_push (hh : h.length = 32) (m : Moves M (RM db ⟨rb, h, fi, len, nv, ns, done, heap, at_, bv, bs, over, err, broken⟩ pv s d) w W) (v1 : Value) (ns' : List Int) {W2 : World} (ho : W2.ownsRow 0 3 1 v1 ns'.length (ints ns')) (hk : Keeps nv.ownBlock.toList W W2) (hf : ∀ k, v1.ownBlock = some k → nv.ownBlock = some k ∨ W.heap.size ≤ k) :
    Moves M (RM db ⟨rb, h, fi, len, v1, ns', done, heap, at_, bv, bs, over, err, broken⟩ pv s d) w (W2.setCell ⟨rb, 35, none⟩ v1) := by
  have m1 := m.trans (Moves.row m.has 1 (v := nv) (v1 := v1) rfl ho hk hf)
  have hs : StrAt W2 rb (lnC db h fi (len : Int) nv (done : Int) [.int .i64 heap, .int .i64 at_, bv, .bool over, .int .i64 err, .int .i64 broken]) 71 := m1.has.get 0 rfl
  exact m1.trans (Moves.at m1.has 0 (strT rb (lnC db h fi (len : Int) v1 (done : Int) [.int .i64 heap, .int .i64 at_, bv, .bool over, .int .i64 err, .int .i64 broken]) 71) rfl ((Keeps.refl _ _).setCell (by simp [strT]) _) (ln_set35 hs hh v1) (strT_nodup ..) (fun k hk => .inl hk))
theorem rm_grow (hh : h.length = 32) (m : Moves M (RM db ⟨rb, h, fi, len, nv, ns, done, heap, at_, bv, bs, over, err, broken⟩ pv s d) w W) (v1 : Value) (bs' : List Int) {W2 : World} (ho : W2.ownsRow 0 5 1 v1 bs'.length (by8 bs')) (hk : Keeps bv.ownBlock.toList W W2) (hf : ∀ k, v1.ownBlock = some k → bv.ownBlock = some k ∨ W.heap.size ≤ k) :
    Moves M (RM db ⟨rb, h, fi, len, nv, ns, done, heap, at_, v1, bs', over, err, broken⟩ pv s d) w (W2.setCell ⟨rb, 39, none⟩ v1) := by
  have m1 := m.trans (Moves.row m.has 2 (v := bv) (v1 := v1) rfl ho hk hf)
  have hs : StrAt W2 rb (lnC db h fi (len : Int) nv (done : Int) [.int .i64 heap, .int .i64 at_, bv, .bool over, .int .i64 err, .int .i64 broken]) 71 := m1.has.get 0 rfl
  exact m1.trans (Moves.at m1.has 0 (strT rb (lnC db h fi (len : Int) nv (done : Int) [.int .i64 heap, .int .i64 at_, v1, .bool over, .int .i64 err, .int .i64 broken]) 71) rfl ((Keeps.refl _ _).setCell (by simp [strT]) _) (ln_settl hs hh 2 v1) (strT_nodup ..) (fun k hk => .inl hk))
end
/-- a guarded load of a whole array or struct -/
theorem wpList_load_mid_g {P : Program} {ops : Array Oper} {rest : List Oper} {op : Oper} {a : Act} {w : World} {Q : Exit → Act → World → Prop} (hw : Region.wanted op (yielded ops a.tmps) = true) (ty : TypeId) (x : Operand) (ho : op.op = .load ty x)
    (b o : Nat) (hx : a.eval x = .pointer (some ⟨b, o, none⟩)) (cs : List Value) (d : TypeDesc) (hc : w.rangeAt b o cs)
    (hu : P.underlying ty = some d) (hd : d.isRow = true) (hi : (P.info? ty).map (·.size) = some cs.length)
    (h : wpList P ops Q rest (a.put op.dst (.agg cs.toArray)) w) : wpList P ops Q (op :: rest) a w :=
  wpList_step fun _ hK => by rw [if_pos hw]; exact wp_load_mid ty x ho b o hx cs d hc hu hd hi (hK _ _ h)
/-- behind a reader's Step -/
def RStepPost (d : DK) (x : RI) (next : Int) (pc : List Int) (w : World) (e : Ending) (w' : World) : Prop :=
  (e = .returned (.tuple #[.bool (!decide (x.done + 1 < nSec x.len)), .int .i64 0]) ∧ ∃ nv bv,
    Moves (DL d ++ RLs d.db x) (DL (rdUp d) ++ RLs d.db ⟨x.rb, x.h, x.fi, x.len, nv, x.ns ++ [x.at_], x.done + 1, x.heap, if x.done + 1 < nSec x.len then next else x.at_, bv, x.bs ++ pc, !decide (x.done + 1 < nSec x.len), x.err, x.broken⟩) w w')
theorem ints_snoc (ns : List Int) (k : Int) : ints (ns ++ [k]) = ints ns ++ [Value.int .i64 k] := by simp [ints]
end Go.Proofs.YtgcpcgcfpjolnaaDoor.G
-- (*chain.Reader).Step of a sector that is formed.
namespace Go.Proofs.YtgcpcgcfpjolnaaDoor.G
open Go.RowKit Go.Proofs.YtgcpcgcfpjolnaaDoorW.PrintWords Go.Proofs.YtgcpcgcfpjolnaaDoorW.PrintLast Go.Proofs.YtgcpcgcfpjolnaaDoorW.PrintMore
set_option linter.unusedVariables false
set_option linter.unusedSimpArgs false
set_option maxRecDepth 10000
set_option maxHeartbeats 4000000 in
theorem rstep_calls {w : World} {d : DK} {x : RI} (hHas : Has 3 w (DL d ++ RLs d.db x)) (ok : DOk d) (hh : x.h.length = 32) (hL : x.len ≤ 1048576) (hov : x.over = false) (hnl : x.ns.length ≤ 65000) (hbl : x.bs.length ≤ 1048576) (hrd : d.rd < 1099511627776)
    (a0 : 0 ≤ x.at_) (a1 : x.at_ < (d.last.length : Int)) (next : Int) (n0 : 0 ≤ next) (n1 : next < 4294967296) (pc : List Int) (hc : d.cur x.at_ = secB x.h (x.done : Int) next pc) (hpl : pc.length = min 480 (x.len - 480 * x.done)) (hj : 480 * x.done ≤ x.len)
    (hH : HalfW w) (hT : ShaW w) (hw1 : 1 < w.heap.size)
    (hmid : x.done + 1 < nSec x.len → x.heap ≤ next ∧ next < (d.last.length : Int) ∧ next ∉ x.ns ++ [x.at_]) (hend : ¬ (x.done + 1 < nSec x.len) → next = 0 ∧ shaF (x.bs ++ pc) = x.h) :
    Calls Tryd.prog 26 #[.pointer (some ⟨x.rb, 0, none⟩)] w (RStepPost d x next pc w) := by
  obtain ⟨rb, h, fi, len, nv, ns, done, heap, at_, bv, bs, over, err, broken⟩ := x
  simp only at hh hL hov hnl hbl a0 a1 hc hpl hj hmid hend ⊢
  subst hov
  have hs : StrAt w rb (lnC d.db h fi (len : Int) nv (done : Int) [.int .i64 heap, .int .i64 at_, bv, .bool false, .int .i64 err, .int .i64 broken]) 71 := hHas.right.get 0 rfl
  have c0 := ln_0 hs
  have c38 : w.cell? ⟨rb, 38, none⟩ = some (.int .i64 at_) := ln_tl hs hh 1
  have c40 : w.cell? ⟨rb, 40, none⟩ = some (.bool false) := ln_tl hs hh 3
  have hnS := nSec_le len hL
  have hd0 : done ≤ 2185 := by omega
  have hsl := secB_length h (done : Int) next pc (by omega) (by omega)
  have HREAD := Lib.hid (show Calls Tryd.prog 40 #[.pointer (some ⟨d.db, 0, none⟩), .int .i64 at_] w fun e w' => ∃ g c, e = .returned (.tuple #[.slice (some ⟨g, 0, none⟩) 512 c, .int .i64 0]) ∧ 512 ≤ c ∧ w'.ownsRow 0 5 1 (.slice (some ⟨g, 0, none⟩) 512 c) (secB h (done : Int) next pc).length (by8 (secB h (done : Int) next pc)) ∧ Fresh w (.slice (some ⟨g, 0, none⟩) 512 c) ∧ Moves (DL d) (DL (rdUp d)) w w' from by
    have := read_calls hHas.left ok at_ a0 a1 hrd
    unfold ReadPost at this
    rw [hc] at this
    refine this.mono ?_
    rintro e w' ⟨v, rfl, p1, p2, p3⟩
    obtain ⟨g, c, hv, hr⟩ := own_some p1 (by omega)
    rw [hsl] at hv
    subst hv
    exact ⟨g, c, rfl, by have := hr.capLe.1; omega, p1, p2, p3⟩)
  have HHAS := Lib.hid hHas
  have HN := Lib.hid hnS
  have HMID := Lib.hid hmid
  have HEND := Lib.hid hend
  have HSL := Lib.hid hsl
  have HHH := Lib.hid hh
  have HPL := Lib.hid hpl
  have HJ := Lib.hid hj
  have HHF := Lib.hid hH
  have HTT := Lib.hid hT
  have HNL := Lib.hid hnl
  have HBL := Lib.hid hbl
  have HOK := Lib.hid ok
  have HN01 := Lib.hid (And.intro n0 n1)
  obtain ⟨D1, hD1⟩ : ∃ D1, D1 = done + 1 := ⟨_, rfl⟩
  have eD1 : (done : Int) + 1 = (D1 : Int) := by omega
  have wD1 : IntKind.i64.wrap (D1 : Int) = (D1 : Int) := IntWalk.i64_in _ (by omega)
  have HD1 := Lib.hid hD1
  have hu52 := Tryd.underlying52
  have HRC := Lib.hid (refC_length h fi (len : Int) hh)
  have HS52 := Lib.hid (show (Tryd.prog.info? 52).map (·.size) = some (refC h fi (len : Int)).length by rw [refC_length h fi (len : Int) hh]; exact size52)
  clear hD1
  have HFORM := Lib.hid (show ∀ W g c, 512 ≤ c → RowAt W g 5 1 512 c (by8 (secB h (done : Int) next pc)) → HalfW W → Calls Tryd.prog 71 #[.slice (some ⟨g, 0, none⟩) 512 c, .agg (refC h fi (len : Int)).toArray, .int .i64 (done : Int)] W fun e w' => e = .returned (.bool true) ∧ Keeps [] W w' from fun W g c hc9 hr hH => formed_yes (row_range8 hr) hh hL hj hpl rfl hc9 hr.lt hH)
  have HNUM := Lib.hid (show ∀ W g c, RowAt W g 5 1 512 c (by8 (secB h (done : Int) next pc)) → Calls Tryd.prog 73 #[.slice (some ⟨g, 0, none⟩) 512 c, .int .i64 4] W fun e w' => e = .returned (.int .i64 next) ∧ w' = W from fun W g c hr => by
    obtain ⟨_, _, _, _, _, _, _, _, ⟨t0, p0⟩⟩ := sec_parts h (done : Int) next pc (by omega) (by omega)
    have := number4 (c := c) (row_range8 hr) hsl (by decide) (by decide) (fun j hj => by rw [p0, getD_app (by rw [le_length]; exact hj)]; exact le_range 4 _ j hj)
    rw [next_sec h _ next pc n0 n1] at this
    exact this)
  have HPC := Lib.hid (show ∀ W g c, RowAt W g 5 1 512 c (by8 (secB h (done : Int) next pc)) → W.rangeAt g 28 (by8 pc) from fun W g c hr => by
    obtain ⟨_, _, _, _, _, ⟨t28, p28⟩, _, _, _⟩ := sec_parts h (done : Int) next pc (by omega) (by omega)
    have h1 := range_drop (row_range8 hr) 28
    rw [Nat.zero_add, p28] at h1
    exact range_app h1)
  obtain ⟨m, hm⟩ : ∃ m, m = pc.length := ⟨_, rfl⟩
  have HM := Lib.hid hm
  have HSZ := Lib.hid (show ∀ W, Calls Tryd.prog 68 #[.int .i64 (len : Int), .int .i64 (done : Int)] W fun e w' => e = .returned (.int .i64 (m : Int)) ∧ w' = W from fun W => by
    rw [hm, hpl]; exact size68 len done hL hj W)
  have hm480 : m ≤ 480 := by omega
  clear hm
  obtain ⟨E, hE⟩ : ∃ E, E = 28 + m := ⟨_, rfl⟩
  have eE : (28 : Int) + (m : Int) = (E : Int) := by omega
  have wE : IntKind.i64.wrap (E : Int) = (E : Int) := IntWalk.i64_in _ (by omega)
  have eEF : E - 28 = m := by omega
  have hE1 : 28 ≤ E := by omega
  have hE2 : E ≤ 512 := by omega
  have HEE := Lib.hid hE
  clear hE
  have HK := Lib.hid (show ∀ W, Keeps (fps (DL d ++ RLs d.db ⟨rb, h, fi, len, nv, ns, done, heap, at_, bv, bs, false, err, broken⟩)) w W → HalfW W ∧ ShaW W ∧ 1 < W.heap.size from fun W hk => ⟨hH.keeps hk (fun hm9 => by have := hHas.ge 0 hm9; omega), hT.keeps hk (fun hm9 => by have := hHas.ge 1 hm9; omega), by have := hk.size; omega⟩)
  clear hs hnS hmid hend hsl hh hpl hj hH hT hc hHas hnl hbl ok n0 n1
  go_enter Tryd.func26, Tryd.ntmps26
  go_wp2_with (first | (go_at_call 40; refine HREAD.out.mono ?_; rintro e w1 ⟨g, c, rfl, hc512, hp1, hp2, hp3⟩; have M1 := rm_start HHAS.out hp3 hp1 hp2; have c35 := ln_35 (rm_str M1) HHH.out; have M1H := Lib.hid M1; clear M1 hp1 hp2 hp3) | (refine wp_push rfl _ _ 47 3 (.int .i64 0) 1 8 rfl Tryd.underlying47 info3c rfl (by omega) (by omega) nv ns.length (ints ns) #[.int .i64 at_] rfl rfl rfl rfl (by simp [Value.oneCell']) (rm_ns M1H.out) (by have := HNL.out; omega) ?_; intro v1 W2 hown2 hk2 hf2; obtain ⟨g1, c1, rfl, _⟩ := own_some hown2 (by omega); have M2H := Lib.hid (rm_push HHH.out M1H.out _ (ns ++ [at_]) (by rw [ints_snoc, List.length_append]; exact hown2) hk2 hf2); have S2 := (rm_str M1H.out).keeps hk2 (rm_rb_ns M1H.out); have c35b := ln_35 S2 HHH.out; have f35b := S2.frozen 35; have c36b := ln_36 S2 HHH.out; have f36b := S2.frozen 36; clear S2 hown2 hk2 hf2) | (refine wpList_load_mid_g (by rfl) 52 (.tmp 64) rfl rb 1 rfl (refC h fi (len : Int)) _ (ln_ref (rm_str (rm_done HHH.out M2H.out D1))) hu52 rfl HS52.out ?_; have M3H := Lib.hid (rm_done HHH.out M2H.out D1); have R3 := Lib.hid (show RowAt _ g 5 1 512 c (by8 (secB h (done : Int) next pc)) from by have r9 := rm_pc M3H.out; rw [HSL.out] at r9; exact r9)) | (go_at_call 71; refine (HFORM.out _ g c hc512 R3.out (HK.out _ M3H.out.keeps).1).mono ?_; rintro e w4 ⟨rfl, k4⟩; have M4H := Lib.hid (rm_below M3H.out k4); have R4 := Lib.hid (RowAt.keeps R3.out k4 (by simp)); clear R3 k4) | (go_at_call 73; refine (HNUM.out _ g c R4.out).mono ?_; rintro e w5 ⟨rfl, rfl⟩))
  have S4 := rm_str M4H.out
  have c39 : w5.cell? ⟨rb, 39, none⟩ = some bv := ln_tl S4 HHH.out 2
  have c34 := ln_34 S4 HHH.out
  have c36 := ln_36 S4 HHH.out
  have S4H := Lib.hid S4
  clear S4 c35b f35b c36b f36b
  have M5H := Lib.hid (rm_below M4H.out ((Keeps.refl [] w5).drew))
  have R5 := Lib.hid (RowAt.keeps R4.out ((Keeps.refl [] w5).drew) (by simp))
  have S5H : Hid (StrAt w5.drew rb _ 71) := Lib.hid (rm_str M5H.out)
  have hif : (if c = 28 then (some ⟨g, 0, none⟩ : Option Addr) else some ⟨g, 28, none⟩) = some ⟨g, 28, none⟩ := if_neg (by omega)
  have hEc : E ≤ c := by omega
  have hE1i : (28 : Int) ≤ (E : Int) := by omega
  trace "R11"
  go_cut [] (fun W7 => ∃ A6 c6, Hid (Moves (DL d ++ RLs d.db ⟨rb, h, fi, len, nv, ns, done, heap, at_, bv, bs, false, err, broken⟩) (RM d.db ⟨rb, h, fi, len, .slice (some ⟨g1, 0, none⟩) (ns.length + 1) c1, ns ++ [at_], D1, heap, at_, .slice A6 (bs.length + m) c6, bs ++ pc, false, err, broken⟩ (.slice (some ⟨g, 0, none⟩) 512 c) (secB h (done : Int) next pc) (rdUp d)) w W7))
  case first =>
    go_region_law (first | (go_simp; go_at_call 68; refine (HSZ.out _).mono ?_; rintro e w' ⟨rfl, rfl⟩) | (refine step_append_mid rfl _ _ 22 5 (.int .u8 0) 1 rfl Tryd.underlying22 info5c rfl (by omega) bv bs.length (by8 bs) g 28 m (c - 28) (by8 pc) rfl rfl (HPC.out _ g c R5.out) (by rw [by8_length]; exact HM.out.symm) (fun u hu => by simp [by8] at hu; obtain ⟨_, _, rfl⟩ := hu; rfl) (rm_bs M5H.out) (by have := HBL.out; omega) ?_; intro v1 w6 hown6 hk6 hf6; obtain ⟨A6, c6, rfl, hc6, hC6, hor6⟩ := own_C (k := .u8) (xs := bs ++ pc) (by rw [← by8, by8_append]; exact hown6); have M6H := Lib.hid (rm_grow HHH.out M5H.out _ (bs ++ pc) (by rw [by8_append, List.length_append, ← HM.out]; exact hown6) hk6 hf6); have S6 := S5H.out.keeps hk6 (rm_rb_bs M5H.out); have c39b : w6.cell? ⟨rb, 39, none⟩ = some bv := ln_tl S6 HHH.out 2; have f39b := S6.frozen 39; have c34b := ln_34 S6 HHH.out; have c36b := ln_36 S6 HHH.out; have HC6 := Lib.hid (And.intro hc6 hor6); clear S6 hown6 hk6 hf6 hC6 hor6 hc6))
    all_goals (go_wp2_with fail; go_meet; exact ⟨_, _, M6H⟩)
  case rest =>
    obtain ⟨A6, c6, M6H⟩ := hcut
    generalize wc = W7 at M6H ⊢
    clear c39 c34 c36 S4H S5H R4 R5 M5H M4H M3H M2H M1H
    have c34 := ln_34 (rm_str M6H.out) HHH.out
    have c36 := ln_36 (rm_str M6H.out) HHH.out
    obtain ⟨KS, hKS⟩ : ∃ KS, KS = nSec len := ⟨_, rfl⟩
    have HKS := Lib.hid hKS
    have HS33 := Lib.hid (show ∀ W, Calls Tryd.prog 33 #[.int .i64 (len : Int)] W fun e w' => e = .returned (.int .i64 (KS : Int)) ∧ w' = W from fun W => by rw [hKS]; exact sectors33 len hL W)
    clear hKS
    go_wp2
    trace "R12"
    go_region_held3 (fun W => W.cell? ⟨rb, 36, none⟩ = some (.int .i64 (D1 : Int)) ∧ W.cell? ⟨rb, 34, none⟩ = some (.int .i64 (len : Int))) (first | exact ⟨c36, c34⟩ | assumption) (first | (go_at_call 33; refine (HS33.out _).mono ?_; rintro e w' ⟨rfl, rfl⟩) | fail)
    have M8H := Lib.hid (rm_below M6H.out ((Keeps.refl [] W7).drew))
    by_cases hlt : D1 < KS
    · have hlti : ((D1 : Int) < (KS : Int)) := by omega
      have hmid := HMID.out (by have := HD1.out; have := HKS.out; omega)
      have HMAY := Lib.hid (may_calls (d := rdUp d) (x := ⟨rb, h, fi, len, .slice (some ⟨g1, 0, none⟩) (ns.length + 1) c1, ns ++ [at_], D1, heap, at_, .slice A6 (bs.length + m) c6, bs ++ pc, false, err, broken⟩) (rm_str M8H.out) HHH.out (rm_dk M8H.out) (ns ++ [at_]) (rm_ns M8H.out) (by have := HNL.out; simp; omega) next hmid.1 hmid.2.1 hmid.2.2)
      clear hmid
      go_wp2_with (go_at_call 74; refine HMAY.out.mono ?_; rintro e w9 ⟨rfl, k9⟩; have M9H := Lib.hid (rm_below M8H.out k9); have S9 := rm_str M9H.out; have c38b : w9.cell? ⟨rb, 38, none⟩ = some (.int .i64 at_) := ln_tl S9 HHH.out 1; have f38b := S9.frozen 38; clear S9)
      go_ret2
      have e9 : D1 = done + 1 := HD1.out
      have hlt9 : done + 1 < nSec len := by have := HKS.out; omega
      refine ⟨?_, .slice (some ⟨g1, 0, none⟩) (ns.length + 1) c1, .slice A6 (bs.length + m) c6, ?_⟩
      · simp only [decide_eq_true hlt9]
        rfl
      · simp only [decide_eq_true hlt9, if_pos hlt9]
        rw [← e9]
        exact rm_end (rm_at HHH.out M9H.out next)
    · have hlti : ((D1 : Int) < (KS : Int)) = False := eq_false (by omega)
      obtain ⟨hn0, hsha⟩ := HEND.out (by have := HD1.out; have := HKS.out; omega)
      subst hn0
      have hbs := rm_bs M8H.out
      obtain ⟨A7, c7, hv7, hc7, _, hor7⟩ := own_C (k := .u8) hbs
      have hl7 : (bs ++ pc).length = bs.length + m := by rw [List.length_append, ← HM.out]
      rw [hl7] at hv7 hc7 hor7
      have hA7 : A6 = A7 ∧ c6 = c7 := by cases hv7; exact ⟨rfl, rfl⟩
      obtain ⟨rfl, rfl⟩ := hA7
      have HSUM := Lib.hid (show ∀ W2 p cap, Keeps [] W7.drew W2 → W2.cell? ⟨p, 0, none⟩ = some (.slice A6 (bs.length + m) c6) → Calls Tryd.prog 52 #[.slice (some ⟨p, 0, none⟩) 1 cap] W2 fun e w' => e = .returned (.agg (by8 h).toArray) ∧ Keeps [] W2 w' from fun W2 p cap hk hp => by
        have hK9 := HK.out _ ((rm_below M8H.out hk).keeps)
        have := sum_hash p cap A6 c6 (bs.length + m) (bs ++ pc) hp (by
          rcases hor7 with ⟨h1, h2, h3⟩ | ⟨g7, h1, h2⟩
          · exact .inl ⟨h1, h3, h2⟩
          · have h3 := RowAt.keeps h2 hk (by simp)
            exact .inr ⟨g7, 0, h1, row_range8 h3, hl7, h3.lt⟩) hc7 (by have := HBL.out; omega) hK9.2.1 hK9.2.2
        rw [hsha] at this
        exact this)
      have c39 : W7.drew.cell? ⟨rb, 39, none⟩ = some (.slice A6 (bs.length + m) c6) := ln_tl (rm_str M8H.out) HHH.out 2
      have hr := ln_hash (rm_str M8H.out)
      have HS19 := Lib.hid (show ∀ W, Keeps [] W7.drew W → W.cell? ⟨rb, 39, none⟩ = some (.slice A6 (bs.length + m) c6) ∧ W.rangeAt rb 1 (by8 h) from fun W hk => ⟨hk.cell c39 (by simp), range_keeps hr hk (by simp)⟩)
      have hu50 := Tryd.underlying50
      have hs50 : (Tryd.prog.info? 50).map (·.size) = some (by8 h).length := by rw [size50, by8_length, HHH.out]
      have hEq : ∀ W : World, (Op.equalIn 10000 50 (.agg (by8 h).toArray) (.agg (by8 h).toArray)).run Tryd.prog W = .ok true W := fun W => eq_bytes W 9998 50 5 32 h Tryd.underlying50 Tryd.underlying5 info5s HHH.out
      have HSH := Lib.hid hsha
      clear hbs hv7 hc7 hor7 hl7 hr c34 c36 hsha
      go_wp2
      trace "R19"
      go_region_held3 (fun W => W.cell? ⟨rb, 39, none⟩ = some (.slice A6 (bs.length + m) c6) ∧ W.rangeAt rb 1 (by8 h)) (first | assumption | exact HS19.out _ (by first | exact (Keeps.refl [] _).drew | exact ((Keeps.refl [] _).drew).drew) | exact HS19.out _ k9 | exact HS19.out _ (((Keeps.refl [] _)).alloc _) | exact HS19.out _ ((((Keeps.refl [] _).drew)).alloc _)) (first | (go_at_call 52; refine (HSUM.out _ _ _ (by first | exact ((Keeps.refl [] _)).alloc _ | exact (((Keeps.refl [] _).drew)).alloc _) (by simp)).mono ?_; rintro e w9 ⟨rfl, k9'⟩; have k9 := (show Keeps [] W7.drew w9 from by first | exact (((Keeps.refl [] W7.drew)).alloc _).trans' k9' | exact ((((Keeps.refl [] W7.drew).drew)).alloc _).trans' k9')) | fail)
      have M9H := Lib.hid (rm_below M8H.out k9)
      have c40 : w9.cell? ⟨rb, 40, none⟩ = some (.bool false) := ln_tl (rm_str M9H.out) HHH.out 3
      have f40 := (rm_str M9H.out).frozen 40
      clear k9 k9' c39
      go_wp2
      go_ret2
      have e9 : D1 = done + 1 := HD1.out
      have hlt9 : ¬ (done + 1 < nSec len) := by have := HKS.out; omega
      refine ⟨?_, .slice (some ⟨g1, 0, none⟩) (ns.length + 1) c1, .slice A6 (bs.length + m) c6, ?_⟩
      · simp only [decide_eq_false hlt9]
        rfl
      · simp only [decide_eq_false hlt9, if_neg hlt9]
        rw [← e9]
        exact rm_end (rm_over HHH.out M9H.out true)
end Go.Proofs.YtgcpcgcfpjolnaaDoor.G
-- A reader at a place; Get.
namespace Go.Proofs.YtgcpcgcfpjolnaaDoor.G
open Go.RowKit Go.Proofs.YtgcpcgcfpjolnaaDoorW.PrintWords Go.Proofs.YtgcpcgcfpjolnaaDoorW.PrintLast Go.Proofs.YtgcpcgcfpjolnaaDoorW.PrintMore
set_option linter.unusedVariables false
set_option linter.unusedSimpArgs false
set_option maxRecDepth 10000
/-- the sectors of a byte string -/
structure Nm (d : DK) (heap : Int) (N bs : List Int) : Prop where
  len : N.length = nSec bs.length
  le : bs.length ≤ 1048576
  nd : N.Nodup
  hp : 1 ≤ heap
  lo : ∀ n ∈ N, heap ≤ n
  hi : ∀ n ∈ N, n < (d.last.length : Int)
theorem nSec_up (L : Nat) : L ≤ 480 * nSec L ∧ 480 * (nSec L - 1) ≤ L ∧ 1 ≤ nSec L := by unfold nSec; omega
theorem pieceB_length (bs : List Int) (j : Nat) : (pieceB bs j).length = min 480 (bs.length - 480 * j) := by simp [pieceB]
theorem piece_join (bs : List Int) (j : Nat) : bs.take (480 * j) ++ pieceB bs j = bs.take (480 * (j + 1)) := by
  unfold pieceB
  rw [show 480 * (j + 1) = 480 * j + 480 by omega, List.take_add]
theorem getD_mem {N : List Int} {j : Nat} (h : j < N.length) : N.getD j 0 ∈ N := by
  rw [List.getD_eq_getElem?_getD, List.getElem?_eq_getElem h]; exact List.getElem_mem h
theorem take_snoc (N : List Int) (j : Nat) (h : j < N.length) : N.take j ++ [N.getD j 0] = N.take (j + 1) := by
  rw [List.take_add_one, List.getElem?_eq_getElem h, List.getD_eq_getElem?_getD, List.getElem?_eq_getElem h]; rfl
theorem nodup_take {N : List Int} (h : N.Nodup) (j : Nat) (hj : j < N.length) : N.getD j 0 ∉ N.take j := by
  intro hm
  obtain ⟨i, hi, he⟩ := List.getElem_of_mem hm
  rw [List.getD_eq_getElem?_getD, List.getElem?_eq_getElem hj] at he
  simp at hi he
  exact (List.pairwise_iff_getElem.1 h) i j (by omega) hj (by omega) he
/-- a reader that has read j sectors -/
def RJ (rb : Nat) (heap : Int) (N bs : List Int) (nv bv : Value) (j : Nat) : RI := ⟨rb, shaF bs, N.getD 0 0, bs.length, nv, N.take j, j, heap, N.getD (min j (N.length - 1)) 0, bv, bs.take (480 * j), decide (N.length ≤ j), 0, 0⟩
theorem ok_rdUp {d : DK} (ok : DOk d) : DOk (rdUp d) := ⟨ok.lo, ok.hi, ok.last, ok.ents, by have := ok.rd0; show 0 ≤ d.rd + 1; omega, ok.wr0⟩
theorem rstep_at {w : World} {d : DK} {rb : Nat} {heap : Int} {N bs : List Int} {nv bv : Value} {j : Nat} (h : Has 3 w (DL d ++ RLs d.db (RJ rb heap N bs nv bv j))) (ok : DOk d) (nm : Nm d heap N bs) (hj : j < N.length)
    (hc : d.cur (N.getD j 0) = secB (shaF bs) (j : Int) (nextI N j) (pieceB bs j)) (hrd : d.rd < 1099511627776) (hH : HalfW w) (hT : ShaW w) (hw1 : 1 < w.heap.size) :
    Calls Tryd.prog 26 #[.pointer (some ⟨rb, 0, none⟩)] w fun e w' => e = .returned (.tuple #[.bool (decide (N.length ≤ j + 1)), .int .i64 0]) ∧ ∃ nv' bv',
      Moves (DL d ++ RLs d.db (RJ rb heap N bs nv bv j)) (DL (rdUp d) ++ RLs d.db (RJ rb heap N bs nv' bv' (j + 1))) w w' := by
  have hk := nSec_le bs.length nm.le
  have hu := nSec_up bs.length
  have hlen := nm.len
  have eat : N.getD (min j (N.length - 1)) 0 = N.getD j 0 := by rw [Nat.min_eq_left (by omega)]
  have hin := getD_mem hj
  have hnx : 0 ≤ nextI N j ∧ nextI N j < 65536 := by
    unfold nextI
    split
    · rename_i h1
      have h2 := getD_mem h1
      have := nm.lo _ h2
      have := nm.hi _ h2
      have := nm.hp
      have := ok.hi
      omega
    · omega
  have hjl : 480 * j ≤ bs.length := by
    have : 480 * j ≤ 480 * (nSec bs.length - 1) := Nat.mul_le_mul_left _ (by omega)
    omega
  have hnl : (N.take j).length ≤ 65000 := by rw [List.length_take]; omega
  have hbl : (bs.take (480 * j)).length ≤ 1048576 := by rw [List.length_take]; have := nm.le; omega
  have hlo := nm.lo _ hin
  have hhi := nm.hi _ hin
  have hhp := nm.hp
  have ens : N.take j ++ [N.getD (min j (N.length - 1)) 0] = N.take (j + 1) := by rw [eat]; exact take_snoc N j hj
  have key := rstep_calls (x := RJ rb heap N bs nv bv j) h ok (shaF_length bs) nm.le (by simp only [RJ]; exact decide_eq_false (by omega)) hnl hbl hrd
    (by simp only [RJ]; rw [eat]; omega) (by simp only [RJ]; rw [eat]; exact hhi) (nextI N j) hnx.1 (by omega) (pieceB bs j) (by simp only [RJ]; rw [eat]; exact hc) (pieceB_length bs j) hjl hH hT hw1
    (by
      simp only [RJ]
      intro h1
      have h2 : j + 1 < N.length := by omega
      have e : nextI N j = N.getD (j + 1) 0 := if_pos h2
      have h3 := getD_mem h2
      rw [ens, e]
      exact ⟨nm.lo _ h3, nm.hi _ h3, nodup_take nm.nd (j + 1) h2⟩)
    (by
      simp only [RJ]
      intro h1
      have h2 : ¬ (j + 1 < N.length) := by omega
      refine ⟨if_neg h2, ?_⟩
      rw [piece_join, List.take_of_length_le]
      have : nSec bs.length ≤ j + 1 := by omega
      have : 480 * nSec bs.length ≤ 480 * (j + 1) := Nat.mul_le_mul_left _ this
      omega)
  refine key.mono ?_
  rintro e w' ⟨rfl, nv', bv', m⟩
  have m2 : Moves (DL d ++ RLs d.db (RJ rb heap N bs nv bv j)) (DL (rdUp d) ++ RLs d.db ⟨rb, shaF bs, N.getD 0 0, bs.length, nv', N.take j ++ [N.getD (min j (N.length - 1)) 0], j + 1, heap, if j + 1 < nSec bs.length then nextI N j else N.getD (min j (N.length - 1)) 0, bv', bs.take (480 * j) ++ pieceB bs j, !decide (j + 1 < nSec bs.length), 0, 0⟩) w w' := m
  have hd : (!decide (j + 1 < nSec bs.length)) = decide (N.length ≤ j + 1) := by
    rw [hlen]
    by_cases h1 : j + 1 < nSec bs.length
    · rw [decide_eq_true h1, decide_eq_false (by omega)]; rfl
    · rw [decide_eq_false h1, decide_eq_true (by omega)]; rfl
  have hat : (if j + 1 < nSec bs.length then nextI N j else N.getD (min j (N.length - 1)) 0) = N.getD (min (j + 1) (N.length - 1)) 0 := by
    by_cases h1 : j + 1 < nSec bs.length
    · rw [if_pos h1, show nextI N j = N.getD (j + 1) 0 from if_pos (by omega), Nat.min_eq_left (by omega)]
    · rw [if_neg h1]
      congr 1
      omega
  rw [ens, piece_join, hat, hd] at m2
  exact ⟨congrArg (fun b => Ending.returned (.tuple #[.bool b, .int .i64 0])) hd, nv', bv', m2⟩
/-- the disk behind so many Reads -/
def rdN (d : DK) (j : Nat) : DK := { d with rd := d.rd + (j : Int) }
theorem rdUp_rdN (d : DK) (j : Nat) : rdUp (rdN d j) = rdN d (j + 1) := by
  unfold rdUp rdN
  rw [show ((j + 1 : Nat) : Int) = (j : Int) + 1 from by omega, ← Int.add_assoc]
theorem rdN_zero (d : DK) : rdN d 0 = d := by
  unfold rdN
  simp
theorem ok_rdN {d : DK} (ok : DOk d) (j : Nat) : DOk (rdN d j) := ⟨ok.lo, ok.hi, ok.last, ok.ents, by have := ok.rd0; show 0 ≤ d.rd + (j : Int); omega, ok.wr0⟩
theorem Nm.rdN {d : DK} {heap : Int} {N bs : List Int} (nm : Nm d heap N bs) (j : Nat) : Nm (rdN d j) heap N bs := ⟨nm.len, nm.le, nm.nd, nm.hp, nm.lo, nm.hi⟩
set_option maxHeartbeats 2000000 in
theorem get_calls {w : World} {d : DK} {heap : Int} {N bs : List Int} (h : Has 3 w (DL d)) (ok : DOk d) (nm : Nm d heap N bs) (hsec : ∀ j, j < N.length → d.cur (N.getD j 0) = secB (shaF bs) (j : Int) (nextI N j) (pieceB bs j)) (hrd : d.rd < 1073741824) (hH : HalfW w) (hT : ShaW w) :
    Calls Tryd.prog 22 #[.pointer (some ⟨d.db, 0, none⟩), .int .i64 heap, .agg (refC (shaF bs) (N.getD 0 0) (bs.length : Int)).toArray] w fun e w' => ∃ v, e = .returned (.tuple #[v, .int .i64 0, .int .i64 0]) ∧ Moves (DL d) (rowT v 5 1 bs.length (by8 bs) :: DL (rdN d N.length)) w w' := by
  have hk := nSec_le bs.length nm.le
  have hu := nSec_up bs.length
  have hlen := nm.len
  have h0 := getD_mem (show 0 < N.length by omega)
  have hS : StrAt w d.db (dCells d) 125 := h.get 0 rfl
  have HNEW := Lib.hid (show ∀ W, Keeps [] w W → Calls Tryd.prog 23 #[.pointer (some ⟨d.db, 0, none⟩), .int .i64 heap, .agg (refC (shaF bs) (N.getD 0 0) (bs.length : Int)).toArray] W fun e w' => ∃ b, e = .returned (.tuple #[.pointer (some ⟨b, 0, none⟩), .int .i64 0]) ∧ Moves (DL d) (DL (rdN d 0) ++ RLs d.db (RJ b heap N bs (.slice none 0 0) (.slice none 0 0) 0)) w w' from fun W hk9 => by
    have hl := nm.lo _ h0
    have hh := nm.hi _ h0
    have hm := Moves.of_below h hk9
    refine (newReader_calls (hS.keeps hk9 (by simp)) heap nm.hp (by omega) (shaF bs) (shaF_length bs) (N.getD 0 0) hl hh bs.length nm.le).mono ?_
    rintro e w' ⟨b, rfl, hb, hs, hk'⟩
    refine ⟨b, rfl, ?_⟩
    have m1 := hm.trans (Moves.of_below hm.has hk')
    have hle := hk9.size
    have m2 : Moves (DL d) (RLs d.db (RJ b heap N bs (.slice none 0 0) (.slice none 0 0) 0) ++ DL d) w w' := m1.add (N := RLs d.db (RJ b heap N bs (.slice none 0 0) (.slice none 0 0) 0)) ?_ ?_
    · rw [rdN_zero]
      exact m2.perm (List.Perm.refl _) List.perm_append_comm
    · have hd0 : decide (N.length ≤ 0) = false := decide_eq_false (by omega)
      have h3 : 3 ≤ w.heap.size := h.le
      have hbig : 3 ≤ w'.heap.size := by have := hk'.size; omega
      have s1 : Has 3 w' [strT b (lnC d.db (shaF bs) (N.getD 0 0) (bs.length : Int) (.slice none 0 0) 0 [.int .i64 heap, .int .i64 (N.getD 0 0), .slice none 0 0, .bool false, .int .i64 0, .int .i64 0]) 71] := strH hs (by omega)
      refine ⟨fun t ht => ?_, ?_, fun k hm9 => ?_, hbig⟩
      · have ht' : t = strT b (lnC d.db (shaF bs) (N.getD 0 0) (bs.length : Int) (.slice none 0 0) 0 [.int .i64 heap, .int .i64 (N.getD (min 0 (N.length - 1)) 0), .slice none 0 0, .bool (decide (N.length ≤ 0)), .int .i64 0, .int .i64 0]) 71 ∨ t = rowT (.slice none 0 0) 3 1 (N.take 0).length (ints (N.take 0)) ∨ t = rowT (.slice none 0 0) 5 1 (bs.take (480 * 0)).length (by8 (bs.take (480 * 0))) := by simpa [RLs, RJ, rTl] using ht
        rcases ht' with rfl | rfl | rfl
        · rw [hd0, Nat.zero_min]; exact hs
        · exact World.ownsRow_nil _ _ _ _
        · exact World.ownsRow_nil _ _ _ _
      · simp [RLs, RJ, fps, strT, rowT, Value.ownBlock]
      · have : k = b := by simpa [RLs, RJ, fps, strT, rowT, Value.ownBlock] using hm9
        omega
    · intro k hm9
      have : k = b := by simpa [RLs, RJ, fps, strT, rowT, Value.ownBlock] using hm9
      exact ⟨by omega, fun h9 => by have := h.lt k h9; omega⟩)
  have HW1 := Lib.hid (show ∀ W, Keeps (fps (DL d)) w W → HalfW W ∧ ShaW W ∧ 1 < W.heap.size from fun W hk => ⟨hH.keeps hk (fun hm9 => by have := h.ge 0 hm9; omega), hT.keeps hk (fun hm9 => by have := h.ge 1 hm9; omega), by have := h.le; have := hk.size; omega⟩)
  have HSTEP := Lib.hid (show ∀ W rb nv bv j, j < N.length → Moves (DL d) (DL (rdN d j) ++ RLs d.db (RJ rb heap N bs nv bv j)) w W → Calls Tryd.prog 26 #[.pointer (some ⟨rb, 0, none⟩)] W fun e w' => e = .returned (.tuple #[.bool (decide (N.length ≤ j + 1)), .int .i64 0]) ∧ ∃ nv' bv', Moves (DL d) (DL (rdN d (j + 1)) ++ RLs d.db (RJ rb heap N bs nv' bv' (j + 1))) w w' from fun W rb nv bv j hj m => by
    have hw := HW1.out W m.keeps
    refine (rstep_at (d := rdN d j) m.has (ok_rdN ok j) (nm.rdN j) hj (hsec j hj) (by show d.rd + (j : Int) < _; omega) hw.1 hw.2.1 hw.2.2).mono ?_
    rintro e w' ⟨rfl, nv', bv', m'⟩
    rw [rdUp_rdN] at m'
    exact ⟨rfl, nv', bv', m.trans m'⟩)
  have HLEN := Lib.hid hlen
  have HK := Lib.hid hk
  have HU := Lib.hid hu
  have HH := Lib.hid h
  have HLE := Lib.hid nm.le
  clear hS h0 hlen hk hu h hH hT hsec nm
  have HEND := Lib.hid (show ∀ W rb nv bv j, j = N.length → Moves (DL d) (DL (rdN d j) ++ RLs d.db (RJ rb heap N bs nv bv j)) w W →
      (Calls Tryd.prog 27 #[.pointer (some ⟨rb, 0, none⟩)] W fun e w' => ∃ v, e = .returned v ∧ w'.ownsRow 0 5 1 v bs.length (by8 bs) ∧ Fresh W v ∧ Keeps [] W w') ∧ (∀ W', Keeps [] W W' → Calls Tryd.prog 51 #[.pointer (some ⟨rb, 0, none⟩)] W' fun e w' => e = .returned (.int .i64 0) ∧ w' = W') from fun W rb nv bv j hj m => by
    have hs := m.has.right.get 0 rfl
    have ht : bs.take (480 * j) = bs := List.take_of_length_le (by have := HU.out.1; rw [← HLEN.out, ← hj] at this; exact this)
    have hb : W.ownsRow 0 5 1 bv (bs.take (480 * j)).length (by8 (bs.take (480 * j))) := m.has.right.get 2 rfl
    refine ⟨?_, fun W' hk' => ?_⟩
    · have := bytes_calls (x := RJ rb heap N bs nv bv j) hs (shaF_length bs) (show decide (N.length ≤ j) = true from decide_eq_true (by omega)) rfl hb (show (bs.take (480 * j)).length ≤ _ by rw [ht]; have := HLE.out; omega)
      simp only [RJ] at this
      rw [ht] at this
      exact this
    · exact broken_calls (x := RJ rb heap N bs nv bv j) (StrAt.keeps hs hk' (by simp)) (shaF_length bs))
  have hu52 := Tryd.underlying52
  obtain ⟨RC, hRC⟩ : ∃ RC, RC = refC (shaF bs) (N.getD 0 0) (bs.length : Int) := ⟨_, rfl⟩
  have hrl : RC.length = 34 := by rw [hRC]; exact refC_length _ _ _ (shaF_length bs)
  have HSZ := Lib.hid (show (Tryd.prog.info? 52).map (·.size) = some RC.length by rw [hrl]; exact size52)
  have HLD := Lib.hid (show (w.alloc (.cells RC.toArray 52)).rangeAt w.heap.size 0 RC from (by have := str_range (StrAt.new w RC.toArray 52); rwa [List.toList_toArray] at this))
  rw [← hRC] at HNEW ⊢
  clear hRC hrl
  go_enter Tryd.func22, Tryd.ntmps22
  go_wp2_with (first | (refine wpList_load_mid rfl 52 (.tmp 5) rfl w.heap.size 0 rfl RC _ HLD.out hu52 rfl HSZ.out ?_) | (go_at_call 23; refine (HNEW.out _ ((Keeps.refl _ _).alloc _)).mono ?_; rintro e w1 ⟨rb, rfl, m1⟩; have M1 := Lib.hid m1; clear m1))
  go_loopg [10, 11] N.length (fun q ev ov W => ∃ j nv bv, j ≤ N.length ∧ N.length - j ≤ q ∧ (∃ b, ov = .bool b ∧ Hid (b = decide (N.length ≤ j))) ∧ ev = .int .i64 0 ∧ Hid (Moves (DL d) (DL (rdN d j) ++ RLs d.db (RJ rb heap N bs nv bv j)) w W))
  case atStart => exact ⟨0, _, _, by omega, by omega, ⟨false, rfl, Lib.hid (decide_eq_false (by have := HK.out; have := HLEN.out; omega)).symm⟩, rfl, M1⟩
  case round =>
    obtain ⟨j, nv, bv, hj, hq, ⟨b, rfl, HB⟩, rfl, M⟩ := hrel
    by_cases hjk : j < N.length
    · have hb : b = false := HB.out.trans (decide_eq_false (by omega))
      subst hb
      go_wp2_with (go_at_call 26; refine (HSTEP.out _ rb nv bv j hjk M.out).mono ?_; rintro e w2 ⟨rfl, nv2, bv2, m2⟩; have M2 := Lib.hid m2; clear m2)
      go_roundg (N.length - (j + 1))
      case measure => omega
      case rel => exact ⟨j + 1, nv2, bv2, by omega, by omega, ⟨_, rfl, Lib.hid rfl⟩, rfl, M2⟩
    · have hjN : j = N.length := by omega
      have hb : b = true := HB.out.trans (decide_eq_true (by omega))
      subst hb
      have HE := Lib.hid (HEND.out _ rb nv bv j hjN M.out)
      have HJ := Lib.hid hjN
      clear hjN
      go_wp2_with (first | (go_at_call 27; refine HE.out.1.mono ?_; rintro e w2 ⟨v, rfl, o2, f2, k2⟩) | (go_at_call 51; refine (HE.out.2 _ k2).mono ?_; rintro e w3 ⟨rfl, rfl⟩))
      go_ret3
      refine ⟨v, rfl, ?_⟩
      have m1 := (M.out.perm (List.Perm.refl _) List.perm_append_comm).drop
      rw [HJ.out] at m1
      exact m1.trans (Moves.cons m1.has k2 (t' := rowT v 5 1 bs.length (by8 bs)) o2 (rowT_nodup ..) (fun k hk9 => f2 k (by simpa [rowT] using hk9)))
end Go.Proofs.YtgcpcgcfpjolnaaDoor.G
-- (*chain.Writer).Step of a writer whose bytes are nil.
namespace Go.Proofs.YtgcpcgcfpjolnaaDoor.G
open Go.RowKit Go.Proofs.YtgcpcgcfpjolnaaDoorW.PrintWords Go.Proofs.YtgcpcgcfpjolnaaDoorW.PrintLast Go.Proofs.YtgcpcgcfpjolnaaDoorW.PrintMore
set_option linter.unusedVariables false
set_option linter.unusedSimpArgs false
set_option maxRecDepth 10000
set_option maxHeartbeats 4000000 in
theorem step_nil {w : World} {d : DK} {x : WI} (h : Has 3 w (DL d ++ WLs d.db x)) (ok : DOk d) (wo : WOk d x) (hd : x.done = 0) (hwr : d.wr < 1073741824) (hH : HalfW w) (hbv : x.bv = .slice none 0 0) (hbs : x.bs = []) :
    Calls Tryd.prog 19 #[.pointer (some ⟨x.wb, 0, none⟩)] w (StepPost d x w) := by
  have hs : StrAt w x.wb (lnC d.db x.h x.fi (x.len : Int) x.nv (x.done : Int) [x.bv]) 56 := h.right.get 0 rfl
  have hn : w.ownsRow 0 3 1 x.nv x.ns.length (ints x.ns) := h.right.get 1 rfl
  have hK : x.ns.length = 1 := by rw [wo.ns, hbs]; rfl
  obtain ⟨q, cq, hnv, hrow⟩ := own_some hn (by omega)
  have c0 := ln_0 hs
  have c35 := ln_35 hs wo.h32
  have c36 := ln_36 hs wo.h32
  have c37 : w.cell? ⟨x.wb, 37, none⟩ = some x.bv := ln_tl hs wo.h32 0
  have f36 := hs.frozen 36
  have hr := ln_hash hs
  rw [hnv, hK] at c35
  rw [hbv] at c37
  rw [hd] at c36
  have ci : ∀ i, i < x.ns.length → w.cell? ⟨q, i, none⟩ = some (.int .i64 (x.ns.getD i 0)) := fun i hi => by
    rw [RowAt.cell hrow i (by omega)]
    simp [ints, List.getD_eq_getElem?_getD, List.getElem?_eq_getElem hi]
  have cn := ci 0 (by omega)
  have hnd : 1 ≤ x.ns.getD 0 0 ∧ x.ns.getD 0 0 < (d.last.length : Int) := wo.nin _ (getD_mem (by omega))
  obtain ⟨nd, hND⟩ : ∃ n, n = x.ns.getD 0 0 := ⟨_, rfl⟩
  rw [← hND] at cn hnd
  have HNDV := Lib.hid hND
  have HS := Lib.hid hs
  have HNV := Lib.hid hnv
  have HBS := Lib.hid hbs
  have HHH := Lib.hid h
  have HW := Lib.hid wo
  have HHALF := Lib.hid hH
  have HD := Lib.hid hd
  have HK := Lib.hid hK
  clear hK hND ci hs hrow hnv hbv h wo hH hn hd hbs
  obtain ⟨wb, hwb⟩ : ∃ wb, wb = x.wb := ⟨_, rfl⟩
  rw [← hwb] at c0 c35 c36 c37 f36 hr ⊢
  have HWB := Lib.hid hwb
  clear hwb
  have HSZ := Lib.hid (show ∀ W, Calls Tryd.prog 68 #[.int .i64 0, .int .i64 0] W fun e w' => e = .returned (.int .i64 0) ∧ w' = W from fun W => size68 0 0 (by decide) (by decide) W)
  have HS7 := Lib.hid (show ∀ W, Keeps [] w W → W.cell? ⟨wb, 37, none⟩ = some (.slice none 0 0) ∧ W.cell? ⟨wb, 36, none⟩ = some (.int .i64 0) from fun W hk => ⟨hk.cell c37 (by simp), hk.cell c36 (by simp)⟩)
  have hnap := HHH.out.apart2
  have hwbn : wb ∉ fps (DL d) := fun hm9 => hnap wb hm9 (by rw [HWB.out]; simp [WLs, fps, strT])
  have hqn : q ∉ fps (DL d) := fun hm9 => hnap q hm9 (by simp [WLs, fps, strT, rowT, HNV.out, Value.ownBlock])
  have HS8 := Lib.hid (show ∀ W, Keeps (fps (DL d)) w W → W.cell? ⟨wb, 0, none⟩ = some (.pointer (some ⟨d.db, 0, none⟩)) ∧ W.cell? ⟨wb, 35, none⟩ = some (.slice (some ⟨q, 0, none⟩) 1 cq) ∧ W.cell? ⟨q, 0, none⟩ = some (.int .i64 nd) ∧ W.rangeAt wb 1 (by8 x.h) ∧ W.cell? ⟨wb, 36, none⟩ = some (.int .i64 0) from fun W hk =>
    ⟨hk.cell c0 hwbn, hk.cell c35 hwbn, hk.cell cn hqn, range_keeps hr hk hwbn, hk.cell c36 hwbn⟩)
  have HSF := Lib.hid (show ∀ W, Keeps (fps (DL d)) w W → W.frozen? ⟨wb, 36, none⟩ = false from fun W hk => ((HWB.out ▸ HS.out : StrAt w wb (lnC d.db x.h x.fi (x.len : Int) x.nv (x.done : Int) [x.bv]) 56).keeps hk hwbn).frozen 36)
  have hu50 := Tryd.underlying50
  have hs50 : (Tryd.prog.info? 50).map (·.size) = some (by8 x.h).length := by rw [size50, by8_length, HW.out.h32]
  clear hwbn hqn hnap hr
  have HSEC := Lib.hid (show ∀ W, Keeps [] w W → Calls Tryd.prog 70 #[.agg (by8 x.h).toArray, .int .i64 0, .int .i64 0, .slice none 0 0] W fun e w' => ∃ g, e = .returned (.slice (some ⟨g, 0, none⟩) 512 512) ∧ w.heap.size ≤ g ∧ RowAt w' g 5 1 512 512 (by8 (secB x.h 0 0 [])) ∧ Keeps [] w w' from fun W hk => by
    refine (sector_calls x.h HW.out.h32 0 0 (by omega) (by omega) (by omega) (by omega) none 0 0 [] ⟨rfl, by decide, fun h0 => absurd h0 (by decide)⟩ (fun a e => by cases e) (by decide) (HHALF.out.keeps hk (by simp)) (by have := HHH.out.le; have := hk.size; omega)).mono ?_
    rintro e w' ⟨g, rfl, g1, g2, g3⟩
    exact ⟨g, rfl, Nat.le_trans hk.size g1, g2, hk.trans' g3⟩)
  have HWR := Lib.hid (show ∀ W g, Keeps [] w W → w.heap.size ≤ g → RowAt W g 5 1 512 512 (by8 (secB x.h 0 0 [])) → Calls Tryd.prog 69 #[.pointer (some ⟨d.db, 0, none⟩), .int .i64 nd, .slice (some ⟨g, 0, none⟩) 512 512] W (WritePost d nd (secB x.h 0 0 []) W) from fun W g hk hg hrow => by
    have hsl := secB_length x.h 0 0 [] (by rw [HW.out.h32]; decide) (by decide)
    have hC := row_read0 hrow (by decide)
    rw [hsl] at hC
    exact write_calls (HHH.out.left.keeps0 hk) ok nd (by omega) hnd.2 hwr g 0 512 _ hC (fun hm9 => by have := HHH.out.left.lt g hm9; omega))
  have w00 : IntKind.i64.wrap 0 = 0 := by decide
  go_enter Tryd.func19, Tryd.ntmps19
  go_wp2
  go_region
  go_wp2
  go_region
  go_wp2
  go_region_held3 (fun W' => W'.cell? ⟨wb, 37, none⟩ = some (.slice none 0 0) ∧ W'.cell? ⟨wb, 36, none⟩ = some (.int .i64 0)) (first | assumption | exact HS7.out _ (by first | exact ((((Keeps.refl [] w).drew).drew).drew).drew | exact (((((Keeps.refl [] w).drew).drew).drew).drew).drew | exact (((Keeps.refl [] w).drew).drew).drew)) (first | (go_at_call 68; refine (HSZ.out _).mono ?_; rintro e w' ⟨rfl, rfl⟩) | fail)
  go_wp2
  go_region_held3 (fun W => W.cell? ⟨wb, 0, none⟩ = some (.pointer (some ⟨d.db, 0, none⟩)) ∧ W.cell? ⟨wb, 35, none⟩ = some (.slice (some ⟨q, 0, none⟩) 1 cq) ∧ W.cell? ⟨q, 0, none⟩ = some (.int .i64 nd) ∧ W.rangeAt wb 1 (by8 x.h) ∧ W.cell? ⟨wb, 36, none⟩ = some (.int .i64 0)) (first | exact HS8.out _ k69q | exact HS8.out _ k70q | exact HS8.out _ ((((((Keeps.refl [] w).drew).drew).drew).drew).mono (S' := fps (DL d)) (by simp)) | exact HS8.out _ (((((((Keeps.refl [] w).drew).drew).drew).drew).drew).mono (S' := fps (DL d)) (by simp)) | exact HS8.out _ (((((Keeps.refl [] w).drew).drew).drew).mono (S' := fps (DL d)) (by simp)) | assumption) (first | (go_at_call 69; refine (HWR.out _ g70 k70w hg70 hr70).mono ?_; rintro e w69 ⟨rfl, d9, ok9, m9, cur9, db9, last9, rd9, wr9, fl9⟩; have k69q := (k70w.mono (S' := fps (DL d)) (by simp)).trans' m9.keeps; have c36q := (HS8.out _ k69q).2.2.2.2; have c35q := (HS8.out _ k69q).2.1; have f36q := HSF.out _ k69q) | (go_at_call 70; refine (HSEC.out _ (by first | exact ((((Keeps.refl [] w).drew).drew).drew).drew | exact (((((Keeps.refl [] w).drew).drew).drew).drew).drew | exact (((Keeps.refl [] w).drew).drew).drew)).mono ?_; rintro e w70 ⟨g70, rfl, hg70, hr70, k70w⟩; have k70q := k70w.mono (S' := fps (DL d)) (by simp)) | fail)
  go_wp2
  go_region
  go_wp2
  go_ret2
  have hnx : nextI x.ns x.done = 0 := by unfold nextI; rw [if_neg (by have := HK.out; omega)]
  have hpc : pieceB x.bs x.done = [] := by rw [HBS.out]; simp [pieceB]
  refine ⟨?_, d9, ok9, ?_, fun j => ?_, db9, last9, rd9, wr9, fl9⟩
  · rw [HD.out, HK.out]; rfl
  · have mm := step_moves HHH.out HW.out.h32 k70w m9 db9 1
    rw [HWB.out, HD.out]
    exact mm
  · rw [hnx, hpc, HD.out, ← HNDV.out]
    exact cur9 j
end Go.Proofs.YtgcpcgcfpjolnaaDoor.G
-- A writer at a place.
namespace Go.Proofs.YtgcpcgcfpjolnaaDoor.G
open Go.RowKit Go.Proofs.YtgcpcgcfpjolnaaDoorW.PrintWords Go.Proofs.YtgcpcgcfpjolnaaDoorW.PrintLast Go.Proofs.YtgcpcgcfpjolnaaDoorW.PrintMore
set_option linter.unusedVariables false
set_option linter.unusedSimpArgs false
set_option maxRecDepth 10000
theorem wstep {w : World} {d : DK} {x : WI} (h : Has 3 w (DL d ++ WLs d.db x)) (ok : DOk d) (wo : WOk d x) (hd : x.done < x.ns.length) (hwr : d.wr < 1073741824) (hH : HalfW w) :
    Calls Tryd.prog 19 #[.pointer (some ⟨x.wb, 0, none⟩)] w (StepPost d x w) := by
  have hb : w.ownsRow 0 5 1 x.bv x.bs.length (by8 x.bs) := h.right.get 2 rfl
  have hu := nSec_up x.bs.length
  have hns := wo.ns
  rcases own_form hb with ⟨hv, hn, hx⟩ | ⟨g, c, hv, hr⟩
  · have hbs : x.bs = [] := List.length_eq_zero_iff.1 hn
    have h1 : x.ns.length = 1 := by rw [hns, hbs]; rfl
    exact step_nil h ok wo (by omega) hwr hH hv hbs
  · refine step_calls h ok wo hd hwr hH g c hv ?_
    have hc := hr.capLe.1
    by_cases h0 : x.done = 0
    · exact .inr h0
    · left
      have h2 : nSec x.bs.length = max 1 ((x.bs.length + 479) / 480) := rfl
      omega
/-- a writer that has written j sectors -/
def WJ (wb : Nat) (N bs : List Int) (nv bv : Value) (j : Nat) : WI := ⟨wb, shaF bs, N.getD 0 0, bs.length, nv, N, j, bv, bs⟩
/-- the first j sectors lie there -/
def Wrote (d : DK) (N bs : List Int) (j : Nat) : Prop := ∀ i, i < j → d.cur (N.getD i 0) = secB (shaF bs) (i : Int) (nextI N i) (pieceB bs i)
/-- one sector more -/
structure Wr (d d' : DK) (k : Int) (s : List Int) : Prop where
  ok : DOk d'
  cur : ∀ i, d'.cur i = if i = k then s else d.cur i
  db : d'.db = d.db
  last : d'.last = d.last
  rd : d'.rd = d.rd
  wr : d'.wr = d.wr + 1
  fl : d'.fl = d.fl
theorem getD_inj {N : List Int} (h : N.Nodup) {i j : Nat} (hi : i < N.length) (hj : j < N.length) (he : N.getD i 0 = N.getD j 0) : i = j := by
  rw [List.getD_eq_getElem?_getD, List.getD_eq_getElem?_getD, List.getElem?_eq_getElem hi, List.getElem?_eq_getElem hj] at he
  simp at he
  rcases Nat.lt_trichotomy i j with h1 | h1 | h1
  · exact absurd he ((List.pairwise_iff_getElem.1 h) i j hi hj h1)
  · exact h1
  · exact absurd he.symm ((List.pairwise_iff_getElem.1 h) j i hj hi h1)
theorem Wrote.step {d d' : DK} {N bs : List Int} {j : Nat} (h : Wrote d N bs j) (hnd : N.Nodup) (hj : j < N.length) (hw : Wr d d' (N.getD j 0) (secB (shaF bs) (j : Int) (nextI N j) (pieceB bs j))) : Wrote d' N bs (j + 1) := fun i hi => by
  rw [hw.cur]
  by_cases he : i = j
  · subst he; rw [if_pos rfl]
  · rw [if_neg (fun e => he (getD_inj hnd (by omega) hj e))]
    exact h i (by omega)
theorem Wrote.other {d d' : DK} {N bs : List Int} {j : Nat} (h : Wrote d N bs j) (hj : j ≤ N.length) {k : Int} {s : List Int} (hk : k ∉ N) (hw : Wr d d' k s) : Wrote d' N bs j := fun i hi => by
  have hm : N.getD i 0 ∈ N := getD_mem (by omega)
  rw [hw.cur, if_neg (fun e : N.getD i 0 = k => hk (e ▸ hm))]
  exact h i hi
theorem Wrote.rd {d : DK} {N bs : List Int} {j : Nat} (h : Wrote d N bs j) (n : Nat) : Wrote (rdN d n) N bs j := h
theorem Nm.wr {d d' : DK} {heap : Int} {N bs : List Int} (nm : Nm d heap N bs) {k : Int} {s : List Int} (h : Wr d d' k s) : Nm d' heap N bs := ⟨nm.len, nm.le, nm.nd, nm.hp, nm.lo, by rw [h.last]; exact nm.hi⟩
theorem wstep_at {w : World} {d : DK} {heap : Int} {wb : Nat} {N bs : List Int} {nv bv : Value} {j : Nat} (h : Has 3 w (DL d ++ WLs d.db (WJ wb N bs nv bv j))) (ok : DOk d) (nm : Nm d heap N bs) (hj : j < N.length) (hwr : d.wr < 1073741824) (hH : HalfW w) :
    Calls Tryd.prog 19 #[.pointer (some ⟨wb, 0, none⟩)] w fun e w' => e = .returned (.tuple #[.bool (decide (j + 1 = N.length)), .int .i64 0]) ∧ ∃ d', Wr d d' (N.getD j 0) (secB (shaF bs) (j : Int) (nextI N j) (pieceB bs j)) ∧
      Moves (DL d ++ WLs d.db (WJ wb N bs nv bv j)) (DL d' ++ WLs d'.db (WJ wb N bs nv bv (j + 1))) w w' := by
  refine (wstep h ok ⟨shaF_length bs, rfl, nm.le, nm.len, fun m hm => ⟨by have := nm.lo m hm; have := nm.hp; omega, nm.hi m hm⟩⟩ hj hwr hH).mono ?_
  rintro e w' ⟨rfl, d', ok', m, cur, db, last, rd, wr, fl⟩
  exact ⟨rfl, d', ⟨ok', cur, db, last, rd, wr, fl⟩, m⟩
theorem wstep_end {w : World} {db : Nat} {wb : Nat} {N bs : List Int} {nv bv : Value} {L : List Thing} (h : Has 3 w (L ++ WLs db (WJ wb N bs nv bv N.length))) :
    Calls Tryd.prog 19 #[.pointer (some ⟨wb, 0, none⟩)] w fun e w' => e = .returned (.tuple #[.bool true, .int .i64 0]) ∧ Keeps [] w w' :=
  step_end (x := WJ wb N bs nv bv N.length) (h.right.get 0 rfl) (shaF_length bs) (h.right.get 1 rfl) rfl
end Go.Proofs.YtgcpcgcfpjolnaaDoor.G
-- The numbers that TakeAll tells.
namespace Go.Proofs.YtgcpcgcfpjolnaaDoor.G
open Go.RowKit
set_option linter.unusedVariables false
set_option linter.unusedSimpArgs false
theorem trues_sorted (is : List Bool) : (trues is).Pairwise (· < ·) := List.Pairwise.filter _ List.pairwise_lt_range
theorem nums_sorted (fr : Nat) (l : List Nat) (h : l.Pairwise (· < ·)) : (nums fr l).Pairwise (· < ·) := by
  unfold nums
  rw [List.pairwise_map]
  exact h.imp fun h1 => by omega
/-- the lowest k free numbers -/
structure Outs (fr hi k : Nat) (ns : List Int) : Prop where
  len : ns.length = k
  up : ns.Pairwise (· < ·)
  lo : ∀ n ∈ ns, (fr : Int) ≤ n
  hi : ∀ n ∈ ns, n < (hi : Int)
theorem outs_of {fr hi k : Nat} {is : List Bool} (hl : is.length = hi - fr) (hf : fr < hi) (hok : takeAllOk is (k : Int) = true) : Outs fr hi k (takeAllOut fr is (k : Int)) := by
  have hk : k ≤ (trues is).length := by simp [takeAllOk] at hok; omega
  unfold takeAllOut
  rw [if_pos hok, Int.toNat_natCast]
  have hm : ∀ n ∈ nums fr ((trues is).take k), ∃ m : Nat, n = (fr : Int) + m ∧ m < is.length := fun n hn => by
    obtain ⟨m, hm, rfl⟩ := List.mem_map.1 hn
    exact ⟨m, rfl, trues_lt (List.mem_of_mem_take hm)⟩
  refine ⟨by rw [nums_length, List.length_take]; omega, nums_sorted _ _ ((trues_sorted is).sublist (List.take_sublist _ _)), fun n hn => ?_, fun n hn => ?_⟩
  · obtain ⟨m, rfl, _⟩ := hm n hn; omega
  · obtain ⟨m, rfl, _⟩ := hm n hn; omega
theorem Outs.nodup {fr hi k : Nat} {ns : List Int} (h : Outs fr hi k ns) : ns.Nodup := h.up.imp fun h1 => by omega
theorem up_first {ns : List Int} (h : ns.Pairwise (· < ·)) : ∀ n ∈ ns, ns.getD 0 0 ≤ n := by
  intro n hn
  cases ns with
  | nil => cases hn
  | cons a t =>
    rcases List.mem_cons.1 hn with rfl | h1
    · simp
    · have := (List.pairwise_cons.1 h).1 n h1
      simp; omega
theorem up_last {ns : List Int} (h : ns.Pairwise (· < ·)) (k : Nat) (hk : ns.length = k) : ∀ n ∈ ns, n ≤ ns.getD (k - 1) 0 := by
  intro n hn
  obtain ⟨i, hi, rfl⟩ := List.mem_iff_getElem.1 hn
  rw [List.getD_eq_getElem?_getD, List.getElem?_eq_getElem (show k - 1 < ns.length by omega)]
  simp only [Option.getD_some]
  rcases Nat.lt_or_ge i (k - 1) with h1 | h1
  · have := (List.pairwise_iff_getElem.1 h) i (k - 1) hi (by omega) h1
    omega
  · have e : i = k - 1 := by omega
    subst e; exact Int.le_refl _
theorem Outs.nm {fr hi k : Nat} {ns : List Int} (h : Outs fr hi k ns) {bs : List Int} (hk : k = nSec bs.length) (hb : bs.length ≤ 1048576) {d : DK} {heap : Int} (h0 : 1 ≤ heap) (h1 : heap ≤ ns.getD 0 0) (h2 : ns.getD (k - 1) 0 < (d.last.length : Int)) : Nm d heap ns bs :=
  ⟨h.len.trans hk, hb, h.nodup, h0, fun n hn => by have := up_first h.up n hn; omega, fun n hn => by have := up_last h.up k h.len n hn; omega⟩
end Go.Proofs.YtgcpcgcfpjolnaaDoor.G
