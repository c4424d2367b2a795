/- plays: one call of a space beside the document's. (Printed by genlaw4.py.) -/
import Derived.Test.YtnjjijkcenhebaaDoorLaw3
set_option linter.unusedVariables false
set_option linter.unusedSimpArgs false
namespace Go.Proofs.YtnjjijkcenhebaaDoor
open Go.RowKit
set_option maxRecDepth 10000

def PlaysPost (L : List Thing) (B wb : Nat) (n : Int) (nn ne : Nat) (w : World) (e : Ending) (w' : World) : Prop :=
  e = .returned (.bool true) ∧ ∃ Sv Rv Lv Wv n' es ss rs, Has B w' (WL wb Sv Rv Lv Wv n' ss rs es L) ∧ Match ss rs ∧ nn ≤ ss.length ∧ ss.length ≤ max nn 6 ∧ Below B w w' ∧ n ≤ n' ∧ n' ≤ n + 65537 ∧ es.length ≤ ne + 1
theorem perm_copy {α : Type} (r s : α) (H A R T : List α) : (r :: s :: (H ++ (A ++ (R ++ T)))).Perm (H ++ ((A ++ [s]) ++ ((R ++ [r]) ++ T))) := by
  classical
  rw [List.perm_iff_count]
  intro a
  simp only [List.count_append, List.count_cons, List.count_nil]
  omega
theorem drew_keeps (w : World) : Keeps [] w w.drew := (Keeps.refl [] w).drew

set_option maxHeartbeats 4000000 in
theorem plays_take {B wb : Nat} {L : List Thing} {w : World} {Sv Rv Lv Wv : Value} {n : Int} {ss rs : List SI} {es : List EI} (h : Has B w (WL wb Sv Rv Lv Wv n ss rs es L)) (hm : Match ss rs) (hT : TabW w) (hB0 : 0 < B)
    (k2 k3 : Int) (hl0 : 1 ≤ ss.length) (hl1 : ss.length ≤ 100)
    (hn0 : 0 ≤ n) (hn1 : n ≤ 900000000000) (hes : es.length ≤ 900000) :
    Calls Tryd.prog 11 #[.pointer (some ⟨wb, 0, none⟩), .agg #[.int .i64 1, .int .i64 k2, .int .i64 k3]] w (PlaysPost L B wb n ss.length es.length w) := by
  obtain ⟨i, hi0, hi1⟩ : ∃ i : Nat, k2 % (ss.length : Int) = i ∧ i < ss.length := by
    have h1 := Int.emod_nonneg k2 (show (ss.length : Int) ≠ 0 by omega)
    have h2 := Int.emod_lt_of_pos k2 (show (0 : Int) < ss.length by omega)
    exact ⟨(k2 % (ss.length : Int)).toNat, by omega, by omega⟩
  have HI := Lib.hid hi0
  clear hi0
  have hrl := hm.1
  have hx : ss[i]? = some ss[i] := List.getElem?_eq_getElem hi1
  have hy : rs[i]? = some (rs[i]'(by omega)) := List.getElem?_eq_getElem (by omega)
  generalize ss[i] = x at hx
  generalize rs[i]'(by omega) = y at hy
  obtain ⟨m1, m2, m3⟩ := hm.2 i x y hx hy
  have M1 := Lib.hid m1
  have M2 := Lib.hid m2
  have M3 := Lib.hid m3
  have HRL := Lib.hid hrl
  clear hrl m1 m2 m3
  obtain ⟨gS, cS, rfl, rS⟩ := own_some (h.get 1 rfl) hl0
  obtain ⟨gR, cR, rfl, rR⟩ := own_some (h.get 2 rfl) (by have := HRL.out; omega)
  have hir : i < rs.length := by have := HRL.out; omega
  have cx := (rS.cell i (by omega)).trans (show (ptrs ss)[i]? = some (.pointer (some ⟨x.b, 0, none⟩)) by simp [ptrs, hx])
  have cy := (rR.cell i (by omega)).trans (show (ptrs rs)[i]? = some (.pointer (some ⟨y.b, 0, none⟩)) by simp [ptrs, hy])
  have c0 := StrAt.cell (h.get 0 rfl) 0
  have c1 := StrAt.cell (h.get 0 rfl) 1
  simp [wCells] at c0 c1
  have l0 := StrAt.lt (h.get 0 rfl)
  have lS := rS.lt
  have lR := rR.lt
  have fx := Sp.facts (h.get _ (WL_sp hx))
  have fy := Rf.facts (h.get _ (WL_rf hy))
  have HBx := Lib.hid (StrAt.new w #[.int .i64 1, .int .i64 k2, .int .i64 k3] 39)
  have HX := Lib.hid hx
  have HY := Lib.hid hy
  clear hx hy
  go_enter Tryd.func11, Tryd.ntmps11
  go_wp2_with fail
  go_quiet ((go_at_call 15; exact (place_calls _ k2 ss.length hl0 (by omega)).mono fun _ _ hh => ⟨hh.1.trans (by rw [HI.out]), _, hh.2.symm⟩))
  generalize hW : (World.alloc w _).drewN _ = W
  have hb : StrAt W w.heap.size #[.int .i64 1, .int .i64 k2, .int .i64 k3] 39 := by rw [← hW]; exact HBx.out
  have hK0 : Keeps [] w W := by rw [← hW]; exact ((Keeps.refl [] w).alloc _).drewN _
  clear hW HBx rS rR
  replace c0 := hK0.cell c0 (by simp)
  replace c1 := hK0.cell c1 (by simp)
  replace cx := hK0.cell cx (by simp)
  replace cy := hK0.cell cy (by simp)
  have b0 := hb.cell 0
  have b1 := hb.cell 1
  have b2 := hb.cell 2
  simp at b0 b1 b2
  have h1 := h.keeps0 hK0
  have hB := keeps_below (B := B) hK0 (by simp) h.le
  have hT1 := hT.below hB hB0
  have hsp := h1.get _ (WL_sp HX.out)
  have hrf := h1.get _ (WL_rf HY.out)
  go_wp2_with fail
  refine (take_calls hsp hT1).mono ?_
  rintro e w1 ⟨rfl, hs1, hk1⟩
  obtain ⟨h2, hB1⟩ := h1.sp HX.out hs1 hk1
  go_wp2_with fail
  refine (rtake_calls (h2.get _ (WL_rf' (ss := ss) (by simp) HY.out))).mono ?_
  rintro e w2 ⟨rfl, hs2, hk2⟩
  obtain ⟨h3, hB2⟩ := h2.rf HY.out hs2 hk2
  rw [← M1.out, ← M3.out]
  rw [← M3.out] at h3
  go_wp2
  go_ret
  exact ⟨by simp, _, _, Lv, Wv, n, es, _, _, h3, hm.set HX.out HY.out _, by simp, by simp; omega, hB.trans (hB1.trans hB2), by omega, by omega, by omega⟩

set_option maxHeartbeats 4000000 in
theorem plays_list {B wb : Nat} {L : List Thing} {w : World} {Sv Rv Lv Wv : Value} {n : Int} {ss rs : List SI} {es : List EI} (h : Has B w (WL wb Sv Rv Lv Wv n ss rs es L)) (hm : Match ss rs) (hT : TabW w) (hB0 : 0 < B)
    (k2 k3 : Int) (hl0 : 1 ≤ ss.length) (hl1 : ss.length ≤ 100)
    (hn0 : 0 ≤ n) (hn1 : n ≤ 900000000000) (hes : es.length ≤ 900000) :
    Calls Tryd.prog 11 #[.pointer (some ⟨wb, 0, none⟩), .agg #[.int .i64 7, .int .i64 k2, .int .i64 k3]] w (PlaysPost L B wb n ss.length es.length w) := by
  obtain ⟨i, hi0, hi1⟩ : ∃ i : Nat, k2 % (ss.length : Int) = i ∧ i < ss.length := by
    have h1 := Int.emod_nonneg k2 (show (ss.length : Int) ≠ 0 by omega)
    have h2 := Int.emod_lt_of_pos k2 (show (0 : Int) < ss.length by omega)
    exact ⟨(k2 % (ss.length : Int)).toNat, by omega, by omega⟩
  have HI := Lib.hid hi0
  clear hi0
  have hrl := hm.1
  have hx : ss[i]? = some ss[i] := List.getElem?_eq_getElem hi1
  have hy : rs[i]? = some (rs[i]'(by omega)) := List.getElem?_eq_getElem (by omega)
  generalize ss[i] = x at hx
  generalize rs[i]'(by omega) = y at hy
  obtain ⟨m1, m2, m3⟩ := hm.2 i x y hx hy
  have M1 := Lib.hid m1
  have M2 := Lib.hid m2
  have M3 := Lib.hid m3
  have HRL := Lib.hid hrl
  clear hrl m1 m2 m3
  obtain ⟨gS, cS, rfl, rS⟩ := own_some (h.get 1 rfl) hl0
  obtain ⟨gR, cR, rfl, rR⟩ := own_some (h.get 2 rfl) (by have := HRL.out; omega)
  have hir : i < rs.length := by have := HRL.out; omega
  have cx := (rS.cell i (by omega)).trans (show (ptrs ss)[i]? = some (.pointer (some ⟨x.b, 0, none⟩)) by simp [ptrs, hx])
  have cy := (rR.cell i (by omega)).trans (show (ptrs rs)[i]? = some (.pointer (some ⟨y.b, 0, none⟩)) by simp [ptrs, hy])
  have c0 := StrAt.cell (h.get 0 rfl) 0
  have c1 := StrAt.cell (h.get 0 rfl) 1
  simp [wCells] at c0 c1
  have l0 := StrAt.lt (h.get 0 rfl)
  have lS := rS.lt
  have lR := rR.lt
  have fx := Sp.facts (h.get _ (WL_sp hx))
  have fy := Rf.facts (h.get _ (WL_rf hy))
  have HBx := Lib.hid (StrAt.new w #[.int .i64 7, .int .i64 k2, .int .i64 k3] 39)
  have HX := Lib.hid hx
  have HY := Lib.hid hy
  clear hx hy
  go_enter Tryd.func11, Tryd.ntmps11
  go_wp2_with fail
  go_quiet ((go_at_call 15; exact (place_calls _ k2 ss.length hl0 (by omega)).mono fun _ _ hh => ⟨hh.1.trans (by rw [HI.out]), _, hh.2.symm⟩))
  generalize hW : (World.alloc w _).drewN _ = W
  have hb : StrAt W w.heap.size #[.int .i64 7, .int .i64 k2, .int .i64 k3] 39 := by rw [← hW]; exact HBx.out
  have hK0 : Keeps [] w W := by rw [← hW]; exact ((Keeps.refl [] w).alloc _).drewN _
  clear hW HBx rS rR
  replace c0 := hK0.cell c0 (by simp)
  replace c1 := hK0.cell c1 (by simp)
  replace cx := hK0.cell cx (by simp)
  replace cy := hK0.cell cy (by simp)
  have b0 := hb.cell 0
  have b1 := hb.cell 1
  have b2 := hb.cell 2
  simp at b0 b1 b2
  have h1 := h.keeps0 hK0
  have hB := keeps_below (B := B) hK0 (by simp) h.le
  have hT1 := hT.below hB hB0
  have hsp := h1.get _ (WL_sp HX.out)
  have hrf := h1.get _ (WL_rf HY.out)
  go_wp2_with fail
  refine (lists_list h1 hm HX.out HY.out k2 k3 hn0 hn1 hes).mono ?_
  rintro e w1 ⟨rfl, Lv1, Wv1, n1, es1, ss1, rs1, h2, hm2, hl2, hB1, a1, a2, a3⟩
  go_wp2
  go_ret
  exact ⟨rfl, _, _, Lv1, Wv1, n1, es1, ss1, rs1, h2, hm2, by omega, by omega, hB.trans hB1, a1, a2, a3⟩

set_option maxHeartbeats 4000000 in
theorem plays_takeAll {B wb : Nat} {L : List Thing} {w : World} {Sv Rv Lv Wv : Value} {n : Int} {ss rs : List SI} {es : List EI} (h : Has B w (WL wb Sv Rv Lv Wv n ss rs es L)) (hm : Match ss rs) (hT : TabW w) (hB0 : 0 < B)
    (k2 k3 : Int) (hl0 : 1 ≤ ss.length) (hl1 : ss.length ≤ 100)
    (hn0 : 0 ≤ n) (hn1 : n ≤ 900000000000) (hes : es.length ≤ 900000) :
    Calls Tryd.prog 11 #[.pointer (some ⟨wb, 0, none⟩), .agg #[.int .i64 2, .int .i64 k2, .int .i64 k3]] w (PlaysPost L B wb n ss.length es.length w) := by
  obtain ⟨i, hi0, hi1⟩ : ∃ i : Nat, k2 % (ss.length : Int) = i ∧ i < ss.length := by
    have h1 := Int.emod_nonneg k2 (show (ss.length : Int) ≠ 0 by omega)
    have h2 := Int.emod_lt_of_pos k2 (show (0 : Int) < ss.length by omega)
    exact ⟨(k2 % (ss.length : Int)).toNat, by omega, by omega⟩
  have HI := Lib.hid hi0
  clear hi0
  have hrl := hm.1
  have hx : ss[i]? = some ss[i] := List.getElem?_eq_getElem hi1
  have hy : rs[i]? = some (rs[i]'(by omega)) := List.getElem?_eq_getElem (by omega)
  generalize ss[i] = x at hx
  generalize rs[i]'(by omega) = y at hy
  obtain ⟨m1, m2, m3⟩ := hm.2 i x y hx hy
  have M1 := Lib.hid m1
  have M2 := Lib.hid m2
  have M3 := Lib.hid m3
  have HRL := Lib.hid hrl
  clear hrl m1 m2 m3
  obtain ⟨gS, cS, rfl, rS⟩ := own_some (h.get 1 rfl) hl0
  obtain ⟨gR, cR, rfl, rR⟩ := own_some (h.get 2 rfl) (by have := HRL.out; omega)
  have hir : i < rs.length := by have := HRL.out; omega
  have cx := (rS.cell i (by omega)).trans (show (ptrs ss)[i]? = some (.pointer (some ⟨x.b, 0, none⟩)) by simp [ptrs, hx])
  have cy := (rR.cell i (by omega)).trans (show (ptrs rs)[i]? = some (.pointer (some ⟨y.b, 0, none⟩)) by simp [ptrs, hy])
  have c0 := StrAt.cell (h.get 0 rfl) 0
  have c1 := StrAt.cell (h.get 0 rfl) 1
  simp [wCells] at c0 c1
  have l0 := StrAt.lt (h.get 0 rfl)
  have lS := rS.lt
  have lR := rR.lt
  have fx := Sp.facts (h.get _ (WL_sp hx))
  have fy := Rf.facts (h.get _ (WL_rf hy))
  have HBx := Lib.hid (StrAt.new w #[.int .i64 2, .int .i64 k2, .int .i64 k3] 39)
  have HX := Lib.hid hx
  have HY := Lib.hid hy
  clear hx hy
  go_enter Tryd.func11, Tryd.ntmps11
  go_wp2_with fail
  go_quiet ((go_at_call 15; exact (place_calls _ k2 ss.length hl0 (by omega)).mono fun _ _ hh => ⟨hh.1.trans (by rw [HI.out]), _, hh.2.symm⟩))
  generalize hW : (World.alloc w _).drewN _ = W
  have hb : StrAt W w.heap.size #[.int .i64 2, .int .i64 k2, .int .i64 k3] 39 := by rw [← hW]; exact HBx.out
  have hK0 : Keeps [] w W := by rw [← hW]; exact ((Keeps.refl [] w).alloc _).drewN _
  clear hW HBx rS rR
  replace c0 := hK0.cell c0 (by simp)
  replace c1 := hK0.cell c1 (by simp)
  replace cx := hK0.cell cx (by simp)
  replace cy := hK0.cell cy (by simp)
  have b0 := hb.cell 0
  have b1 := hb.cell 1
  have b2 := hb.cell 2
  simp at b0 b1 b2
  have h1 := h.keeps0 hK0
  have hB := keeps_below (B := B) hK0 (by simp) h.le
  have hT1 := hT.below hB hB0
  have hsp := h1.get _ (WL_sp HX.out)
  have hrf := h1.get _ (WL_rf HY.out)
  go_wp2_with fail
  refine (lists_take h1 hm hT1 hB0 HX.out HY.out k2 k3 hn0 hn1 hes).mono ?_
  rintro e w1 ⟨rfl, Lv1, Wv1, n1, es1, ss1, rs1, h2, hm2, hl2, hB1, a1, a2, a3⟩
  go_wp2
  go_ret
  exact ⟨rfl, _, _, Lv1, Wv1, n1, es1, ss1, rs1, h2, hm2, by omega, by omega, hB.trans hB1, a1, a2, a3⟩

set_option maxHeartbeats 4000000 in
theorem plays_fill {B wb : Nat} {L : List Thing} {w : World} {Sv Rv Lv Wv : Value} {n : Int} {ss rs : List SI} {es : List EI} (h : Has B w (WL wb Sv Rv Lv Wv n ss rs es L)) (hm : Match ss rs) (hT : TabW w) (hB0 : 0 < B)
    (k2 k3 : Int) (hl0 : 1 ≤ ss.length) (hl1 : ss.length ≤ 100)
    (hn0 : 0 ≤ n) (hn1 : n ≤ 900000000000) (hes : es.length ≤ 900000) :
    Calls Tryd.prog 11 #[.pointer (some ⟨wb, 0, none⟩), .agg #[.int .i64 9, .int .i64 k2, .int .i64 k3]] w (PlaysPost L B wb n ss.length es.length w) := by
  obtain ⟨i, hi0, hi1⟩ : ∃ i : Nat, k2 % (ss.length : Int) = i ∧ i < ss.length := by
    have h1 := Int.emod_nonneg k2 (show (ss.length : Int) ≠ 0 by omega)
    have h2 := Int.emod_lt_of_pos k2 (show (0 : Int) < ss.length by omega)
    exact ⟨(k2 % (ss.length : Int)).toNat, by omega, by omega⟩
  have HI := Lib.hid hi0
  clear hi0
  have hrl := hm.1
  have hx : ss[i]? = some ss[i] := List.getElem?_eq_getElem hi1
  have hy : rs[i]? = some (rs[i]'(by omega)) := List.getElem?_eq_getElem (by omega)
  generalize ss[i] = x at hx
  generalize rs[i]'(by omega) = y at hy
  obtain ⟨m1, m2, m3⟩ := hm.2 i x y hx hy
  have M1 := Lib.hid m1
  have M2 := Lib.hid m2
  have M3 := Lib.hid m3
  have HRL := Lib.hid hrl
  clear hrl m1 m2 m3
  obtain ⟨gS, cS, rfl, rS⟩ := own_some (h.get 1 rfl) hl0
  obtain ⟨gR, cR, rfl, rR⟩ := own_some (h.get 2 rfl) (by have := HRL.out; omega)
  have hir : i < rs.length := by have := HRL.out; omega
  have cx := (rS.cell i (by omega)).trans (show (ptrs ss)[i]? = some (.pointer (some ⟨x.b, 0, none⟩)) by simp [ptrs, hx])
  have cy := (rR.cell i (by omega)).trans (show (ptrs rs)[i]? = some (.pointer (some ⟨y.b, 0, none⟩)) by simp [ptrs, hy])
  have c0 := StrAt.cell (h.get 0 rfl) 0
  have c1 := StrAt.cell (h.get 0 rfl) 1
  simp [wCells] at c0 c1
  have l0 := StrAt.lt (h.get 0 rfl)
  have lS := rS.lt
  have lR := rR.lt
  have fx := Sp.facts (h.get _ (WL_sp hx))
  have fy := Rf.facts (h.get _ (WL_rf hy))
  have HBx := Lib.hid (StrAt.new w #[.int .i64 9, .int .i64 k2, .int .i64 k3] 39)
  have HX := Lib.hid hx
  have HY := Lib.hid hy
  clear hx hy
  go_enter Tryd.func11, Tryd.ntmps11
  go_wp2_with fail
  go_quiet ((go_at_call 15; exact (place_calls _ k2 ss.length hl0 (by omega)).mono fun _ _ hh => ⟨hh.1.trans (by rw [HI.out]), _, hh.2.symm⟩))
  generalize hW : (World.alloc w _).drewN _ = W
  have hb : StrAt W w.heap.size #[.int .i64 9, .int .i64 k2, .int .i64 k3] 39 := by rw [← hW]; exact HBx.out
  have hK0 : Keeps [] w W := by rw [← hW]; exact ((Keeps.refl [] w).alloc _).drewN _
  clear hW HBx rS rR
  replace c0 := hK0.cell c0 (by simp)
  replace c1 := hK0.cell c1 (by simp)
  replace cx := hK0.cell cx (by simp)
  replace cy := hK0.cell cy (by simp)
  have b0 := hb.cell 0
  have b1 := hb.cell 1
  have b2 := hb.cell 2
  simp at b0 b1 b2
  have h1 := h.keeps0 hK0
  have hB := keeps_below (B := B) hK0 (by simp) h.le
  have hT1 := hT.below hB hB0
  have hsp := h1.get _ (WL_sp HX.out)
  have hrf := h1.get _ (WL_rf HY.out)
  go_wp2_with fail
  refine (lists_fill h1 hm hT1 hB0 HX.out HY.out k2 k3 hn0 hn1 hes).mono ?_
  rintro e w1 ⟨rfl, Lv1, Wv1, n1, es1, ss1, rs1, h2, hm2, hl2, hB1, a1, a2, a3⟩
  go_wp2
  go_ret
  exact ⟨rfl, _, _, Lv1, Wv1, n1, es1, ss1, rs1, h2, hm2, by omega, by omega, hB.trans hB1, a1, a2, a3⟩

set_option maxHeartbeats 4000000 in
theorem plays_claim {B wb : Nat} {L : List Thing} {w : World} {Sv Rv Lv Wv : Value} {n : Int} {ss rs : List SI} {es : List EI} (h : Has B w (WL wb Sv Rv Lv Wv n ss rs es L)) (hm : Match ss rs) (hT : TabW w) (hB0 : 0 < B)
    (k2 k3 : Int) (hl0 : 1 ≤ ss.length) (hl1 : ss.length ≤ 100)
    (hn0 : 0 ≤ n) (hn1 : n ≤ 900000000000) (hes : es.length ≤ 900000) :
    Calls Tryd.prog 11 #[.pointer (some ⟨wb, 0, none⟩), .agg #[.int .i64 3, .int .i64 k2, .int .i64 k3]] w (PlaysPost L B wb n ss.length es.length w) := by
  obtain ⟨i, hi0, hi1⟩ : ∃ i : Nat, k2 % (ss.length : Int) = i ∧ i < ss.length := by
    have h1 := Int.emod_nonneg k2 (show (ss.length : Int) ≠ 0 by omega)
    have h2 := Int.emod_lt_of_pos k2 (show (0 : Int) < ss.length by omega)
    exact ⟨(k2 % (ss.length : Int)).toNat, by omega, by omega⟩
  have HI := Lib.hid hi0
  clear hi0
  have hrl := hm.1
  have hx : ss[i]? = some ss[i] := List.getElem?_eq_getElem hi1
  have hy : rs[i]? = some (rs[i]'(by omega)) := List.getElem?_eq_getElem (by omega)
  generalize ss[i] = x at hx
  generalize rs[i]'(by omega) = y at hy
  obtain ⟨m1, m2, m3⟩ := hm.2 i x y hx hy
  have M1 := Lib.hid m1
  have M2 := Lib.hid m2
  have M3 := Lib.hid m3
  have HRL := Lib.hid hrl
  clear hrl m1 m2 m3
  obtain ⟨gS, cS, rfl, rS⟩ := own_some (h.get 1 rfl) hl0
  obtain ⟨gR, cR, rfl, rR⟩ := own_some (h.get 2 rfl) (by have := HRL.out; omega)
  have hir : i < rs.length := by have := HRL.out; omega
  have cx := (rS.cell i (by omega)).trans (show (ptrs ss)[i]? = some (.pointer (some ⟨x.b, 0, none⟩)) by simp [ptrs, hx])
  have cy := (rR.cell i (by omega)).trans (show (ptrs rs)[i]? = some (.pointer (some ⟨y.b, 0, none⟩)) by simp [ptrs, hy])
  have c0 := StrAt.cell (h.get 0 rfl) 0
  have c1 := StrAt.cell (h.get 0 rfl) 1
  simp [wCells] at c0 c1
  have l0 := StrAt.lt (h.get 0 rfl)
  have lS := rS.lt
  have lR := rR.lt
  have fx := Sp.facts (h.get _ (WL_sp hx))
  have fy := Rf.facts (h.get _ (WL_rf hy))
  have HBx := Lib.hid (StrAt.new w #[.int .i64 3, .int .i64 k2, .int .i64 k3] 39)
  have HX := Lib.hid hx
  have HY := Lib.hid hy
  clear hx hy
  go_enter Tryd.func11, Tryd.ntmps11
  go_wp2_with fail
  go_quiet ((go_at_call 15; exact (place_calls _ k2 ss.length hl0 (by omega)).mono fun _ _ hh => ⟨hh.1.trans (by rw [HI.out]), _, hh.2.symm⟩))
  generalize hW : (World.alloc w _).drewN _ = W
  have hb : StrAt W w.heap.size #[.int .i64 3, .int .i64 k2, .int .i64 k3] 39 := by rw [← hW]; exact HBx.out
  have hK0 : Keeps [] w W := by rw [← hW]; exact ((Keeps.refl [] w).alloc _).drewN _
  clear hW HBx rS rR
  replace c0 := hK0.cell c0 (by simp)
  replace c1 := hK0.cell c1 (by simp)
  replace cx := hK0.cell cx (by simp)
  replace cy := hK0.cell cy (by simp)
  have b0 := hb.cell 0
  have b1 := hb.cell 1
  have b2 := hb.cell 2
  simp at b0 b1 b2
  have h1 := h.keeps0 hK0
  have hB := keeps_below (B := B) hK0 (by simp) h.le
  have hT1 := hT.below hB hB0
  have hsp := h1.get _ (WL_sp HX.out)
  have hrf := h1.get _ (WL_rf HY.out)
  have b2' : W.drew.cell? ⟨w.heap.size, 2, none⟩ = some (.int .i64 k3) := b2
  have hspD := Sp.keeps hsp (drew_keeps W) (by simp) (by simp)
  have hrfD := Rf.keeps hrf (drew_keeps W) (by simp) (by simp)
  have hne1 : ∀ k ∈ (rfT y).fp, k ∉ (spT x).fp := h1.ne _ _ (WL_rf HY.out) (WL_sp HX.out) (by omega)
  have hn1 : y.b ∉ [x.b, x.g] := hne1 y.b (by simp [rfT])
  have hn2 : y.g ∉ [x.b, x.g] := hne1 y.g (by simp [rfT])
  go_wp2_with fail
  go_region_held3 (fun W' => W'.cell? ⟨w.heap.size, 2, none⟩ = some (.int .i64 k3)) (first | exact b2' | assumption | exact hk20.cell (by assumption) (by simp; omega) | exact hk33.cell (by assumption) (by simp; omega)) (first | (go_at_call 20; refine (claim_calls hspD _).mono ?_; rintro e w' ⟨rfl, hs20, hk20⟩) | (go_at_call 33; refine (rclaim_calls (hrfD.keeps hk20 hn1 hn2) _).mono ?_; rintro e w' ⟨rfl, hs33, hk33⟩; rw [← M1.out, ← M3.out]) | fail)
  rw [← M1.out, ← M3.out] at hs33
  obtain ⟨h2, hB1⟩ := h1.sp HX.out hs20 (((drew_keeps W).mono (by simp)).trans' hk20)
  obtain ⟨h3, hB2⟩ := h2.rf HY.out (by first | (rw [← M1.out]; exact hs33) | (rw [← M1.out, ← M2.out]; exact hs33)) hk33
  go_wp2
  go_ret
  exact ⟨by simp, _, _, Lv, Wv, n, es, _, _, h3, hm.set HX.out HY.out _, by simp, by simp; omega, hB.trans (hB1.trans hB2), by omega, by omega, by omega⟩

set_option maxHeartbeats 4000000 in
theorem plays_give {B wb : Nat} {L : List Thing} {w : World} {Sv Rv Lv Wv : Value} {n : Int} {ss rs : List SI} {es : List EI} (h : Has B w (WL wb Sv Rv Lv Wv n ss rs es L)) (hm : Match ss rs) (hT : TabW w) (hB0 : 0 < B)
    (k2 k3 : Int) (hl0 : 1 ≤ ss.length) (hl1 : ss.length ≤ 100)
    (hn0 : 0 ≤ n) (hn1 : n ≤ 900000000000) (hes : es.length ≤ 900000) :
    Calls Tryd.prog 11 #[.pointer (some ⟨wb, 0, none⟩), .agg #[.int .i64 4, .int .i64 k2, .int .i64 k3]] w (PlaysPost L B wb n ss.length es.length w) := by
  obtain ⟨i, hi0, hi1⟩ : ∃ i : Nat, k2 % (ss.length : Int) = i ∧ i < ss.length := by
    have h1 := Int.emod_nonneg k2 (show (ss.length : Int) ≠ 0 by omega)
    have h2 := Int.emod_lt_of_pos k2 (show (0 : Int) < ss.length by omega)
    exact ⟨(k2 % (ss.length : Int)).toNat, by omega, by omega⟩
  have HI := Lib.hid hi0
  clear hi0
  have hrl := hm.1
  have hx : ss[i]? = some ss[i] := List.getElem?_eq_getElem hi1
  have hy : rs[i]? = some (rs[i]'(by omega)) := List.getElem?_eq_getElem (by omega)
  generalize ss[i] = x at hx
  generalize rs[i]'(by omega) = y at hy
  obtain ⟨m1, m2, m3⟩ := hm.2 i x y hx hy
  have M1 := Lib.hid m1
  have M2 := Lib.hid m2
  have M3 := Lib.hid m3
  have HRL := Lib.hid hrl
  clear hrl m1 m2 m3
  obtain ⟨gS, cS, rfl, rS⟩ := own_some (h.get 1 rfl) hl0
  obtain ⟨gR, cR, rfl, rR⟩ := own_some (h.get 2 rfl) (by have := HRL.out; omega)
  have hir : i < rs.length := by have := HRL.out; omega
  have cx := (rS.cell i (by omega)).trans (show (ptrs ss)[i]? = some (.pointer (some ⟨x.b, 0, none⟩)) by simp [ptrs, hx])
  have cy := (rR.cell i (by omega)).trans (show (ptrs rs)[i]? = some (.pointer (some ⟨y.b, 0, none⟩)) by simp [ptrs, hy])
  have c0 := StrAt.cell (h.get 0 rfl) 0
  have c1 := StrAt.cell (h.get 0 rfl) 1
  simp [wCells] at c0 c1
  have l0 := StrAt.lt (h.get 0 rfl)
  have lS := rS.lt
  have lR := rR.lt
  have fx := Sp.facts (h.get _ (WL_sp hx))
  have fy := Rf.facts (h.get _ (WL_rf hy))
  have HBx := Lib.hid (StrAt.new w #[.int .i64 4, .int .i64 k2, .int .i64 k3] 39)
  have HX := Lib.hid hx
  have HY := Lib.hid hy
  clear hx hy
  go_enter Tryd.func11, Tryd.ntmps11
  go_wp2_with fail
  go_quiet ((go_at_call 15; exact (place_calls _ k2 ss.length hl0 (by omega)).mono fun _ _ hh => ⟨hh.1.trans (by rw [HI.out]), _, hh.2.symm⟩))
  generalize hW : (World.alloc w _).drewN _ = W
  have hb : StrAt W w.heap.size #[.int .i64 4, .int .i64 k2, .int .i64 k3] 39 := by rw [← hW]; exact HBx.out
  have hK0 : Keeps [] w W := by rw [← hW]; exact ((Keeps.refl [] w).alloc _).drewN _
  clear hW HBx rS rR
  replace c0 := hK0.cell c0 (by simp)
  replace c1 := hK0.cell c1 (by simp)
  replace cx := hK0.cell cx (by simp)
  replace cy := hK0.cell cy (by simp)
  have b0 := hb.cell 0
  have b1 := hb.cell 1
  have b2 := hb.cell 2
  simp at b0 b1 b2
  have h1 := h.keeps0 hK0
  have hB := keeps_below (B := B) hK0 (by simp) h.le
  have hT1 := hT.below hB hB0
  have hsp := h1.get _ (WL_sp HX.out)
  have hrf := h1.get _ (WL_rf HY.out)
  have b2' : W.drew.cell? ⟨w.heap.size, 2, none⟩ = some (.int .i64 k3) := b2
  have hspD := Sp.keeps hsp (drew_keeps W) (by simp) (by simp)
  have hrfD := Rf.keeps hrf (drew_keeps W) (by simp) (by simp)
  have hne1 : ∀ k ∈ (rfT y).fp, k ∉ (spT x).fp := h1.ne _ _ (WL_rf HY.out) (WL_sp HX.out) (by omega)
  have hn1 : y.b ∉ [x.b, x.g] := hne1 y.b (by simp [rfT])
  have hn2 : y.g ∉ [x.b, x.g] := hne1 y.g (by simp [rfT])
  go_wp2_with fail
  go_region_held3 (fun W' => W'.cell? ⟨w.heap.size, 2, none⟩ = some (.int .i64 k3)) (first | exact b2' | assumption | exact hk20.cell (by assumption) (by simp; omega) | exact hk33.cell (by assumption) (by simp; omega)) (first | (go_at_call 21; refine (give_calls hspD _).mono ?_; rintro e w' ⟨rfl, hs20, hk20⟩) | (go_at_call 34; refine (rgive_calls (hrfD.keeps hk20 hn1 hn2) _).mono ?_; rintro e w' ⟨rfl, hs33, hk33⟩; rw [← M1.out, ← M2.out, ← M3.out]) | fail)
  rw [← M1.out, ← M2.out, ← M3.out] at hs33
  obtain ⟨h2, hB1⟩ := h1.sp HX.out hs20 (((drew_keeps W).mono (by simp)).trans' hk20)
  obtain ⟨h3, hB2⟩ := h2.rf HY.out (by first | (rw [← M1.out]; exact hs33) | (rw [← M1.out, ← M2.out]; exact hs33)) hk33
  go_wp2
  go_ret
  exact ⟨by simp, _, _, Lv, Wv, n, es, _, _, h3, hm.set HX.out HY.out _, by simp, by simp; omega, hB.trans (hB1.trans hB2), by omega, by omega, by omega⟩

set_option maxHeartbeats 4000000 in
theorem plays_has {B wb : Nat} {L : List Thing} {w : World} {Sv Rv Lv Wv : Value} {n : Int} {ss rs : List SI} {es : List EI} (h : Has B w (WL wb Sv Rv Lv Wv n ss rs es L)) (hm : Match ss rs) (hT : TabW w) (hB0 : 0 < B)
    (k2 k3 : Int) (hl0 : 1 ≤ ss.length) (hl1 : ss.length ≤ 100)
    (hn0 : 0 ≤ n) (hn1 : n ≤ 900000000000) (hes : es.length ≤ 900000) :
    Calls Tryd.prog 11 #[.pointer (some ⟨wb, 0, none⟩), .agg #[.int .i64 5, .int .i64 k2, .int .i64 k3]] w (PlaysPost L B wb n ss.length es.length w) := by
  obtain ⟨i, hi0, hi1⟩ : ∃ i : Nat, k2 % (ss.length : Int) = i ∧ i < ss.length := by
    have h1 := Int.emod_nonneg k2 (show (ss.length : Int) ≠ 0 by omega)
    have h2 := Int.emod_lt_of_pos k2 (show (0 : Int) < ss.length by omega)
    exact ⟨(k2 % (ss.length : Int)).toNat, by omega, by omega⟩
  have HI := Lib.hid hi0
  clear hi0
  have hrl := hm.1
  have hx : ss[i]? = some ss[i] := List.getElem?_eq_getElem hi1
  have hy : rs[i]? = some (rs[i]'(by omega)) := List.getElem?_eq_getElem (by omega)
  generalize ss[i] = x at hx
  generalize rs[i]'(by omega) = y at hy
  obtain ⟨m1, m2, m3⟩ := hm.2 i x y hx hy
  have M1 := Lib.hid m1
  have M2 := Lib.hid m2
  have M3 := Lib.hid m3
  have HRL := Lib.hid hrl
  clear hrl m1 m2 m3
  obtain ⟨gS, cS, rfl, rS⟩ := own_some (h.get 1 rfl) hl0
  obtain ⟨gR, cR, rfl, rR⟩ := own_some (h.get 2 rfl) (by have := HRL.out; omega)
  have hir : i < rs.length := by have := HRL.out; omega
  have cx := (rS.cell i (by omega)).trans (show (ptrs ss)[i]? = some (.pointer (some ⟨x.b, 0, none⟩)) by simp [ptrs, hx])
  have cy := (rR.cell i (by omega)).trans (show (ptrs rs)[i]? = some (.pointer (some ⟨y.b, 0, none⟩)) by simp [ptrs, hy])
  have c0 := StrAt.cell (h.get 0 rfl) 0
  have c1 := StrAt.cell (h.get 0 rfl) 1
  simp [wCells] at c0 c1
  have l0 := StrAt.lt (h.get 0 rfl)
  have lS := rS.lt
  have lR := rR.lt
  have fx := Sp.facts (h.get _ (WL_sp hx))
  have fy := Rf.facts (h.get _ (WL_rf hy))
  have HBx := Lib.hid (StrAt.new w #[.int .i64 5, .int .i64 k2, .int .i64 k3] 39)
  have HX := Lib.hid hx
  have HY := Lib.hid hy
  clear hx hy
  go_enter Tryd.func11, Tryd.ntmps11
  go_wp2_with fail
  go_quiet ((go_at_call 15; exact (place_calls _ k2 ss.length hl0 (by omega)).mono fun _ _ hh => ⟨hh.1.trans (by rw [HI.out]), _, hh.2.symm⟩))
  generalize hW : (World.alloc w _).drewN _ = W
  have hb : StrAt W w.heap.size #[.int .i64 5, .int .i64 k2, .int .i64 k3] 39 := by rw [← hW]; exact HBx.out
  have hK0 : Keeps [] w W := by rw [← hW]; exact ((Keeps.refl [] w).alloc _).drewN _
  clear hW HBx rS rR
  replace c0 := hK0.cell c0 (by simp)
  replace c1 := hK0.cell c1 (by simp)
  replace cx := hK0.cell cx (by simp)
  replace cy := hK0.cell cy (by simp)
  have b0 := hb.cell 0
  have b1 := hb.cell 1
  have b2 := hb.cell 2
  simp at b0 b1 b2
  have h1 := h.keeps0 hK0
  have hB := keeps_below (B := B) hK0 (by simp) h.le
  have hT1 := hT.below hB hB0
  have hsp := h1.get _ (WL_sp HX.out)
  have hrf := h1.get _ (WL_rf HY.out)
  have b2' : W.drew.cell? ⟨w.heap.size, 2, none⟩ = some (.int .i64 k3) := b2
  have hspD := Sp.keeps hsp (drew_keeps W) (by simp) (by simp)
  have hrfD := Rf.keeps hrf (drew_keeps W) (by simp) (by simp)
  go_wp2_with fail
  go_region_held3 (fun W' => W'.cell? ⟨w.heap.size, 2, none⟩ = some (.int .i64 k3)) (first | exact b2' | assumption | exact hk33.cell (by assumption) (by simp)) (first | (go_at_call 25; refine (sp_has hspD _).mono ?_; rintro e w' ⟨rfl, rfl⟩) | (go_at_call 35; refine (rhas_calls hrfD _).mono ?_; rintro e w' ⟨rfl, hk33⟩; rw [← M1.out, ← M3.out]) | fail)
  have h2 := (h1.keeps0 (drew_keeps W)).keeps0 hk33
  go_wp2
  go_ret
  exact ⟨by simp, _, _, Lv, Wv, n, es, _, _, h2, hm, Nat.le_refl _, by omega, hB.trans (keeps_below ((drew_keeps W).trans' hk33) (by simp) h1.le), by omega, by omega, by omega⟩

set_option maxHeartbeats 4000000 in
theorem plays_free {B wb : Nat} {L : List Thing} {w : World} {Sv Rv Lv Wv : Value} {n : Int} {ss rs : List SI} {es : List EI} (h : Has B w (WL wb Sv Rv Lv Wv n ss rs es L)) (hm : Match ss rs) (hT : TabW w) (hB0 : 0 < B)
    (k2 k3 : Int) (hl0 : 1 ≤ ss.length) (hl1 : ss.length ≤ 100)
    (hn0 : 0 ≤ n) (hn1 : n ≤ 900000000000) (hes : es.length ≤ 900000) :
    Calls Tryd.prog 11 #[.pointer (some ⟨wb, 0, none⟩), .agg #[.int .i64 6, .int .i64 k2, .int .i64 k3]] w (PlaysPost L B wb n ss.length es.length w) := by
  obtain ⟨i, hi0, hi1⟩ : ∃ i : Nat, k2 % (ss.length : Int) = i ∧ i < ss.length := by
    have h1 := Int.emod_nonneg k2 (show (ss.length : Int) ≠ 0 by omega)
    have h2 := Int.emod_lt_of_pos k2 (show (0 : Int) < ss.length by omega)
    exact ⟨(k2 % (ss.length : Int)).toNat, by omega, by omega⟩
  have HI := Lib.hid hi0
  clear hi0
  have hrl := hm.1
  have hx : ss[i]? = some ss[i] := List.getElem?_eq_getElem hi1
  have hy : rs[i]? = some (rs[i]'(by omega)) := List.getElem?_eq_getElem (by omega)
  generalize ss[i] = x at hx
  generalize rs[i]'(by omega) = y at hy
  obtain ⟨m1, m2, m3⟩ := hm.2 i x y hx hy
  have M1 := Lib.hid m1
  have M2 := Lib.hid m2
  have M3 := Lib.hid m3
  have HRL := Lib.hid hrl
  clear hrl m1 m2 m3
  obtain ⟨gS, cS, rfl, rS⟩ := own_some (h.get 1 rfl) hl0
  obtain ⟨gR, cR, rfl, rR⟩ := own_some (h.get 2 rfl) (by have := HRL.out; omega)
  have hir : i < rs.length := by have := HRL.out; omega
  have cx := (rS.cell i (by omega)).trans (show (ptrs ss)[i]? = some (.pointer (some ⟨x.b, 0, none⟩)) by simp [ptrs, hx])
  have cy := (rR.cell i (by omega)).trans (show (ptrs rs)[i]? = some (.pointer (some ⟨y.b, 0, none⟩)) by simp [ptrs, hy])
  have c0 := StrAt.cell (h.get 0 rfl) 0
  have c1 := StrAt.cell (h.get 0 rfl) 1
  simp [wCells] at c0 c1
  have l0 := StrAt.lt (h.get 0 rfl)
  have lS := rS.lt
  have lR := rR.lt
  have fx := Sp.facts (h.get _ (WL_sp hx))
  have fy := Rf.facts (h.get _ (WL_rf hy))
  have HBx := Lib.hid (StrAt.new w #[.int .i64 6, .int .i64 k2, .int .i64 k3] 39)
  have HX := Lib.hid hx
  have HY := Lib.hid hy
  clear hx hy
  go_enter Tryd.func11, Tryd.ntmps11
  go_wp2_with fail
  go_quiet ((go_at_call 15; exact (place_calls _ k2 ss.length hl0 (by omega)).mono fun _ _ hh => ⟨hh.1.trans (by rw [HI.out]), _, hh.2.symm⟩))
  generalize hW : (World.alloc w _).drewN _ = W
  have hb : StrAt W w.heap.size #[.int .i64 6, .int .i64 k2, .int .i64 k3] 39 := by rw [← hW]; exact HBx.out
  have hK0 : Keeps [] w W := by rw [← hW]; exact ((Keeps.refl [] w).alloc _).drewN _
  clear hW HBx rS rR
  replace c0 := hK0.cell c0 (by simp)
  replace c1 := hK0.cell c1 (by simp)
  replace cx := hK0.cell cx (by simp)
  replace cy := hK0.cell cy (by simp)
  have b0 := hb.cell 0
  have b1 := hb.cell 1
  have b2 := hb.cell 2
  simp at b0 b1 b2
  have h1 := h.keeps0 hK0
  have hB := keeps_below (B := B) hK0 (by simp) h.le
  have hT1 := hT.below hB hB0
  have hsp := h1.get _ (WL_sp HX.out)
  have hrf := h1.get _ (WL_rf HY.out)
  go_wp2_with fail
  refine (sp_free hsp).mono ?_
  rintro e w1 ⟨rfl, rfl⟩
  go_wp2_with fail
  refine (rfree_calls hrf).mono ?_
  rintro e w2 ⟨rfl, hk2⟩
  rw [← M3.out]
  go_wp2
  go_ret
  exact ⟨by simp, _, _, Lv, Wv, n, es, _, _, h1.keeps0 hk2, hm, Nat.le_refl _, by omega, hB.trans (keeps_below hk2 (by simp) h1.le), by omega, by omega, by omega⟩

set_option maxHeartbeats 4000000 in
theorem plays_none {B wb : Nat} {L : List Thing} {w : World} {Sv Rv Lv Wv : Value} {n : Int} {ss rs : List SI} {es : List EI} (h : Has B w (WL wb Sv Rv Lv Wv n ss rs es L)) (hm : Match ss rs) (hT : TabW w) (hB0 : 0 < B)
    (kk : Int) (k2 k3 : Int) (hl0 : 1 ≤ ss.length) (hl1 : ss.length ≤ 100)
    (hn0 : 0 ≤ n) (hn1 : n ≤ 900000000000) (hes : es.length ≤ 900000) (a1 : (kk == 1) = false) (a2 : (kk == 2) = false) (a3 : (kk == 3) = false) (a4 : (kk == 4) = false) (a5 : (kk == 5) = false) (a6 : (kk == 6) = false) (a7 : (kk == 7) = false) (a8 : (kk == 8) = false) (a9 : (kk == 9) = false) :
    Calls Tryd.prog 11 #[.pointer (some ⟨wb, 0, none⟩), .agg #[.int .i64 kk, .int .i64 k2, .int .i64 k3]] w (PlaysPost L B wb n ss.length es.length w) := by
  obtain ⟨i, hi0, hi1⟩ : ∃ i : Nat, k2 % (ss.length : Int) = i ∧ i < ss.length := by
    have h1 := Int.emod_nonneg k2 (show (ss.length : Int) ≠ 0 by omega)
    have h2 := Int.emod_lt_of_pos k2 (show (0 : Int) < ss.length by omega)
    exact ⟨(k2 % (ss.length : Int)).toNat, by omega, by omega⟩
  have HI := Lib.hid hi0
  clear hi0
  have hrl := hm.1
  have hx : ss[i]? = some ss[i] := List.getElem?_eq_getElem hi1
  have hy : rs[i]? = some (rs[i]'(by omega)) := List.getElem?_eq_getElem (by omega)
  generalize ss[i] = x at hx
  generalize rs[i]'(by omega) = y at hy
  obtain ⟨m1, m2, m3⟩ := hm.2 i x y hx hy
  have M1 := Lib.hid m1
  have M2 := Lib.hid m2
  have M3 := Lib.hid m3
  have HRL := Lib.hid hrl
  clear hrl m1 m2 m3
  obtain ⟨gS, cS, rfl, rS⟩ := own_some (h.get 1 rfl) hl0
  obtain ⟨gR, cR, rfl, rR⟩ := own_some (h.get 2 rfl) (by have := HRL.out; omega)
  have hir : i < rs.length := by have := HRL.out; omega
  have cx := (rS.cell i (by omega)).trans (show (ptrs ss)[i]? = some (.pointer (some ⟨x.b, 0, none⟩)) by simp [ptrs, hx])
  have cy := (rR.cell i (by omega)).trans (show (ptrs rs)[i]? = some (.pointer (some ⟨y.b, 0, none⟩)) by simp [ptrs, hy])
  have c0 := StrAt.cell (h.get 0 rfl) 0
  have c1 := StrAt.cell (h.get 0 rfl) 1
  simp [wCells] at c0 c1
  have l0 := StrAt.lt (h.get 0 rfl)
  have lS := rS.lt
  have lR := rR.lt
  have fx := Sp.facts (h.get _ (WL_sp hx))
  have fy := Rf.facts (h.get _ (WL_rf hy))
  have HBx := Lib.hid (StrAt.new w #[.int .i64 kk, .int .i64 k2, .int .i64 k3] 39)
  have HX := Lib.hid hx
  have HY := Lib.hid hy
  clear hx hy
  go_enter Tryd.func11, Tryd.ntmps11
  go_wp2_with fail
  go_quiet ((go_at_call 15; exact (place_calls _ k2 ss.length hl0 (by omega)).mono fun _ _ hh => ⟨hh.1.trans (by rw [HI.out]), _, hh.2.symm⟩))
  generalize hW : (World.alloc w _).drewN _ = W
  have hb : StrAt W w.heap.size #[.int .i64 kk, .int .i64 k2, .int .i64 k3] 39 := by rw [← hW]; exact HBx.out
  have hK0 : Keeps [] w W := by rw [← hW]; exact ((Keeps.refl [] w).alloc _).drewN _
  clear hW HBx rS rR
  replace c0 := hK0.cell c0 (by simp)
  replace c1 := hK0.cell c1 (by simp)
  replace cx := hK0.cell cx (by simp)
  replace cy := hK0.cell cy (by simp)
  have b0 := hb.cell 0
  have b1 := hb.cell 1
  have b2 := hb.cell 2
  simp at b0 b1 b2
  have h1 := h.keeps0 hK0
  have hB := keeps_below (B := B) hK0 (by simp) h.le
  have hT1 := hT.below hB hB0
  have hsp := h1.get _ (WL_sp HX.out)
  have hrf := h1.get _ (WL_rf HY.out)
  go_wp2
  go_ret
  exact ⟨rfl, _, _, Lv, Wv, n, es, _, _, h1, hm, Nat.le_refl _, by omega, hB, by omega, by omega, by omega⟩

set_option maxHeartbeats 4000000 in
theorem plays_copyNo {B wb : Nat} {L : List Thing} {w : World} {Sv Rv Lv Wv : Value} {n : Int} {ss rs : List SI} {es : List EI} (h : Has B w (WL wb Sv Rv Lv Wv n ss rs es L)) (hm : Match ss rs) (hT : TabW w) (hB0 : 0 < B)
    (k2 k3 : Int) (hl0 : 1 ≤ ss.length) (hl1 : ss.length ≤ 100)
    (hn0 : 0 ≤ n) (hn1 : n ≤ 900000000000) (hes : es.length ≤ 900000) (h6 : 6 ≤ ss.length) :
    Calls Tryd.prog 11 #[.pointer (some ⟨wb, 0, none⟩), .agg #[.int .i64 8, .int .i64 k2, .int .i64 k3]] w (PlaysPost L B wb n ss.length es.length w) := by
  obtain ⟨i, hi0, hi1⟩ : ∃ i : Nat, k2 % (ss.length : Int) = i ∧ i < ss.length := by
    have h1 := Int.emod_nonneg k2 (show (ss.length : Int) ≠ 0 by omega)
    have h2 := Int.emod_lt_of_pos k2 (show (0 : Int) < ss.length by omega)
    exact ⟨(k2 % (ss.length : Int)).toNat, by omega, by omega⟩
  have HI := Lib.hid hi0
  clear hi0
  have hrl := hm.1
  have hx : ss[i]? = some ss[i] := List.getElem?_eq_getElem hi1
  have hy : rs[i]? = some (rs[i]'(by omega)) := List.getElem?_eq_getElem (by omega)
  generalize ss[i] = x at hx
  generalize rs[i]'(by omega) = y at hy
  obtain ⟨m1, m2, m3⟩ := hm.2 i x y hx hy
  have M1 := Lib.hid m1
  have M2 := Lib.hid m2
  have M3 := Lib.hid m3
  have HRL := Lib.hid hrl
  clear hrl m1 m2 m3
  obtain ⟨gS, cS, rfl, rS⟩ := own_some (h.get 1 rfl) hl0
  obtain ⟨gR, cR, rfl, rR⟩ := own_some (h.get 2 rfl) (by have := HRL.out; omega)
  have hir : i < rs.length := by have := HRL.out; omega
  have cx := (rS.cell i (by omega)).trans (show (ptrs ss)[i]? = some (.pointer (some ⟨x.b, 0, none⟩)) by simp [ptrs, hx])
  have cy := (rR.cell i (by omega)).trans (show (ptrs rs)[i]? = some (.pointer (some ⟨y.b, 0, none⟩)) by simp [ptrs, hy])
  have c0 := StrAt.cell (h.get 0 rfl) 0
  have c1 := StrAt.cell (h.get 0 rfl) 1
  simp [wCells] at c0 c1
  have l0 := StrAt.lt (h.get 0 rfl)
  have lS := rS.lt
  have lR := rR.lt
  have fx := Sp.facts (h.get _ (WL_sp hx))
  have fy := Rf.facts (h.get _ (WL_rf hy))
  have HBx := Lib.hid (StrAt.new w #[.int .i64 8, .int .i64 k2, .int .i64 k3] 39)
  have HX := Lib.hid hx
  have HY := Lib.hid hy
  clear hx hy
  go_enter Tryd.func11, Tryd.ntmps11
  go_wp2_with fail
  go_quiet ((go_at_call 15; exact (place_calls _ k2 ss.length hl0 (by omega)).mono fun _ _ hh => ⟨hh.1.trans (by rw [HI.out]), _, hh.2.symm⟩))
  generalize hW : (World.alloc w _).drewN _ = W
  have hb : StrAt W w.heap.size #[.int .i64 8, .int .i64 k2, .int .i64 k3] 39 := by rw [← hW]; exact HBx.out
  have hK0 : Keeps [] w W := by rw [← hW]; exact ((Keeps.refl [] w).alloc _).drewN _
  clear hW HBx rS rR
  replace c0 := hK0.cell c0 (by simp)
  replace c1 := hK0.cell c1 (by simp)
  replace cx := hK0.cell cx (by simp)
  replace cy := hK0.cell cy (by simp)
  have b0 := hb.cell 0
  have b1 := hb.cell 1
  have b2 := hb.cell 2
  simp at b0 b1 b2
  have h1 := h.keeps0 hK0
  have hB := keeps_below (B := B) hK0 (by simp) h.le
  have hT1 := hT.below hB hB0
  have hsp := h1.get _ (WL_sp HX.out)
  have hrf := h1.get _ (WL_rf HY.out)
  have h6' : ¬ (ss.length : Int) < 6 := by omega
  go_wp2
  go_ret
  exact ⟨rfl, _, _, Lv, Wv, n, es, _, _, h1, hm, Nat.le_refl _, by omega, hB, by omega, by omega, by omega⟩

set_option maxHeartbeats 4000000 in
theorem plays_copy {B wb : Nat} {L : List Thing} {w : World} {Sv Rv Lv Wv : Value} {n : Int} {ss rs : List SI} {es : List EI} (h : Has B w (WL wb Sv Rv Lv Wv n ss rs es L)) (hm : Match ss rs) (hT : TabW w) (hB0 : 0 < B)
    (k2 k3 : Int) (hl0 : 1 ≤ ss.length) (hl1 : ss.length ≤ 100)
    (hn0 : 0 ≤ n) (hn1 : n ≤ 900000000000) (hes : es.length ≤ 900000) (h6 : ss.length < 6) :
    Calls Tryd.prog 11 #[.pointer (some ⟨wb, 0, none⟩), .agg #[.int .i64 8, .int .i64 k2, .int .i64 k3]] w (PlaysPost L B wb n (ss.length + 1) es.length w) := by
  obtain ⟨i, hi0, hi1⟩ : ∃ i : Nat, k2 % (ss.length : Int) = i ∧ i < ss.length := by
    have h1 := Int.emod_nonneg k2 (show (ss.length : Int) ≠ 0 by omega)
    have h2 := Int.emod_lt_of_pos k2 (show (0 : Int) < ss.length by omega)
    exact ⟨(k2 % (ss.length : Int)).toNat, by omega, by omega⟩
  have HI := Lib.hid hi0
  clear hi0
  have hrl := hm.1
  have hx : ss[i]? = some ss[i] := List.getElem?_eq_getElem hi1
  have hy : rs[i]? = some (rs[i]'(by omega)) := List.getElem?_eq_getElem (by omega)
  generalize ss[i] = x at hx
  generalize rs[i]'(by omega) = y at hy
  obtain ⟨m1, m2, m3⟩ := hm.2 i x y hx hy
  have M1 := Lib.hid m1
  have M2 := Lib.hid m2
  have M3 := Lib.hid m3
  have HRL := Lib.hid hrl
  clear hrl m1 m2 m3
  obtain ⟨gS, cS, rfl, rS⟩ := own_some (h.get 1 rfl) hl0
  obtain ⟨gR, cR, rfl, rR⟩ := own_some (h.get 2 rfl) (by have := HRL.out; omega)
  have hir : i < rs.length := by have := HRL.out; omega
  have cx := (rS.cell i (by omega)).trans (show (ptrs ss)[i]? = some (.pointer (some ⟨x.b, 0, none⟩)) by simp [ptrs, hx])
  have cy := (rR.cell i (by omega)).trans (show (ptrs rs)[i]? = some (.pointer (some ⟨y.b, 0, none⟩)) by simp [ptrs, hy])
  have c0 := StrAt.cell (h.get 0 rfl) 0
  have c1 := StrAt.cell (h.get 0 rfl) 1
  simp [wCells] at c0 c1
  have l0 := StrAt.lt (h.get 0 rfl)
  have lS := rS.lt
  have lR := rR.lt
  have fx := Sp.facts (h.get _ (WL_sp hx))
  have fy := Rf.facts (h.get _ (WL_rf hy))
  have HBx := Lib.hid (StrAt.new w #[.int .i64 8, .int .i64 k2, .int .i64 k3] 39)
  have HX := Lib.hid hx
  have HY := Lib.hid hy
  clear hx hy
  go_enter Tryd.func11, Tryd.ntmps11
  go_wp2_with fail
  go_quiet ((go_at_call 15; exact (place_calls _ k2 ss.length hl0 (by omega)).mono fun _ _ hh => ⟨hh.1.trans (by rw [HI.out]), _, hh.2.symm⟩))
  generalize hW : (World.alloc w _).drewN _ = W
  have hb : StrAt W w.heap.size #[.int .i64 8, .int .i64 k2, .int .i64 k3] 39 := by rw [← hW]; exact HBx.out
  have hK0 : Keeps [] w W := by rw [← hW]; exact ((Keeps.refl [] w).alloc _).drewN _
  clear hW HBx rS rR
  replace c0 := hK0.cell c0 (by simp)
  replace c1 := hK0.cell c1 (by simp)
  replace cx := hK0.cell cx (by simp)
  replace cy := hK0.cell cy (by simp)
  have b0 := hb.cell 0
  have b1 := hb.cell 1
  have b2 := hb.cell 2
  simp at b0 b1 b2
  have h1 := h.keeps0 hK0
  have hB := keeps_below (B := B) hK0 (by simp) h.le
  have hT1 := hT.below hB hB0
  have hsp := h1.get _ (WL_sp HX.out)
  have hrf := h1.get _ (WL_rf HY.out)
  have h6' : (ss.length : Int) < 6 := by omega
  go_wp2_with fail
  refine (copy_calls hsp).mono ?_
  rintro e w1 ⟨b', g', cap', rfl, hs1, hb1, hg1, hk1⟩
  obtain ⟨h2, hB1⟩ := h1.cons (t' := spT ⟨b', g', cap', x.fr, x.to, x.is⟩) hk1 hs1 (by have := hs1.facts; simp [spT]; omega) (fun k hk => by simp [spT] at hk; omega)
  clear cx cy b0 b1 b2 c0 c1
  have c0 := StrAt.cell (h2.get 1 rfl) 0
  have c1 := StrAt.cell (h2.get 1 rfl) 1
  simp [wCells] at c0 c1
  go_wp2_with (at_builtin; refine wp_push rfl _ _ 28 35 (.pointer none) 1 8 rfl Tryd.underlying28 info35 rfl (by omega) (by omega) (.slice (some ⟨gS, 0, none⟩) ss.length cS) ss.length (ptrs ss) #[.pointer (some ⟨b', 0, none⟩)] rfl rfl (by simp) rfl ?d1 (h2.get 2 rfl) ?d2 ?_)
  case d1 => simp [Value.oneCell']
  case d2 => omega
  intro v1 w3 hown hk3 hf3
  obtain ⟨gS', pS, rfl, _⟩ := own_some hown (by omega)
  obtain ⟨h3, hB3⟩ := h2.row 2 rfl hown hk3 hf3
  clear hown hk3 hf3 c0 c1
  have c0 := StrAt.cell (h3.get 1 rfl) 0
  have c1 := StrAt.cell (h3.get 1 rfl) 1
  have f0 := StrAt.frozen (h3.get 1 rfl) 0
  simp [wCells] at c0 c1
  obtain ⟨h4, hB4⟩ := h3.store 1 rfl 0 (.slice (some ⟨gS', 0, none⟩) (ss.length + 1) pS)
  go_wp2_with fail
  generalize World.setCell w3 _ _ = W4 at *
  clear c0 c1 f0 h1 h2 h3
  have c1 := StrAt.cell (h4.get 1 rfl) 1
  have f1 := StrAt.frozen (h4.get 1 rfl) 1
  simp [wCells] at c1
  have hmy : rfT y ∈ rs.map rfT := List.mem_map_of_mem (List.mem_of_getElem? HY.out)
  have h4' : Has B W4 (spT ⟨b', g', cap', x.fr, x.to, x.is⟩ :: strT wb (wCells (.slice (some ⟨gS', 0, none⟩) (ss.length + 1) pS) (.slice (some ⟨gR, 0, none⟩) rs.length cR) Lv Wv n) 34 :: rowT (.slice (some ⟨gS', 0, none⟩) (ss.length + 1) pS) 35 1 (ss.length + 1) (ptrs ss ++ [.pointer (some ⟨b', 0, none⟩)]) :: rowT (.slice (some ⟨gR, 0, none⟩) rs.length cR) 36 1 rs.length (ptrs rs) :: rowT Lv 49 1 es.length (es.map EI.v) :: rowT Wv 49 1 es.length (es.map EI.c) :: (ss.map spT ++ (rs.map rfT ++ (es.map (fun e => intsT e.v e.l) ++ (es.map (fun e => intsT e.c e.l) ++ L))))) := h4
  have hle4 := h4'.le
  have h4D := h4'.keeps0 (drew_keeps W4)
  clear h4 h4'
  have hrf4 := h4D.all (rfT y) (by simp only [List.mem_cons, List.mem_append]; exact .inr (.inr (.inr (.inr (.inr (.inr (.inr (.inl hmy))))))))
  have c1D : W4.drew.cell? ⟨wb, 1, none⟩ = some (.slice (some ⟨gR, 0, none⟩) rs.length cR) := c1
  have f1D : W4.drew.frozen? ⟨wb, 1, none⟩ = false := f1
  go_region_law (first | (refine step_push rfl _ _ 29 36 (.pointer none) 1 8 rfl Tryd.underlying29 info36 rfl (by omega) (by omega) (.slice (some ⟨gR, 0, none⟩) rs.length cR) rs.length (ptrs rs) #[.pointer (some ⟨rb, 0, none⟩)] rfl rfl (by simp) rfl (by simp [Value.oneCell']) (h5.get 4 rfl) (by have := HRL.out; omega) ?_; intro v6 w6 hown6 hk6 hf6; obtain ⟨gR', pR, rfl, hrow6⟩ := own_some hown6 (by omega); obtain ⟨h6', hB6⟩ := h5.row 4 rfl hown6 hk6 hf6; have c1F := (StrAt.cell (h6'.get 2 rfl) 1).trans (show _ = some (.slice (some ⟨gR, 0, none⟩) rs.length cR) from rfl); have f1F := StrAt.frozen (h6'.get 2 rfl) 1) | (go_simp; go_at_call 37; refine (rcopy_calls hrf4).mono ?_; rintro e w' ⟨rb, rg, rcap, rfl, hs5, hb5, hg5, hk5⟩; obtain ⟨h5, hB5⟩ := h4D.cons (t' := rfT ⟨rb, rg, rcap, y.fr, y.to, y.is⟩) hk5 hs5 (by have := hs5.facts; simp [rfT]; omega) (fun k hk => by simp [rfT] at hk; omega); have c1E := (StrAt.cell (h5.get 2 rfl) 1).trans (show _ = some (.slice (some ⟨gR, 0, none⟩) rs.length cR) from rfl); have f1E := StrAt.frozen (h5.get 2 rfl) 1; have lwb := StrAt.lt (h5.get 2 rfl)) | fail)
  all_goals
    obtain ⟨h7, hB7⟩ := h6'.store 2 rfl 1 (.slice (some ⟨gR', 0, none⟩) (rs.length + 1) pR)
    go_wp2
    go_ret
    refine ⟨rfl, .slice (some ⟨gS', 0, none⟩) (ss.length + 1) pS, .slice (some ⟨gR', 0, none⟩) (rs.length + 1) pR, Lv, Wv, n, es, ss ++ [⟨b', g', cap', x.fr, x.to, x.is⟩], rs ++ [⟨rb, rg, rcap, y.fr, y.to, y.is⟩], ?_, hm.add M1.out M2.out M3.out, by simp, by simp; omega, hB.trans (hB1.trans (hB3.trans (hB4.trans ((keeps_below (drew_keeps W4) (by simp) hle4).trans (hB5.trans (hB6.trans hB7)))))), by omega, by omega, by omega⟩
    refine h7.perm ?_
    have := perm_copy (rfT ⟨rb, rg, rcap, y.fr, y.to, y.is⟩) (spT ⟨b', g', cap', x.fr, x.to, x.is⟩) (strT wb (wCells (.slice (some ⟨gS', 0, none⟩) (ss.length + 1) pS) (.slice (some ⟨gR', 0, none⟩) (rs.length + 1) pR) Lv Wv n) 34 :: rowT (.slice (some ⟨gS', 0, none⟩) (ss.length + 1) pS) 35 1 (ss.length + 1) (ptrs ss ++ [.pointer (some ⟨b', 0, none⟩)]) :: rowT (.slice (some ⟨gR', 0, none⟩) (rs.length + 1) pR) 36 1 (rs.length + 1) (ptrs rs ++ [.pointer (some ⟨rb, 0, none⟩)]) :: rowT Lv 49 1 es.length (es.map EI.v) :: rowT Wv 49 1 es.length (es.map EI.c) :: []) (ss.map spT) (rs.map rfT) (es.map (fun e => intsT e.v e.l) ++ (es.map (fun e => intsT e.c e.l) ++ L))
    simp only [WL, ptrs, List.map_append, List.map_cons, List.map_nil, List.length_append, List.length_cons, List.length_nil] at this ⊢
    exact this
end Go.Proofs.YtnjjijkcenhebaaDoor
