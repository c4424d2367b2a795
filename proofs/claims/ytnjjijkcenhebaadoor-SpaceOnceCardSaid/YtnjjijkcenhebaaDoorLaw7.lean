/- The walk of SpaceApart. -/
import Derived.Test.YtnjjijkcenhebaaDoorLaw6
set_option linter.unusedVariables false
set_option linter.unusedSimpArgs false
namespace Go.Proofs.YtnjjijkcenhebaaDoor
open Go.RowKit
set_option maxRecDepth 10000

theorem perm_apart1 {α : Type} (c u s r x : α) : [c, u, s, r, x].Perm (s :: r :: c :: [x, u]) := by
  classical
  rw [List.perm_iff_count]
  intro a
  simp only [List.count_cons]
  omega
theorem perm_apart2 {α : Type} (v s r c x u : α) : [v, s, r, c, x, u].Perm (s :: r :: x :: [c, v, u]) := by
  classical
  rw [List.perm_iff_count]
  intro a
  simp only [List.count_cons]
  omega
theorem place_int (w : World) (i m : Int) (h0 : 1 ≤ m) (h1 : m ≤ 1000000) :
    Calls Tryd.prog 15 #[.int .i64 i, .int .i64 m] w fun e w' => e = .returned (.int .i64 (i % m)) ∧ w = w' := by
  obtain ⟨n, rfl⟩ := Int.eq_ofNat_of_zero_le (show 0 ≤ m by omega)
  exact place_calls w i n (by omega) (by omega)
theorem emod_nat (i m : Int) (h0 : 1 ≤ m) : ∃ k : Nat, i % m = k ∧ (k : Int) < m :=
  ⟨(i % m).toNat, by have := Int.emod_nonneg i (show m ≠ 0 by omega); omega, by have := Int.emod_nonneg i (show m ≠ 0 by omega); have := Int.emod_lt_of_pos i (show 0 < m by omega); omega⟩

set_option maxHeartbeats 4000000 in
theorem apart_walk (a0 a1 : Int) (ao bo : Option Addr) (la ca lb cb : Nat) (w : World) (hT : TabW w) (hw0 : 0 < w.heap.size) (hoa : OpsArg w.heap.size w ao la) (hob : OpsArg w.heap.size w bo lb) :
    Calls Tryd.prog 8 #[.int .i64 a0, .int .i64 a1, .slice ao la ca, .slice bo lb cb] w fun e w' => e = .returned (.bool true) ∧ Below w.heap.size w w' := by
  obtain ⟨fr, e1, f1⟩ := emod_nat a0 60000 (by omega)
  obtain ⟨m, e2, f2⟩ := emod_nat a1 300 (by omega)
  have E1 := Lib.hid e1
  have E2 := Lib.hid e2
  clear e1 e2
  have hC := Has.new w
  go_enter Tryd.func8, Tryd.ntmps8
  go_wp2_with fail
  refine (place_int w a0 60000 (by omega) (by omega)).mono ?_
  rw [E1.out]
  rintro e w1 ⟨rfl, rfl⟩
  go_wp2_with fail
  refine (place_int w a1 300 (by omega) (by omega)).mono ?_
  rw [E2.out]
  rintro e w1 ⟨rfl, rfl⟩
  go_wp2_with fail
  rw [show (fr : Int) + (1 + (m : Int)) = ((fr + (1 + m) : Nat) : Int) by omega]
  refine (new_good fr (fr + (1 + m)) w (by omega) (by omega) hw0).mono ?_
  rintro e w1 ⟨b, g, cap, rfl, hs1, hb1, hg1, hk1⟩
  obtain ⟨H1, hB1⟩ := hC.cons (t' := spT ⟨b, g, cap, fr, fr + (1 + m), List.replicate (fr + (1 + m) - fr) true⟩) hk1 hs1 (by have := hs1.facts; simp [spT]; omega) (fun k hk => by simp [spT] at hk; omega)
  go_wp2_with (first | (go_at_call 17; refine (num_calls _ _).mono ?_; rintro e w' ⟨rfl, rfl⟩) | fail)
  have fx1 := hs1.facts
  obtain ⟨H2, hB2⟩ := H1.cons (w' := w1.alloc (.cells #[.pointer (some ⟨b, 0, none⟩)] 35)) (t' := rowT (.slice (some ⟨w1.heap.size, 0, none⟩) 1 1) 35 1 1 [.pointer (some ⟨b, 0, none⟩)]) ((Keeps.refl [] w1).alloc _) (RowAt.lit w1 #[.pointer (some ⟨b, 0, none⟩)] 35 1 1 rfl (by simp [maxLen])) (rowT_nodup ..) (fun k hk => by simp [rowT, Value.ownBlock] at hk; omega)
  obtain ⟨H3, hB3⟩ := H2.cons (w' := (w1.alloc (.cells #[.pointer (some ⟨b, 0, none⟩)] 35)).alloc (.cells (wCells (.slice (some ⟨w1.heap.size, 0, none⟩) 1 1) (.slice none 0 0) (.slice none 0 0) (.slice none 0 0) 0) 34)) (t' := strT (w1.heap.size + 1) (wCells (.slice (some ⟨w1.heap.size, 0, none⟩) 1 1) (.slice none 0 0) (.slice none 0 0) (.slice none 0 0) 0) 34) ((Keeps.refl [] _).alloc _) (by have := StrAt.new (w1.alloc (.cells #[.pointer (some ⟨b, 0, none⟩)] 35)) (wCells (.slice (some ⟨w1.heap.size, 0, none⟩) 1 1) (.slice none 0 0) (.slice none 0 0) (.slice none 0 0) 0) 34; simp at this; exact this) (strT_nodup ..) (fun k hk => by simp [strT] at hk; simp; omega)
  change Has w.heap.size ((w1.alloc (.cells #[.pointer (some ⟨b, 0, none⟩)] 35)).alloc (.cells #[.slice (some ⟨w1.heap.size, 0, none⟩) 1 1, .slice none 0 0, .slice none 0 0, .slice none 0 0, .int .i64 0] 34)) (OL (w1.heap.size + 1) (.slice (some ⟨w1.heap.size, 0, none⟩) 1 1) ⟨b, g, cap, fr, fr + (1 + m), List.replicate (fr + (1 + m) - fr) true⟩ []) at H3
  have hBa := hB1.trans (hB2.trans hB3)
  refine (does_calls H3 hw0 (hT.below hBa hw0) (hoa.below hBa)).mono ?_
  rintro e w4 ⟨rfl, is1, H4, hB4⟩
  clear H1 H2 H3
  -- was
  go_wp2_with fail
  refine (list_calls (H4.get 2 rfl)).mono ?_
  rintro e w5 ⟨vw, rfl, hvw, hfw, hk5⟩
  obtain ⟨H5, hB5⟩ := H4.cons (t' := intsT vw (nums fr (trues is1))) hk5 hvw (rowT_nodup ..) (fun k hk => hfw k (by simpa [intsT, rowT] using hk))
  obtain ⟨aw, cw, rfl⟩ := own_len hvw
  -- the copy
  go_wp2_with fail
  refine (copy_calls (H5.get 3 rfl)).mono ?_
  rintro e w6 ⟨b', g', cap', rfl, hs6, hb6, hg6, hk6⟩
  obtain ⟨H6, hB6⟩ := H5.cons (t' := spT ⟨b', g', cap', fr, fr + (1 + m), is1⟩) hk6 hs6 (by have := hs6.facts; simp [spT]; omega) (fun k hk => by simp [spT] at hk; omega)
  clear H4 H5 hs6 hvw hfw
  go_wp2_with fail
  refine (list_calls (H6.get 0 rfl)).mono ?_
  rintro e w7 ⟨v7, rfl, hv7, _, hk7⟩
  have H7 := H6.keeps0 hk7
  have hB7 := keeps_below (B := w.heap.size) hk7 (by simp) H6.le
  go_wp2_with fail
  refine (same_calls hv7 (H7.get 1 rfl)).mono ?_
  rintro e w8 ⟨rfl, hk8⟩
  have H8 := H7.keeps0 hk8
  have hB8 := keeps_below (B := w.heap.size) hk8 (by simp) H7.le
  simp only [decide_true]
  clear H6 H7 hv7
  have htot : (fr : Int) + (1 + (m : Int)) = ((fr + (1 + m) : Nat) : Int) := by omega
  have HTOT := Lib.hid htot
  clear htot
  go_wp2_with fail
  refine (sp_from (H8.get 0 rfl)).mono ?_
  rintro e w' ⟨rfl, rfl⟩
  go_wp2_with fail
  refine (sp_to (H8.get 0 rfl)).mono ?_
  rintro e w' ⟨rfl, rfl⟩
  rw [← HTOT.out]
  go_wp2_with fail
  refine (sp_free (H8.get 0 rfl)).mono ?_
  rintro e w' ⟨rfl, rfl⟩
  have c0 := (StrAt.cell (H8.get 2 rfl) 0).trans (show _ = some (.slice (some ⟨w1.heap.size, 0, none⟩) 1 1) from rfl)
  have rS : RowAt w8 w1.heap.size 35 1 1 1 [.pointer (some ⟨b, 0, none⟩)] := H8.get 3 rfl
  have cS := (rS.cell 0 (by omega)).trans (show _ = some (.pointer (some ⟨b, 0, none⟩)) from rfl)
  have fS := rS.frozen 0
  obtain ⟨H9, hB9⟩ := H8.storeRow 3 rfl 0 (.pointer (some ⟨b', 0, none⟩))
  have H10 : Has w.heap.size (w8.setCell ⟨w1.heap.size, 0, none⟩ (.pointer (some ⟨b', 0, none⟩))) (OL (w1.heap.size + 1) (.slice (some ⟨w1.heap.size, 0, none⟩) 1 1) ⟨b', g', cap', fr, fr + (1 + m), is1⟩ [spT ⟨b, g, cap, fr, fr + (1 + m), is1⟩, intsT (.slice aw (nums fr (trues is1)).length cw) (nums fr (trues is1))]) := H9.perm (perm_apart1 _ _ _ _ _)
  have hnl : ((nums fr (trues is1)).length : Int) = ((trues is1).length : Int) := by rw [nums_length]
  have HNL := Lib.hid hnl
  clear hnl H8 H9 rS
  rw [← HNL.out]
  go_wp2_with fail
  clear c0 cS fS
  have hBb := hBa.trans (hB4.trans (hB5.trans (hB6.trans (hB7.trans (hB8.trans hB9)))))
  refine (does_calls H10 hw0 (hT.below hBb hw0) (hob.below hBb)).mono ?_
  rintro e w11 ⟨rfl, is2, H11, hB11⟩
  clear H10
  -- the first one tells what it told
  go_wp2_with fail
  refine (list_calls (H11.get 3 rfl)).mono ?_
  rintro e w12 ⟨v12, rfl, hv12, _, hk12⟩
  have H12 := H11.keeps0 hk12
  have hB12 := keeps_below (B := w.heap.size) hk12 (by simp) H11.le
  go_wp2_with fail
  refine (same_calls hv12 (H12.get 4 rfl)).mono ?_
  rintro e w13 ⟨rfl, hk13⟩
  have H13 := H12.keeps0 hk13
  have hB13 := keeps_below (B := w.heap.size) hk13 (by simp) H12.le
  simp only [decide_true]
  clear H11 H12 hv12
  go_wp2_with fail
  refine (sp_free (H13.get 3 rfl)).mono ?_
  rintro e w' ⟨rfl, rfl⟩
  rw [← HNL.out]
  -- now
  go_wp2_with fail
  refine (list_calls (H13.get 2 rfl)).mono ?_
  rintro e w14 ⟨v14, rfl, hv14, hf14, hk14⟩
  obtain ⟨H14, hB14⟩ := H13.cons (t' := intsT v14 (nums fr (trues is2))) hk14 hv14 (rowT_nodup ..) (fun k hk => hf14 k (by simpa [intsT, rowT] using hk))
  have c0 := (StrAt.cell (H14.get 1 rfl) 0).trans (show _ = some (.slice (some ⟨w1.heap.size, 0, none⟩) 1 1) from rfl)
  have rS : RowAt w14 w1.heap.size 35 1 1 1 [.pointer (some ⟨b', 0, none⟩)] := H14.get 2 rfl
  have cS := (rS.cell 0 (by omega)).trans (show _ = some (.pointer (some ⟨b', 0, none⟩)) from rfl)
  have fS := rS.frozen 0
  obtain ⟨H15, hB15⟩ := H14.storeRow 2 rfl 0 (.pointer (some ⟨b, 0, none⟩))
  have H16 : Has w.heap.size (w14.setCell ⟨w1.heap.size, 0, none⟩ (.pointer (some ⟨b, 0, none⟩))) (OL (w1.heap.size + 1) (.slice (some ⟨w1.heap.size, 0, none⟩) 1 1) ⟨b, g, cap, fr, fr + (1 + m), is1⟩ [spT ⟨b', g', cap', fr, fr + (1 + m), is2⟩, intsT v14 (nums fr (trues is2)), intsT (.slice aw (nums fr (trues is1)).length cw) (nums fr (trues is1))]) := H15.perm (perm_apart2 _ _ _ _ _ _)
  clear H13 H14 H15 rS hv14
  go_wp2_with fail
  clear c0 cS fS
  have hBc := hBb.trans (hB11.trans (hB12.trans (hB13.trans (hB14.trans hB15))))
  refine (does_calls H16 hw0 (hT.below hBc hw0) (hob.below hBc)).mono ?_
  rintro e w17 ⟨rfl, is3, H17, hB17⟩
  have hBd := hBc.trans hB17
  clear H16
  go_wp2_with fail
  refine (does_calls H17 hw0 (hT.below hBd hw0) (hoa.below hBd)).mono ?_
  rintro e w18 ⟨rfl, is4, H18, hB18⟩
  have hBe := hBd.trans hB18
  clear H17
  go_wp2_with fail
  refine (list_calls (H18.get 3 rfl)).mono ?_
  rintro e w19 ⟨v19, rfl, hv19, _, hk19⟩
  have H19 := H18.keeps0 hk19
  have hB19 := keeps_below (B := w.heap.size) hk19 (by simp) H18.le
  go_wp2_with fail
  refine (same_calls hv19 (H19.get 4 rfl)).mono ?_
  rintro e w20 ⟨rfl, hk20⟩
  have hB20 := keeps_below (B := w.heap.size) hk20 (by simp) H19.le
  simp only [decide_true]
  have hBf := hBe.trans (hB19.trans hB20)
  go_wp2_with fail
  refine (started_calls _ (by have := hBf.size; omega) (hT.below hBf hw0)).mono ?_
  rintro e w21 ⟨rfl, hB21⟩
  go_wp2
  go_ret
  exact ⟨rfl, hBf.trans (hB21.mono hBf.size)⟩
end Go.Proofs.YtnjjijkcenhebaaDoor
