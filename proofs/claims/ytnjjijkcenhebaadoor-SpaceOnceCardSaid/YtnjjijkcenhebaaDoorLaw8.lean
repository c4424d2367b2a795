/- Untouched, Settle: the lists of the book. -/
import Derived.Test.YtnjjijkcenhebaaDoorLaw5
import Derived.ArgAppend
set_option linter.unusedVariables false
set_option linter.unusedSimpArgs false
namespace Go.Proofs.YtnjjijkcenhebaaDoor
open Go.RowKit
set_option maxRecDepth 10000

set_option maxHeartbeats 2000000 in
theorem untouched_calls {B wb : Nat} {L : List Thing} {w : World} {Sv Rv Lv Wv : Value} {n : Int} {ss rs : List SI} {es : List EI} (h : Has B w (WL wb Sv Rv Lv Wv n ss rs es L)) (hes : es.length ≤ 1000000) :
    Calls Tryd.prog 12 #[.pointer (some ⟨wb, 2, none⟩)] w fun e w' => e = .returned (.bool true) ∧ Keeps [] w w' := by
  obtain ⟨aL, cL, rfl⟩ := own_len (h.get 3 rfl)
  obtain ⟨aW, cW, rfl⟩ := own_len (h.get 4 rfl)
  go_enter Tryd.func12, Tryd.ntmps12
  go_wp2
  go_loopw [3] (fun i wr => ∃ j : Nat, j ≤ es.length ∧ i = .int .i64 (j : Int) ∧ Keeps [] w wr) (fun i _ => es.length - (intOf i).toNat)
  case atStart => exact ⟨0, Nat.zero_le _, rfl, Keeps.refl _ _⟩
  case round =>
    obtain ⟨j, hj, rfl, hk⟩ := hrel
    have c2 := StrAt.cell (h.get 0 rfl) 2
    have c3 := StrAt.cell (h.get 0 rfl) 3
    simp [wCells] at c2 c3
    replace c2 := hk.cell c2 (by simp)
    replace c3 := hk.cell c3 (by simp)
    by_cases hlt : j < es.length
    · have hlt' : (j : Int) < (es.length : Int) := by omega
      obtain ⟨gL, c9, hL, rL⟩ := own_some (h.get 3 rfl) (by omega)
      cases hL
      obtain ⟨gW, c9, hW, rW⟩ := own_some (h.get 4 rfl) (by omega)
      cases hW
      have he : es[j]? = some es[j] := List.getElem?_eq_getElem hlt
      generalize es[j] = x at he
      have hm : x ∈ es := List.mem_of_getElem? he
      have cv := hk.cell ((rL.cell j (by omega)).trans (show (es.map EI.v)[j]? = some x.v by simp [he])) (by simp)
      have cc := hk.cell ((rW.cell j (by omega)).trans (show (es.map EI.c)[j]? = some x.c by simp [he])) (by simp)
      have i1 : IntsAt w x.v x.l := h.all (intsT x.v x.l) (by simp only [WL, List.mem_cons, List.mem_append, List.mem_map]; exact .inr (.inr (.inr (.inr (.inr (.inr (.inr (.inl ⟨x, hm, rfl⟩))))))))
      have i2 : IntsAt w x.c x.l := h.all (intsT x.c x.l) (by simp only [WL, List.mem_cons, List.mem_append, List.mem_map]; exact .inr (.inr (.inr (.inr (.inr (.inr (.inr (.inr (.inl ⟨x, hm, rfl⟩)))))))))
      have i1' : IntsAt wr.drew x.v x.l := (i1.keeps hk (by simp)).keeps (drew_keeps wr) (by simp)
      have i2' : IntsAt wr.drew x.c x.l := (i2.keeps hk (by simp)).keeps (drew_keeps wr) (by simp)
      clear he hm i1 i2 rL rW
      have hS : ∀ W, Keeps [] wr W → W.cell? ⟨wb, 2, none⟩ = some (.slice (some ⟨gL, 0, none⟩) es.length cL) ∧ W.cell? ⟨wb, 3, none⟩ = some (.slice (some ⟨gW, 0, none⟩) es.length cW) ∧ W.cell? ⟨gL, j, none⟩ = some x.v ∧ W.cell? ⟨gW, j, none⟩ = some x.c ∧ Keeps [] wr W := fun W hk => ⟨hk.cell c2 (by simp), hk.cell c3 (by simp), hk.cell cv (by simp), hk.cell cc (by simp), hk⟩
      go_wp2_with fail
      go_region_held3 (fun W => W.cell? ⟨wb, 2, none⟩ = some (.slice (some ⟨gL, 0, none⟩) es.length cL) ∧ W.cell? ⟨wb, 3, none⟩ = some (.slice (some ⟨gW, 0, none⟩) es.length cW) ∧ W.cell? ⟨gL, j, none⟩ = some x.v ∧ W.cell? ⟨gW, j, none⟩ = some x.c ∧ Keeps [] wr W) (first | exact hS _ (drew_keeps wr) | assumption | exact hS _ ((drew_keeps wr).trans' (by assumption))) (first | (go_at_call 23; refine (same_calls i1' i2').mono ?_; rintro e w' ⟨rfl, hk23⟩; simp only [decide_true]) | fail)
      all_goals
        go_wp2
        go_roundw
      case rel => exact ⟨j + 1, by omega, by go_num, hk.trans' ((drew_keeps wr).trans' (by assumption))⟩
      case measure => simp [intOf]; omega
    · have hlt' : ¬ (j : Int) < (es.length : Int) := by omega
      go_wp2
      go_ret
      exact ⟨rfl, hk⟩
end Go.Proofs.YtnjjijkcenhebaaDoor
