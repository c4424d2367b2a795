/- does: calls of one space whose answers are not looked at. (Printed by gendoes.py.) -/
import Derived.Test.YtnjjijkcenhebaaDoorLaw5
set_option linter.unusedVariables false
set_option linter.unusedSimpArgs false
namespace Go.Proofs.YtnjjijkcenhebaaDoor
open Go.RowKit
set_option maxRecDepth 10000

/-- a slice of operations that came in: it lies below B -/
def OpsArg (B : Nat) (w : World) (ao : Option Addr) (len : Nat) : Prop :=
  len ≤ 9223372036854775807 ∧ ∀ i, i < len → ∃ b off z0 z1 z2, ao = some ⟨b, off, none⟩ ∧ b < B ∧ w.cell? ⟨b, off + i * 3, none⟩ = some (.int .i64 z0) ∧ w.cell? ⟨b, off + i * 3 + 1, none⟩ = some (.int .i64 z1) ∧ w.cell? ⟨b, off + i * 3 + 2, none⟩ = some (.int .i64 z2)
theorem OpsArg.below {B : Nat} {w w' : World} {ao : Option Addr} {len : Nat} (h : OpsArg B w ao len) (hb : Below B w w') : OpsArg B w' ao len :=
  ⟨h.1, fun i hi => by
    obtain ⟨b, off, z0, z1, z2, e, hB, h0, h1, h2⟩ := h.2 i hi
    exact ⟨b, off, z0, z1, z2, e, hB, (hb.cell (p := ⟨b, off + i * 3, none⟩) hB).trans h0, (hb.cell (p := ⟨b, off + i * 3 + 1, none⟩) hB).trans h1, (hb.cell (p := ⟨b, off + i * 3 + 2, none⟩) hB).trans h2⟩⟩

/-- a world with one space -/
def OL (wb : Nat) (Sv : Value) (x : SI) (L : List Thing) : List Thing := strT wb (wCells Sv (.slice none 0 0) (.slice none 0 0) (.slice none 0 0) 0) 34 :: rowT Sv 35 1 1 [.pointer (some ⟨x.b, 0, none⟩)] :: spT x :: L
def DoesPost (B wb : Nat) (Sv : Value) (x : SI) (L : List Thing) (w : World) (e : Ending) (w' : World) : Prop := e = .returned (.tuple #[]) ∧ ∃ is, Has B w' (OL wb Sv { x with is := is } L) ∧ Below B w w'
def DoesRel (B wb : Nat) (Sv : Value) (x : SI) (L : List Thing) (len : Nat) (w : World) (i : Value) (wr : World) : Prop := ∃ (j : Nat) (is : List Bool), j ≤ 100 ∧ j ≤ len ∧ i = .int .i64 (j : Int) ∧ Has B wr (OL wb Sv { x with is := is } L) ∧ Below B w wr
theorem Has.one {B wb : Nat} {Sv : Value} {x : SI} {L : List Thing} {w w' : World} {is : List Bool} (h : Has B w (OL wb Sv x L)) (hs : Sp w' x.b x.g x.cap x.fr x.to is) (hk : Keeps [x.b, x.g] w w') : Has B w' (OL wb Sv { x with is := is } L) ∧ Below B w w' :=
  h.upd 2 (t := spT x) (spT { x with is := is }) rfl hk hs (by have := hs.facts; simp [spT]; omega) (fun k hk => .inl hk)

set_option maxHeartbeats 4000000 in
theorem does_calls {B wb : Nat} {Sv : Value} {x : SI} {L : List Thing} {w : World} {ao : Option Addr} {len cap : Nat} (h : Has B w (OL wb Sv x L)) (hB0 : 0 < B) (hT : TabW w) (ho : OpsArg B w ao len) :
    Calls Tryd.prog 27 #[.pointer (some ⟨wb, 0, none⟩), .slice ao len cap] w (DoesPost B wb Sv x L w) := by
  have hlen := ho.1
  go_enter Tryd.func27, Tryd.ntmps27
  go_wp2
  go_loopw [4] (fun i wr => DoesRel B wb Sv x L len w i wr) (fun i _ => 100 - (intOf i).toNat)
  case atStart => exact ⟨0, x.is, by omega, by omega, rfl, h, Below.refl _ _⟩
  case round =>
    obtain ⟨j, is, hj1, hj2, rfl, H, hB⟩ := hrel
    by_cases hlt : j < len
    · have a1 : decide (j < len) = true := by simpa using hlt
      by_cases hlt2 : j < 100
      · have a2 : decide ((j : Int) < 100) = true := by simp; omega
        have hlt' : (j : Int) < (len : Int) := by omega
        obtain ⟨b, off, z0, z1, z2, rfl, hbB, p0, p1, p2⟩ := (ho.below hB).2 j hlt
        obtain ⟨gS, cS, rfl, rS⟩ := own_some (H.get 1 rfl) (by omega)
        have cS0 := (rS.cell 0 (by omega)).trans (show _ = some (.pointer (some ⟨x.b, 0, none⟩)) from rfl)
        have c0 := (StrAt.cell (H.get 0 rfl) 0).trans (show _ = some (.slice (some ⟨gS, 0, none⟩) 1 cS) from rfl)
        have lw := StrAt.lt (H.get 0 rfl)
        have lS := rS.lt
        have hsp := H.get 2 rfl
        have fx := Sp.facts hsp
        have hT1 := hT.below hB hB0
        have n1 : wb ∉ [x.b, x.g] := H.ne 0 2 (t := strT wb _ 34) (u := spT { x with is := is }) rfl rfl (by omega) wb (by simp [strT])
        have n2 : gS ∉ [x.b, x.g] := H.ne 1 2 (t := rowT _ 35 1 1 _) (u := spT { x with is := is }) rfl rfl (by omega) gS (by simp [rowT, Value.ownBlock])
        have hkb := (Keeps.refl [] wr).alloc (.cells #[.int .i64 z0, .int .i64 z1, .int .i64 z2] 39)
        have HBox := Lib.hid (StrAt.new wr #[.int .i64 z0, .int .i64 z1, .int .i64 z2] 39)
        have hBb := keeps_below (B := B) hkb (by simp) H.le
        have H1 := H.keeps0 hkb
        clear rS
        by_cases k1 : z0 = 1
        · subst k1
          go_wp2_with fail
          refine (take_calls (Sp.keeps hsp hkb (by simp) (by simp)) (hT1.below hBb hB0)).mono ?_
          rintro e w2 ⟨rfl, hs2, hk2⟩
          obtain ⟨H2, hB2⟩ := H1.one hs2 hk2
          have HR := Lib.hid (show DoesRel B wb _ x L len w (.int .i64 ((j + 1 : Nat) : Int)) w2 from ⟨j + 1, _, by omega, by omega, rfl, H2, hB.trans (hBb.trans hB2)⟩)
          clear H H1 H2 hs2
          go_wp2
          go_roundw
          case rel => exact HR.out
          case measure => simp [intOf]; omega
        by_cases k2 : z0 = 2
        · subst k2
          have HBx := HBox.out
          go_wp2_with fail
          generalize hW : World.alloc wr _ = W at *
          have b2 := HBx.cell 2
          simp at b2
          have q0 := hkb.cell c0 (by simp)
          have qS := hkb.cell cS0 (by simp)
          have hspD : Sp W.drew x.b x.g x.cap x.fr x.to is := Sp.keeps hsp hkb.drew (by simp) (by simp)
          have hTD : TabW W.drew := (hT1.below hBb hB0).keeps (drew_keeps W) (by simp)
          have hS : ∀ W', Keeps [x.b, x.g] W W' → W'.cell? ⟨wb, 0, none⟩ = some (.slice (some ⟨gS, 0, none⟩) 1 cS) ∧ W'.cell? ⟨gS, 0, none⟩ = some (.pointer (some ⟨x.b, 0, none⟩)) ∧ W'.cell? ⟨wr.heap.size, 2, none⟩ = some (.int .i64 z2) := fun W' hk => ⟨hk.cell q0 n1, hk.cell qS n2, hk.cell b2 (by simp; omega)⟩
          have hkD : Keeps [x.b, x.g] W W.drew := (Keeps.refl _ _).drew
          go_region_held3 (fun W' => W'.cell? ⟨wb, 0, none⟩ = some (.slice (some ⟨gS, 0, none⟩) 1 cS) ∧ W'.cell? ⟨gS, 0, none⟩ = some (.pointer (some ⟨x.b, 0, none⟩)) ∧ W'.cell? ⟨wr.heap.size, 2, none⟩ = some (.int .i64 z2)) (first | exact hS _ hkD | assumption | exact hS _ (hkD.trans' hkC)) (first | (go_at_call 19; refine (takeAll_calls hspD hTD _).mono ?_; rintro e w' ⟨vC, rfl, hvC, hfC, hsC, hkC⟩) | fail)
          obtain ⟨H2, hB2⟩ := H1.one hsC (hkD.trans' hkC)
          have HR := Lib.hid (show DoesRel B wb _ x L len w (.int .i64 ((j + 1 : Nat) : Int)) w' from ⟨j + 1, _, by omega, by omega, rfl, H2, hB.trans (hBb.trans hB2)⟩)
          clear H H1 H2 hsC
          go_wp2
          go_roundw
          case rel => exact HR.out
          case measure => simp [intOf]; omega
        by_cases k3 : z0 = 3
        · subst k3
          have HBx := HBox.out
          go_wp2_with fail
          generalize hW : World.alloc wr _ = W at *
          have b2 := HBx.cell 2
          simp at b2
          have q0 := hkb.cell c0 (by simp)
          have qS := hkb.cell cS0 (by simp)
          have hspD : Sp W.drew x.b x.g x.cap x.fr x.to is := Sp.keeps hsp hkb.drew (by simp) (by simp)
          have hTD : TabW W.drew := (hT1.below hBb hB0).keeps (drew_keeps W) (by simp)
          have hS : ∀ W', Keeps [x.b, x.g] W W' → W'.cell? ⟨wb, 0, none⟩ = some (.slice (some ⟨gS, 0, none⟩) 1 cS) ∧ W'.cell? ⟨gS, 0, none⟩ = some (.pointer (some ⟨x.b, 0, none⟩)) ∧ W'.cell? ⟨wr.heap.size, 2, none⟩ = some (.int .i64 z2) := fun W' hk => ⟨hk.cell q0 n1, hk.cell qS n2, hk.cell b2 (by simp; omega)⟩
          have hkD : Keeps [x.b, x.g] W W.drew := (Keeps.refl _ _).drew
          go_region_held3 (fun W' => W'.cell? ⟨wb, 0, none⟩ = some (.slice (some ⟨gS, 0, none⟩) 1 cS) ∧ W'.cell? ⟨gS, 0, none⟩ = some (.pointer (some ⟨x.b, 0, none⟩)) ∧ W'.cell? ⟨wr.heap.size, 2, none⟩ = some (.int .i64 z2)) (first | exact hS _ hkD | assumption | exact hS _ (hkD.trans' hkC)) (first | (go_at_call 20; refine (claim_calls hspD _).mono ?_; rintro e w' ⟨rfl, hsC, hkC⟩) | fail)
          obtain ⟨H2, hB2⟩ := H1.one hsC (hkD.trans' hkC)
          have HR := Lib.hid (show DoesRel B wb _ x L len w (.int .i64 ((j + 1 : Nat) : Int)) w' from ⟨j + 1, _, by omega, by omega, rfl, H2, hB.trans (hBb.trans hB2)⟩)
          clear H H1 H2 hsC
          go_wp2
          go_roundw
          case rel => exact HR.out
          case measure => simp [intOf]; omega
        by_cases k4 : z0 = 4
        · subst k4
          have HBx := HBox.out
          go_wp2_with fail
          generalize hW : World.alloc wr _ = W at *
          have b2 := HBx.cell 2
          simp at b2
          have q0 := hkb.cell c0 (by simp)
          have qS := hkb.cell cS0 (by simp)
          have hspD : Sp W.drew x.b x.g x.cap x.fr x.to is := Sp.keeps hsp hkb.drew (by simp) (by simp)
          have hTD : TabW W.drew := (hT1.below hBb hB0).keeps (drew_keeps W) (by simp)
          have hS : ∀ W', Keeps [x.b, x.g] W W' → W'.cell? ⟨wb, 0, none⟩ = some (.slice (some ⟨gS, 0, none⟩) 1 cS) ∧ W'.cell? ⟨gS, 0, none⟩ = some (.pointer (some ⟨x.b, 0, none⟩)) ∧ W'.cell? ⟨wr.heap.size, 2, none⟩ = some (.int .i64 z2) := fun W' hk => ⟨hk.cell q0 n1, hk.cell qS n2, hk.cell b2 (by simp; omega)⟩
          have hkD : Keeps [x.b, x.g] W W.drew := (Keeps.refl _ _).drew
          go_region_held3 (fun W' => W'.cell? ⟨wb, 0, none⟩ = some (.slice (some ⟨gS, 0, none⟩) 1 cS) ∧ W'.cell? ⟨gS, 0, none⟩ = some (.pointer (some ⟨x.b, 0, none⟩)) ∧ W'.cell? ⟨wr.heap.size, 2, none⟩ = some (.int .i64 z2)) (first | exact hS _ hkD | assumption | exact hS _ (hkD.trans' hkC)) (first | (go_at_call 21; refine (give_calls hspD _).mono ?_; rintro e w' ⟨rfl, hsC, hkC⟩) | fail)
          obtain ⟨H2, hB2⟩ := H1.one hsC (hkD.trans' hkC)
          have HR := Lib.hid (show DoesRel B wb _ x L len w (.int .i64 ((j + 1 : Nat) : Int)) w' from ⟨j + 1, _, by omega, by omega, rfl, H2, hB.trans (hBb.trans hB2)⟩)
          clear H H1 H2 hsC
          go_wp2
          go_roundw
          case rel => exact HR.out
          case measure => simp [intOf]; omega
        have d1 : (z0 == 1) = false := by simpa using k1
        have d2 : (z0 == 2) = false := by simpa using k2
        have d3 : (z0 == 3) = false := by simpa using k3
        have d4 : (z0 == 4) = false := by simpa using k4
        have HR := Lib.hid (show DoesRel B wb _ x L len w (.int .i64 ((j + 1 : Nat) : Int)) (wr.alloc (.cells #[.int .i64 z0, .int .i64 z1, .int .i64 z2] 39)) from ⟨j + 1, _, by omega, by omega, rfl, H1, hB.trans hBb⟩)
        clear H H1
        go_wp2
        go_roundw
        case rel => exact HR.out
        case measure => simp [intOf]; omega
      · have a2 : decide ((j : Int) < 100) = false := by simp; omega
        have hlt2' : ¬ (j : Int) < 100 := by omega
        go_wp2
        go_end0
        exact ⟨rfl, is, H, hB⟩
    · have a1 : decide (j < len) = false := by simpa using hlt
      have hlt' : ¬ (j : Int) < (len : Int) := by omega
      go_wp2
      go_end0
      exact ⟨rfl, is, H, hB⟩
end Go.Proofs.YtnjjijkcenhebaaDoor
