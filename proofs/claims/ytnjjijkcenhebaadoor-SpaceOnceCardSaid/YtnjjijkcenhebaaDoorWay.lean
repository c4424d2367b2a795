/- The walk of SpaceWay. -/
import Derived.Test.YtnjjijkcenhebaaDoorPlainW
import Derived.Test.YtnjjijkcenhebaaDoorSetA
set_option linter.unusedVariables false
set_option linter.unusedSimpArgs false
namespace Go.Proofs.YtnjjijkcenhebaaDoor
open Go.RowKit
set_option maxRecDepth 10000

/-- a slice of numbers that came in: it lies below B -/
def NumsArg (B : Nat) (w : World) (ao : Option Addr) (len : Nat) : Prop :=
  len ≤ 9223372036854775807 ∧ ∀ i, i < len → ∃ b off z, ao = some ⟨b, off, none⟩ ∧ b < B ∧ w.cell? ⟨b, off + i, none⟩ = some (.int .i64 z)
theorem NumsArg.below {B : Nat} {w w' : World} {ao : Option Addr} {len : Nat} (h : NumsArg B w ao len) (hb : Below B w w') : NumsArg B w' ao len :=
  ⟨h.1, fun i hi => by
    obtain ⟨b, off, z, e, hB, h0⟩ := h.2 i hi
    exact ⟨b, off, z, e, hB, (hb.cell (p := ⟨b, off + i, none⟩) hB).trans h0⟩⟩
def goneT (g : Nat) (gl : List Bool) : Thing := rowT (.slice (some ⟨g, 0, none⟩) gl.length gl.length) 4 1 gl.length (bools gl)
def WayA (w : World) (B ba ga ca bb gb cb fr N gH len : Nat) (i : Value) (wr : World) : Prop :=
  ∃ (j : Nat) (gl : List Bool), j ≤ len ∧ i = .int .i64 (j : Int) ∧ gl.length = N ∧ Has B wr [spT ⟨ba, ga, ca, fr, fr + N, negs gl⟩, spT ⟨bb, gb, cb, fr, fr + N, List.replicate N true⟩, goneT gH gl] ∧ Below B w wr
def WayB (w : World) (B ba ga ca bb gb cb fr N gH : Nat) (gl : List Bool) (i : Value) (wr : World) : Prop :=
  ∃ k : Nat, k ≤ N ∧ ((k = 0 ∧ i = .int .i64 (-1)) ∨ ∃ q : Nat, k = q + 1 ∧ i = .int .i64 (q : Int)) ∧ Has B wr [spT ⟨ba, ga, ca, fr, fr + N, negs gl⟩, spT ⟨bb, gb, cb, fr, fr + N, part gl k⟩, goneT gH gl] ∧ Below B w wr
def WayC (w : World) (B bb gb cb fr N len : Nat) (a i : Value) (wr : World) : Prop :=
  ∃ (j ba ga ca : Nat) (is : List Bool), j ≤ 200 ∧ j ≤ len ∧ a = .pointer (some ⟨ba, 0, none⟩) ∧ i = .int .i64 (j : Int) ∧ Has B wr [spT ⟨ba, ga, ca, fr, fr + N, is⟩, spT ⟨bb, gb, cb, fr, fr + N, is⟩] ∧ Below B w wr
theorem perm_four {α : Type} (c x a b : α) : [c, x, a, b].Perm ([x, a] ++ [c, b]) := by
  classical
  rw [List.perm_iff_count]
  intro y
  simp only [List.cons_append, List.nil_append, List.count_cons, List.count_nil]
  omega
theorem perm_last {α : Type} (a b c : α) : [a, b, c].Perm ([c] ++ [a, b]) := by
  classical
  rw [List.perm_iff_count]
  intro x
  simp only [List.cons_append, List.nil_append, List.count_cons, List.count_nil]
  omega
theorem goneT_set {B : Nat} {w : World} {L : List Thing} (h : Has B w L) (i : Nat) {g : Nat} {gl : List Bool} (ht : L[i]? = some (goneT g gl)) (k : Nat) (x : Bool) :
    Has B (w.setCell ⟨g, k, none⟩ (.bool x)) (L.set i (goneT g (gl.set k x))) ∧ Below B w (w.setCell ⟨g, k, none⟩ (.bool x)) := by
  have := h.storeRow i ht k (.bool x)
  have e : goneT g (gl.set k x) = rowT (.slice (some ⟨g, 0, none⟩) gl.length gl.length) 4 1 gl.length ((bools gl).set k (.bool x)) := by simp [goneT, bools, List.map_set]
  rw [e]
  exact this

theorem made_bools (N : Nat) : (madeCells #[Value.bool false] N).toList = bools (List.replicate N false) := by
  refine List.ext_getElem (by simp [madeCells, bools]) fun i h1 h2 => ?_
  simp [madeCells, bools, Nat.mod_one]
set_option maxHeartbeats 40000000 in
theorem way_walk (a0 a1 : Int) (ao bo : Option Addr) (la ca lb cb : Nat) (w : World) (hT : TabW w) (hw0 : 0 < w.heap.size) (hoa : NumsArg w.heap.size w ao la) (hob : OpsArg w.heap.size w bo lb) :
    Calls Tryd.prog 7 #[.int .i64 a0, .int .i64 a1, .slice ao la ca, .slice bo lb cb] w fun e w' => e = .returned (.bool true) ∧ Below w.heap.size w w' := by
  obtain ⟨fr, e1, f1⟩ := emod_nat a0 60000 (by omega)
  obtain ⟨m, e2, f2⟩ := emod_nat a1 300 (by omega)
  have E1 := Lib.hid e1
  have E2 := Lib.hid e2
  clear e1 e2
  have hC := Has.new w
  have hlen := hoa.1
  have hlen2 := hob.1
  go_enter Tryd.func7, Tryd.ntmps7
  go_wp2_with fail
  refine (place_int w a0 60000 (by omega) (by omega)).mono ?_
  rw [E1.out]
  rintro e w1 ⟨rfl, rfl⟩
  go_wp2_with fail
  refine (place_int w a1 300 (by omega) (by omega)).mono ?_
  rw [E2.out]
  rintro e w1 ⟨rfl, rfl⟩
  obtain ⟨N, hN⟩ : ∃ N, N = 1 + m := ⟨_, rfl⟩
  have hN1 : 1 ≤ N := by omega
  have hN2 : N ≤ 300 := by omega
  have HN := Lib.hid (show (1 + (m : Int)) = (N : Int) by omega)
  have HF := Lib.hid (show (fr : Int) + (N : Int) = ((fr + N : Nat) : Int) by omega)
  clear hN E1 E2
  go_wp2_with fail
  rw [HN.out, HF.out]
  refine (new_good fr (fr + N) w (by omega) (by omega) hw0).mono ?_
  rintro e w1 ⟨ba, ga, ca', rfl, hs1, hb1, hg1, hk1⟩
  rw [show fr + N - fr = N by omega] at hs1
  obtain ⟨H1, hB1⟩ := hC.cons (t' := spT ⟨ba, ga, ca', fr, fr + N, List.replicate N true⟩) hk1 hs1 (by have := hs1.facts; simp [spT]; omega) (fun k hk => by simp [spT] at hk; omega)
  go_wp2_with fail
  rw [HF.out]
  refine (new_good fr (fr + N) w1 (by omega) (by omega) (by have := hB1.size; omega)).mono ?_
  rintro e w2 ⟨bb, gb, cb', rfl, hs2, hb2, hg2, hk2⟩
  rw [show fr + N - fr = N by omega] at hs2
  obtain ⟨H2, hB2⟩ := H1.cons (t' := spT ⟨bb, gb, cb', fr, fr + N, List.replicate N true⟩) hk2 hs2 (by have := hs2.facts; simp [spT]; omega) (fun k hk => by simp [spT] at hk; omega)
  clear hC H1 hs1 hs2 hk1 hk2
  go_wp2_with (first | (go_at_call 17; refine (num_calls _ _).mono ?_; rintro e w' ⟨rfl, rfl⟩) | (refine wp_make rfl _ _ 48 4 (.bool false) 1 1 rfl Tryd.underlying48 info4 N rfl rfl rfl rfl (by omega) (by simp [maxLen]; omega) ?_) | fail)
  intro w3 hr3 hk3
  have hr3' : RowAt w3 w2.heap.size 4 1 N N (bools (List.replicate N false)) := by
    rw [made_bools] at hr3
    exact hr3
  obtain ⟨H3, hB3⟩ := H2.cons (t' := goneT w2.heap.size (List.replicate N false)) hk3 (by simp [goneT, rowT]; exact hr3') (rowT_nodup ..) (fun k hk => by simp [goneT, rowT, Value.ownBlock] at hk; omega)
  have HA := Lib.hid (show WayA w w.heap.size ba ga ca' bb gb cb' fr N w2.heap.size la (.int .i64 0) w3 from ⟨0, List.replicate N false, by omega, rfl, by simp, by
    refine H3.perm ?_
    have : negs (List.replicate N false) = List.replicate N true := by simp [negs]
    rw [this]
    classical
    rw [List.perm_iff_count]
    intro a
    simp only [List.count_cons, List.count_nil]
    omega, hB1.trans (hB2.trans hB3)⟩)
  clear H2 H3 hr3 hr3' hk3 hB1 hB2 hB3
  generalize w2.heap.size = gH at *
  go_wp2_with fail
  go_loopw [14] (fun i wr => WayA w w.heap.size ba ga ca' bb gb cb' fr N gH la i wr) (fun i _ => la - (intOf i).toNat)
  case atStart => exact HA.out
  case round =>
    obtain ⟨j, gl, hj, rfl, hgl, H, hB⟩ := hrel
    by_cases hlt : j < la
    · have hlt' : (j : Int) < (la : Int) := by omega
      obtain ⟨b, off, z, rfl, hbB, p0⟩ := (hoa.below hB).2 j hlt
      obtain ⟨k, ek, fk⟩ := emod_nat z (N : Int) (by omega)
      have EK := Lib.hid ek
      clear ek
      go_wp2_with fail
      refine (place_int wr z N (by omega) (by omega)).mono ?_
      rw [EK.out]
      rintro e w4 ⟨rfl, rfl⟩
      have hkN : k < gl.length := by omega
      have hx : gl[k]? = some (gl[k]'hkN) := List.getElem?_eq_getElem hkN
      generalize gl[k]'hkN = x at hx
      have hrow : RowAt wr gH 4 1 gl.length gl.length (bools gl) := H.get 2 rfl
      have q0 := (hrow.cell k (by omega)).trans (show (bools gl)[k]? = some (.bool x) by simp [bools, hx])
      have f0 := hrow.frozen k
      have lH := hrow.lt
      have hspD : Sp wr.drew ba ga ca' fr (fr + N) (negs gl) := Sp.keeps (H.get 0 rfl) (drew_keeps wr) (by simp) (by simp)
      have q0D : wr.drew.cell? ⟨gH, k, none⟩ = some (.bool x) := q0
      have nH : gH ∉ [ba, ga] := H.ne 2 0 (t := goneT gH gl) (u := spT ⟨ba, ga, ca', fr, fr + N, negs gl⟩) rfl rfl (by omega) gH (by simp [goneT, rowT, Value.ownBlock])
      have HX := Lib.hid hx
      have HG := Lib.hid hgl
      have fk' : k < N := by omega
      clear hx hrow hgl
      have HW := Lib.hid (IntWalk.i64_in ((fr : Int) + (k : Int)) (by omega))
      go_wp2_with fail
      go_region_held3 (fun W' => W'.cell? ⟨gH, k, none⟩ = some (.bool x)) (first | exact q0D | assumption | exact hk20.cell (by assumption) nH) (first | (go_at_call 20; rw [HW.out]; refine (claim_calls hspD _).mono ?_; rintro e w' ⟨rfl, hs20, hk20⟩; rw [has_negs fr gl k x HX.out]) | fail)
      all_goals
        rw [claim_negs fr gl k x HX.out] at hs20
        obtain ⟨H5, hB5⟩ := H.upd 0 (spT ⟨ba, ga, ca', fr, fr + N, negs (gl.set k true)⟩) rfl (((drew_keeps wr).mono (by simp)).trans' hk20) hs20 (by have := hs20.facts; simp [spT]; omega) (fun k hk => .inl hk)
        have q5 := (RowAt.cell (H5.get 2 rfl) k (by omega)).trans (show (bools gl)[k]? = some (.bool x) by simp [bools, HX.out])
        have f5 := RowAt.frozen (H5.get 2 rfl) k
        obtain ⟨H6, hB6⟩ := goneT_set H5 2 rfl k true
        have HR := Lib.hid (show WayA w w.heap.size ba ga ca' bb gb cb' fr N gH la (.int .i64 ((j + 1 : Nat) : Int)) (w'.setCell ⟨gH, k, none⟩ (.bool true)) from ⟨j + 1, gl.set k true, by omega, rfl, by simpa using HG.out, H6, hB.trans (hB5.trans hB6)⟩)
        clear H5 H6 H hs20 p0
        cases x
        all_goals
          go_wp2
          go_roundw
        all_goals first | exact HR.out | (simp [intOf]; omega)
    · have hlt' : ¬ (j : Int) < (la : Int) := by omega
      go_wp2_with fail
      have hsb : Sp wr bb gb cb' fr (fr + N) (List.replicate N true) := H.get 1 rfl
      refine (takeAll_calls hsb (hT.below hB hw0) (N : Int)).mono ?_
      rintro e w5 ⟨v5, rfl, hv5, hf5, hs5, hk5⟩
      rw [all_full]
      obtain ⟨a5, c5, hv⟩ := own_len hv5
      rw [all_out] at hv
      subst hv
      rw [all_S] at hs5
      obtain ⟨H5, hB5⟩ := H.upd 1 (spT ⟨bb, gb, cb', fr, fr + N, List.replicate N false⟩) rfl hk5 hs5 (by have := hs5.facts; simp [spT]; omega) (fun k hk => .inl hk)
      have HG := Lib.hid hgl
      have HB0 := Lib.hid (show WayB w w.heap.size ba ga ca' bb gb cb' fr N gH gl (.int .i64 ((N : Int) - 1)) w5 from ⟨N, by omega, .inr ⟨N - 1, by omega, by congr 1; omega⟩, by
        have := part_all gl
        rw [hgl] at this
        rw [this]
        exact H5, hB.trans hB5⟩)
      clear H H5 hs5 hv5 hk5 hgl hf5
      go_wp2_with fail
      go_loopw [18] (fun i wr => WayB w w.heap.size ba ga ca' bb gb cb' fr N gH gl i wr) (fun i _ => (intOf i + 1).toNat)
      case atStart => exact HB0.out
      case round =>
        obtain ⟨k, hk, hki, H, hB⟩ := hrel
        rcases hki with ⟨rfl, rfl⟩ | ⟨q, rfl, rfl⟩
        · rw [part_zero] at H
          have HC0 := Lib.hid (show WayC w w.heap.size bb gb cb' fr N lb (.pointer (some ⟨ba, 0, none⟩)) (.int .i64 0) wr from ⟨0, ba, ga, ca', negs gl, by omega, by omega, rfl, rfl, (H.perm (perm_last _ _ _)).drops (D := [_]), hB⟩)
          clear H
          go_wp2_with fail
          go_loopw [9, 19] (fun a i wr => WayC w w.heap.size bb gb cb' fr N lb a i wr) (fun _ i _ => 200 - (intOf i).toNat)
          case atStart => exact HC0.out
          case round =>
            obtain ⟨j, ba, ga, ca9, is, hj1, hj2, rfl, rfl, H, hB⟩ := hrel
            by_cases hlt : j < lb
            · have b1 : decide (j < lb) = true := by simpa using hlt
              by_cases hlt2 : j < 200
              · have b2 : decide ((j : Int) < 200) = true := by simp; omega
                have hlt' : (j : Int) < (lb : Int) := by omega
                obtain ⟨b, off, z0, z1, z2, rfl, hbB, p0, p1, p2⟩ := (hob.below hB).2 j hlt
                obtain ⟨H1, hB1⟩ := H.cons (w' := wr.alloc (.cells #[.int .i64 z0, .int .i64 z1, .int .i64 z2] 39)) (t' := strT wr.heap.size #[.int .i64 z0, .int .i64 z1, .int .i64 z2] 39) ((Keeps.refl [] wr).alloc _) (StrAt.new wr _ 39) (strT_nodup ..) (fun k hk => by simp [strT] at hk; omega)
                have fA : Sp wr ba ga ca9 fr (fr + N) is := H.get 0 rfl
                have fB : Sp wr bb gb cb' fr (fr + N) is := H.get 1 rfl
                have gA := fA.facts
                have gB := fB.facts
                have nB := H.ne 1 0 (t := spT ⟨bb, gb, cb', fr, fr + N, is⟩) (u := spT ⟨ba, ga, ca9, fr, fr + N, is⟩) rfl rfl (by omega)
                have nb : bb ∉ [ba, ga] := nB bb (by simp [spT])
                have ng : gb ∉ [ba, ga] := nB gb (by simp [spT])
                have nx : wr.heap.size ∉ [ba, ga] := by simp; omega
                have ny : wr.heap.size ∉ [bb, gb] := by simp; omega
                have hBB := hB.trans hB1
                have hT1 := hT.below hBB hw0
                have hBox := Lib.hid (StrAt.new wr #[.int .i64 z0, .int .i64 z1, .int .i64 z2] 39)
                clear H fA fB nB
                by_cases k1 : z0 = 1
                · subst k1
                  go_wp2_with fail
                  generalize hW : World.alloc wr _ = W at *
                  have h1a : Sp W ba ga ca9 fr (fr + N) is := H1.get 1 rfl
                  refine (take_calls h1a hT1).mono ?_
                  rintro e w2 ⟨rfl, hs2, hk2⟩
                  obtain ⟨H2, hB2⟩ := H1.upd 1 (spT ⟨ba, ga, ca9, fr, fr + N, takeS is⟩) rfl hk2 hs2 (by have := hs2.facts; simp [spT]; omega) (fun k hk => .inl hk)
                  have h2b : Sp w2 bb gb cb' fr (fr + N) is := H2.get 2 rfl
                  go_wp2_with fail
                  refine (take_calls h2b (hT1.below hB2 hw0)).mono ?_
                  rintro e w3 ⟨rfl, hs3, hk3⟩
                  obtain ⟨H3, hB3⟩ := H2.upd 2 (spT ⟨bb, gb, cb', fr, fr + N, takeS is⟩) rfl hk3 hs3 (by have := hs3.facts; simp [spT]; omega) (fun k hk => .inl hk)
                  have qB := (StrAt.cell (H3.get 0 rfl) 2).trans (show _ = some (.int .i64 z2) from rfl)
                  have HAB : Has w.heap.size w3 [spT ⟨ba, ga, ca9, fr, fr + N, takeS is⟩, spT ⟨bb, gb, cb', fr, fr + N, takeS is⟩] := Has.drops [_] H3
                  have hBZ := hBB.trans (hB2.trans hB3)
                  clear H1 H2 H3 h1a h2b hs2 hs3 hBox p0 p1 p2
                  generalize w3 = wz at *
                  have hA9 : Sp wz.drew ba ga ca9 fr (fr + N) (takeS is) := Sp.keeps (HAB.get 0 rfl) (drew_keeps wz) (by simp) (by simp)
                  have hB9 : Sp wz.drew bb gb cb' fr (fr + N) (takeS is) := Sp.keeps (HAB.get 1 rfl) (drew_keeps wz) (by simp) (by simp)
                  have qD : wz.drew.cell? ⟨wr.heap.size, 2, none⟩ = some (.int .i64 z2) := qB
                  have HR := Lib.hid (show WayC w w.heap.size bb gb cb' fr N lb (.pointer (some ⟨ba, 0, none⟩)) (.int .i64 ((j + 1 : Nat) : Int)) wz.drew from ⟨j + 1, ba, ga, ca9, (takeS is), by omega, by omega, rfl, rfl, HAB.keeps0 (drew_keeps wz), hBZ.trans (keeps_below (drew_keeps wz) (by simp) HAB.le)⟩)
                  clear HAB hBZ
                  go_wp2_with fail
                  go_region_held3 (fun W' => W'.cell? ⟨wr.heap.size, 2, none⟩ = some (.int .i64 z2)) (first | exact qD | assumption) (first | (go_at_call 25; have _m := zzMark; refine (sp_has hB9 _).mono ?_; rintro e w' ⟨rfl, rfl⟩) | (go_at_call 25; refine (sp_has hA9 _).mono ?_; rintro e w' ⟨rfl, rfl⟩; have zzMark := trivial) | fail)
                  all_goals
                    clear hA9 hB9 qB qD
                    go_wp2
                    go_roundw
                  all_goals first | exact HR.out | (simp [intOf]; done) | (simp [intOf]; omega)
                by_cases k2 : z0 = 2
                · subst k2
                  go_wp2_with fail
                  generalize hW : World.alloc wr _ = W at *
                  have h1a : Sp W ba ga ca9 fr (fr + N) is := H1.get 1 rfl
                  refine (takeAll_calls h1a hT1 z2).mono ?_
                  rintro e w2 ⟨v2, rfl, hv2, hf2, hs2, hk2⟩
                  have lW : W.heap.size = wr.heap.size + 1 := by rw [← hW]; simp
                  obtain ⟨H2, hB2⟩ := H1.updNew 1 (spT ⟨ba, ga, ca9, fr, fr + N, takeAllS is z2⟩) (intsT v2 (takeAllOut fr is z2)) rfl hk2 hs2 (by have := hs2.facts; simp [spT]; omega) (fun k hk => .inl hk) hv2 (rowT_nodup ..) (fun k hk => hf2 k (by simpa [intsT, rowT] using hk)) (fun k hk hm => by have := hf2 k (by simpa [intsT, rowT] using hk); simp [spT] at hm; omega)
                  have h2b : Sp w2 bb gb cb' fr (fr + N) is := H2.get 3 rfl
                  have c2 := (StrAt.cell (H2.get 1 rfl) 2).trans (show _ = some (.int .i64 z2) from rfl)
                  have gb2 := h2b.facts
                  go_wp2_with fail
                  refine (takeAll_calls h2b (hT1.below hB2 hw0) z2).mono ?_
                  rintro e w3 ⟨v3, rfl, hv3, hf3, hs3, hk3⟩
                  obtain ⟨H3, hB3⟩ := H2.updNew 3 (spT ⟨bb, gb, cb', fr, fr + N, takeAllS is z2⟩) (intsT v3 (takeAllOut fr is z2)) rfl hk3 hs3 (by have := hs3.facts; simp [spT]; omega) (fun k hk => .inl hk) hv3 (rowT_nodup ..) (fun k hk => hf3 k (by simpa [intsT, rowT] using hk)) (fun k hk hm => by have := hf3 k (by simpa [intsT, rowT] using hk); simp [spT] at hm; omega)
                  have i2 : IntsAt w3 v2 (takeAllOut fr is z2) := H3.get 1 rfl
                  have i3 : IntsAt w3 v3 (takeAllOut fr is z2) := H3.get 0 rfl
                  go_wp2_with fail
                  refine (same_calls i2 i3).mono ?_
                  rintro e w4 ⟨rfl, hk4⟩
                  simp only [decide_true]
                  have H4 := H3.keeps0 hk4
                  have hB4 := keeps_below (B := w.heap.size) hk4 (by simp) H3.le
                  have qB := (StrAt.cell (H4.get 2 rfl) 2).trans (show _ = some (.int .i64 z2) from rfl)
                  have HAB : Has w.heap.size w4 [spT ⟨ba, ga, ca9, fr, fr + N, takeAllS is z2⟩, spT ⟨bb, gb, cb', fr, fr + N, takeAllS is z2⟩] := Has.drops [_, _, _] H4
                  have hBZ := hBB.trans (hB2.trans (hB3.trans hB4))
                  clear H1 H2 H3 H4 h1a h2b hs2 hs3 hBox p0 p1 p2 c2 i2 i3 hv2 hv3 hf2 hf3
                  generalize w4 = wz at *
                  have hA9 : Sp wz.drew ba ga ca9 fr (fr + N) (takeAllS is z2) := Sp.keeps (HAB.get 0 rfl) (drew_keeps wz) (by simp) (by simp)
                  have hB9 : Sp wz.drew bb gb cb' fr (fr + N) (takeAllS is z2) := Sp.keeps (HAB.get 1 rfl) (drew_keeps wz) (by simp) (by simp)
                  have qD : wz.drew.cell? ⟨wr.heap.size, 2, none⟩ = some (.int .i64 z2) := qB
                  have HR := Lib.hid (show WayC w w.heap.size bb gb cb' fr N lb (.pointer (some ⟨ba, 0, none⟩)) (.int .i64 ((j + 1 : Nat) : Int)) wz.drew from ⟨j + 1, ba, ga, ca9, (takeAllS is z2), by omega, by omega, rfl, rfl, HAB.keeps0 (drew_keeps wz), hBZ.trans (keeps_below (drew_keeps wz) (by simp) HAB.le)⟩)
                  clear HAB hBZ
                  go_wp2_with fail
                  go_region_held3 (fun W' => W'.cell? ⟨wr.heap.size, 2, none⟩ = some (.int .i64 z2)) (first | exact qD | assumption) (first | (go_at_call 25; have _m := zzMark; refine (sp_has hB9 _).mono ?_; rintro e w' ⟨rfl, rfl⟩) | (go_at_call 25; refine (sp_has hA9 _).mono ?_; rintro e w' ⟨rfl, rfl⟩; have zzMark := trivial) | fail)
                  all_goals
                    clear hA9 hB9 qB qD
                    go_wp2
                    go_roundw
                  all_goals first | exact HR.out | (simp [intOf]; done) | (simp [intOf]; omega)
                by_cases k3 : z0 = 3
                · subst k3
                  go_wp2_with fail
                  generalize hW : World.alloc wr _ = W at *
                  have bq := (StrAt.cell (H1.get 0 rfl) 2).trans (show _ = some (.int .i64 z2) from rfl)
                  have bD : W.drew.cell? ⟨wr.heap.size, 2, none⟩ = some (.int .i64 z2) := bq
                  have hspA : Sp W.drew ba ga ca9 fr (fr + N) is := Sp.keeps (H1.get 1 rfl) (drew_keeps W) (by simp) (by simp)
                  have hspB : Sp W.drew bb gb cb' fr (fr + N) is := Sp.keeps (H1.get 2 rfl) (drew_keeps W) (by simp) (by simp)
                  have H1D := H1.keeps0 (drew_keeps W)
                  have hBD := keeps_below (B := w.heap.size) (drew_keeps W) (by simp) H1.le
                  go_region_held3 (fun W' => W'.cell? ⟨wr.heap.size, 2, none⟩ = some (.int .i64 z2)) (first | exact bD | assumption | exact hk1.cell bD nx | exact hk2.cell (hk1.cell bD nx) ny) (first | (go_at_call 20; refine (claim_calls hspB1 _).mono ?_; rintro e w2 ⟨rfl, hs2, hk2⟩) | (go_at_call 20; refine (claim_calls hspA _).mono ?_; rintro e w1 ⟨rfl, hs1, hk1⟩; have hspB1 := Sp.keeps hspB hk1 nb ng) | fail)
                  obtain ⟨H2, hB2⟩ := H1D.upd 1 (spT ⟨ba, ga, ca9, fr, fr + N, claimS fr is z2⟩) rfl hk1 hs1 (by have := hs1.facts; simp [spT]; omega) (fun k hk => .inl hk)
                  obtain ⟨H3, hB3⟩ := H2.upd 2 (spT ⟨bb, gb, cb', fr, fr + N, claimS fr is z2⟩) rfl hk2 hs2 (by have := hs2.facts; simp [spT]; omega) (fun k hk => .inl hk)
                  have qB := (StrAt.cell (H3.get 0 rfl) 2).trans (show _ = some (.int .i64 z2) from rfl)
                  have HAB : Has w.heap.size w2 [spT ⟨ba, ga, ca9, fr, fr + N, claimS fr is z2⟩, spT ⟨bb, gb, cb', fr, fr + N, claimS fr is z2⟩] := Has.drops [_] H3
                  have hBZ := hBB.trans (hBD.trans (hB2.trans hB3))
                  clear H1 H2 H3 hspA hspB hspB1 hs1 hs2 hBox p0 p1 p2 bq bD H1D
                  generalize w2 = wz at *
                  have hA9 : Sp wz.drew ba ga ca9 fr (fr + N) (claimS fr is z2) := Sp.keeps (HAB.get 0 rfl) (drew_keeps wz) (by simp) (by simp)
                  have hB9 : Sp wz.drew bb gb cb' fr (fr + N) (claimS fr is z2) := Sp.keeps (HAB.get 1 rfl) (drew_keeps wz) (by simp) (by simp)
                  have qD : wz.drew.cell? ⟨wr.heap.size, 2, none⟩ = some (.int .i64 z2) := qB
                  have HR := Lib.hid (show WayC w w.heap.size bb gb cb' fr N lb (.pointer (some ⟨ba, 0, none⟩)) (.int .i64 ((j + 1 : Nat) : Int)) wz.drew from ⟨j + 1, ba, ga, ca9, (claimS fr is z2), by omega, by omega, rfl, rfl, HAB.keeps0 (drew_keeps wz), hBZ.trans (keeps_below (drew_keeps wz) (by simp) HAB.le)⟩)
                  clear HAB hBZ
                  go_wp2_with fail
                  go_region_held3 (fun W' => W'.cell? ⟨wr.heap.size, 2, none⟩ = some (.int .i64 z2)) (first | exact qD | assumption) (first | (go_at_call 25; have _m := zzMark; refine (sp_has hB9 _).mono ?_; rintro e w' ⟨rfl, rfl⟩) | (go_at_call 25; refine (sp_has hA9 _).mono ?_; rintro e w' ⟨rfl, rfl⟩; have zzMark := trivial) | fail)
                  all_goals
                    clear hA9 hB9 qB qD
                    go_wp2
                    go_roundw
                  all_goals first | exact HR.out | (simp [intOf]; done) | (simp [intOf]; omega)
                by_cases k4 : z0 = 4
                · subst k4
                  go_wp2_with fail
                  generalize hW : World.alloc wr _ = W at *
                  have bq := (StrAt.cell (H1.get 0 rfl) 2).trans (show _ = some (.int .i64 z2) from rfl)
                  have bD : W.drew.cell? ⟨wr.heap.size, 2, none⟩ = some (.int .i64 z2) := bq
                  have hspA : Sp W.drew ba ga ca9 fr (fr + N) is := Sp.keeps (H1.get 1 rfl) (drew_keeps W) (by simp) (by simp)
                  have hspB : Sp W.drew bb gb cb' fr (fr + N) is := Sp.keeps (H1.get 2 rfl) (drew_keeps W) (by simp) (by simp)
                  have H1D := H1.keeps0 (drew_keeps W)
                  have hBD := keeps_below (B := w.heap.size) (drew_keeps W) (by simp) H1.le
                  go_region_held3 (fun W' => W'.cell? ⟨wr.heap.size, 2, none⟩ = some (.int .i64 z2)) (first | exact bD | assumption | exact hk1.cell bD nx | exact hk2.cell (hk1.cell bD nx) ny) (first | (go_at_call 21; refine (give_calls hspB1 _).mono ?_; rintro e w2 ⟨rfl, hs2, hk2⟩) | (go_at_call 21; refine (give_calls hspA _).mono ?_; rintro e w1 ⟨rfl, hs1, hk1⟩; have hspB1 := Sp.keeps hspB hk1 nb ng) | fail)
                  obtain ⟨H2, hB2⟩ := H1D.upd 1 (spT ⟨ba, ga, ca9, fr, fr + N, giveS fr (fr + N) is z2⟩) rfl hk1 hs1 (by have := hs1.facts; simp [spT]; omega) (fun k hk => .inl hk)
                  obtain ⟨H3, hB3⟩ := H2.upd 2 (spT ⟨bb, gb, cb', fr, fr + N, giveS fr (fr + N) is z2⟩) rfl hk2 hs2 (by have := hs2.facts; simp [spT]; omega) (fun k hk => .inl hk)
                  have qB := (StrAt.cell (H3.get 0 rfl) 2).trans (show _ = some (.int .i64 z2) from rfl)
                  have HAB : Has w.heap.size w2 [spT ⟨ba, ga, ca9, fr, fr + N, giveS fr (fr + N) is z2⟩, spT ⟨bb, gb, cb', fr, fr + N, giveS fr (fr + N) is z2⟩] := Has.drops [_] H3
                  have hBZ := hBB.trans (hBD.trans (hB2.trans hB3))
                  clear H1 H2 H3 hspA hspB hspB1 hs1 hs2 hBox p0 p1 p2 bq bD H1D
                  generalize w2 = wz at *
                  have hA9 : Sp wz.drew ba ga ca9 fr (fr + N) (giveS fr (fr + N) is z2) := Sp.keeps (HAB.get 0 rfl) (drew_keeps wz) (by simp) (by simp)
                  have hB9 : Sp wz.drew bb gb cb' fr (fr + N) (giveS fr (fr + N) is z2) := Sp.keeps (HAB.get 1 rfl) (drew_keeps wz) (by simp) (by simp)
                  have qD : wz.drew.cell? ⟨wr.heap.size, 2, none⟩ = some (.int .i64 z2) := qB
                  have HR := Lib.hid (show WayC w w.heap.size bb gb cb' fr N lb (.pointer (some ⟨ba, 0, none⟩)) (.int .i64 ((j + 1 : Nat) : Int)) wz.drew from ⟨j + 1, ba, ga, ca9, (giveS fr (fr + N) is z2), by omega, by omega, rfl, rfl, HAB.keeps0 (drew_keeps wz), hBZ.trans (keeps_below (drew_keeps wz) (by simp) HAB.le)⟩)
                  clear HAB hBZ
                  go_wp2_with fail
                  go_region_held3 (fun W' => W'.cell? ⟨wr.heap.size, 2, none⟩ = some (.int .i64 z2)) (first | exact qD | assumption) (first | (go_at_call 25; have _m := zzMark; refine (sp_has hB9 _).mono ?_; rintro e w' ⟨rfl, rfl⟩) | (go_at_call 25; refine (sp_has hA9 _).mono ?_; rintro e w' ⟨rfl, rfl⟩; have zzMark := trivial) | fail)
                  all_goals
                    clear hA9 hB9 qB qD
                    go_wp2
                    go_roundw
                  all_goals first | exact HR.out | (simp [intOf]; done) | (simp [intOf]; omega)
                by_cases k8 : z0 = 8
                · subst k8
                  go_wp2_with fail
                  generalize hW : World.alloc wr _ = W at *
                  have h1a : Sp W ba ga ca9 fr (fr + N) is := H1.get 1 rfl
                  refine (copy_calls h1a).mono ?_
                  rintro e w2 ⟨bc, gc, cc, rfl, hs2, hbc, hgc, hk2⟩
                  obtain ⟨H2, hB2⟩ := H1.cons (t' := spT ⟨bc, gc, cc, fr, fr + N, is⟩) hk2 hs2 (by have := hs2.facts; simp [spT]; omega) (fun k hk => by simp [spT] at hk; omega)
                  have qB := (StrAt.cell (H2.get 1 rfl) 2).trans (show _ = some (.int .i64 z2) from rfl)
                  have HAB : Has w.heap.size w2 [spT ⟨bc, gc, cc, fr, fr + N, is⟩, spT ⟨bb, gb, cb', fr, fr + N, is⟩] := (H2.perm (perm_four _ _ _ _)).drops
                  have hBZ := hBB.trans hB2
                  clear H1 H2 h1a hs2 hBox p0 p1 p2
                  generalize w2 = wz at *
                  have hA9 : Sp wz.drew bc gc cc fr (fr + N) is := Sp.keeps (HAB.get 0 rfl) (drew_keeps wz) (by simp) (by simp)
                  have hB9 : Sp wz.drew bb gb cb' fr (fr + N) is := Sp.keeps (HAB.get 1 rfl) (drew_keeps wz) (by simp) (by simp)
                  have qD : wz.drew.cell? ⟨wr.heap.size, 2, none⟩ = some (.int .i64 z2) := qB
                  have HR := Lib.hid (show WayC w w.heap.size bb gb cb' fr N lb (.pointer (some ⟨bc, 0, none⟩)) (.int .i64 ((j + 1 : Nat) : Int)) wz.drew from ⟨j + 1, bc, gc, cc, is, by omega, by omega, rfl, rfl, HAB.keeps0 (drew_keeps wz), hBZ.trans (keeps_below (drew_keeps wz) (by simp) HAB.le)⟩)
                  clear HAB hBZ
                  go_wp2_with fail
                  go_region_held3 (fun W' => W'.cell? ⟨wr.heap.size, 2, none⟩ = some (.int .i64 z2)) (first | exact qD | assumption) (first | (go_at_call 25; have _m := zzMark; refine (sp_has hB9 _).mono ?_; rintro e w' ⟨rfl, rfl⟩) | (go_at_call 25; refine (sp_has hA9 _).mono ?_; rintro e w' ⟨rfl, rfl⟩; have zzMark := trivial) | fail)
                  all_goals
                    clear hA9 hB9 qB qD
                    go_wp2
                    go_roundw
                  all_goals first | exact HR.out | (simp [intOf]; done) | (simp [intOf]; omega)
                have d1 : (z0 == 1) = false := by simpa using k1
                have d2 : (z0 == 2) = false := by simpa using k2
                have d3 : (z0 == 3) = false := by simpa using k3
                have d4 : (z0 == 4) = false := by simpa using k4
                have d8 : (z0 == 8) = false := by simpa using k8
                · go_wp2_with fail
                  generalize hW : World.alloc wr _ = wz at *
                  have qB := (StrAt.cell (H1.get 0 rfl) 2).trans (show _ = some (.int .i64 z2) from rfl)
                  have HAB : Has w.heap.size wz [spT ⟨ba, ga, ca9, fr, fr + N, is⟩, spT ⟨bb, gb, cb', fr, fr + N, is⟩] := Has.drops [_] H1
                  have hBZ := hBB
                  clear H1 hBox p0 p1 p2
                  have hA9 : Sp wz.drew ba ga ca9 fr (fr + N) is := Sp.keeps (HAB.get 0 rfl) (drew_keeps wz) (by simp) (by simp)
                  have hB9 : Sp wz.drew bb gb cb' fr (fr + N) is := Sp.keeps (HAB.get 1 rfl) (drew_keeps wz) (by simp) (by simp)
                  have qD : wz.drew.cell? ⟨wr.heap.size, 2, none⟩ = some (.int .i64 z2) := qB
                  have HR := Lib.hid (show WayC w w.heap.size bb gb cb' fr N lb (.pointer (some ⟨ba, 0, none⟩)) (.int .i64 ((j + 1 : Nat) : Int)) wz.drew from ⟨j + 1, ba, ga, ca9, is, by omega, by omega, rfl, rfl, HAB.keeps0 (drew_keeps wz), hBZ.trans (keeps_below (drew_keeps wz) (by simp) HAB.le)⟩)
                  clear HAB hBZ
                  go_wp2_with fail
                  go_region_held3 (fun W' => W'.cell? ⟨wr.heap.size, 2, none⟩ = some (.int .i64 z2)) (first | exact qD | assumption) (first | (go_at_call 25; have _m := zzMark; refine (sp_has hB9 _).mono ?_; rintro e w' ⟨rfl, rfl⟩) | (go_at_call 25; refine (sp_has hA9 _).mono ?_; rintro e w' ⟨rfl, rfl⟩; have zzMark := trivial) | fail)
                  all_goals
                    clear hA9 hB9 qB qD
                    go_wp2
                    go_roundw
                  all_goals first | exact HR.out | (simp [intOf]; done) | (simp [intOf]; omega)
              · have b2 : decide ((j : Int) < 200) = false := by simp; omega
                go_wp2_with fail
                refine (started_calls wr (by have := hB.size; omega) (hT.below hB hw0)).mono ?_
                rintro e w2 ⟨rfl, hB2⟩
                have H2 := H.keeps0 (Keeps.of_below hB2)
                have hB3 := hB.trans (hB2.mono hB.size)
                have s2a : Sp w2 ba ga ca9 fr (fr + N) is := H2.get 0 rfl
                have s2b : Sp w2 bb gb cb' fr (fr + N) is := H2.get 1 rfl
                go_wp2_with fail
                refine (sp_free s2a).mono ?_
                rintro e w3 ⟨rfl, rfl⟩
                go_wp2_with fail
                refine (sp_free s2b).mono ?_
                rintro e w3 ⟨rfl, rfl⟩
                go_wp2_with fail
                refine (list_calls s2a).mono ?_
                rintro e w3 ⟨v3, rfl, hv3, hf3, hk3⟩
                have H3 := H2.keeps0 hk3
                have s3b : Sp w3 bb gb cb' fr (fr + N) is := H3.get 1 rfl
                go_wp2_with fail
                refine (list_calls s3b).mono ?_
                rintro e w4 ⟨v4, rfl, hv4, hf4, hk4⟩
                have i3 := hv3.keeps hk4 (by simp)
                go_wp2_with fail
                refine (same_calls i3 hv4).mono ?_
                rintro e w5 ⟨rfl, hk5⟩
                go_wp2
                go_ret
                exact ⟨by simp, hB3.trans (keeps_below ((hk3.trans' hk4).trans' hk5) (by simp) H2.le)⟩
            · have b1 : decide (j < lb) = false := by simpa using hlt
              go_wp2_with fail
              refine (started_calls wr (by have := hB.size; omega) (hT.below hB hw0)).mono ?_
              rintro e w2 ⟨rfl, hB2⟩
              have H2 := H.keeps0 (Keeps.of_below hB2)
              have hB3 := hB.trans (hB2.mono hB.size)
              have s2a : Sp w2 ba ga ca9 fr (fr + N) is := H2.get 0 rfl
              have s2b : Sp w2 bb gb cb' fr (fr + N) is := H2.get 1 rfl
              go_wp2_with fail
              refine (sp_free s2a).mono ?_
              rintro e w3 ⟨rfl, rfl⟩
              go_wp2_with fail
              refine (sp_free s2b).mono ?_
              rintro e w3 ⟨rfl, rfl⟩
              go_wp2_with fail
              refine (list_calls s2a).mono ?_
              rintro e w3 ⟨v3, rfl, hv3, hf3, hk3⟩
              have H3 := H2.keeps0 hk3
              have s3b : Sp w3 bb gb cb' fr (fr + N) is := H3.get 1 rfl
              go_wp2_with fail
              refine (list_calls s3b).mono ?_
              rintro e w4 ⟨v4, rfl, hv4, hf4, hk4⟩
              have i3 := hv3.keeps hk4 (by simp)
              go_wp2_with fail
              refine (same_calls i3 hv4).mono ?_
              rintro e w5 ⟨rfl, hk5⟩
              go_wp2
              go_ret
              exact ⟨by simp, hB3.trans (keeps_below ((hk3.trans' hk4).trans' hk5) (by simp) H2.le)⟩
        · have hqN : q < gl.length := by have := HG.out; omega
          have hx : gl[q]? = some (gl[q]'hqN) := List.getElem?_eq_getElem hqN
          generalize gl[q]'hqN = x at hx
          have hrow : RowAt wr gH 4 1 gl.length gl.length (bools gl) := H.get 2 rfl
          have q0 := (hrow.cell q (by omega)).trans (show (bools gl)[q]? = some (.bool x) by simp [bools, hx])
          have hq0 : ¬ ((q : Int) < 0) := by omega
          have hq0' : 0 ≤ (q : Int) := by omega
          have hqN' : (q : Int) < (N : Int) := by have := HG.out; omega
          have hnext : ∀ W, Has w.heap.size W [spT ⟨ba, ga, ca', fr, fr + N, negs gl⟩, spT ⟨bb, gb, cb', fr, fr + N, part gl q⟩, goneT gH gl] → Below w.heap.size w W → WayB w w.heap.size ba ga ca' bb gb cb' fr N gH gl (.int .i64 ((q : Int) - 1)) W := fun W h1 h2 => ⟨q, by omega, by
            by_cases e : q = 0
            · subst e; exact .inl ⟨rfl, rfl⟩
            · exact .inr ⟨q - 1, by omega, by congr 1; omega⟩, h1, h2⟩
          have HX := Lib.hid hx
          clear hrow hx
          cases x with
          | true =>
            have HR := Lib.hid (hnext wr (by rw [← part_keep gl q HX.out]; exact H) hB)
            clear H
            go_wp2
            go_roundw
            case rel => exact HR.out
            case measure => first | (simp [intOf]; done) | (simp [intOf]; omega)
          | false =>
            obtain ⟨g1, g2⟩ := part_give fr N gl q (by omega) HX.out
            have G1 := Lib.hid g1
            have G2 := Lib.hid g2
            clear g1 g2
            go_wp2_with fail
            have hsb : Sp wr bb gb cb' fr (fr + N) (part gl (q + 1)) := H.get 1 rfl
            refine (give_calls hsb _).mono ?_
            rw [G1.out, G2.out]
            rintro e w7 ⟨rfl, hs7, hk7⟩
            obtain ⟨H7, hB7⟩ := H.upd 1 (spT ⟨bb, gb, cb', fr, fr + N, part gl q⟩) rfl hk7 hs7 (by have := hs7.facts; simp [spT]; omega) (fun k hk => .inl hk)
            have HR := Lib.hid (hnext w7 H7 (hB.trans hB7))
            clear H H7 hs7 hk7
            go_wp2
            go_roundw
            case rel => exact HR.out
            case measure => first | (simp [intOf]; done) | (simp [intOf]; omega)
end Go.Proofs.YtnjjijkcenhebaaDoor
