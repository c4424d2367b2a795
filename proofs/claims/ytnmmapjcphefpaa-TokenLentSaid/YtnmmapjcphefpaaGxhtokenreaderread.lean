-- Printed by wip/graft.py out of the translation, over the kit's print; contracts that it lacks are given by hand.
import Derived.Test.YtnmmapjcphefpaaGx0
import Derived.Test.YtnmmapjcphefpaaGx2
import Derived.Test.YtnmmapjcphefpaaGxhtokenreaderjoin
import Derived.Test.YtnmmapjcphefpaaGxhtokenreaderliteral
import Derived.Test.YtnmmapjcphefpaaGxhtokenreaderword
import Derived.Test.YtnmmapjcphefpaaKit3
import Derived.Deep.RegionLaw
namespace Go.Proofs.Ytnmmapjcphefpaa.G
open Go.RowKit Go.Proofs.YtnmmapjcphefpaaW.PrintWords Go.Proofs.YtnmmapjcphefpaaW.PrintLast Go.Proofs.YtnmmapjcphefpaaW.PrintMore
attribute [local go_sem] max2_int min2_int max_two min_two max_three min_three max_four min_four   -- for this text's walks alone
set_option linter.unusedVariables false
set_option linter.unusedSimpArgs false

/-- GRAFT token_reader_read: function 39, by hand. -/
theorem graft_token_reader_read : True := trivial
/-- a line's tokens behind l, from a place on: what is wrong (0: nothing), where, the tokens -/
def token_read.l0 (s : ByteArray) (line : Int) : Nat → Int → Int → List S27 → Option (Int × Int × List S27)
  | 0, _, _, _ => none
  | k + 1, a, en, l =>
    if l.length < 900000 then
      (if a < (s.size : Int) then
        (if 0 ≤ a then
          ((token_sign.f (bt s a)).bind fun kd =>
            (if bt s a = 32 then (token_read.l0 s line k (wrap64 (a + 1)) en l)
            else (if bt s a = 35 then (some (0, 0, l ++ [⟨7, ⟨#[]⟩, line, en⟩]))
            else (if bt s a = 34 then ((token_literal.l0 s a k [] (wrap64 (a + 1))).bind fun p => (if p.1 = 0 then (token_read.l0 s line k p.2.2 p.2.2 (l ++ [⟨2, strOfNums p.2.1, line, a⟩])) else (some (p.1, p.2.2, []))))
            else ((token_letter.f (bt s a)).bind fun x =>
              (if x = true then ((token_word.l0 s a k a).bind fun p => (if p.1 = true then (token_read.l0 s line k p.2 p.2 (l ++ [⟨1, s.extract a.toNat p.2.toNat, line, a⟩])) else (some (2, p.2, []))))
              else (if 0 < kd then (token_read.l0 s line k (wrap64 (a + 1)) (wrap64 (a + 1)) (l ++ [⟨kd, ⟨#[]⟩, line, a⟩])) else (some (110, a, [])))))))))
        else none)
      else (some (0, 0, l ++ [⟨7, ⟨#[]⟩, line, en⟩])))
    else none
def ReadPost (B b : Nat) (s : ByteArray) (line : Int) (L : List Thing) (code place : Int) (l : List S27) (w : World) (e : Ending) (w' : World) : Prop :=
  e = .returned (.tuple #[.int .i64 code, .int .i64 place]) ∧ Below B w w' ∧ ∃ (v' : Value) (a' : Int) (l' : List S27), (code = 0 → l' = l) ∧ Has B w' (rdT b s line a' v' :: tkT v' l' :: L)
def HasB (B : Nat) (w : World) (L : List Thing) (wr : World) : Prop := Has B wr L ∧ Below B w wr
theorem hb_dr {B : Nat} {w wr : World} {L : List Thing} {n : Nat} (h : HasB B w L wr) : HasB B w L (wr.drewN n) := ⟨(has_drewN h.1 n).1, h.2.trans (has_drewN h.1 n).2⟩
theorem hb_dr1 {B : Nat} {w wr : World} {L : List Thing} (h : HasB B w L wr) : HasB B w L wr.drew := hb_dr (n := 1) h
theorem sign_some (c : Int) : ∃ x, token_sign.f c = some x := by
  unfold token_sign.f
  repeat' split
  all_goals exact ⟨_, rfl⟩
set_option maxHeartbeats 16000000 in
set_option maxRecDepth 100000 in
theorem read_calls {B b : Nat} {w : World} {s : ByteArray} {line at_ : Int} {v : Value} {l : List S27} {L : List Thing} (H : Has B w (rdT b s line at_ v :: tkT v l :: L)) (hs : s.size ≤ 1000000) {k : Nat} {code place : Int} {r : List S27} (h : token_read.l0 s line k at_ 0 l = some (code, place, r)) :
    Calls Try.prog 39 #[.pointer (some ⟨b, 0, none⟩)] w (ReadPost B b s line L code place r w) := by
  have HA := Lib.hid h
  have HH := Lib.hid H
  have HS := Lib.hid hs
  clear h H hs
  go_enter Try.func39, Try.ntmps39
  go_wp2
  go_step3
  go_wp2
  go_step3
  go_wp2
  go_loopg [2, 4] k (fun q c2 e4 wr => ∃ (a en : Int) (l : List S27) (v : Value), c2 = .int .i64 0 ∧ e4 = .int .i64 en ∧ Hid (token_read.l0 s line q a en l = some (code, place, r)) ∧ Hid (HasB B w (rdT b s line a v :: tkT v l :: L) wr))
  case atStart => exact ⟨at_, 0, l, v, rfl, rfl, HA, Lib.hid ⟨HH.out, Below.refl _ _⟩⟩
  case round =>
    clear HA HH
    obtain ⟨x, en, l, v, rfl, rfl, HA, HB⟩ := hrel
    have q0 := (StrAt.cell (HB.out.1.get 0 rfl) 0).trans (show _ = some (.string s) from rfl)
    have q2 := (StrAt.cell (HB.out.1.get 0 rfl) 2).trans (show _ = some (.int .i64 x) from rfl)
    have f2 := StrAt.frozen (HB.out.1.get 0 rfl) 2
    cases gk with
    | zero => exact absurd HA.out (by simp [token_read.l0])
    | succ k1 =>
      have hA := HA.out
      clear HA
      simp only [token_read.l0] at hA
      by_cases c4 : l.length < 900000
      · rw [if_pos c4] at hA
        have C4 := Lib.hid c4
        clear c4
        by_cases c5 : x < (s.size : Int)
        · rw [if_pos c5] at hA
          have c5b0 : decide (x < (s.size : Int)) = true := decide_eq_true c5
          clear c5
          by_cases c6 : 0 ≤ x
          · rw [if_pos c6] at hA
            have c6b0 : decide (0 ≤ x) = true := decide_eq_true c6
            clear c6
            have hx := bt_at s x
            have P6 := Lib.hid (of_decide_eq_true c6b0)
            have Q6 := Lib.hid (Int.le_of_lt (of_decide_eq_true c5b0))
            have p6 := eq_true (of_decide_eq_true c6b0)
            have q6 := eq_true (of_decide_eq_true c5b0)
            obtain ⟨kd, hkd⟩ := sign_some (bt s x)
            rw [hkd] at hA
            simp only [Option.bind_some] at hA
            have HKD := Lib.hid hkd
            have HA := Lib.hid hA
            clear hkd hA
            go_wp2_with fail
            go_quiet (fail)
            go_wp2_with fail
            go_quiet (fail)
            go_wp2_with fail
            refine (token_sign.calls _ kd _ HKD.out).mono ?_
            rintro e w4 ⟨rfl, ⟨⟨m4, rfl⟩⟩⟩
            generalize hW : World.drewN _ m4 = W
            have HBW := Lib.hid (show HasB B w (rdT b s line x v :: tkT v l :: L) W from by rw [← hW]; repeat (first | exact HB.out | apply hb_dr | apply hb_dr1))
            clear hW q0 q2 f2 p6 q6 hx c6b0 c5b0
            have q0 := (StrAt.cell (HBW.out.1.get 0 rfl) 0).trans (show _ = some (.string s) from rfl)
            have q2 := (StrAt.cell (HBW.out.1.get 0 rfl) 2).trans (show _ = some (.int .i64 x) from rfl)
            have f2 := StrAt.frozen (HBW.out.1.get 0 rfl) 2
            have hA := HA.out
            clear HA
            generalize bt s x = c at *
            by_cases d1 : c = 32
            · rw [if_pos d1] at hA
              have d1b : (c == 32) = true := by simpa using d1
              have HA := Lib.hid hA
              obtain ⟨H5, hB5⟩ := HBW.out.1.store 0 rfl 2 (.int .i64 (wrap64 (x + 1)))
              have HN := Lib.hid (show HasB B w (rdT b s line (wrap64 (x + 1)) v :: tkT v l :: L) (W.setCell ⟨b, 2, none⟩ (.int .i64 (wrap64 (x + 1)))) from ⟨H5, HBW.out.2.trans hB5⟩)
              clear hA d1 H5 hB5
              go_wp2
              go_roundg k1
              case measure => omega
              case rel => exact ⟨_, _, _, _, rfl, rfl, HA, HN⟩
            · rw [if_neg d1] at hA
              have d1b : (c == 32) = false := by simpa using d1
              clear d1
              by_cases d2 : c = 35
              · rw [if_pos d2] at hA
                have d2b : (c == 35) = true := by simpa using d2
                simp only [Option.some.injEq, Prod.mk.injEq] at hA
                obtain ⟨rfl, rfl, rfl⟩ := hA
                clear d2
                go_wp2_with fail
                refine (join_calls HBW.out.1 (by have := C4.out; omega) _ _ _ _).mono ?_
                rintro e w5 ⟨rfl, v5, H5, hB5⟩
                have HP := Lib.hid (show ReadPost B b s line L 0 0 (l ++ [⟨7, ⟨#[]⟩, line, en⟩]) w (.returned (.tuple #[.int .i64 0, .int .i64 0])) w5 from ⟨rfl, HBW.out.2.trans hB5, v5, _, _, fun _ => rfl, H5⟩)
                clear H5 hB5
                go_wp2
                try rw [Exit.noGoto_ret]
                go_ret2
                exact HP.out
              · rw [if_neg d2] at hA
                have d2b : (c == 35) = false := by simpa using d2
                clear d2
                by_cases d3 : c = 34
                · rw [if_pos d3] at hA
                  have d3b : (c == 34) = true := by simpa using d3
                  clear d3
                  cases he : token_literal.l0 s x k1 [] (wrap64 (x + 1)) with
                  | none => rw [he] at hA; cases hA
                  | some p =>
                    obtain ⟨p1, p2, p3⟩ := p
                    rw [he] at hA
                    simp only [Option.bind_some] at hA
                    have HEs := Lib.hid he
                    have HA := Lib.hid hA
                    clear he hA
                    go_wp2_with fail
                    refine (literal_calls HBW.out.1 (by have := C4.out; omega) HS.out HEs.out).mono ?_
                    rintro e w5 (⟨rfl, rfl, v5, H5, hB5⟩ | ⟨hne, rfl, H5, hB5⟩)
                    · have hA := HA.out
                      rw [if_pos rfl] at hA
                      have HA := Lib.hid hA
                      have q7 := (StrAt.cell (H5.get 0 rfl) 2).trans (show _ = some (.int .i64 p3) from rfl)
                      have HN := Lib.hid (show HasB B w (rdT b s line p3 v5 :: tkT v5 (l ++ [⟨2, strOfNums p2, line, x⟩]) :: L) w5 from ⟨H5, HBW.out.2.trans hB5⟩)
                      clear hA H5 hB5 q0 q2 f2
                      go_wp2
                      go_roundg k1
                      case measure => omega
                      case rel => exact ⟨_, _, _, _, rfl, rfl, HA, HN⟩
                    · have hA := HA.out
                      rw [if_neg hne] at hA
                      simp only [Option.some.injEq, Prod.mk.injEq] at hA
                      obtain ⟨rfl, rfl, rfl⟩ := hA
                      have hneb : (p1 == 0) = false := by simpa using hne
                      have hneb2 : (p1 != 0) = true := by simpa using hne
                      have HP := Lib.hid (show ReadPost B b s line L p1 p3 [] w (.returned (.tuple #[.int .i64 p1, .int .i64 p3])) w5 from ⟨rfl, HBW.out.2.trans hB5, v, _, l, fun h => absurd h hne, H5⟩)
                      clear H5 hB5 hne
                      go_wp2
                      try rw [Exit.noGoto_ret]
                      go_ret2
                      exact HP.out
                · rw [if_neg d3] at hA
                  have d3b : (c == 34) = false := by simpa using d3
                  clear d3
                  obtain ⟨y, hy⟩ := letter_some c
                  rw [hy] at hA
                  simp only [Option.bind_some] at hA
                  have HY := Lib.hid hy
                  have HA := Lib.hid hA
                  clear hy hA
                  go_wp2_with fail
                  refine (token_letter.calls _ y _ HY.out).mono ?_
                  rintro e w5 ⟨rfl, ⟨⟨m5, rfl⟩⟩⟩
                  have HB5 := Lib.hid (show HasB B w (rdT b s line x v :: tkT v l :: L) (W.drewN m5) from hb_dr HBW.out)
                  have hA := HA.out
                  clear HA
                  cases y with
                  | true =>
                    rw [if_pos rfl] at hA
                    cases he : token_word.l0 s x k1 x with
                    | none => rw [he] at hA; cases hA
                    | some p =>
                      obtain ⟨p1, p2⟩ := p
                      rw [he] at hA
                      simp only [Option.bind_some] at hA
                      have HEs := Lib.hid he
                      have HA := Lib.hid hA
                      clear he hA
                      go_wp2_with fail
                      refine (word_calls HB5.out.1 (by have := C4.out; omega) HS.out P6.out Q6.out HEs.out).mono ?_
                      rintro e w6 (⟨rfl, rfl, v6, H6, hB6⟩ | ⟨rfl, rfl, H6, hB6⟩)
                      · have hA := HA.out
                        rw [if_pos rfl] at hA
                        have HA := Lib.hid hA
                        have q7 := (StrAt.cell (H6.get 0 rfl) 2).trans (show _ = some (.int .i64 p2) from rfl)
                        have HN := Lib.hid (show HasB B w (rdT b s line p2 v6 :: tkT v6 (l ++ [⟨1, s.extract x.toNat p2.toNat, line, x⟩]) :: L) w6 from ⟨H6, HB5.out.2.trans hB6⟩)
                        clear hA H6 hB6 q0 q2 f2
                        go_wp2
                        go_roundg k1
                        case measure => omega
                        case rel => exact ⟨_, _, _, _, rfl, rfl, HA, HN⟩
                      · have hA := HA.out
                        rw [if_neg (by simp)] at hA
                        simp only [Option.some.injEq, Prod.mk.injEq] at hA
                        obtain ⟨rfl, rfl, rfl⟩ := hA
                        have HP := Lib.hid (show ReadPost B b s line L 2 p2 [] w (.returned (.tuple #[.int .i64 2, .int .i64 p2])) w6 from ⟨rfl, HB5.out.2.trans hB6, v, _, l, fun h => absurd h (by decide), H6⟩)
                        clear H6 hB6
                        go_wp2
                        try rw [Exit.noGoto_ret]
                        go_ret2
                        exact HP.out
                  | false =>
                    rw [if_neg (by simp)] at hA
                    by_cases d5 : 0 < kd
                    · rw [if_pos d5] at hA
                      have d5b : decide (0 < kd) = true := decide_eq_true d5
                      have HA := Lib.hid hA
                      clear hA d5
                      go_wp2_with fail
                      have HX := Lib.hid (hb_dr1 HB5.out)
                      have q2D : (W.drewN m5).cell? ⟨b, 2, none⟩ = some (.int .i64 x) := q2
                      go_region_law (first | (go_simp; go_at_call 50; refine (join_calls (at_ := x) (v := v) (l := l) (L := L) (s := s) (line := line) HX.out.1 (by have := C4.out; omega) _ _ _ _).mono ?_; rintro e w6 ⟨rfl, v6, H6, hB6⟩) | fail)
                      all_goals
                        simp only [i64_w] at H6
                        have q7 := (StrAt.cell (H6.get 0 rfl) 2).trans (show _ = some (.int .i64 (wrap64 (x + 1))) from rfl)
                        have HN := Lib.hid (show HasB B w (rdT b s line (wrap64 (x + 1)) v6 :: tkT v6 (l ++ [⟨kd, ⟨#[]⟩, line, x⟩]) :: L) w6 from ⟨H6, HX.out.2.trans hB6⟩)
                        clear H6 hB6 q0 q2 f2 q2D
                        go_wp2
                        go_roundg k1
                        case measure => omega
                        case rel => exact ⟨_, _, _, _, rfl, rfl, HA, HN⟩
                    · rw [if_neg d5] at hA
                      have d5b : decide (0 < kd) = false := decide_eq_false d5
                      simp only [Option.some.injEq, Prod.mk.injEq] at hA
                      obtain ⟨rfl, rfl, rfl⟩ := hA
                      clear d5
                      go_wp2_with fail
                      go_quiet (fail)
                      have HP : ∀ n, ReadPost B b s line L 110 x [] w (.returned (.tuple #[.int .i64 110, .int .i64 x])) (W.drewN n) := fun n => ⟨rfl, (hb_dr HBW.out).2, v, _, l, fun h => absurd h (by decide), (hb_dr HBW.out).1⟩
                      have HP' := Lib.hid HP
                      clear HP
                      go_wp2
                      try rw [Exit.noGoto_ret]
                      go_ret2
                      exact HP'.out _
          · rw [if_neg c6] at hA
            cases hA
        · rw [if_neg c5] at hA
          have c5b0 : decide (x < (s.size : Int)) = false := decide_eq_false c5
          clear c5
          simp only [Option.some.injEq, Prod.mk.injEq] at hA
          obtain ⟨rfl, rfl, rfl⟩ := hA
          go_wp2_with fail
          go_quiet (fail)
          go_wp2_with fail
          refine (join_calls (B := B) (b := b) (s := s) (line := line) (at_ := x) (v := v) (l := l) (L := L) (by first | exact HB.out.1 | exact (hb_dr HB.out).1 | exact (hb_dr1 HB.out).1) (by have := C4.out; omega) _ _ _ _).mono ?_
          rintro e w5 ⟨rfl, v5, H5, hB5⟩
          have HP := Lib.hid (show ReadPost B b s line L 0 0 (l ++ [⟨7, ⟨#[]⟩, line, en⟩]) w (.returned (.tuple #[.int .i64 0, .int .i64 0])) w5 from ⟨rfl, by first | exact HB.out.2.trans hB5 | exact (hb_dr HB.out).2.trans hB5 | exact (hb_dr1 HB.out).2.trans hB5, v5, _, _, fun _ => rfl, H5⟩)
          clear H5 hB5
          go_wp2
          try rw [Exit.noGoto_ret]
          go_ret2
          exact HP.out
      · rw [if_neg c4] at hA
        cases hA

end Go.Proofs.Ytnmmapjcphefpaa.G
