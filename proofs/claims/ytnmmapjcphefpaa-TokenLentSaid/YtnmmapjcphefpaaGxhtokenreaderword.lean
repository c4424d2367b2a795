-- Printed by wip/graft.py out of the translation, over the kit's print; contracts that it lacks are given by hand.
import Derived.Test.YtnmmapjcphefpaaGx0
import Derived.Test.YtnmmapjcphefpaaGx2
import Derived.Test.YtnmmapjcphefpaaGxhtokenreaderjoin
import Derived.Test.YtnmmapjcphefpaaKit3
namespace Go.Proofs.Ytnmmapjcphefpaa.G
open Go.RowKit Go.Proofs.YtnmmapjcphefpaaW.PrintWords Go.Proofs.YtnmmapjcphefpaaW.PrintLast Go.Proofs.YtnmmapjcphefpaaW.PrintMore
attribute [local go_sem] max2_int min2_int max_two min_two max_three min_three max_four min_four   -- for this text's walks alone
set_option linter.unusedVariables false
set_option linter.unusedSimpArgs false

/-- GRAFT token_reader_word: function 49, by hand. -/
theorem graft_token_reader_word : True := trivial
/-- how far a word goes: fr is where it begins; (true, t): it ends at t; (false, t): it is too long at t -/
def token_word.l0 (s : ByteArray) (fr : Int) : Nat → Int → Option (Bool × Int)
  | 0, _ => none
  | k + 1, t => if t < (s.size : Int) then (if 0 ≤ t then ((token_letter.f (bt s t)).bind fun x => (if x = true then (if wrap64 (t - fr) = 255 then (some (false, t)) else (token_word.l0 s fr k (wrap64 (t + 1)))) else (some (true, t)))) else none) else (some (true, t))
def WordPost (B b : Nat) (s : ByteArray) (line at_ : Int) (v : Value) (l : List S27) (L : List Thing) (ok : Bool) (to_ : Int) (w : World) (e : Ending) (w' : World) : Prop :=
  (ok = true ∧ e = .returned (.tuple #[.int .i64 0, .int .i64 0]) ∧ ∃ v', Has B w' (rdT b s line to_ v' :: tkT v' (l ++ [⟨1, s.extract at_.toNat to_.toNat, line, at_⟩]) :: L) ∧ Below B w w') ∨
  (ok = false ∧ e = .returned (.tuple #[.int .i64 2, .int .i64 to_]) ∧ Has B w' (rdT b s line at_ v :: tkT v l :: L) ∧ Below B w w')
theorem letter_some (c : Int) : ∃ x, token_letter.f c = some x := by
  unfold token_letter.f
  repeat' split
  all_goals exact ⟨_, rfl⟩
theorem wrap_succ {t n : Int} (h0 : 0 ≤ t) (h : t < n) (hn : n ≤ 1000000) : wrap64 (t + 1) = t + 1 := by
  unfold wrap64
  omega
theorem word_ge {s : ByteArray} {fr : Int} (hs : s.size ≤ 1000000) : ∀ {k : Nat} {t : Int} {ok : Bool} {r : Int}, token_word.l0 s fr k t = some (ok, r) → 0 ≤ t → t ≤ s.size → t ≤ r ∧ r ≤ s.size := by
  intro k
  induction k with
  | zero => intro t ok r h; simp [token_word.l0] at h
  | succ k ih =>
    intro t ok r h h0 h1
    simp only [token_word.l0] at h
    by_cases c : t < (s.size : Int)
    · rw [if_pos c, if_pos h0] at h
      obtain ⟨x, hx⟩ := letter_some (bt s t)
      rw [hx] at h
      simp only [Option.bind_some] at h
      rw [wrap_succ h0 c (by omega)] at h
      split at h
      · split at h
        · simp at h; omega
        · have := ih h (by omega) (by omega)
          omega
      · simp at h; omega
    · rw [if_neg c] at h
      simp at h
      omega
theorem has_drewN {B : Nat} {w : World} {L : List Thing} (h : Has B w L) (n : Nat) : Has B (w.drewN n) L ∧ Below B w (w.drewN n) :=
  ⟨h.keeps0 ((Keeps.refl [] w).drewN n), keeps_below ((Keeps.refl [] w).drewN n) (by simp) h.le⟩
set_option maxHeartbeats 8000000 in
set_option maxRecDepth 100000 in
theorem word_calls {B b : Nat} {w : World} {s : ByteArray} {line at_ : Int} {v : Value} {l : List S27} {L : List Thing} (H : Has B w (rdT b s line at_ v :: tkT v l :: L)) (hl : l.length ≤ 1000000) (hs : s.size ≤ 1000000) (hat : 0 ≤ at_) (hat2 : at_ ≤ s.size) {k : Nat} {ok : Bool} {r : Int} (h : token_word.l0 s at_ k at_ = some (ok, r)) :
    Calls Try.prog 49 #[.pointer (some ⟨b, 0, none⟩)] w (WordPost B b s line at_ v l L ok r w) := by
  have q2 := (StrAt.cell (H.get 0 rfl) 2).trans (show _ = some (.int .i64 at_) from rfl)
  obtain ⟨g1, g2⟩ := word_ge hs h hat hat2
  have G1 := Lib.hid g1
  have G2 := Lib.hid g2
  have HA := Lib.hid h
  have HH := Lib.hid H
  have HS := Lib.hid hs
  have HT := Lib.hid hat
  have HT2 := Lib.hid hat2
  have HL := Lib.hid hl
  clear h H g1 g2 hs hat hat2 hl
  go_enter Try.func49, Try.ntmps49
  go_wp2_with fail
  clear q2
  go_loopg [5] k (fun q t wr => ∃ to_ : Int, t = .int .i64 to_ ∧ Hid (token_word.l0 s at_ q to_ = some (ok, r)) ∧ Hid (Has B wr (rdT b s line at_ v :: tkT v l :: L)) ∧ Hid (Below B w wr))
  case atStart => exact ⟨at_, rfl, HA, HH, Lib.hid (Below.refl _ _)⟩
  case round =>
    clear HA HH
    obtain ⟨x, rfl, HA, HH, HB⟩ := hrel
    have q0 := (StrAt.cell (HH.out.get 0 rfl) 0).trans (show _ = some (.string s) from rfl)
    cases gk with
    | zero => exact absurd HA.out (by simp [token_word.l0])
    | succ k1 =>
      have hA := HA.out
      clear HA
      simp only [token_word.l0] at hA
      by_cases c5 : x < (s.size : Int)
      · rw [if_pos c5] at hA
        have c5b0 : decide (x < (s.size : Int)) = true := decide_eq_true c5
        clear c5
        by_cases c6 : 0 ≤ x
        · rw [if_pos c6] at hA
          have c6b0 : decide (0 ≤ x) = true := decide_eq_true c6
          clear c6
          obtain ⟨y, hy⟩ := letter_some (bt s x)
          rw [hy] at hA
          simp only [Option.bind_some] at hA
          have HY := Lib.hid hy
          have hx := bt_at s x
          have p6 := eq_true (of_decide_eq_true c6b0)
          have q6 := eq_true (of_decide_eq_true c5b0)
          clear hy
          have HA := Lib.hid hA
          clear hA
          go_wp2_with fail
          refine (token_letter.calls _ y _ HY.out).mono ?_
          rintro e w4 ⟨rfl, ⟨⟨m, rfl⟩⟩⟩
          obtain ⟨H4, hB4⟩ := has_drewN HH.out m
          have HH4 := Lib.hid H4
          have HB4 := Lib.hid (HB.out.trans hB4)
          clear H4 hB4
          cases y with
          | true =>
            have hA := HA.out
            rw [if_pos rfl] at hA
            clear HA
            by_cases c8 : wrap64 (x - at_) = 255
            · rw [if_pos c8] at hA
              have c8b : (wrap64 (x - at_) == 255) = true := by simpa using c8
              simp only [Option.some.injEq, Prod.mk.injEq] at hA
              obtain ⟨rfl, rfl⟩ := hA
              clear c8
              go_wp2
              go_ret2
              exact .inr ⟨rfl, rfl, HH4.out, HB4.out⟩
            · rw [if_neg c8] at hA
              have c8b : (wrap64 (x - at_) == 255) = false := by simpa using c8
              have HA := Lib.hid hA
              clear hA c8
              go_wp2
              go_roundg k1
              case measure => omega
              case rel => exact ⟨_, rfl, HA, HH4, HB4⟩
          | false =>
            have hA := HA.out
            rw [if_neg (by simp)] at hA
            simp only [Option.some.injEq, Prod.mk.injEq] at hA
            obtain ⟨rfl, rfl⟩ := hA
            have k1 : 0 ≤ at_ := HT.out
            have k2 : at_ ≤ x := G1.out
            have k3 : x ≤ (s.size : Int) := G2.out
            go_wp2_with fail
            refine (join_calls HH4.out HL.out _ _ _ _).mono ?_
            rintro e w5 ⟨rfl, v5, H5, hB5⟩
            have HP := Lib.hid (show WordPost B b s line at_ v l L true x w (.returned (.tuple #[.int .i64 0, .int .i64 0])) w5 from .inl ⟨rfl, rfl, v5, H5, HB4.out.trans hB5⟩)
            clear H5 hB5
            go_wp2
            go_ret2
            exact HP.out
        · rw [if_neg c6] at hA
          cases hA
      · rw [if_neg c5] at hA
        have c5b0 : decide (x < (s.size : Int)) = false := decide_eq_false c5
        clear c5
        simp only [Option.some.injEq, Prod.mk.injEq] at hA
        obtain ⟨rfl, rfl⟩ := hA
        have k1 : 0 ≤ at_ := HT.out
        have k2 : at_ ≤ x := G1.out
        have k3 : x ≤ (s.size : Int) := G2.out
        go_wp2_with fail
        refine (join_calls HH.out HL.out _ _ _ _).mono ?_
        rintro e w5 ⟨rfl, v5, H5, hB5⟩
        have HP := Lib.hid (show WordPost B b s line at_ v l L true x w (.returned (.tuple #[.int .i64 0, .int .i64 0])) w5 from .inl ⟨rfl, rfl, v5, H5, HB.out.trans hB5⟩)
        clear H5 hB5
        go_wp2
        go_ret2
        exact HP.out

end Go.Proofs.Ytnmmapjcphefpaa.G
