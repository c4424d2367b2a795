-- Printed by wip/graft.py out of the translation, over the kit's print; contracts that it lacks are given by hand.
import Derived.Test.YtnmmapjcphefpaaGx0
import Derived.Test.YtnmmapjcphefpaaGx3
import Derived.Test.YtnmmapjcphefpaaGxhtokenreaderjoin
import Derived.Test.YtnmmapjcphefpaaGxhtokenreaderword
import Derived.Test.YtnmmapjcphefpaaKit3
namespace Go.Proofs.Ytnmmapjcphefpaa.G
open Go.RowKit Go.Proofs.YtnmmapjcphefpaaW.PrintWords Go.Proofs.YtnmmapjcphefpaaW.PrintLast Go.Proofs.YtnmmapjcphefpaaW.PrintMore
attribute [local go_sem] max2_int min2_int max_two min_two max_three min_three max_four min_four   -- for this text's walks alone
set_option linter.unusedVariables false
set_option linter.unusedSimpArgs false

/-- GRAFT token_reader_literal: function 48, by hand. -/
theorem graft_token_reader_literal : True := trivial
/-- a literal from fr on: what it is (0: whole), its bytes, the place -/
def token_literal.l0 (s : ByteArray) (fr : Int) : Nat → List Int → Int → Option (Int × List Int × Int)
  | 0, _, _ => none
  | k + 1, t, i => if i < (s.size : Int) then (if 0 ≤ i then (if bt s i = 34 then (some (0, t, wrap64 (i + 1))) else (if bt s i < 32 then (some (110, [], i)) else (if 126 < bt s i then (some (110, [], i)) else (if bt s i = 92 then ((token_escape.f 10 (s.extract (i + 1).toNat s.size)).bind fun p => (if p.2 = 0 then (some (112, [], i)) else (if t.length < 1000000 then (token_literal.l0 s fr k (t ++ [p.1]) (wrap64 (wrap64 (i + p.2) + 1))) else none))) else (if t.length < 1000000 then (token_literal.l0 s fr k (t ++ [bt s i]) (wrap64 (i + 1))) else none))))) else none) else (some (111, [], fr))
def LitPost (B b : Nat) (s : ByteArray) (line at_ : Int) (v : Value) (l : List S27) (L : List Thing) (code : Int) (t : List Int) (to_ : Int) (w : World) (e : Ending) (w' : World) : Prop :=
  (code = 0 ∧ e = .returned (.tuple #[.int .i64 0, .int .i64 0]) ∧ ∃ v', Has B w' (rdT b s line to_ v' :: tkT v' (l ++ [⟨2, strOfNums t, line, at_⟩]) :: L) ∧ Below B w w') ∨
  (code ≠ 0 ∧ e = .returned (.tuple #[.int .i64 code, .int .i64 to_]) ∧ Has B w' (rdT b s line at_ v :: tkT v l :: L) ∧ Below B w w')
def byT (v : Value) (t : List Int) : Thing := rowT v 5 1 t.length (nums .u8 t)
theorem perm_by {α : Type} (a b c : α) (L : List α) : (c :: a :: b :: L).Perm (a :: b :: c :: L) := (List.Perm.swap _ _ _).trans (List.Perm.cons _ (List.Perm.swap _ _ _))
theorem has_by {B : Nat} {w : World} {a b c : Thing} {L : List Thing} (h : Has B w (a :: b :: c :: L)) : Has B w (a :: b :: L) := (h.perm (perm_by a b c L).symm).tail
set_option maxHeartbeats 16000000 in
set_option maxRecDepth 100000 in
theorem literal_calls {B b : Nat} {w : World} {s : ByteArray} {line at_ : Int} {v : Value} {l : List S27} {L : List Thing} (H : Has B w (rdT b s line at_ v :: tkT v l :: L)) (hl : l.length ≤ 1000000) (hs : s.size ≤ 1000000) {k : Nat} {code : Int} {t : List Int} {r : Int} (h : token_literal.l0 s at_ k [] (wrap64 (at_ + 1)) = some (code, t, r)) :
    Calls Try.prog 48 #[.pointer (some ⟨b, 0, none⟩)] w (LitPost B b s line at_ v l L code t r w) := by
  have q2 := (StrAt.cell (H.get 0 rfl) 2).trans (show _ = some (.int .i64 at_) from rfl)
  obtain ⟨H1, hB1⟩ := H.cons (t' := byT (.slice none 0 0) []) (Keeps.refl _ _) (World.ownsRow_nil _ _ _ _) (rowT_nodup ..) (fun k hk => by simp [byT, rowT, Value.ownBlock] at hk)
  have HA := Lib.hid h
  have HH := Lib.hid (H1.perm (perm_by _ _ _ _))
  have HS := Lib.hid hs
  have HL := Lib.hid hl
  clear h H H1 hB1 hs hl
  go_enter Try.func48, Try.ntmps48
  go_wp2_with fail
  clear q2
  go_loopg [5, 6] k (fun q v5 v6 wr => ∃ (t0 : List Int) (i : Int), v6 = .int .i64 i ∧ Hid (token_literal.l0 s at_ q t0 i = some (code, t, r)) ∧ Hid (Has B wr (rdT b s line at_ v :: tkT v l :: byT v5 t0 :: L)) ∧ Hid (Below B w wr))
  case atStart => exact ⟨[], _, rfl, HA, HH, Lib.hid (Below.refl _ _)⟩
  case round =>
    clear HA HH
    obtain ⟨t0, x, rfl, HA, HH, HB⟩ := hrel
    have q0 := (StrAt.cell (HH.out.get 0 rfl) 0).trans (show _ = some (.string s) from rfl)
    cases gk with
    | zero => exact absurd HA.out (by simp [token_literal.l0])
    | succ k1 =>
      have hA := HA.out
      clear HA
      simp only [token_literal.l0] at hA
      by_cases c5 : x < (s.size : Int)
      · rw [if_pos c5] at hA
        have c5b0 : decide (x < (s.size : Int)) = true := decide_eq_true c5
        clear c5
        by_cases c6 : 0 ≤ x
        · rw [if_pos c6] at hA
          have c6b0 : decide (0 ≤ x) = true := decide_eq_true c6
          clear c6
          have hx := bt_at s x
          have p6 := eq_true (of_decide_eq_true c6b0)
          have q6 := eq_true (of_decide_eq_true c5b0)
          by_cases d1 : bt s x = 34
          · rw [if_pos d1] at hA
            have d1b : (bt s x == 34) = true := by simpa using d1
            simp only [Option.some.injEq, Prod.mk.injEq] at hA
            obtain ⟨rfl, rfl, rfl⟩ := hA
            have hcv := own_string (P := Try.prog) Try.underlying37 Try.underlying5 Try.underlying9 (show wr.ownsRow 0 5 1 u5 t0.length (nums .u8 t0) from HH.out.get 2 rfl)
            clear d1
            go_wp2_with fail
            refine (join_calls HH.out HL.out _ _ _ _).mono ?_
            rintro e w5 ⟨rfl, v5, H5, hB5⟩
            have HP := Lib.hid (show LitPost B b s line at_ v l L 0 t0 (wrap64 (x + 1)) w (.returned (.tuple #[.int .i64 0, .int .i64 0])) w5 from .inl ⟨rfl, rfl, v5, has_by H5, HB.out.trans hB5⟩)
            clear H5 hB5 hcv
            go_wp2
            go_ret2
            exact HP.out
          · rw [if_neg d1] at hA
            have d1b : (bt s x == 34) = false := by simpa using d1
            clear d1
            have hE : ∀ c : Int, c ≠ 0 → LitPost B b s line at_ v l L c [] x w (.returned (.tuple #[.int .i64 c, .int .i64 x])) wr := fun c hc => .inr ⟨hc, rfl, has_by HH.out, HB.out⟩
            have HE := Lib.hid hE
            clear hE
            by_cases d2 : bt s x < 32
            · rw [if_pos d2] at hA
              have d2b : decide (bt s x < 32) = true := decide_eq_true d2
              simp only [Option.some.injEq, Prod.mk.injEq] at hA
              obtain ⟨rfl, rfl, rfl⟩ := hA
              clear d2
              go_wp2
              go_ret2
              exact HE.out 110 (by decide)
            · rw [if_neg d2] at hA
              have d2b : decide (bt s x < 32) = false := decide_eq_false d2
              clear d2
              by_cases d3 : 126 < bt s x
              · rw [if_pos d3] at hA
                have d3b : decide (126 < bt s x) = true := decide_eq_true d3
                simp only [Option.some.injEq, Prod.mk.injEq] at hA
                obtain ⟨rfl, rfl, rfl⟩ := hA
                clear d3
                go_wp2
                go_ret2
                exact HE.out 110 (by decide)
              · rw [if_neg d3] at hA
                have d3b : decide (126 < bt s x) = false := decide_eq_false d3
                clear d3
                by_cases d4 : bt s x = 92
                · rw [if_pos d4] at hA
                  have d4b : (bt s x == 92) = true := by simpa using d4
                  clear d4
                  cases he : token_escape.f 10 (s.extract (x + 1).toNat s.size) with
                  | none => rw [he] at hA; cases hA
                  | some p =>
                    obtain ⟨p1, p2⟩ := p
                    rw [he] at hA
                    simp only [Option.bind_some] at hA
                    have HEs := Lib.hid he
                    have HA := Lib.hid hA
                    have g1 : 0 ≤ x := of_decide_eq_true c6b0
                    have g2 : x < (s.size : Int) := of_decide_eq_true c5b0
                    have g3 := HS.out
                    have e1 : wrap64 (x + 1) = x + 1 := wrap_succ g1 g2 (by omega)
                    have e2 : 0 ≤ x + 1 := by omega
                    have e3 : x + 1 ≤ (s.size : Int) := by omega
                    clear he hA g1 g2 g3
                    go_wp2_with fail
                    refine (token_escape.calls 10 _ p1 p2 _ HEs.out).mono ?_
                    rintro e w4 ⟨rfl, ⟨⟨m, rfl⟩⟩⟩
                    obtain ⟨H4, hB4⟩ := has_drewN HH.out m
                    have HH4 := Lib.hid H4
                    have HB4 := Lib.hid (HB.out.trans hB4)
                    clear H4 hB4 e1 e2 e3
                    have hA := HA.out
                    clear HA
                    by_cases d5 : p2 = 0
                    · rw [if_pos d5] at hA
                      subst d5
                      simp only [Option.some.injEq, Prod.mk.injEq] at hA
                      obtain ⟨rfl, rfl, rfl⟩ := hA
                      have HP := Lib.hid (show LitPost B b s line at_ v l L 112 [] x w (.returned (.tuple #[.int .i64 112, .int .i64 x])) (wr.drewN m) from .inr ⟨by decide, rfl, has_by HH4.out, HB4.out⟩)
                      go_wp2
                      go_ret2
                      exact HP.out
                    · rw [if_neg d5] at hA
                      have d5b : (p2 == 0) = false := by simpa using d5
                      clear d5
                      by_cases c9 : t0.length < 1000000
                      · rw [if_pos c9] at hA
                        have HA := Lib.hid hA
                        have C9 := Lib.hid c9
                        clear hA c9
                        go_wp2_with (at_builtin; refine wp_push rfl _ _ 37 5 (.int .u8 0) 1 1 rfl Try.underlying37 info5 rfl (by omega) (by omega) u5 t0.length (nums .u8 t0) #[.int .u8 p1] rfl rfl (by simp) rfl ?d1 (HH4.out.get 2 rfl) ?d2 ?_)
                        case d1 => simp [Value.oneCell']
                        case d2 => have := C9.out; omega
                        intro v6 w6 hown6 hk6 hf6
                        obtain ⟨h6, hB6⟩ := HH4.out.row 2 rfl hown6 hk6 hf6
                        have HN := Lib.hid (show Has B w6 (rdT b s line at_ v :: tkT v l :: byT v6 (t0 ++ [p1]) :: L) by
                          have e9 : byT v6 (t0 ++ [p1]) = rowT v6 5 1 (t0.length + 1) (nums .u8 t0 ++ (#[Value.int .u8 p1] : Array Value).toList) := by simp [byT, nums]
                          rw [e9]
                          exact h6)
                        have HBN := Lib.hid (HB4.out.trans hB6)
                        clear hown6 hk6 hf6 h6 hB6
                        go_wp2
                        go_roundg k1
                        case measure => omega
                        case rel => exact ⟨_, _, rfl, HA, HN, HBN⟩
                      · rw [if_neg c9] at hA
                        cases hA
                · rw [if_neg d4] at hA
                  have d4b : (bt s x == 92) = false := by simpa using d4
                  clear d4
                  by_cases c9 : t0.length < 1000000
                  · rw [if_pos c9] at hA
                    have HA := Lib.hid hA
                    have C9 := Lib.hid c9
                    clear hA c9
                    go_wp2_with (at_builtin; refine wp_push rfl _ _ 37 5 (.int .u8 0) 1 1 rfl Try.underlying37 info5 rfl (by omega) (by omega) u5 t0.length (nums .u8 t0) #[.int .u8 (bt s x)] rfl rfl (by simp) rfl ?d1 (HH.out.get 2 rfl) ?d2 ?_)
                    case d1 => simp [Value.oneCell']
                    case d2 => have := C9.out; omega
                    intro v6 w6 hown6 hk6 hf6
                    obtain ⟨h6, hB6⟩ := HH.out.row 2 rfl hown6 hk6 hf6
                    have HN := Lib.hid (show Has B w6 (rdT b s line at_ v :: tkT v l :: byT v6 (t0 ++ [bt s x]) :: L) by
                      have e9 : byT v6 (t0 ++ [bt s x]) = rowT v6 5 1 (t0.length + 1) (nums .u8 t0 ++ (#[Value.int .u8 (bt s x)] : Array Value).toList) := by simp [byT, nums]
                      rw [e9]
                      exact h6)
                    have HBN := Lib.hid (HB.out.trans hB6)
                    clear hown6 hk6 hf6 h6 hB6
                    go_wp2
                    go_roundg k1
                    case measure => omega
                    case rel => exact ⟨_, _, rfl, HA, HN, HBN⟩
                  · rw [if_neg c9] at hA
                    cases hA
        · rw [if_neg c6] at hA
          cases hA
      · rw [if_neg c5] at hA
        have c5b0 : decide (x < (s.size : Int)) = false := decide_eq_false c5
        clear c5
        simp only [Option.some.injEq, Prod.mk.injEq] at hA
        obtain ⟨rfl, rfl, rfl⟩ := hA
        have HP := Lib.hid (show LitPost B b s line at_ v l L 111 [] at_ w (.returned (.tuple #[.int .i64 111, .int .i64 at_])) wr from .inr ⟨by decide, rfl, has_by HH.out, HB.out⟩)
        go_wp2
        go_ret2
        exact HP.out

end Go.Proofs.Ytnmmapjcphefpaa.G
