-- Printed by wip/graft.py out of the translation, over the kit's print; contracts that it lacks are given by hand.
import Derived.Test.YtnmmapjcphefpaaGx0
import Derived.Test.YtnmmapjcphefpaaGxhstringsCut
import Derived.Test.YtnmmapjcphefpaaGxhtokenreaderjoin
import Derived.Test.YtnmmapjcphefpaaGxhtokenreaderliteral
import Derived.Test.YtnmmapjcphefpaaGxhtokenreaderread
import Derived.Test.YtnmmapjcphefpaaGxhtokenreaderword
import Derived.Test.YtnmmapjcphefpaaKit3
namespace Go.Proofs.Ytnmmapjcphefpaa.G
open Go.RowKit Go.Proofs.YtnmmapjcphefpaaW.PrintWords Go.Proofs.YtnmmapjcphefpaaW.PrintLast Go.Proofs.YtnmmapjcphefpaaW.PrintMore
attribute [local go_sem] max2_int min2_int max_two min_two max_three min_three max_four min_four   -- for this text's walks alone
set_option linter.unusedVariables false
set_option linter.unusedSimpArgs false

/-- GRAFT token_Tokens: function 22, by hand. -/
theorem graft_token_Tokens : True := trivial
def token_Tokens.l0 : Nat → ByteArray → Int → List S27 → Option (List S27 × Int × Int × Int)
  | 0, _, _, _ => none
  | k + 1, x, line, l => if x.toList = ([] : List UInt8) then (some (l, 0, 0, 0)) else ((token_read.l0 (cutNL x).1 line k 0 0 l).bind fun p => (if p.1 = 0 then (token_Tokens.l0 k (cutNL x).2.1 (wrap64 (line + 1)) p.2.2) else (some ([], p.1, line, p.2.1))))
def token_Tokens.f (k : Nat) (a0 : ByteArray) : Option (List S27 × Int × Int × Int) := if (a0.size : Int) > 65536 then (some ([], 2, 0, 0)) else (token_Tokens.l0 k a0 1 [])
theorem word_mono (s : ByteArray) (fr : Int) : ∀ k t, LeO (token_word.l0 s fr k t) (token_word.l0 s fr (k + 1) t) := by
  intro k
  induction k with
  | zero => intro t r h; simp [token_word.l0] at h
  | succ k ih =>
    intro t
    rw [token_word.l0, token_word.l0]
    repeat' first | exact LeO.refl _ | exact ih _ | refine LeO.ite ?_ ?_ | refine LeO.bind ?_ (fun _ => ?_)
theorem literal_mono (s : ByteArray) (fr : Int) : ∀ k t i, LeO (token_literal.l0 s fr k t i) (token_literal.l0 s fr (k + 1) t i) := by
  intro k
  induction k with
  | zero => intro t i r h; simp [token_literal.l0] at h
  | succ k ih =>
    intro t i
    rw [token_literal.l0, token_literal.l0]
    repeat' first | exact ih _ _ | exact LeO.refl _ | refine LeO.ite ?_ ?_ | refine LeO.bind ?_ (fun _ => ?_)
theorem read_mono (s : ByteArray) (line : Int) : ∀ k a en l, LeO (token_read.l0 s line k a en l) (token_read.l0 s line (k + 1) a en l) := by
  intro k
  induction k with
  | zero => intro a en l r h; simp [token_read.l0] at h
  | succ k ih =>
    intro a en l
    rw [token_read.l0, token_read.l0]
    repeat' first | exact ih _ _ _ | exact word_mono _ _ _ _ | exact literal_mono _ _ _ _ _ | exact LeO.refl _ | refine LeO.ite ?_ ?_ | refine LeO.bind ?_ (fun _ => ?_)
theorem tokens_mono : ∀ k x line l, LeO (token_Tokens.l0 k x line l) (token_Tokens.l0 (k + 1) x line l) := by
  intro k
  induction k with
  | zero => intro x line l r h; simp [token_Tokens.l0] at h
  | succ k ih =>
    intro x line l
    rw [token_Tokens.l0, token_Tokens.l0]
    repeat' first | exact ih _ _ _ | exact read_mono _ _ _ _ _ _ | exact LeO.refl _ | refine LeO.ite ?_ ?_ | refine LeO.bind ?_ (fun _ => ?_)
theorem token_Tokens.mono : ∀ a0 k, LeO (token_Tokens.f k a0) (token_Tokens.f (k + 1) a0) := by
  intro a0 k
  unfold token_Tokens.f
  exact LeO.ite (LeO.refl _) (tokens_mono k a0 1 [])
theorem reps_tk (R : S27 → List Value → Prop) (hR : ∀ t, R t [.int .i64 t.f0, .string t.f1, .int .i64 t.f2, .int .i64 t.f3]) : ∀ l : List S27, Reps R 4 l (tcells l) := by
  intro l
  induction l with
  | nil => exact Reps.none _ _
  | cons t l ih =>
    have e : tcells (t :: l) = [.int .i64 t.f0, .string t.f1, .int .i64 t.f2, .int .i64 t.f3] ++ tcells l := by simp [tcells]
    rw [e]
    refine ⟨by rw [List.length_append, ih.1]; simp; omega, fun j p hj => ?_⟩
    cases j with
    | zero =>
      simp only [List.getElem?_cons_zero, Option.some.injEq] at hj
      subst hj
      exact hR _
    | succ j =>
      rw [show (j + 1) * 4 = 4 + j * 4 by omega, ← List.drop_drop]
      exact ih.2 j p (by simpa using hj)
theorem tk_R {B : Nat} {w : World} {v : Value} {l : List S27} (h : Has B w [tkT v l]) : Kd.R k27 27 w B (fun _ => True) v l := by
  refine ⟨fun _ _ => trivial, tcells l, ?_, reps_tk _ (fun t => k27_mkM _ _ _ t) l⟩
  have hP : w.ownsRow 0 27 4 v l.length (tcells l) := h.get 0 rfl
  refine ⟨hP.1, ?_⟩
  rcases hP.2 with h1 | ⟨g, cap, cur, rfl, _, h2⟩
  · exact .inl h1
  · exact .inr ⟨g, cap, cur, rfl, h.ge g (by simp [fps, tkT, rowT, Value.ownBlock]), h2⟩
def TokPost (r1 : List S27) (r2 r3 r4 : Int) (w : World) (e : Ending) (w' : World) : Prop :=
  ∃ v0_ : Value, e = .returned (.tuple #[v0_, .int .i64 r2, .int .i64 r3, .int .i64 r4]) ∧ Kd.R k27 27 w' w.heap.size (fun _ => True) v0_ r1 ∧ Below w.heap.size w w'
theorem Hasnew (w : World) : Has w.heap.size w [] := Has.nil _ _ (Nat.le_refl _)
set_option maxHeartbeats 16000000 in
set_option maxRecDepth 100000 in
theorem tokens_calls (k : Nat) (a0 : ByteArray) (r1 : List S27) (r2 : Int) (r3 : Int) (r4 : Int) (w : World) (h : token_Tokens.f k a0 = some (r1, r2, r3, r4)) :
    Calls Try.prog 22 #[.string a0] w (TokPost r1 r2 r3 r4 w) := by
  unfold token_Tokens.f at h
  by_cases c1 : (a0.size : Int) > 65536
  · rw [if_pos c1] at h
    have c1b : decide (65536 < (a0.size : Int)) = true := decide_eq_true c1
    have c1c : decide (65536 < a0.size) = true := decide_eq_true (by omega)
    simp only [Option.some.injEq, Prod.mk.injEq] at h
    obtain ⟨rfl, rfl, rfl, rfl⟩ := h
    clear c1
    go_enter Try.func22, Try.ntmps22
    go_wp2
    refine bodyPost_ret (results_list (rs := [.tmp 2, .tmp 3, .tmp 4, .tmp 5]) rfl (by simp) (.tmp (.tmp (.tmp (.tmp .nil))))) rfl ?_
    exact ⟨_, rfl, Kd.R_nil _ _ _ _ _, Below.refl _ _⟩
  · rw [if_neg c1] at h
    have c1b : decide (65536 < (a0.size : Int)) = false := decide_eq_false c1
    have c1c : decide (65536 < a0.size) = false := decide_eq_false (by omega)
    have HS := Lib.hid (show a0.size ≤ 65536 by omega)
    obtain ⟨H1, hB1⟩ := (Hasnew w).cons (t' := tkT (.slice none 0 0) []) (Keeps.refl _ _) (World.ownsRow_nil _ _ _ _) (rowT_nodup ..) (fun k hk => by simp [tkT, rowT, Value.ownBlock] at hk)
    have HA := Lib.hid h
    have HH := Lib.hid (show HasB w.heap.size w [tkT (.slice none 0 0) []] w from ⟨H1, Below.refl _ _⟩)
    clear h H1 hB1 c1
    go_enter Try.func22, Try.ntmps22
    go_wp2_with fail
    clear c1b c1c
    go_loopg [0, 6, 7] k (fun q s0 s6 s7 wr => ∃ (x : ByteArray) (line : Int) (l : List S27), s0 = .string x ∧ s7 = .int .i64 line ∧ Hid (x.size ≤ 65536) ∧ Hid (token_Tokens.l0 q x line l = some (r1, r2, r3, r4)) ∧ Hid (HasB w.heap.size w [tkT s6 l] wr))
    case atStart => exact ⟨a0, 1, [], rfl, rfl, HS, HA, HH⟩
    case round =>
      clear HA HH HS
      obtain ⟨x, line, l, rfl, rfl, HS, HA, HB⟩ := hrel
      cases gk with
      | zero => exact absurd HA.out (by simp [token_Tokens.l0])
      | succ k1 =>
        have hA := HA.out
        clear HA
        simp only [token_Tokens.l0] at hA
        by_cases c2 : x.toList = ([] : List UInt8)
        · rw [if_pos c2] at hA
          have c2b0 : (x.toList == ([] : List UInt8)) = true := beq_iff_eq.mpr c2
          have c2b1 : (x.toList != ([] : List UInt8)) = false := bne_eq_false_iff_eq.mpr c2
          simp only [Option.some.injEq, Prod.mk.injEq] at hA
          obtain ⟨rfl, rfl, rfl, rfl⟩ := hA
          have HP := Lib.hid (show TokPost l 0 0 0 w (.returned (.tuple #[u6, .int .i64 0, .int .i64 0, .int .i64 0])) wr from ⟨_, rfl, tk_R HB.out.1, HB.out.2⟩)
          clear c2
          go_wp2
          refine bodyPost_ret (results_list (rs := [.tmp 2, .tmp 3, .tmp 4, .tmp 5]) rfl (by simp) (.tmp (.tmp (.tmp (.tmp .nil))))) rfl ?_
          exact HP.out
        · rw [if_neg c2] at hA
          have c2b0 : (x.toList == ([] : List UInt8)) = false := beq_eq_false_iff_ne.mpr c2
          have c2b1 : (x.toList != ([] : List UInt8)) = true := bne_iff_ne.mpr c2
          clear c2
          cases he : token_read.l0 (cutNL x).1 line k1 0 0 l with
          | none => rw [he] at hA; cases hA
          | some p =>
            obtain ⟨p1, p2, p3⟩ := p
            rw [he] at hA
            simp only [Option.bind_some] at hA
            have HEs := Lib.hid he
            have HA := Lib.hid hA
            clear he hA
            go_wp2_with fail
            refine (cut_calls x _ (by have := HS.out; omega)).mono ?_
            rintro e w4 ⟨rfl, ⟨⟨m4, rfl⟩⟩⟩
            have HB4 := Lib.hid (hb_dr (n := m4) HB.out)
            have HLE := Lib.hid (cutNL_le x)
            obtain ⟨ao, cv, hv⟩ := tk_len HB.out.1 0 rfl
            subst hv
            go_wp2_with fail
            obtain ⟨H5, hB5⟩ := HB4.out.1.cons (t' := rdT (wr.drewN m4).heap.size (cutNL x).1 line 0 (.slice ao l.length cv)) ((Keeps.refl [] _).alloc (.cells #[.string (cutNL x).1, .int .i64 line, .int .i64 0, .slice ao l.length cv] 70)) (StrAt.new _ _ _) (strT_nodup ..) (fun k hk => by simp [rdT, strT] at hk; simp; omega)
            refine (read_calls H5 (by have := HLE.out.1; have := HS.out; omega) HEs.out).mono ?_
            rintro e w6 ⟨rfl, hB6, v6, a6, l6, hcode, H6⟩
            have hA := HA.out
            clear HA
            by_cases c3 : p1 = 0
            · subst c3
              rw [if_pos rfl] at hA
              obtain rfl := hcode rfl
              have HA := Lib.hid hA
              have q3 : w6.cell? ⟨wr.heap.size, 3, none⟩ = some v6 := (StrAt.cell (H6.get 0 rfl) 3).trans (show _ = some v6 from rfl)
              have HN := Lib.hid (show HasB w.heap.size w [tkT v6 l6] w6 from ⟨H6.tail, HB4.out.2.trans (hB5.trans hB6)⟩)
              have HSN := Lib.hid (show (cutNL x).2.1.size ≤ 65536 from Nat.le_trans HLE.out.2 HS.out)
              clear hA H5 H6 hB5 hB6 hcode
              go_wp2
              go_roundg k1
              case measure => omega
              case rel => exact ⟨_, _, _, rfl, rfl, HSN, HA, HN⟩
            · rw [if_neg c3] at hA
              simp only [Option.some.injEq, Prod.mk.injEq] at hA
              obtain ⟨rfl, rfl, rfl, rfl⟩ := hA
              have c3b : (p1 == 0) = false := by simpa using c3
              have c3c : (p1 != 0) = true := by simpa using c3
              have HP := Lib.hid (show TokPost [] p1 line p2 w (.returned (.tuple #[.slice none 0 0, .int .i64 p1, .int .i64 line, .int .i64 p2])) w6 from ⟨_, rfl, Kd.R_nil _ _ _ _ _, HB4.out.2.trans (hB5.trans hB6)⟩)
              clear H5 H6 hB5 hB6 hcode c3
              go_wp2
              refine bodyPost_ret (results_list (rs := [.tmp 2, .tmp 3, .tmp 4, .tmp 5]) rfl (by simp) (.tmp (.tmp (.tmp (.tmp .nil))))) rfl ?_
              exact HP.out
theorem token_Tokens.calls (k : Nat) (a0 : ByteArray) (r1 : List S27) (r2 : Int) (r3 : Int) (r4 : Int) (w : World) (h : token_Tokens.f k a0 = some (r1, r2, r3, r4)) :
    Calls Try.prog 22 #[.string a0] w fun e w' => ∃ v0_ : Value, e = .returned (.tuple #[v0_, .int .i64 r2, .int .i64 r3, .int .i64 r4]) ∧ Kd.R k27 27 w' w.heap.size (fun _ => True) v0_ r1 ∧ Below w.heap.size w w' := tokens_calls k a0 r1 r2 r3 r4 w h

end Go.Proofs.Ytnmmapjcphefpaa.G
