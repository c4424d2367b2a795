import Derived.Test.YtnmmapjcphefpaaGxhtokenTokens
import Derived.Test.YtnmmapjcphefpaaGxhkilnref11escape
import Derived.Lib.IndexLaws
import Derived.Test.YtnmmapjcphefpaaGx7
import Derived.Test.YtnmmapjcphefpaaGx10
import Derived.Test.YtnmmapjcphefpaaGxhtokenPrint
import Derived.Test.YtnmmapjcphefpaaGxhkilnlaw11prints
import Derived.Test.YtnmmapjcphefpaaGx11
-- Token, the plain law, part 1: one machine that goes over a text byte by byte; what the program's loops tell is what it tells.
namespace Go.Proofs.Ytnmmapjcphefpaa.G
open Go.RowKit Go.Proofs.YtnmmapjcphefpaaW.PrintWords Go.Proofs.YtnmmapjcphefpaaW.PrintLast Go.Proofs.YtnmmapjcphefpaaW.PrintMore
set_option linter.unusedVariables false
set_option linter.unusedSimpArgs false

abbrev By := List UInt8
def bs (s : ByteArray) : By := s.data.toList
def mk (l : By) : ByteArray := ⟨l.toArray⟩
theorem bs_mk (l : By) : bs (mk l) = l := rfl
theorem mk_bs (s : ByteArray) : mk (bs s) = s := rfl
theorem bs_length (s : ByteArray) : (bs s).length = s.size := Array.length_toList
theorem toList_data (s : ByteArray) : s.toList = s.data.toList := Go.Lib.toList_data s
def cI (c : UInt8) : Int := (c.toNat : Int)
theorem cI_inj {a b : UInt8} (h : cI a = cI b) : a = b := by
  have : a.toNat = b.toNat := by unfold cI at h; omega
  exact UInt8.toNat_inj.1 this
theorem cI_bd (c : UInt8) : 0 ≤ cI c ∧ cI c ≤ 255 := by have := c.toNat_lt; unfold cI; omega
def letB (c : UInt8) : Bool := (token_letter.f (cI c)).getD false
theorem letB_is (c : UInt8) : token_letter.f (cI c) = some (letB c) := by
  obtain ⟨x, hx⟩ := letter_some (cI c)
  rw [letB, hx]; rfl
def signB (c : UInt8) : Int := (token_sign.f (cI c)).getD 0
theorem signB_is (c : UInt8) : token_sign.f (cI c) = some (signB c) := by
  obtain ⟨x, hx⟩ := sign_some (cI c)
  rw [signB, hx]; rfl
def hexU (c : UInt8) : Int := hexV (cI c)

inductive Mode
  | bl | wd (w : By) (a : Int) | lit (t : By) (a : Int) | esc (t : By) (a p : Int) | hx (t : By) (a p : Int) | hy (t : By) (a p d : Int) | rem
  | err (code line place : Int)
structure St where
  tk : List S27
  ln : Int
  col : Int
  beh : Int
  md : Mode
def endT (n p : Int) : S27 := ⟨7, ⟨#[]⟩, n, p⟩
def St.endl (s : St) : St := ⟨s.tk ++ [endT s.ln s.beh], s.ln + 1, 0, 0, .bl⟩
def blank (s : St) (c : UInt8) : St :=
  if c = 10 then s.endl
  else if c = 32 then { s with col := s.col + 1, md := .bl }
  else if c = 35 then { s with md := .rem }
  else if c = 34 then { s with col := s.col + 1, md := .lit [] s.col }
  else if letB c = true then { s with col := s.col + 1, md := .wd [c] s.col }
  else if 0 < signB c then ⟨s.tk ++ [⟨signB c, ⟨#[]⟩, s.ln, s.col⟩], s.ln, s.col + 1, s.col + 1, .bl⟩
  else { s with md := .err 110 s.ln s.col }
def step (s : St) (c : UInt8) : St :=
  match s.md with
  | .bl => blank s c
  | .wd w a =>
    if letB c = true then (if w.length = 255 then { s with md := .err 2 s.ln s.col } else { s with col := s.col + 1, md := .wd (w ++ [c]) a })
    else blank ⟨s.tk ++ [⟨1, mk w, s.ln, a⟩], s.ln, s.col, s.col, .bl⟩ c
  | .lit t a =>
    if c = 10 then { s with md := .err 111 s.ln a }
    else if c = 34 then ⟨s.tk ++ [⟨2, mk t, s.ln, a⟩], s.ln, s.col + 1, s.col + 1, .bl⟩
    else if cI c < 32 then { s with md := .err 110 s.ln s.col }
    else if 126 < cI c then { s with md := .err 110 s.ln s.col }
    else if c = 92 then { s with col := s.col + 1, md := .esc t a s.col }
    else { s with col := s.col + 1, md := .lit (t ++ [c]) a }
  | .esc t a p =>
    if c = 34 then { s with col := s.col + 1, md := .lit (t ++ [34]) a }
    else if c = 92 then { s with col := s.col + 1, md := .lit (t ++ [92]) a }
    else if c = 110 then { s with col := s.col + 1, md := .lit (t ++ [10]) a }
    else if c = 120 then { s with col := s.col + 1, md := .hx t a p }
    else { s with md := .err 112 s.ln p }
  | .hx t a p => if 0 ≤ hexU c then { s with col := s.col + 1, md := .hy t a p (hexU c) } else { s with md := .err 112 s.ln p }
  | .hy t a p d => if 0 ≤ hexU c then { s with col := s.col + 1, md := .lit (t ++ [UInt8.ofNat (16 * d + hexU c).toNat]) a } else { s with md := .err 112 s.ln p }
  | .rem => if c = 10 then s.endl else s
  | .err _ _ _ => s
def run (s : St) (l : By) : St := l.foldl step s
theorem run_nil (s : St) : run s [] = s := rfl
theorem run_cons (s : St) (c : UInt8) (l : By) : run s (c :: l) = run (step s c) l := rfl
theorem run_append (s : St) (a b : By) : run s (a ++ b) = run (run s a) b := List.foldl_append
theorem run_err {s : St} {c n p : Int} (h : s.md = .err c n p) : ∀ l, run s l = s := by
  intro l
  induction l with
  | nil => rfl
  | cons x l ih =>
    have h1 : step s x = s := by
      unfold step
      rw [h]
    rw [run_cons, h1, ih]
/-- what the machine tells: tokens, error, line, place -/
def St.out (s : St) : List S27 × Int × Int × Int := match s.md with
  | .err c n p => ([], c, n, p)
  | _ => (s.tk, 0, 0, 0)
/-- the text's end: an open line is closed -/
def St.fin (s : St) : St := match s.md with
  | .bl => if s.col = 0 then s else step s 10
  | _ => step s 10
def st0 : St := ⟨[], 1, 0, 0, .bl⟩
def lex (l : By) : List S27 × Int × Int × Int := (run st0 l).fin.out

/-! bytes at places -/
theorem drop_at (s : ByteArray) (i : Int) (h0 : 0 ≤ i) (h : i < (s.size : Int)) : ∃ c, (bs s).drop i.toNat = c :: (bs s).drop (i + 1).toNat ∧ bt s i = cI c := by
  have hi : i.toNat < s.size := by omega
  have hl : i.toNat < (bs s).length := by rw [bs_length]; exact hi
  refine ⟨(bs s)[i.toNat], ?_, ?_⟩
  · rw [show (i + 1).toNat = i.toNat + 1 by omega]
    exact List.drop_eq_getElem_cons hl
  · rw [← bt_at s i hi]; rfl
theorem drop_end (s : ByteArray) (i : Int) (h : (s.size : Int) ≤ i) : (bs s).drop i.toNat = [] := List.drop_eq_nil_of_le (by rw [bs_length]; omega)
def sl (s : ByteArray) (a b : Int) : By := bs (s.extract a.toNat b.toNat)
theorem mk_sl (s : ByteArray) (a b : Int) : mk (sl s a b) = s.extract a.toNat b.toNat := rfl
theorem sl_eq (s : ByteArray) (a b : Int) : sl s a b = ((bs s).drop a.toNat).take (b.toNat - a.toNat) := by
  unfold sl bs
  rw [ByteArray.data_extract, Array.toList_extract, List.extract_eq_take_drop]
theorem sl_nil (s : ByteArray) (a : Int) : sl s a a = [] := by rw [sl_eq]; simp
theorem sl_length (s : ByteArray) (a b : Int) (h0 : 0 ≤ a) (h1 : a ≤ b) (h2 : b ≤ s.size) : ((sl s a b).length : Int) = b - a := by
  rw [sl_eq, List.length_take, List.length_drop, bs_length]; omega
theorem sl_snoc (s : ByteArray) (a i : Int) (c : UInt8) (l : By) (h0 : 0 ≤ a) (h1 : a ≤ i) (h : (bs s).drop i.toNat = c :: l) : sl s a (i + 1) = sl s a i ++ [c] := by
  have hi : i.toNat < (bs s).length := by
    rcases Nat.lt_or_ge i.toNat (bs s).length with hh | hh
    · exact hh
    · rw [List.drop_eq_nil_of_le hh] at h; cases h
  have hc : (bs s)[i.toNat] = c := by
    rw [List.drop_eq_getElem_cons hi] at h
    exact (List.cons.inj h).1
  rw [sl_eq, sl_eq, show (i + 1).toNat - a.toNat = (i.toNat - a.toNat) + 1 by omega]
  rw [List.take_add_one, List.getElem?_drop, show a.toNat + (i.toNat - a.toNat) = i.toNat by omega, List.getElem?_eq_getElem hi, hc]
  rfl
/-! the program's words -/
theorem word_ev (s : ByteArray) (hs : s.size ≤ 65536) (tk : List S27) (ln beh fr : Int) (h0 : 0 ≤ fr) : ∀ (n : Nat) (t : Int), n = (s.size - t).toNat → fr ≤ t → t ≤ s.size → t - fr ≤ 255 →
    ∃ ok t', Ev (fun k => token_word.l0 s fr k t) (ok, t') ∧ t ≤ t' ∧ t' ≤ s.size ∧
      (ok = true → run ⟨tk, ln, t, beh, .wd (sl s fr t) fr⟩ ((bs s).drop t.toNat) = run ⟨tk, ln, t', beh, .wd (sl s fr t') fr⟩ ((bs s).drop t'.toNat) ∧ (∀ c l, (bs s).drop t'.toNat = c :: l → letB c = false)) ∧
      (ok = false → (run ⟨tk, ln, t, beh, .wd (sl s fr t) fr⟩ ((bs s).drop t.toNat)).md = .err 2 ln t') := by
  intro n
  induction n with
  | zero =>
    intro t hn h1 h2 h3
    refine ⟨true, t, ?_, Int.le_refl _, h2, fun _ => ⟨rfl, ?_⟩, fun h => (by cases h)⟩
    · refine Ev.step (f := fun _ => some (true, t)) (fun k => ?_) (Ev.now _)
      unfold token_word.l0
      rw [if_neg (by omega)]
    · intro c l hd
      rw [drop_end s t (by omega)] at hd
      cases hd
  | succ n ih =>
    intro t hn h1 h2 h3
    have hlt : t < (s.size : Int) := by omega
    obtain ⟨c, hd, hb⟩ := drop_at s t (by omega) hlt
    have hr : ∀ k, token_word.l0 s fr (k + 1) t = (if letB c = true then (if wrap64 (t - fr) = 255 then (some (false, t)) else (token_word.l0 s fr k (wrap64 (t + 1)))) else (some (true, t))) := by
      intro k
      conv => lhs; unfold token_word.l0
      rw [if_pos hlt, if_pos (by omega), hb, letB_is]
      rfl
    cases hc : letB c with
    | false =>
      refine ⟨true, t, Ev.step (f := fun _ => some (true, t)) (fun k => by rw [hr, hc]; rfl) (Ev.now _), Int.le_refl _, h2, fun _ => ⟨rfl, ?_⟩, fun h => (by cases h)⟩
      intro c' l hd'
      rw [hd] at hd'
      rw [← (List.cons.inj hd').1]; exact hc
    | true =>
      have hlen := sl_length s fr t h0 h1 h2
      by_cases h255 : t - fr = 255
      · refine ⟨false, t, Ev.step (f := fun _ => some (false, t)) (fun k => by rw [hr, hc, if_pos rfl, if_pos (by rw [IntWalk.wrap64_in _ (by omega)]; exact h255)]) (Ev.now _), Int.le_refl _, h2, fun h => (by cases h), fun _ => ?_⟩
        rw [hd, run_cons]
        have hstep : step ⟨tk, ln, t, beh, .wd (sl s fr t) fr⟩ c = ⟨tk, ln, t, beh, .err 2 ln t⟩ := by
          unfold step
          simp only [hc, if_true]
          rw [if_pos (by omega)]
        rw [hstep, run_err (s := ⟨tk, ln, t, beh, .err 2 ln t⟩) rfl]
      · obtain ⟨ok, t', hev, q1, q2, q3, q4⟩ := ih (t + 1) (by omega) (by omega) (by omega) (by omega)
        have hstep : step ⟨tk, ln, t, beh, .wd (sl s fr t) fr⟩ c = ⟨tk, ln, t + 1, beh, .wd (sl s fr (t + 1)) fr⟩ := by
          rw [sl_snoc s fr t c _ h0 h1 hd]
          unfold step
          simp only [hc, if_true]
          rw [if_neg (by omega)]
        refine ⟨ok, t', Ev.step (f := fun k => token_word.l0 s fr k (t + 1)) (fun k => by rw [hr, hc, if_pos rfl, if_neg (by rw [IntWalk.wrap64_in _ (by omega)]; exact h255), IntWalk.wrap64_in _ (by omega)]) hev, by omega, q2, ?_, ?_⟩
        · intro hok; rw [hd, run_cons, hstep]; exact q3 hok
        · intro hok; rw [hd, run_cons, hstep]; exact q4 hok
end Go.Proofs.Ytnmmapjcphefpaa.G

-- Token, the plain law, part 2: the program's literals, lines and texts against the machine.
namespace Go.Proofs.Ytnmmapjcphefpaa.G
open Go.RowKit Go.Proofs.YtnmmapjcphefpaaW.PrintWords Go.Proofs.YtnmmapjcphefpaaW.PrintLast Go.Proofs.YtnmmapjcphefpaaW.PrintMore
set_option linter.unusedVariables false
set_option linter.unusedSimpArgs false

theorem hexV_bd (c : Int) : -1 ≤ hexV c ∧ hexV c ≤ 15 := by unfold hexV; split; · omega
                                                            split <;> omega
def escX : By → Int × Int
  | a :: b :: _ => if 0 ≤ hexU a then (if 0 ≤ hexU b then (16 * hexU a + hexU b, 3) else (0, 0)) else (0, 0)
  | _ => (0, 0)
/-- what stands behind a backslash: the byte, how many bytes (0: nothing that may) -/
def escP : By → Int × Int
  | [] => (0, 0)
  | c :: r => if c = 34 then (34, 1) else if c = 92 then (92, 1) else if c = 110 then (10, 1) else if c = 120 then escX r else (0, 0)
theorem ix_nat : ∀ c : Fin 256, strings_IndexByte.f (⟨#[48, 49, 50, 51, 52, 53, 54, 55, 56, 57, 97, 98, 99, 100, 101, 102]⟩ : ByteArray) (c.val : Int) = some (hexV (c.val : Int)) := by decide +kernel
theorem ix_is (c : UInt8) : strings_IndexByte.f (⟨#[48, 49, 50, 51, 52, 53, 54, 55, 56, 57, 97, 98, 99, 100, 101, 102]⟩ : ByteArray) (cI c) = some (hexU c) := ix_nat ⟨c.toNat, c.toNat_lt⟩
theorem bt_list (s : ByteArray) (i : Nat) (c : UInt8) (h : (bs s)[i]? = some c) : bt s i = cI c := by
  obtain ⟨hl, hc⟩ := List.getElem?_eq_some_iff.1 h
  have hi : i < s.size := by rw [← bs_length]; exact hl
  have hi2 : (i : Int).toNat < s.size := hi
  rw [← bt_at s i hi2, ← hc]; rfl
theorem cI_eq (c : UInt8) (n : UInt8) : (cI c = cI n) = (c = n) := propext ⟨cI_inj, fun h => by rw [h]⟩
theorem c34 (c : UInt8) : (cI c = 34) = (c = 34) := cI_eq c 34
theorem c92 (c : UInt8) : (cI c = 92) = (c = 92) := cI_eq c 92
theorem c110 (c : UInt8) : (cI c = 110) = (c = 110) := cI_eq c 110
theorem c120 (c : UInt8) : (cI c = 120) = (c = 120) := cI_eq c 120
theorem c32 (c : UInt8) : (cI c = 32) = (c = 32) := cI_eq c 32
theorem c35 (c : UInt8) : (cI c = 35) = (c = 35) := cI_eq c 35
theorem c10 (c : UInt8) : (cI c = 10) = (c = 10) := cI_eq c 10
theorem b92 (c : UInt8) : (cI c == 92) = (c == 92) := by rw [Bool.eq_iff_iff, beq_iff_eq, beq_iff_eq, c92]
theorem escP_prog (x : ByteArray) : token_escape.f 10 x = some (escP (bs x)) := by
  unfold token_escape.f
  rw [toList_data, show x.data.toList = bs x from rfl]
  have hl := bs_length x
  rcases hx : bs x with _ | ⟨c, r⟩
  · rfl
  · rw [hx] at hl
    simp only [List.length_cons] at hl
    have h0 : bt x 0 = cI c := bt_list x 0 c (by rw [hx]; rfl)
    rw [if_neg (by simp), if_pos (by omega), h0, b92]
    simp only [c34]
    by_cases e1 : c = 34
    · subst e1
      rw [if_pos rfl]
      rw [show token_escape.j0 10 = token_escape.j0 (9 + 1) from rfl, token_escape.j0]
      rw [if_pos rfl, if_pos (by omega), h0]; rfl
    rw [if_neg e1]
    by_cases e2 : c = 92
    · subst e2
      rw [show token_escape.j0 10 = token_escape.j0 (9 + 1) from rfl, token_escape.j0]
      rw [if_pos (show ((92 : UInt8) == 92) = true from rfl), if_pos (by omega), h0]; rfl
    rw [show token_escape.j0 10 = token_escape.j0 (9 + 1) from rfl, token_escape.j0]
    rw [if_neg (by simpa using e2), if_pos (by omega), h0]
    simp only [escP, if_neg e1, if_neg e2, c110, c120]
    by_cases e3 : c = 110
    · rw [if_pos e3, if_pos e3]
    rw [if_neg e3, if_neg e3]
    by_cases e4 : c = 120
    · rw [if_pos e4, if_pos e4]
      rcases r with _ | ⟨a, _ | ⟨b, r⟩⟩
      · rw [token_escape.j1]
        rw [if_neg (by simp at hl ⊢; omega)]; rfl
      · rw [token_escape.j1]
        rw [if_neg (by simp at hl ⊢; omega)]; rfl
      · have h1 : bt x 1 = cI a := bt_list x 1 a (by rw [hx]; rfl)
        have h2 : bt x 2 = cI b := bt_list x 2 b (by rw [hx]; rfl)
        simp only [List.length_cons] at hl
        have ha := hexV_bd (cI a)
        have hb := hexV_bd (cI b)
        rw [token_escape.j1]
        rw [if_pos (by simp; omega), if_pos (by omega), h1, h2, ix_is, ix_is]
        simp only [Option.bind_some, if_pos (show (2 : Int) < (x.size : Int) by omega), escX, ge_iff_le]
        by_cases e5 : 0 ≤ hexU a
        · rw [if_pos e5, if_pos e5]
          by_cases e6 : 0 ≤ hexU b
          · rw [if_pos e6, if_pos e6]
            unfold hexU at *
            rw [IntWalk.wrap64_in (16 * _) (by omega), IntWalk.wrap64_in _ (by omega), Int.emod_eq_of_lt (by omega) (by omega)]
          · rw [if_neg e6, if_neg e6]
        · rw [if_neg e5, if_neg e5]
    · rw [if_neg e4, if_neg e4]
      rfl
theorem escP_bd (l : By) : 0 ≤ (escP l).1 ∧ (escP l).1 ≤ 255 ∧ 0 ≤ (escP l).2 ∧ (escP l).2 ≤ 3 ∧ (escP l).2 ≤ l.length := by
  unfold escP
  split
  · exact ⟨by decide, by decide, by decide, by decide, by simp⟩
  · rename_i c r
    have hn : (1 : Int) ≤ ((c :: r).length : Int) := by simp only [List.length_cons]; omega
    split; · exact ⟨by decide, by decide, by decide, by decide, hn⟩
    split; · exact ⟨by decide, by decide, by decide, by decide, hn⟩
    split; · exact ⟨by decide, by decide, by decide, by decide, hn⟩
    split
    · unfold escX
      split
      · rename_i a b r'
        have h3 : (3 : Int) ≤ ((c :: a :: b :: r').length : Int) := by simp only [List.length_cons]; omega
        have ha := hexV_bd (cI a)
        have hb := hexV_bd (cI b)
        unfold hexU
        split
        · split
          · refine ⟨?_, ?_, ?_, ?_, ?_⟩ <;> simp only <;> omega
          · refine ⟨?_, ?_, ?_, ?_, ?_⟩ <;> simp only <;> omega
        · refine ⟨?_, ?_, ?_, ?_, ?_⟩ <;> simp only <;> omega
      · refine ⟨?_, ?_, ?_, ?_, ?_⟩ <;> simp only <;> omega
    · refine ⟨?_, ?_, ?_, ?_, ?_⟩ <;> simp only <;> omega
theorem run_esc (tk : List S27) (ln p beh a : Int) (t l r : By) (h : (escP l).2 ≠ 0) :
    run ⟨tk, ln, p + 1, beh, .esc t a p⟩ (l ++ r) = run ⟨tk, ln, p + 1 + (escP l).2, beh, .lit (t ++ [UInt8.ofNat (escP l).1.toNat]) a⟩ (l.drop (escP l).2.toNat ++ r) := by
  rcases l with _ | ⟨c, l⟩
  · exact absurd rfl h
  · rw [List.cons_append, run_cons]
    by_cases e1 : c = 34
    · subst e1; rfl
    by_cases e2 : c = 92
    · subst e2; rfl
    by_cases e3 : c = 110
    · subst e3; rfl
    by_cases e4 : c = 120
    · subst e4
      rcases l with _ | ⟨x, _ | ⟨y, l⟩⟩
      · exact absurd rfl h
      · exact absurd rfl h
      · have he : escP (120 :: x :: y :: l) = (if 0 ≤ hexU x then (if 0 ≤ hexU y then (16 * hexU x + hexU y, 3) else (0, 0)) else (0, 0)) := rfl
        rw [he] at h ⊢
        by_cases e5 : 0 ≤ hexU x
        · rw [if_pos e5] at h ⊢
          by_cases e6 : 0 ≤ hexU y
          · rw [if_pos e6] at h ⊢
            rw [List.cons_append, List.cons_append, run_cons, run_cons]
            simp only [step, e5, e6, if_true, reduceIte]
            simp only [show ¬ (120 : UInt8) = 34 by decide, show ¬ (120 : UInt8) = 92 by decide, show ¬ (120 : UInt8) = 110 by decide, if_true, if_false, reduceIte, e5, e6]
            rw [show p + 1 + 1 + 1 + 1 = p + 1 + 3 by omega]
            rfl
          · rw [if_neg e6] at h; exact absurd rfl h
        · rw [if_neg e5] at h; exact absurd rfl h
    · exact absurd (show (escP (c :: l)).2 = 0 by simp only [escP, if_neg e1, if_neg e2, if_neg e3, if_neg e4]) h
theorem hex10 : hexU 10 = -1 := rfl
theorem run_esc0 (tk : List S27) (ln p q beh a : Int) (t l : By) (h : (escP l).2 = 0) :
    (run ⟨tk, ln, q, beh, .esc t a p⟩ (l ++ [10])).md = .err 112 ln p := by
  rcases l with _ | ⟨c, l⟩
  · rfl
  · rw [List.cons_append, run_cons]
    by_cases e1 : c = 34
    · subst e1; exact absurd h (show ¬ (1 : Int) = 0 by decide)
    by_cases e2 : c = 92
    · subst e2; exact absurd h (show ¬ (1 : Int) = 0 by decide)
    by_cases e3 : c = 110
    · subst e3; exact absurd h (show ¬ (1 : Int) = 0 by decide)
    by_cases e4 : c = 120
    · subst e4
      have hs : step ⟨tk, ln, q, beh, .esc t a p⟩ 120 = ⟨tk, ln, q + 1, beh, .hx t a p⟩ := rfl
      rw [hs]
      rcases l with _ | ⟨x, _ | ⟨y, l⟩⟩
      · rfl
      · rw [List.cons_append, run_cons]
        by_cases e5 : 0 ≤ hexU x
        · have hs2 : step ⟨tk, ln, q + 1, beh, .hx t a p⟩ x = ⟨tk, ln, q + 1 + 1, beh, .hy t a p (hexU x)⟩ := by simp only [step, e5, if_true, reduceIte]
          rw [hs2]; rfl
        · have hs2 : step ⟨tk, ln, q + 1, beh, .hx t a p⟩ x = ⟨tk, ln, q + 1, beh, .err 112 ln p⟩ := by simp only [step, e5, if_false, reduceIte]
          rw [hs2, run_err (s := ⟨tk, ln, q + 1, beh, .err 112 ln p⟩) rfl]
      · rw [List.cons_append, run_cons]
        by_cases e5 : 0 ≤ hexU x
        · have hs2 : step ⟨tk, ln, q + 1, beh, .hx t a p⟩ x = ⟨tk, ln, q + 1 + 1, beh, .hy t a p (hexU x)⟩ := by simp only [step, e5, if_true, reduceIte]
          rw [hs2, List.cons_append, run_cons]
          by_cases e6 : 0 ≤ hexU y
          · have he : escP (120 :: x :: y :: l) = (if 0 ≤ hexU x then (if 0 ≤ hexU y then (16 * hexU x + hexU y, 3) else (0, 0)) else (0, 0)) := rfl
            rw [he, if_pos e5, if_pos e6] at h
            exact absurd h (show ¬ (3 : Int) = 0 by decide)
          · have hs3 : step ⟨tk, ln, q + 1 + 1, beh, .hy t a p (hexU x)⟩ y = ⟨tk, ln, q + 1 + 1, beh, .err 112 ln p⟩ := by simp only [step, e6, if_false, reduceIte]
            rw [hs3, run_err (s := ⟨tk, ln, q + 1 + 1, beh, .err 112 ln p⟩) rfl]
        · have hs2 : step ⟨tk, ln, q + 1, beh, .hx t a p⟩ x = ⟨tk, ln, q + 1, beh, .err 112 ln p⟩ := by simp only [step, e5, if_false, reduceIte]
          rw [hs2, run_err (s := ⟨tk, ln, q + 1, beh, .err 112 ln p⟩) rfl]
    · have hs : step ⟨tk, ln, q, beh, .esc t a p⟩ c = ⟨tk, ln, q, beh, .err 112 ln p⟩ := by simp only [step, if_neg e1, if_neg e2, if_neg e3, if_neg e4]
      rw [hs, run_err (s := ⟨tk, ln, q, beh, .err 112 ln p⟩) rfl]
theorem cI_ofNat (v : Int) (h0 : 0 ≤ v) (h1 : v ≤ 255) : cI (UInt8.ofNat v.toNat) = v := by
  unfold cI
  rw [UInt8.toNat_ofNat_of_lt' (by show v.toNat < 256; omega)]
  omega
theorem bs_drop (s : ByteArray) (i : Int) (h : i ≤ s.size) : bs (s.extract i.toNat s.size) = (bs s).drop i.toNat := by
  unfold bs
  rw [ByteArray.data_extract, Array.toList_extract, List.extract_eq_take_drop]
  apply List.take_of_length_le
  rw [List.length_drop, Array.length_toList]
  exact Nat.le_refl _

theorem literal_ev (s : ByteArray) (hs : s.size ≤ 65536) (hno : ∀ c ∈ bs s, c ≠ 10) (tk : List S27) (ln beh fr : Int) : ∀ (n : Nat) (i : Int) (t : By), n = (s.size - i).toNat → 0 ≤ i → i ≤ s.size → t.length ≤ i →
    ∃ code tt to_, Ev (fun k => token_literal.l0 s fr k (t.map cI) i) (code, tt, to_) ∧
      (code = 0 → ∃ t' : By, tt = t'.map cI ∧ i < to_ ∧ to_ ≤ s.size ∧ run ⟨tk, ln, i, beh, .lit t fr⟩ ((bs s).drop i.toNat ++ [10]) = run ⟨tk ++ [⟨2, mk t', ln, fr⟩], ln, to_, to_, .bl⟩ ((bs s).drop to_.toNat ++ [10])) ∧
      (code ≠ 0 → (run ⟨tk, ln, i, beh, .lit t fr⟩ ((bs s).drop i.toNat ++ [10])).md = .err code ln to_) := by
  intro n
  induction n using Nat.strongRecOn with
  | _ n ih =>
    intro i t hn h0 h1 ht
    by_cases hlt : i < (s.size : Int)
    · obtain ⟨c, hd, hb⟩ := drop_at s i h0 hlt
      have hc10 : c ≠ 10 := by
        refine hno c ?_
        have : c ∈ (bs s).drop i.toNat := by rw [hd]; exact List.mem_cons_self
        exact List.mem_of_mem_drop this
      have hr : ∀ k, token_literal.l0 s fr (k + 1) (t.map cI) i = (if c = 34 then (some (0, t.map cI, wrap64 (i + 1))) else (if cI c < 32 then (some (110, [], i)) else (if 126 < cI c then (some (110, [], i)) else (if c = 92 then (if (escP ((bs s).drop (i + 1).toNat)).2 = 0 then (some (112, [], i)) else (token_literal.l0 s fr k (t.map cI ++ [(escP ((bs s).drop (i + 1).toNat)).1]) (wrap64 (wrap64 (i + (escP ((bs s).drop (i + 1).toNat)).2) + 1)))) else (token_literal.l0 s fr k (t.map cI ++ [cI c]) (wrap64 (i + 1))))))) := by
        intro k
        conv => lhs; unfold token_literal.l0
        rw [if_pos hlt, if_pos h0, hb, escP_prog, bs_drop s (i + 1) (by omega)]
        simp only [Option.bind_some, if_pos (show (t.map cI).length < 1000000 by rw [List.length_map]; omega), c34, c92]
      by_cases e1 : c = 34
      · refine ⟨0, t.map cI, i + 1, Ev.step (f := fun _ => some (0, t.map cI, i + 1)) (fun k => by rw [hr, if_pos e1, IntWalk.wrap64_in _ (by omega)]) (Ev.now _), fun _ => ⟨t, rfl, by omega, by omega, ?_⟩, fun h => absurd rfl h⟩
        rw [hd, List.cons_append, run_cons]
        subst e1
        rfl
      by_cases e2 : cI c < 32
      · refine ⟨110, [], i, Ev.step (f := fun _ => some (110, [], i)) (fun k => by rw [hr, if_neg e1, if_pos e2]) (Ev.now _), fun h => absurd h (by decide), fun _ => ?_⟩
        rw [hd, List.cons_append, run_cons]
        have hs : step ⟨tk, ln, i, beh, .lit t fr⟩ c = ⟨tk, ln, i, beh, .err 110 ln i⟩ := by simp only [step, if_neg hc10, if_neg e1, if_pos e2]
        rw [hs, run_err (s := ⟨tk, ln, i, beh, .err 110 ln i⟩) rfl]
      by_cases e3 : 126 < cI c
      · refine ⟨110, [], i, Ev.step (f := fun _ => some (110, [], i)) (fun k => by rw [hr, if_neg e1, if_neg e2, if_pos e3]) (Ev.now _), fun h => absurd h (by decide), fun _ => ?_⟩
        rw [hd, List.cons_append, run_cons]
        have hs : step ⟨tk, ln, i, beh, .lit t fr⟩ c = ⟨tk, ln, i, beh, .err 110 ln i⟩ := by simp only [step, if_neg hc10, if_neg e1, if_neg e2, if_pos e3]
        rw [hs, run_err (s := ⟨tk, ln, i, beh, .err 110 ln i⟩) rfl]
      by_cases e4 : c = 92
      · have hs : step ⟨tk, ln, i, beh, .lit t fr⟩ c = ⟨tk, ln, i + 1, beh, .esc t fr i⟩ := by simp only [step, if_neg hc10, if_neg e1, if_neg e2, if_neg e3, if_pos e4]
        have hbd := escP_bd ((bs s).drop (i + 1).toNat)
        have hlen : (((bs s).drop (i + 1).toNat).length : Int) = s.size - (i + 1) := by rw [List.length_drop, bs_length]; omega
        by_cases e5 : (escP ((bs s).drop (i + 1).toNat)).2 = 0
        · refine ⟨112, [], i, Ev.step (f := fun _ => some (112, [], i)) (fun k => by rw [hr, if_neg e1, if_neg e2, if_neg e3, if_pos e4, if_pos e5]) (Ev.now _), fun h => absurd h (by decide), fun _ => ?_⟩
          rw [hd, List.cons_append, run_cons, hs]
          exact run_esc0 _ _ _ _ _ _ _ _ e5
        · rcases hvm : escP ((bs s).drop (i + 1).toNat) with ⟨v, m⟩
          rw [hvm] at hbd e5
          simp only at hbd e5
          obtain ⟨code, tt, to_, hev, q1, q2⟩ := ih (s.size - (i + m + 1)).toNat (by omega) (i + m + 1) (t ++ [UInt8.ofNat v.toNat]) rfl (by omega) (by omega) (by rw [List.length_append, List.length_singleton]; omega)
          rw [List.map_append, List.map_cons, List.map_nil, cI_ofNat v (by omega) (by omega)] at hev
          have hrun : run ⟨tk, ln, i, beh, .lit t fr⟩ ((bs s).drop i.toNat ++ [10]) = run ⟨tk, ln, i + m + 1, beh, .lit (t ++ [UInt8.ofNat v.toNat]) fr⟩ ((bs s).drop (i + m + 1).toNat ++ [10]) := by
            rw [hd, List.cons_append, run_cons, hs, run_esc _ _ _ _ _ _ _ _ (by rw [hvm]; exact e5), hvm, List.drop_drop]
            rw [show (i + 1).toNat + m.toNat = (i + m + 1).toNat by omega, show i + 1 + m = i + m + 1 by omega]
          refine ⟨code, tt, to_, Ev.step (f := fun k => token_literal.l0 s fr k (t.map cI ++ [v]) (i + m + 1)) (fun k => by rw [hr, if_neg e1, if_neg e2, if_neg e3, if_pos e4, hvm, if_neg e5, IntWalk.wrap64_in (i + m) (by omega), IntWalk.wrap64_in _ (by omega)]) hev, fun hc => ?_, fun hc => ?_⟩
          · obtain ⟨t', r1, r2, r3, r4⟩ := q1 hc
            exact ⟨t', r1, by omega, r3, by rw [hrun]; exact r4⟩
          · rw [hrun]; exact q2 hc
      · have hs : step ⟨tk, ln, i, beh, .lit t fr⟩ c = ⟨tk, ln, i + 1, beh, .lit (t ++ [c]) fr⟩ := by simp only [step, if_neg hc10, if_neg e1, if_neg e2, if_neg e3, if_neg e4]
        obtain ⟨code, tt, to_, hev, q1, q2⟩ := ih (s.size - (i + 1)).toNat (by omega) (i + 1) (t ++ [c]) rfl (by omega) (by omega) (by rw [List.length_append, List.length_singleton]; omega)
        rw [List.map_append, List.map_cons, List.map_nil] at hev
        have hrun : run ⟨tk, ln, i, beh, .lit t fr⟩ ((bs s).drop i.toNat ++ [10]) = run ⟨tk, ln, i + 1, beh, .lit (t ++ [c]) fr⟩ ((bs s).drop (i + 1).toNat ++ [10]) := by
          rw [hd, List.cons_append, run_cons, hs]
        refine ⟨code, tt, to_, Ev.step (f := fun k => token_literal.l0 s fr k (t.map cI ++ [cI c]) (i + 1)) (fun k => by rw [hr, if_neg e1, if_neg e2, if_neg e3, if_neg e4, IntWalk.wrap64_in _ (by omega)]) hev, fun hc => ?_, fun hc => ?_⟩
        · obtain ⟨t', r1, r2, r3, r4⟩ := q1 hc
          exact ⟨t', r1, by omega, r3, by rw [hrun]; exact r4⟩
        · rw [hrun]; exact q2 hc
    · refine ⟨111, [], fr, Ev.step (f := fun _ => some (111, [], fr)) (fun k => ?_) (Ev.now _), fun h => absurd h (by decide), fun _ => ?_⟩
      · conv => lhs; unfold token_literal.l0
        rw [if_neg hlt]
      · rw [drop_end s i (by omega)]; rfl
end Go.Proofs.Ytnmmapjcphefpaa.G

-- Token, the plain law, part 3: the program's lines and texts against the machine.
namespace Go.Proofs.Ytnmmapjcphefpaa.G
open Go.RowKit Go.Proofs.YtnmmapjcphefpaaW.PrintWords Go.Proofs.YtnmmapjcphefpaaW.PrintLast Go.Proofs.YtnmmapjcphefpaaW.PrintMore
set_option linter.unusedVariables false
set_option linter.unusedSimpArgs false

theorem str_map (t : By) : strOfNums (t.map cI) = mk t := by
  have h : bs (strOfNums (t.map cI)) = t := by
    show (t.map cI).map (fun n => UInt8.ofNat n.toNat) = t
    rw [List.map_map]
    conv => rhs; rw [← List.map_id t]
    refine List.map_congr_left (fun c _ => ?_)
    show UInt8.ofNat ((c.toNat : Int)).toNat = c
    rw [Int.toNat_natCast]
    exact UInt8.ofNat_toNat
  rw [← mk_bs (strOfNums (t.map cI)), h]
theorem let10 : letB 10 = false := rfl
theorem let32 : letB 32 = false := rfl
theorem let34 : letB 34 = false := rfl
theorem let35 : letB 35 = false := rfl
/-- a word that is ended: the machine goes on as from a blank -/
theorem run_flush (tk : List S27) (ln t beh fr : Int) (w l : By) (h : ∀ c r, l = c :: r → letB c = false) :
    run ⟨tk, ln, t, beh, .wd w fr⟩ (l ++ [10]) = run ⟨tk ++ [⟨1, mk w, ln, fr⟩], ln, t, t, .bl⟩ (l ++ [10]) := by
  rcases l with _ | ⟨c, l⟩
  · rfl
  · rw [List.cons_append, run_cons, run_cons]
    have := h c l rfl
    congr 1
    simp only [step, this, if_false, reduceIte, Bool.false_eq_true]
theorem run_letter (tk : List S27) (ln t beh : Int) (c : UInt8) (l : By) (hc : letB c = true) :
    run ⟨tk, ln, t, beh, .bl⟩ (c :: l) = run ⟨tk, ln, t, beh, .wd [] t⟩ (c :: l) := by
  rw [run_cons, run_cons]
  congr 1
  have h10 : c ≠ 10 := fun h => by rw [h, let10] at hc; cases hc
  have h32 : c ≠ 32 := fun h => by rw [h, let32] at hc; cases hc
  have h34 : c ≠ 34 := fun h => by rw [h, let34] at hc; cases hc
  have h35 : c ≠ 35 := fun h => by rw [h, let35] at hc; cases hc
  simp only [step, blank, hc, if_neg h10, if_neg h32, if_neg h34, if_neg h35, if_true, reduceIte]
  rfl
theorem run_rem (tk : List S27) (ln t beh : Int) (l : By) (hno : ∀ c ∈ l, c ≠ 10) :
    run ⟨tk, ln, t, beh, .rem⟩ (l ++ [10]) = ⟨tk ++ [endT ln beh], ln + 1, 0, 0, .bl⟩ := by
  induction l with
  | nil => rfl
  | cons c l ih =>
    rw [List.cons_append, run_cons]
    have : step ⟨tk, ln, t, beh, .rem⟩ c = ⟨tk, ln, t, beh, .rem⟩ := by
      simp only [step, if_neg (hno c List.mem_cons_self)]
    rw [this]
    exact ih (fun c h => hno c (List.mem_cons_of_mem _ h))
theorem word_line_ev (s : ByteArray) (hs : s.size ≤ 65536) (tk : List S27) (ln beh a : Int) (h0 : 0 ≤ a) (c : UInt8) (hc : letB c = true) (hd : (bs s).drop a.toNat = c :: (bs s).drop (a + 1).toNat) (ha : a < s.size) :
    ∃ ok t', Ev (fun k => token_word.l0 s a k a) (ok, t') ∧ a < t' + (if ok = true then 0 else 1) ∧ t' ≤ s.size ∧
      (ok = true → run ⟨tk, ln, a, beh, .bl⟩ ((bs s).drop a.toNat ++ [10]) = run ⟨tk ++ [⟨1, s.extract a.toNat t'.toNat, ln, a⟩], ln, t', t', .bl⟩ ((bs s).drop t'.toNat ++ [10])) ∧
      (ok = false → (run ⟨tk, ln, a, beh, .bl⟩ ((bs s).drop a.toNat ++ [10])).md = .err 2 ln t') := by
  obtain ⟨ok, t', hev, q1, q2, q3, q4⟩ := word_ev s hs tk ln beh a h0 (s.size - a).toNat a rfl (Int.le_refl _) (by omega) (by omega)
  have hl := run_letter tk ln a beh c ((bs s).drop (a + 1).toNat) hc
  rw [← hd] at hl
  rw [sl_nil] at q3 q4
  rw [run_append, hl]
  refine ⟨ok, t', hev, ?_, q2, fun hok => ?_, fun hok => ?_⟩
  · cases ok with
    | false => simp only [Bool.false_eq_true, if_false]; omega
    | true =>
      simp only [if_true]
      obtain ⟨_, r2⟩ := q3 rfl
      rcases Int.lt_or_eq_of_le q1 with h | h
      · omega
      · exfalso
        have := r2 c _ (by rw [← h]; exact hd)
        rw [this] at hc; cases hc
  · obtain ⟨r1, r2⟩ := q3 hok
    rw [r1, ← run_append]
    exact run_flush _ _ _ _ _ _ _ r2
  · have h := q4 hok
    rw [run_err h]; exact h
theorem read_ev (s : ByteArray) (hs : s.size ≤ 65536) (hno : ∀ c ∈ bs s, c ≠ 10) (ln : Int) : ∀ (n : Nat) (a en : Int) (l : List S27), n = (s.size - a).toNat → 0 ≤ a → a ≤ s.size → (l.length : Int) + (s.size - a) + 1 ≤ 900000 →
    ∃ code place tks, Ev (fun k => token_read.l0 s ln k a en l) (code, place, tks) ∧
      (code = 0 → run ⟨l, ln, a, en, .bl⟩ ((bs s).drop a.toNat ++ [10]) = ⟨tks, ln + 1, 0, 0, .bl⟩ ∧ (tks.length : Int) ≤ l.length + (s.size - a) + 1) ∧
      (code ≠ 0 → (run ⟨l, ln, a, en, .bl⟩ ((bs s).drop a.toNat ++ [10])).md = .err code ln place) := by
  intro n
  induction n using Nat.strongRecOn with
  | _ n ih =>
    intro a en l hn h0 h1 hlen
    by_cases hlt : a < (s.size : Int)
    · obtain ⟨c, hd, hb⟩ := drop_at s a h0 hlt
      have hmem : c ∈ bs s := List.mem_of_mem_drop (show c ∈ (bs s).drop a.toNat by rw [hd]; exact List.mem_cons_self)
      have hc10 : c ≠ 10 := hno c hmem
      have hr : ∀ k, token_read.l0 s ln (k + 1) a en l = (if c = 32 then (token_read.l0 s ln k (a + 1) en l)
            else (if c = 35 then (some (0, 0, l ++ [⟨7, ⟨#[]⟩, ln, en⟩]))
            else (if c = 34 then ((token_literal.l0 s a k [] (a + 1)).bind fun p => (if p.1 = 0 then (token_read.l0 s ln k p.2.2 p.2.2 (l ++ [⟨2, strOfNums p.2.1, ln, a⟩])) else (some (p.1, p.2.2, []))))
            else (if letB c = true then ((token_word.l0 s a k a).bind fun p => (if p.1 = true then (token_read.l0 s ln k p.2 p.2 (l ++ [⟨1, s.extract a.toNat p.2.toNat, ln, a⟩])) else (some (2, p.2, []))))
              else (if 0 < signB c then (token_read.l0 s ln k (a + 1) (a + 1) (l ++ [⟨signB c, ⟨#[]⟩, ln, a⟩])) else (some (110, a, []))))))) := by
        intro k
        conv => lhs; unfold token_read.l0
        rw [if_pos (by omega), if_pos hlt, if_pos h0, hb, signB_is, letB_is, IntWalk.wrap64_in _ (by omega)]
        simp only [Option.bind_some, c32, c35, c34]
      by_cases e1 : c = 32
      · obtain ⟨code, place, tks, hev, q1, q2⟩ := ih (s.size - (a + 1)).toNat (by omega) (a + 1) en l rfl (by omega) (by omega) (by omega)
        have hrun : run ⟨l, ln, a, en, .bl⟩ ((bs s).drop a.toNat ++ [10]) = run ⟨l, ln, a + 1, en, .bl⟩ ((bs s).drop (a + 1).toNat ++ [10]) := by
          rw [hd, List.cons_append, run_cons, e1]; rfl
        rw [hrun]
        exact ⟨code, place, tks, Ev.step (f := fun k => token_read.l0 s ln k (a + 1) en l) (fun k => by rw [hr, if_pos e1]) hev, fun hc => ⟨(q1 hc).1, by have := (q1 hc).2; omega⟩, q2⟩
      by_cases e2 : c = 35
      · refine ⟨0, 0, l ++ [endT ln en], Ev.step (f := fun _ => some (0, 0, l ++ [⟨7, ⟨#[]⟩, ln, en⟩])) (fun k => by rw [hr, if_neg e1, if_pos e2]) (Ev.now _), fun _ => ⟨?_, ?_⟩, fun h => absurd rfl h⟩
        · rw [hd, List.cons_append, run_cons]
          have hs1 : step ⟨l, ln, a, en, .bl⟩ c = ⟨l, ln, a, en, .rem⟩ := by
            subst e2; rfl
          rw [hs1]
          exact run_rem _ _ _ _ _ (fun x hx => hno x (List.mem_of_mem_drop hx))
        · rw [List.length_append, List.length_singleton]; omega
      by_cases e3 : c = 34
      · obtain ⟨code, tt, to_, hev, q1, q2⟩ := literal_ev s hs hno l ln en a (s.size - (a + 1)).toNat (a + 1) [] rfl (by omega) (by omega) (by simp; omega)
        have hrun : run ⟨l, ln, a, en, .bl⟩ ((bs s).drop a.toNat ++ [10]) = run ⟨l, ln, a + 1, en, .lit [] a⟩ ((bs s).drop (a + 1).toNat ++ [10]) := by
          rw [hd, List.cons_append, run_cons, e3]; rfl
        rw [hrun]
        have hr3 : ∀ k, token_read.l0 s ln (k + 1) a en l = ((token_literal.l0 s a k [] (a + 1)).bind fun p => (if p.1 = 0 then (token_read.l0 s ln k p.2.2 p.2.2 (l ++ [⟨2, strOfNums p.2.1, ln, a⟩])) else (some (p.1, p.2.2, [])))) := fun k => by rw [hr, if_neg e1, if_neg e2, if_pos e3]
        by_cases hc0 : code = 0
        · subst hc0
          obtain ⟨t', r1, r2, r3, r4⟩ := q1 rfl
          have hst : strOfNums tt = mk t' := by rw [r1]; exact str_map t'
          obtain ⟨code, place, tks, hev2, q3, q4⟩ := ih (s.size - to_).toNat (by omega) to_ to_ (l ++ [⟨2, mk t', ln, a⟩]) rfl (by omega) (by omega) (by rw [List.length_append, List.length_singleton]; omega)
          rw [r4]
          refine ⟨code, place, tks, Ev.step (f := fun k => _) hr3 (Ev.bind hev ?_), fun hc => ⟨(q3 hc).1, ?_⟩, q4⟩
          · refine Ev.congr (f := fun k => token_read.l0 s ln k to_ to_ (l ++ [⟨2, mk t', ln, a⟩])) (fun k => ?_) hev2
            rw [if_pos rfl, hst]
          · have := (q3 hc).2
            rw [List.length_append, List.length_singleton] at this; omega
        · refine ⟨code, to_, [], Ev.step (f := fun k => _) hr3 (Ev.bind hev ?_), fun hc => absurd hc hc0, fun _ => q2 hc0⟩
          refine Ev.congr (f := fun k => some (code, to_, [])) (fun k => ?_) (Ev.now _)
          rw [if_neg hc0]
      cases e4 : letB c with
      | true =>
        obtain ⟨ok, t', hev, q1, q2, q3, q4⟩ := word_line_ev s hs l ln en a h0 c e4 hd hlt
        have hr4 : ∀ k, token_read.l0 s ln (k + 1) a en l = ((token_word.l0 s a k a).bind fun p => (if p.1 = true then (token_read.l0 s ln k p.2 p.2 (l ++ [⟨1, s.extract a.toNat p.2.toNat, ln, a⟩])) else (some (2, p.2, [])))) := fun k => by rw [hr, if_neg e1, if_neg e2, if_neg e3, if_pos e4]
        cases ok with
        | true =>
          simp only [if_true] at q1
          obtain ⟨code, place, tks, hev2, q5, q6⟩ := ih (s.size - t').toNat (by omega) t' t' (l ++ [⟨1, s.extract a.toNat t'.toNat, ln, a⟩]) rfl (by omega) (by omega) (by rw [List.length_append, List.length_singleton]; omega)
          rw [q3 rfl]
          refine ⟨code, place, tks, Ev.step (f := fun k => _) hr4 (Ev.bind hev ?_), fun hc => ⟨(q5 hc).1, ?_⟩, q6⟩
          · exact Ev.congr (f := fun k => token_read.l0 s ln k t' t' (l ++ [⟨1, s.extract a.toNat t'.toNat, ln, a⟩])) (fun k => by rw [if_pos rfl]) hev2
          · have := (q5 hc).2
            rw [List.length_append, List.length_singleton] at this; omega
        | false =>
          refine ⟨2, t', [], Ev.step (f := fun k => _) hr4 (Ev.bind hev ?_), fun hc => absurd hc (by decide), fun _ => q4 rfl⟩
          exact Ev.congr (f := fun k => some (2, t', [])) (fun k => by rw [if_neg (show ¬ (false = true) by decide)]) (Ev.now _)
      | false =>
        have hb2 : step ⟨l, ln, a, en, .bl⟩ c = (if 0 < signB c then ⟨l ++ [⟨signB c, ⟨#[]⟩, ln, a⟩], ln, a + 1, a + 1, .bl⟩ else ⟨l, ln, a, en, .err 110 ln a⟩) := by
          simp only [step, blank, e4, if_neg hc10, if_neg e1, if_neg e2, if_neg e3, if_false, reduceIte, Bool.false_eq_true]
        by_cases e5 : 0 < signB c
        · rw [if_pos e5] at hb2
          obtain ⟨code, place, tks, hev, q1, q2⟩ := ih (s.size - (a + 1)).toNat (by omega) (a + 1) (a + 1) (l ++ [⟨signB c, ⟨#[]⟩, ln, a⟩]) rfl (by omega) (by omega) (by rw [List.length_append, List.length_singleton]; omega)
          have hrun : run ⟨l, ln, a, en, .bl⟩ ((bs s).drop a.toNat ++ [10]) = run ⟨l ++ [⟨signB c, ⟨#[]⟩, ln, a⟩], ln, a + 1, a + 1, .bl⟩ ((bs s).drop (a + 1).toNat ++ [10]) := by
            rw [hd, List.cons_append, run_cons, hb2]
          rw [hrun]
          refine ⟨code, place, tks, Ev.step (f := fun k => token_read.l0 s ln k (a + 1) (a + 1) (l ++ [⟨signB c, ⟨#[]⟩, ln, a⟩])) (fun k => by rw [hr, if_neg e1, if_neg e2, if_neg e3, e4, if_neg (by decide), if_pos e5]) hev, fun hc => ⟨(q1 hc).1, ?_⟩, q2⟩
          have := (q1 hc).2
          rw [List.length_append, List.length_singleton] at this; omega
        · rw [if_neg e5] at hb2
          refine ⟨110, a, [], Ev.step (f := fun _ => some (110, a, [])) (fun k => by rw [hr, if_neg e1, if_neg e2, if_neg e3, e4, if_neg (by decide), if_neg e5]) (Ev.now _), fun hc => absurd hc (by decide), fun _ => ?_⟩
          rw [hd, List.cons_append, run_cons, hb2, run_err (s := ⟨l, ln, a, en, .err 110 ln a⟩) rfl]
    · refine ⟨0, 0, l ++ [endT ln en], Ev.step (f := fun _ => some (0, 0, l ++ [⟨7, ⟨#[]⟩, ln, en⟩])) (fun k => ?_) (Ev.now _), fun _ => ⟨?_, ?_⟩, fun h => absurd rfl h⟩
      · conv => lhs; unfold token_read.l0
        rw [if_pos (by omega), if_neg hlt]
      · rw [drop_end s a (by omega)]; rfl
      · rw [List.length_append, List.length_singleton]; omega
end Go.Proofs.Ytnmmapjcphefpaa.G

-- Token, the plain law, part 4: the program's Tokens of any text is what the machine tells.
namespace Go.Proofs.Ytnmmapjcphefpaa.G
open Go.RowKit Go.Proofs.YtnmmapjcphefpaaW.PrintWords Go.Proofs.YtnmmapjcphefpaaW.PrintLast Go.Proofs.YtnmmapjcphefpaaW.PrintMore
set_option linter.unusedVariables false
set_option linter.unusedSimpArgs false

theorem cut_parts (x : ByteArray) : (∀ c ∈ bs (cutNL x).1, c ≠ 10) ∧ (bs x = bs (cutNL x).1 ++ 10 :: bs (cutNL x).2.1 ∨ (bs x = bs (cutNL x).1 ∧ bs (cutNL x).2.1 = [])) := by
  have hb := nl_bounds x
  unfold cutNL
  by_cases h0 : 0 ≤ Lib.indexByte x.data.toList 10
  · rw [if_pos h0]
    obtain ⟨o, ho⟩ := Int.eq_ofNat_of_zero_le h0
    obtain ⟨h1, h2⟩ := Lib.indexByte_some ho
    rw [ho]
    have hlt : o < (bs x).length := by rw [bs_length]; omega
    have e1 : bs (x.extract 0 (o : Int).toNat) = (bs x).take o := by
      have := sl_eq x 0 o
      simpa [sl] using this
    have e2 : bs (x.extract ((o : Int) + 1).toNat x.size) = (bs x).drop (o + 1) := by
      have := bs_drop x ((o : Int) + 1) (by omega)
      rw [this]; congr 1
    simp only [e1, e2]
    refine ⟨fun c hc => ?_, .inl ?_⟩
    · obtain ⟨j, hj, rfl⟩ := List.getElem_of_mem hc
      rw [List.length_take] at hj
      rw [List.getElem_take]
      intro hcon
      exact h2 j (by omega) (List.getElem?_eq_some_iff.2 ⟨by show j < (bs x).length; omega, hcon⟩)
    · have hg : (bs x)[o] = 10 := by
        obtain ⟨_, hh⟩ := List.getElem?_eq_some_iff.1 h1
        exact hh
      rw [← hg, ← List.drop_eq_getElem_cons hlt, List.take_append_drop]
  · rw [if_neg h0]
    have hm : Lib.indexByte x.data.toList 10 = -1 := by omega
    refine ⟨fun c hc => ?_, .inr ⟨rfl, rfl⟩⟩
    obtain ⟨j, hj, rfl⟩ := List.getElem_of_mem hc
    intro hcon
    exact Lib.indexByte_none hm j (List.getElem?_eq_some_iff.2 ⟨hj, hcon⟩)
/-- behind a byte that ends no line the machine is at no line's first place -/
def Off (s : St) : Prop := 0 ≤ s.col ∧ (s.md = .bl → 0 < s.col)
theorem blank_off (s : St) (c : UInt8) (h : 0 ≤ s.col) (hc : c ≠ 10) : Off (blank s c) := by
  unfold blank
  rw [if_neg hc]
  (repeat' split) <;> refine ⟨?_, fun hm => ?_⟩ <;> first | (show (0 : Int) ≤ _; simp only; omega) | (simp only at hm ⊢; omega) | (simp at hm)
theorem step_off (s : St) (c : UInt8) (h : 0 ≤ s.col) (hc : c ≠ 10) : Off (step s c) := by
  obtain ⟨tk, ln, col, beh, md⟩ := s
  simp only at h
  cases md with
  | bl => exact blank_off _ _ h hc
  | wd w a =>
    simp only [step]
    split
    · split <;> refine ⟨?_, fun hm => ?_⟩ <;> first | (simp only; omega) | (simp at hm)
    · exact blank_off _ _ h hc
  | lit t a =>
    simp only [step]
    rw [if_neg hc]
    (repeat' split) <;> refine ⟨?_, fun hm => ?_⟩ <;> first | (simp only; omega) | (simp at hm)
  | esc t a p =>
    simp only [step]
    (repeat' split) <;> refine ⟨?_, fun hm => ?_⟩ <;> first | (simp only; omega) | (simp at hm)
  | hx t a p =>
    simp only [step]
    (repeat' split) <;> refine ⟨?_, fun hm => ?_⟩ <;> first | (simp only; omega) | (simp at hm)
  | hy t a p d =>
    simp only [step]
    (repeat' split) <;> refine ⟨?_, fun hm => ?_⟩ <;> first | (simp only; omega) | (simp at hm)
  | rem =>
    simp only [step, if_neg hc]
    exact ⟨h, fun hm => by simp at hm⟩
  | err a b d =>
    exact ⟨h, fun hm => by simp [step] at hm⟩
theorem run_off : ∀ (l : By) (s : St), 0 ≤ s.col → (∀ c ∈ l, c ≠ 10) → l ≠ [] → Off (run s l) := by
  intro l
  induction l with
  | nil => intro s _ _ h; exact absurd rfl h
  | cons c l ih =>
    intro s h hno _
    rw [run_cons]
    have h1 := step_off s c h (hno c List.mem_cons_self)
    cases l with
    | nil => exact h1
    | cons d l => exact ih _ h1.1 (fun x hx => hno x (List.mem_cons_of_mem _ hx)) (by simp)
theorem fin_off (s : St) (h : Off s) : s.fin = step s 10 := by
  obtain ⟨tk, ln, col, beh, md⟩ := s
  cases md with
  | bl => simp only [St.fin]; rw [if_neg (by have := h.2 rfl; simp only at this; omega)]
  | _ => rfl
theorem fin_err {s : St} {c n p : Int} (h : s.md = .err c n p) : s.fin.out = ([], c, n, p) := by
  obtain ⟨tk, ln, col, beh, md⟩ := s
  simp only at h
  subst h
  rfl
theorem tokens_ev : ∀ (n : Nat) (x : ByteArray) (ln : Int) (l : List S27), n = x.size → x.size ≤ 65536 → 1 ≤ ln → ln + x.size ≤ 65537 → (l.length : Int) + x.size ≤ 65536 →
    Ev (fun k => token_Tokens.l0 k x ln l) (run ⟨l, ln, 0, 0, .bl⟩ (bs x)).fin.out := by
  intro n
  induction n using Nat.strongRecOn with
  | _ n ih =>
    intro x ln l hn hx hl1 hl2 hlen
    by_cases hx0 : bs x = []
    · rw [hx0]
      refine Ev.step (f := fun _ => some (l, 0, 0, 0)) (fun k => ?_) (Ev.now _)
      unfold token_Tokens.l0
      rw [if_pos (by rw [toList_data]; exact hx0)]
    · obtain ⟨hno, hp⟩ := cut_parts x
      have hr : ∀ k, token_Tokens.l0 (k + 1) x ln l = ((token_read.l0 (cutNL x).1 ln k 0 0 l).bind fun p => (if p.1 = 0 then (token_Tokens.l0 k (cutNL x).2.1 (ln + 1) p.2.2) else (some ([], p.1, ln, p.2.1)))) := by
        intro k
        conv => lhs; unfold token_Tokens.l0
        rw [if_neg (by rw [toList_data]; exact hx0), IntWalk.wrap64_in _ (by omega)]
      generalize cutNL x = pc at hno hp hr
      obtain ⟨s, y, b⟩ := pc
      replace hno : ∀ c ∈ bs s, c ≠ 10 := hno
      replace hp : bs x = bs s ++ 10 :: bs y ∨ (bs x = bs s ∧ bs y = []) := hp
      replace hr : ∀ k, token_Tokens.l0 (k + 1) x ln l = ((token_read.l0 s ln k 0 0 l).bind fun p => (if p.1 = 0 then (token_Tokens.l0 k y (ln + 1) p.2.2) else (some ([], p.1, ln, p.2.1)))) := hr
      have hsz : s.size ≤ x.size ∧ (s.size + y.size + 1 = x.size ∨ (s.size = x.size ∧ y.size = 0)) := by
        have h1 := bs_length x
        have h2 := bs_length s
        have h3 := bs_length y
        rcases hp with hp | ⟨hp, hy⟩
        · have h4 := congrArg List.length hp
          rw [List.length_append, List.length_cons] at h4
          omega
        · have h4 := congrArg List.length hp
          have h5 := congrArg List.length hy
          rw [List.length_nil] at h5
          omega
      -- the text's end, or the rest behind the line
      have hfin : ∀ R, run ⟨l, ln, 0, 0, .bl⟩ (bs s ++ [10]) = R → (run ⟨l, ln, 0, 0, .bl⟩ (bs x)).fin.out = (run R (bs y)).fin.out ∨ (y.size = 0 ∧ (run ⟨l, ln, 0, 0, .bl⟩ (bs x)).fin = R) := by
        intro R hR
        rcases hp with hp | ⟨hp, hy⟩
        · left
          rw [hp, show bs s ++ 10 :: bs y = (bs s ++ [10]) ++ bs y by simp, run_append, hR]
        · right
          refine ⟨by rw [← bs_length, hy]; rfl, ?_⟩
          have hne : bs s ≠ [] := by rw [← hp]; exact hx0
          rw [hp, fin_off _ (run_off (bs s) _ (Int.le_refl _) hno hne), ← hR, run_append]
          rfl
      obtain ⟨code, place, tks, hev, q1, q2⟩ := read_ev s (by omega) hno ln s.size 0 0 l (by simp) (Int.le_refl _) (by omega) (by omega)
      simp only [Int.toNat_zero, List.drop_zero] at q1 q2
      by_cases hc0 : code = 0
      · subst hc0
        obtain ⟨r1, r2⟩ := q1 rfl
        rcases hfin _ r1 with hf | ⟨hy, hf⟩
        · rw [hf]
          have hsz2 := hsz.2
          rcases hsz2 with hsz2 | ⟨hsz2, hy⟩
          · have hev2 := ih y.size (by omega) y (ln + 1) tks rfl (by omega) (by omega) (by omega) (by omega)
            refine Ev.step (f := fun k => _) hr (Ev.bind hev ?_)
            exact Ev.congr (f := fun k => token_Tokens.l0 k y (ln + 1) tks) (fun k => by rw [if_pos rfl]) hev2
          · have hy0 : bs y = [] := List.eq_nil_of_length_eq_zero (by rw [bs_length]; exact hy)
            rw [hy0]
            refine Ev.step (f := fun k => _) hr (Ev.bind hev ?_)
            refine Ev.congr (f := fun k => token_Tokens.l0 k y (ln + 1) tks) (fun k => by rw [if_pos rfl]) ?_
            refine Ev.step (f := fun _ => some (tks, 0, 0, 0)) (fun k => ?_) (Ev.now _)
            unfold token_Tokens.l0
            rw [if_pos (by rw [toList_data]; exact hy0)]
        · rw [hf]
          have hy0 : bs y = [] := List.eq_nil_of_length_eq_zero (by rw [bs_length]; exact hy)
          refine Ev.step (f := fun k => _) hr (Ev.bind hev ?_)
          refine Ev.congr (f := fun k => token_Tokens.l0 k y (ln + 1) tks) (fun k => by rw [if_pos rfl]) ?_
          refine Ev.step (f := fun _ => some (tks, 0, 0, 0)) (fun k => ?_) (Ev.now _)
          unfold token_Tokens.l0
          rw [if_pos (by rw [toList_data]; exact hy0)]
      · have hm := q2 hc0
        have ho : (run ⟨l, ln, 0, 0, .bl⟩ (bs x)).fin.out = ([], code, ln, place) := by
          rcases hfin _ rfl with hf | ⟨_, hf⟩
          · rw [hf, run_err hm, fin_err hm]
          · rw [hf]
            unfold St.out
            rw [hm]
        rw [ho]
        refine Ev.step (f := fun k => _) hr (Ev.bind hev ?_)
        exact Ev.congr (f := fun k => some ([], code, ln, place)) (fun k => by rw [if_neg hc0]) (Ev.now _)
/-- Tokens of any text -/
def lexT (l : By) : List S27 × Int × Int × Int := if l.length > 65536 then ([], 2, 0, 0) else lex l
theorem Tokens_ev (x : ByteArray) : Ev (fun k => token_Tokens.f k x) (lexT (bs x)) := by
  unfold token_Tokens.f lexT
  rw [bs_length]
  by_cases h : x.size > 65536
  · rw [if_pos h]
    exact Ev.congr (fun k => by rw [if_pos (by omega)]) (Ev.now _)
  · rw [if_neg h]
    exact Ev.congr (f := fun k => token_Tokens.l0 k x 1 []) (fun k => by rw [if_neg (by omega)]) (tokens_ev x.size x 1 [] rfl (by omega) (by omega) (by omega) (by simp; omega))
end Go.Proofs.Ytnmmapjcphefpaa.G

-- Token, the plain law, part 5: the document's lines against the machine.
namespace Go.Proofs.Ytnmmapjcphefpaa.G
open Go.RowKit Go.Proofs.YtnmmapjcphefpaaW.PrintWords Go.Proofs.YtnmmapjcphefpaaW.PrintLast Go.Proofs.YtnmmapjcphefpaaW.PrintMore
set_option linter.unusedVariables false
set_option linter.unusedSimpArgs false

theorem inword_is (c : UInt8) : kilnref11_InWord.f (cI c) = some (letB c) := letB_is c
theorem signR_is (c : UInt8) : kilnref11_sign.f (cI c) = some (signB c) := signB_is c
theorem escR_is (s : ByteArray) (i : Int) (h0 : 0 ≤ i) (h1 : i ≤ 65536) (hs : s.size ≤ 65536) :
    kilnref11_escape.f s i = some ((escP ((bs s).drop (i + 1).toNat)).1, if (escP ((bs s).drop (i + 1).toNat)).2 = 0 then 0 else (escP ((bs s).drop (i + 1).toNat)).2 + 1) := by
  unfold kilnref11_escape.f
  rw [if_pos h0, if_pos (by omega)]
  by_cases hlt : i + 1 < (s.size : Int)
  · obtain ⟨c, hd, hb⟩ := drop_at s (i + 1) (by omega) hlt
    rw [if_neg (by omega), hd, hb]
    simp only [c34, c92, c110, c120]
    by_cases e1 : c = 34
    · subst e1; rfl
    by_cases e2 : c = 92
    · subst e2; rfl
    by_cases e3 : c = 110
    · subst e3; rfl
    by_cases e4 : c = 120
    · subst e4
      rw [if_neg e1, if_neg e2, if_neg e3, if_pos rfl]
      have he : ∀ l, escP (120 :: l) = escX l := fun _ => rfl
      rw [he]
      have hl : (((bs s).drop (i + 1 + 1).toNat).length : Int) = s.size - (i + 2) := by rw [List.length_drop, bs_length]; omega
      by_cases h3 : i + 3 < (s.size : Int)
      · obtain ⟨a, hda, hba⟩ := drop_at s (i + 2) (by omega) (by omega)
        obtain ⟨b, hdb, hbb⟩ := drop_at s (i + 3) (by omega) h3
        rw [if_pos h3, hba, hbb]
        rw [show i + 1 + 1 = i + 2 by omega, hda, show i + 2 + 1 = i + 3 by omega, hdb]
        rw [show hexV (cI a) = hexU a from rfl, show hexV (cI b) = hexU b from rfl]
        have hx : ∀ r, escX (a :: b :: r) = (if 0 ≤ hexU a then (if 0 ≤ hexU b then (16 * hexU a + hexU b, 3) else (0, 0)) else (0, 0)) := fun _ => rfl
        by_cases e5 : 0 ≤ hexU a
        · by_cases e6 : 0 ≤ hexU b
          · simp only [hx, if_pos e5, if_pos e6]; rfl
          · simp only [hx, if_pos e5, if_neg e6]; rfl
        · simp only [hx, if_neg e5]; rfl
      · rw [if_neg h3]
        rcases hh : (bs s).drop (i + 1 + 1).toNat with _ | ⟨a, _ | ⟨b, r⟩⟩
        · rfl
        · rfl
        · rw [hh] at hl
          simp only [List.length_cons] at hl
          omega
    · rw [if_neg e1, if_neg e2, if_neg e3, if_neg e4]
      have : escP (c :: (bs s).drop (i + 1 + 1).toNat) = (0, 0) := by simp only [escP, if_neg e1, if_neg e2, if_neg e3, if_neg e4]
      rw [this]; rfl
  · rw [if_pos (by omega), drop_end s (i + 1) (by omega)]; rfl

theorem literalR_ev (s : ByteArray) (hs : s.size ≤ 65536) (hno : ∀ c ∈ bs s, c ≠ 10) (tk : List S27) (ln beh fr : Int) : ∀ (n : Nat) (i : Int) (t : By), n = (s.size - i).toNat → 0 ≤ i → i ≤ s.size → t.length ≤ i →
    ∃ text to_ code place, Ev (fun k => kilnref11_literal.l0 k s fr (t.map cI) i) (text, to_, code, place) ∧
      (code = 0 → ∃ t' : By, text = mk t' ∧ i < to_ ∧ to_ ≤ s.size ∧ run ⟨tk, ln, i, beh, .lit t fr⟩ ((bs s).drop i.toNat ++ [10]) = run ⟨tk ++ [⟨2, mk t', ln, fr⟩], ln, to_, to_, .bl⟩ ((bs s).drop to_.toNat ++ [10])) ∧
      (code ≠ 0 → (run ⟨tk, ln, i, beh, .lit t fr⟩ ((bs s).drop i.toNat ++ [10])).md = .err code ln place) := by
  intro n
  induction n using Nat.strongRecOn with
  | _ n ih =>
    intro i t hn h0 h1 ht
    by_cases hlt : i < (s.size : Int)
    · obtain ⟨c, hd, hb⟩ := drop_at s i h0 hlt
      have hc10 : c ≠ 10 := by
        refine hno c ?_
        have : c ∈ (bs s).drop i.toNat := by rw [hd]; exact List.mem_cons_self
        exact List.mem_of_mem_drop this
      have hbd := escP_bd ((bs s).drop (i + 1).toNat)
      have hlen : (((bs s).drop (i + 1).toNat).length : Int) = s.size - (i + 1) := by rw [List.length_drop, bs_length]; omega
      have hr : ∀ k, kilnref11_literal.l0 (k + 1) s fr (t.map cI) i = (if c = 34 then (some (mk t, i + 1, 0, 0)) else (if c = 92 then (if (escP ((bs s).drop (i + 1).toNat)).2 = 0 then (some ((⟨#[]⟩ : ByteArray), 0, 112, i)) else (kilnref11_literal.l0 k s fr (t.map cI ++ [(escP ((bs s).drop (i + 1).toNat)).1]) (i + (escP ((bs s).drop (i + 1).toNat)).2 + 1))) else (if cI c < 32 then (some ((⟨#[]⟩ : ByteArray), 0, 110, i)) else (if cI c > 126 then (some ((⟨#[]⟩ : ByteArray), 0, 110, i)) else (kilnref11_literal.l0 k s fr (t.map cI ++ [cI c]) (i + 1)))))) := by
        intro k
        conv => lhs; unfold kilnref11_literal.l0
        rw [if_pos hlt, if_pos h0, hb, escR_is s i h0 (by omega) hs, str_map, IntWalk.wrap64_in (i + 1) (by omega)]
        simp only [Option.bind_some, if_pos (show (t.map cI).length < 140737488355328 by rw [List.length_map]; omega), c34, c92]
        by_cases e5 : (escP ((bs s).drop (i + 1).toNat)).2 = 0
        · simp only [if_pos e5, if_true, reduceIte]
        · simp only [if_neg e5]
          rw [if_neg (show ¬ ((escP ((bs s).drop (i + 1).toNat)).2 + 1 = 0) by omega), IntWalk.wrap64_in _ (by omega), Int.add_assoc]
      by_cases e1 : c = 34
      · refine ⟨mk t, i + 1, 0, 0, Ev.step (f := fun _ => some (mk t, i + 1, 0, 0)) (fun k => by rw [hr, if_pos e1]) (Ev.now _), fun _ => ⟨t, rfl, by omega, by omega, ?_⟩, fun h => absurd rfl h⟩
        rw [hd, List.cons_append, run_cons]
        subst e1
        rfl
      by_cases e4 : c = 92
      · have hs : step ⟨tk, ln, i, beh, .lit t fr⟩ c = ⟨tk, ln, i + 1, beh, .esc t fr i⟩ := by subst e4; rfl
        by_cases e5 : (escP ((bs s).drop (i + 1).toNat)).2 = 0
        · refine ⟨⟨#[]⟩, 0, 112, i, Ev.step (f := fun _ => some (⟨#[]⟩, 0, 112, i)) (fun k => by rw [hr, if_neg e1, if_pos e4, if_pos e5]) (Ev.now _), fun h => absurd h (by decide), fun _ => ?_⟩
          rw [hd, List.cons_append, run_cons, hs]
          exact run_esc0 _ _ _ _ _ _ _ _ e5
        · rcases hvm : escP ((bs s).drop (i + 1).toNat) with ⟨v, m⟩
          rw [hvm] at hbd e5
          simp only at hbd e5
          obtain ⟨text, to_, code, place, hev, q1, q2⟩ := ih (s.size - (i + m + 1)).toNat (by omega) (i + m + 1) (t ++ [UInt8.ofNat v.toNat]) rfl (by omega) (by omega) (by rw [List.length_append, List.length_singleton]; omega)
          rw [List.map_append, List.map_cons, List.map_nil, cI_ofNat v (by omega) (by omega)] at hev
          have hrun : run ⟨tk, ln, i, beh, .lit t fr⟩ ((bs s).drop i.toNat ++ [10]) = run ⟨tk, ln, i + m + 1, beh, .lit (t ++ [UInt8.ofNat v.toNat]) fr⟩ ((bs s).drop (i + m + 1).toNat ++ [10]) := by
            rw [hd, List.cons_append, run_cons, hs, run_esc _ _ _ _ _ _ _ _ (by rw [hvm]; exact e5), hvm, List.drop_drop]
            rw [show (i + 1).toNat + m.toNat = (i + m + 1).toNat by omega, show i + 1 + m = i + m + 1 by omega]
          refine ⟨text, to_, code, place, Ev.step (f := fun k => kilnref11_literal.l0 k s fr (t.map cI ++ [v]) (i + m + 1)) (fun k => by rw [hr, if_neg e1, if_pos e4, hvm, if_neg e5]) hev, fun hc => ?_, fun hc => ?_⟩
          · obtain ⟨t', r1, r2, r3, r4⟩ := q1 hc
            exact ⟨t', r1, by omega, r3, by rw [hrun]; exact r4⟩
          · rw [hrun]; exact q2 hc
      by_cases e2 : cI c < 32
      · refine ⟨⟨#[]⟩, 0, 110, i, Ev.step (f := fun _ => some (⟨#[]⟩, 0, 110, i)) (fun k => by rw [hr, if_neg e1, if_neg e4, if_pos e2]) (Ev.now _), fun h => absurd h (by decide), fun _ => ?_⟩
        rw [hd, List.cons_append, run_cons]
        have hs : step ⟨tk, ln, i, beh, .lit t fr⟩ c = ⟨tk, ln, i, beh, .err 110 ln i⟩ := by simp only [step, if_neg hc10, if_neg e1, if_pos e2]
        rw [hs, run_err (s := ⟨tk, ln, i, beh, .err 110 ln i⟩) rfl]
      by_cases e3 : 126 < cI c
      · refine ⟨⟨#[]⟩, 0, 110, i, Ev.step (f := fun _ => some (⟨#[]⟩, 0, 110, i)) (fun k => by rw [hr, if_neg e1, if_neg e4, if_neg e2, if_pos e3]) (Ev.now _), fun h => absurd h (by decide), fun _ => ?_⟩
        rw [hd, List.cons_append, run_cons]
        have hs : step ⟨tk, ln, i, beh, .lit t fr⟩ c = ⟨tk, ln, i, beh, .err 110 ln i⟩ := by simp only [step, if_neg hc10, if_neg e1, if_neg e2, if_pos e3]
        rw [hs, run_err (s := ⟨tk, ln, i, beh, .err 110 ln i⟩) rfl]
      · have hs : step ⟨tk, ln, i, beh, .lit t fr⟩ c = ⟨tk, ln, i + 1, beh, .lit (t ++ [c]) fr⟩ := by simp only [step, if_neg hc10, if_neg e1, if_neg e2, if_neg e3, if_neg e4]
        obtain ⟨text, to_, code, place, hev, q1, q2⟩ := ih (s.size - (i + 1)).toNat (by omega) (i + 1) (t ++ [c]) rfl (by omega) (by omega) (by rw [List.length_append, List.length_singleton]; omega)
        rw [List.map_append, List.map_cons, List.map_nil] at hev
        have hrun : run ⟨tk, ln, i, beh, .lit t fr⟩ ((bs s).drop i.toNat ++ [10]) = run ⟨tk, ln, i + 1, beh, .lit (t ++ [c]) fr⟩ ((bs s).drop (i + 1).toNat ++ [10]) := by
          rw [hd, List.cons_append, run_cons, hs]
        refine ⟨text, to_, code, place, Ev.step (f := fun k => kilnref11_literal.l0 k s fr (t.map cI ++ [cI c]) (i + 1)) (fun k => by rw [hr, if_neg e1, if_neg e4, if_neg e2, if_neg e3]) hev, fun hc => ?_, fun hc => ?_⟩
        · obtain ⟨t', r1, r2, r3, r4⟩ := q1 hc
          exact ⟨t', r1, by omega, r3, by rw [hrun]; exact r4⟩
        · rw [hrun]; exact q2 hc
    · refine ⟨⟨#[]⟩, 0, 111, fr, Ev.step (f := fun _ => some (⟨#[]⟩, 0, 111, fr)) (fun k => ?_) (Ev.now _), fun h => absurd h (by decide), fun _ => ?_⟩
      · conv => lhs; unfold kilnref11_literal.l0
        rw [if_neg hlt]
      · rw [drop_end s i (by omega)]; rfl

theorem wordR_ev (s : ByteArray) (hs : s.size ≤ 65536) (l : List S27) (hl : l.length < 900000) (ln fr : Int) (h0 : 0 ≤ fr) : ∀ (n : Nat) (t : Int), n = (s.size - t).toNat → fr ≤ t → t ≤ s.size → t - fr ≤ 255 →
    ∃ ok t', t ≤ t' ∧ t' ≤ s.size ∧
      (ok = true → (∀ beh, run ⟨l, ln, t, beh, .wd (sl s fr t) fr⟩ ((bs s).drop t.toNat) = run ⟨l, ln, t', beh, .wd (sl s fr t') fr⟩ ((bs s).drop t'.toNat)) ∧ (∀ c l, (bs s).drop t'.toNat = c :: l → letB c = false) ∧
        (∀ x9 r, Ev (fun k => kilnref11_line.l0 k s ln (l ++ [⟨1, s.extract fr.toNat t'.toNat, ln, fr⟩]) t' t') r → Ev (fun k => kilnref11_line.l1 k s ln l t fr x9 ⟨#[]⟩ ln fr) r)) ∧
      (ok = false → (∀ beh, (run ⟨l, ln, t, beh, .wd (sl s fr t) fr⟩ ((bs s).drop t.toNat)).md = .err 2 ln t') ∧ ∀ x9, Ev (fun k => kilnref11_line.l1 k s ln l t fr x9 ⟨#[]⟩ ln fr) ([], 2, t')) := by
  have hout : ∀ (t x9 : Int), fr ≤ t → t ≤ s.size → ∀ r, Ev (fun k => kilnref11_line.l0 k s ln (l ++ [⟨1, s.extract fr.toNat t.toNat, ln, fr⟩]) t t) r → Ev (fun k => kilnref11_line.j3 k s ln l t fr false x9 ⟨#[]⟩ ln fr) r := by
    intro t x9 h1 h2 r h
    refine Ev.step (f := fun k => kilnref11_line.l0 k s ln (l ++ [⟨1, s.extract fr.toNat t.toNat, ln, fr⟩]) t t) (fun k => ?_) h
    conv => lhs; unfold kilnref11_line.j3
    rw [if_neg (by decide), if_pos h0, if_pos h1, if_pos h2, if_pos (by omega)]
  intro n
  induction n with
  | zero =>
    intro t hn h1 h2 h3
    refine ⟨true, t, Int.le_refl _, h2, fun _ => ⟨fun _ => rfl, ?_, ?_⟩, fun h => (by cases h)⟩
    · intro c l hd
      rw [drop_end s t (by omega)] at hd
      cases hd
    · intro x9 r h
      refine Ev.step (f := fun k => kilnref11_line.j3 k s ln l t fr false x9 ⟨#[]⟩ ln fr) (fun k => ?_) (hout t x9 h1 h2 r h)
      conv => lhs; unfold kilnref11_line.l1
      rw [if_neg (by omega)]
  | succ n ih =>
    intro t hn h1 h2 h3
    have hlt : t < (s.size : Int) := by omega
    obtain ⟨c, hd, hb⟩ := drop_at s t (by omega) hlt
    have hr : ∀ k x9, kilnref11_line.l1 (k + 1) s ln l t fr x9 ⟨#[]⟩ ln fr = kilnref11_line.j3 k s ln l t fr (letB c) x9 ⟨#[]⟩ ln fr := by
      intro k x9
      conv => lhs; unfold kilnref11_line.l1
      rw [if_pos hlt, if_pos (by omega), hb, inword_is]
      rfl
    cases hc : letB c with
    | false =>
      refine ⟨true, t, Int.le_refl _, h2, fun _ => ⟨fun _ => rfl, ?_, ?_⟩, fun h => (by cases h)⟩
      · intro c' l hd'
        rw [hd] at hd'
        rw [← (List.cons.inj hd').1]; exact hc
      · intro x9 r h
        exact Ev.step (f := fun k => kilnref11_line.j3 k s ln l t fr false x9 ⟨#[]⟩ ln fr) (fun k => by rw [hr, hc]) (hout t x9 h1 h2 r h)
    | true =>
      have hlen := sl_length s fr t h0 h1 h2
      have hr2 : ∀ k x9, kilnref11_line.j3 (k + 1) s ln l t fr true x9 ⟨#[]⟩ ln fr = (if t - fr = 255 then (some ([], 2, t)) else (kilnref11_line.l1 k s ln l (t + 1) fr x9 ⟨#[]⟩ ln fr)) := by
        intro k x9
        conv => lhs; unfold kilnref11_line.j3
        rw [if_pos rfl, IntWalk.wrap64_in _ (by omega), IntWalk.wrap64_in _ (by omega)]
      by_cases h255 : t - fr = 255
      · refine ⟨false, t, Int.le_refl _, h2, fun h => (by cases h), fun _ => ⟨fun beh => ?_, fun x9 => ?_⟩⟩
        · rw [hd, run_cons]
          have hstep : step ⟨l, ln, t, beh, .wd (sl s fr t) fr⟩ c = ⟨l, ln, t, beh, .err 2 ln t⟩ := by
            unfold step
            simp only [hc, if_true]
            rw [if_pos (by omega)]
          rw [hstep, run_err (s := ⟨l, ln, t, beh, .err 2 ln t⟩) rfl]
        · refine Ev.step (f := fun k => kilnref11_line.j3 k s ln l t fr true x9 ⟨#[]⟩ ln fr) (fun k => by rw [hr, hc]) ?_
          exact Ev.step (f := fun k => some ([], 2, t)) (fun k => by rw [hr2, if_pos h255]) (Ev.now _)
      · obtain ⟨ok, t', q1, q2, q3, q4⟩ := ih (t + 1) (by omega) (by omega) (by omega) (by omega)
        have hstep : ∀ beh, step ⟨l, ln, t, beh, .wd (sl s fr t) fr⟩ c = ⟨l, ln, t + 1, beh, .wd (sl s fr (t + 1)) fr⟩ := by
          intro beh
          rw [sl_snoc s fr t c _ h0 h1 hd]
          unfold step
          simp only [hc, if_true]
          rw [if_neg (by omega)]
        have hgo : ∀ x9 r, Ev (fun k => kilnref11_line.l1 k s ln l (t + 1) fr x9 ⟨#[]⟩ ln fr) r → Ev (fun k => kilnref11_line.l1 k s ln l t fr x9 ⟨#[]⟩ ln fr) r := by
          intro x9 r h
          refine Ev.step (f := fun k => kilnref11_line.j3 k s ln l t fr true x9 ⟨#[]⟩ ln fr) (fun k => by rw [hr, hc]) ?_
          exact Ev.step (f := fun k => kilnref11_line.l1 k s ln l (t + 1) fr x9 ⟨#[]⟩ ln fr) (fun k => by rw [hr2, if_neg h255]) h
        refine ⟨ok, t', by omega, q2, fun hok => ?_, fun hok => ?_⟩
        · obtain ⟨r1, r2, r3⟩ := q3 hok
          exact ⟨fun beh => by rw [hd, run_cons, hstep]; exact r1 beh, r2, fun x9 r h => hgo x9 r (r3 x9 r h)⟩
        · obtain ⟨r1, r2⟩ := q4 hok
          exact ⟨fun beh => by rw [hd, run_cons, hstep]; exact r1 beh, fun x9 => hgo x9 _ (r2 x9)⟩
end Go.Proofs.Ytnmmapjcphefpaa.G

-- Token, the plain law, part 6: the document's Tokens of any text is what the machine tells; so 'cuts' holds.
namespace Go.Proofs.Ytnmmapjcphefpaa.G
open Go.RowKit Go.Proofs.YtnmmapjcphefpaaW.PrintWords Go.Proofs.YtnmmapjcphefpaaW.PrintLast Go.Proofs.YtnmmapjcphefpaaW.PrintMore
set_option linter.unusedVariables false
set_option linter.unusedSimpArgs false

theorem line_ev (s : ByteArray) (hs : s.size ≤ 65536) (hno : ∀ c ∈ bs s, c ≠ 10) (ln : Int) : ∀ (n : Nat) (a en : Int) (l : List S27), n = (s.size - a).toNat → 0 ≤ a → a ≤ s.size → (l.length : Int) + (s.size - a) + 1 ≤ 900000 →
    ∃ tks code place, Ev (fun k => kilnref11_line.l0 k s ln l a en) (tks, code, place) ∧
      (code = 0 → run ⟨l, ln, a, en, .bl⟩ ((bs s).drop a.toNat ++ [10]) = ⟨tks, ln + 1, 0, 0, .bl⟩ ∧ (tks.length : Int) ≤ l.length + (s.size - a) + 1) ∧
      (code ≠ 0 → (run ⟨l, ln, a, en, .bl⟩ ((bs s).drop a.toNat ++ [10])).md = .err code ln place) := by
  intro n
  induction n using Nat.strongRecOn with
  | _ n ih =>
    intro a en l hn h0 h1 hlen
    have hend : Ev (fun k => kilnref11_line.j1 k s ln l a en false) (l ++ [⟨7, ⟨#[]⟩, ln, en⟩], 0, 0) := by
      refine Ev.step (f := fun _ => some (l ++ [⟨7, ⟨#[]⟩, ln, en⟩], 0, 0)) (fun k => ?_) (Ev.now _)
      conv => lhs; unfold kilnref11_line.j1
      rw [if_neg (by decide), if_pos (by omega)]
    by_cases hlt : a < (s.size : Int)
    · obtain ⟨c, hd, hb⟩ := drop_at s a h0 hlt
      have hmem : c ∈ bs s := List.mem_of_mem_drop (show c ∈ (bs s).drop a.toNat by rw [hd]; exact List.mem_cons_self)
      have hc10 : c ≠ 10 := hno c hmem
      have hr0 : ∀ k, kilnref11_line.l0 (k + 1) s ln l a en = kilnref11_line.j1 k s ln l a en (cI c != 35) := by
        intro k
        conv => lhs; unfold kilnref11_line.l0
        rw [if_pos hlt, if_pos h0, hb]
      have hr : ∀ k, kilnref11_line.j1 (k + 1) s ln l a en true = (if c = 32 then (kilnref11_line.l0 k s ln l (a + 1) en)
            else (if letB c = true then (kilnref11_line.l1 k s ln l a a 0 ⟨#[]⟩ ln a)
            else (if c = 34 then ((kilnref11_literal.l0 k s a [] (a + 1)).bind fun p => (if p.2.2.1 = 0 then (kilnref11_line.l0 k s ln (l ++ [⟨2, p.1, ln, a⟩]) p.2.1 p.2.1) else (some ([], p.2.2.1, p.2.2.2))))
            else (if signB c > 0 then (kilnref11_line.l0 k s ln (l ++ [⟨signB c, ⟨#[]⟩, ln, a⟩]) (a + 1) (a + 1)) else (some ([], 110, a)))))) := by
        intro k
        conv => lhs; unfold kilnref11_line.j1
        rw [if_pos rfl, if_pos h0, if_pos hlt, hb, signR_is, inword_is, IntWalk.wrap64_in _ (by omega)]
        simp only [Option.bind_some, c32, c34, kilnref11_literal.f, if_pos (show l.length < 3518437208883 by omega), IntWalk.wrap64_in (a + 1) (by omega)]
      by_cases e2 : c = 35
      · refine ⟨l ++ [endT ln en], 0, 0, Ev.step (f := fun k => kilnref11_line.j1 k s ln l a en false) (fun k => by rw [hr0, e2]; rfl) hend, fun _ => ⟨?_, ?_⟩, fun h => absurd rfl h⟩
        · rw [hd, List.cons_append, run_cons]
          have hs1 : step ⟨l, ln, a, en, .bl⟩ c = ⟨l, ln, a, en, .rem⟩ := by
            subst e2; rfl
          rw [hs1]
          exact run_rem _ _ _ _ _ (fun x hx => hno x (List.mem_of_mem_drop hx))
        · rw [List.length_append, List.length_singleton]; omega
      have hgo : ∀ r, Ev (fun k => kilnref11_line.j1 k s ln l a en true) r → Ev (fun k => kilnref11_line.l0 k s ln l a en) r := by
        intro r h
        refine Ev.step (f := fun k => kilnref11_line.j1 k s ln l a en true) (fun k => ?_) h
        rw [hr0, show (cI c != 35) = true by rw [bne_iff_ne, Ne, c35]; exact e2]
      by_cases e1 : c = 32
      · obtain ⟨tks, code, place, hev, q1, q2⟩ := ih (s.size - (a + 1)).toNat (by omega) (a + 1) en l rfl (by omega) (by omega) (by omega)
        have hrun : run ⟨l, ln, a, en, .bl⟩ ((bs s).drop a.toNat ++ [10]) = run ⟨l, ln, a + 1, en, .bl⟩ ((bs s).drop (a + 1).toNat ++ [10]) := by
          rw [hd, List.cons_append, run_cons, e1]; rfl
        rw [hrun]
        exact ⟨tks, code, place, hgo _ (Ev.step (f := fun k => kilnref11_line.l0 k s ln l (a + 1) en) (fun k => by rw [hr, if_pos e1]) hev), fun hc => ⟨(q1 hc).1, by have := (q1 hc).2; omega⟩, q2⟩
      cases e4 : letB c with
      | true =>
        obtain ⟨ok, t', q1, q2, q3, q4⟩ := wordR_ev s hs l (by omega) ln a h0 (s.size - a).toNat a rfl (Int.le_refl _) (by omega) (by omega)
        have hl := run_letter l ln a en c ((bs s).drop (a + 1).toNat) e4
        rw [← hd] at hl
        rw [sl_nil] at q3 q4
        rw [run_append, hl]
        have hr4 : ∀ k, kilnref11_line.j1 (k + 1) s ln l a en true = kilnref11_line.l1 k s ln l a a 0 ⟨#[]⟩ ln a := fun k => by rw [hr, if_neg e1, if_pos e4]
        cases ok with
        | true =>
          obtain ⟨r1, r2, r3⟩ := q3 rfl
          have hlt' : a < t' := by
            rcases Int.lt_or_eq_of_le q1 with h | h
            · omega
            · exfalso
              have := r2 c _ (by rw [← h]; exact hd)
              rw [this] at e4; cases e4
          obtain ⟨tks, code, place, hev2, q5, q6⟩ := ih (s.size - t').toNat (by omega) t' t' (l ++ [⟨1, s.extract a.toNat t'.toNat, ln, a⟩]) rfl (by omega) (by omega) (by rw [List.length_append, List.length_singleton]; omega)
          have hrun : run (run ⟨l, ln, a, en, .wd [] a⟩ ((bs s).drop a.toNat)) [10] = run ⟨l ++ [⟨1, s.extract a.toNat t'.toNat, ln, a⟩], ln, t', t', .bl⟩ ((bs s).drop t'.toNat ++ [10]) := by
            rw [r1, ← run_append]
            exact run_flush _ _ _ _ _ _ _ r2
          rw [hrun]
          refine ⟨tks, code, place, hgo _ (Ev.step (f := fun k => _) hr4 (r3 _ _ hev2)), fun hc => ⟨(q5 hc).1, ?_⟩, q6⟩
          have := (q5 hc).2
          rw [List.length_append, List.length_singleton] at this; omega
        | false =>
          obtain ⟨r1, r2⟩ := q4 rfl
          refine ⟨[], 2, t', hgo _ (Ev.step (f := fun k => _) hr4 (r2 _)), fun hc => absurd hc (by decide), fun _ => ?_⟩
          rw [run_err (r1 en)]; exact r1 en
      | false =>
        by_cases e3 : c = 34
        · obtain ⟨text, to_, code, place, hev, q1, q2⟩ := literalR_ev s hs hno l ln en a (s.size - (a + 1)).toNat (a + 1) [] rfl (by omega) (by omega) (by simp; omega)
          have hrun : run ⟨l, ln, a, en, .bl⟩ ((bs s).drop a.toNat ++ [10]) = run ⟨l, ln, a + 1, en, .lit [] a⟩ ((bs s).drop (a + 1).toNat ++ [10]) := by
            rw [hd, List.cons_append, run_cons, e3]; rfl
          rw [hrun]
          have hr3 : ∀ k, kilnref11_line.j1 (k + 1) s ln l a en true = ((kilnref11_literal.l0 k s a [] (a + 1)).bind fun p => (if p.2.2.1 = 0 then (kilnref11_line.l0 k s ln (l ++ [⟨2, p.1, ln, a⟩]) p.2.1 p.2.1) else (some ([], p.2.2.1, p.2.2.2)))) := fun k => by rw [hr, if_neg e1, e4, if_neg (by decide), if_pos e3]
          by_cases hc0 : code = 0
          · subst hc0
            obtain ⟨t', r1, r2, r3, r4⟩ := q1 rfl
            obtain ⟨tks, code, place', hev2, q3, q4⟩ := ih (s.size - to_).toNat (by omega) to_ to_ (l ++ [⟨2, mk t', ln, a⟩]) rfl (by omega) (by omega) (by rw [List.length_append, List.length_singleton]; omega)
            rw [r4]
            refine ⟨tks, code, place', hgo _ (Ev.step (f := fun k => _) hr3 (Ev.bind hev ?_)), fun hc => ⟨(q3 hc).1, ?_⟩, q4⟩
            · refine Ev.congr (f := fun k => kilnref11_line.l0 k s ln (l ++ [⟨2, mk t', ln, a⟩]) to_ to_) (fun k => ?_) hev2
              rw [if_pos rfl, r1]
            · have := (q3 hc).2
              rw [List.length_append, List.length_singleton] at this; omega
          · refine ⟨[], code, place, hgo _ (Ev.step (f := fun k => _) hr3 (Ev.bind hev ?_)), fun hc => absurd hc hc0, fun _ => q2 hc0⟩
            refine Ev.congr (f := fun k => some ([], code, place)) (fun k => ?_) (Ev.now _)
            rw [if_neg hc0]
        have hb2 : step ⟨l, ln, a, en, .bl⟩ c = (if 0 < signB c then ⟨l ++ [⟨signB c, ⟨#[]⟩, ln, a⟩], ln, a + 1, a + 1, .bl⟩ else ⟨l, ln, a, en, .err 110 ln a⟩) := by
          simp only [step, blank, e4, if_neg hc10, if_neg e1, if_neg e2, if_neg e3, if_false, reduceIte, Bool.false_eq_true]
        by_cases e5 : 0 < signB c
        · rw [if_pos e5] at hb2
          obtain ⟨tks, code, place, hev, q1, q2⟩ := ih (s.size - (a + 1)).toNat (by omega) (a + 1) (a + 1) (l ++ [⟨signB c, ⟨#[]⟩, ln, a⟩]) rfl (by omega) (by omega) (by rw [List.length_append, List.length_singleton]; omega)
          have hrun : run ⟨l, ln, a, en, .bl⟩ ((bs s).drop a.toNat ++ [10]) = run ⟨l ++ [⟨signB c, ⟨#[]⟩, ln, a⟩], ln, a + 1, a + 1, .bl⟩ ((bs s).drop (a + 1).toNat ++ [10]) := by
            rw [hd, List.cons_append, run_cons, hb2]
          rw [hrun]
          refine ⟨tks, code, place, hgo _ (Ev.step (f := fun k => kilnref11_line.l0 k s ln (l ++ [⟨signB c, ⟨#[]⟩, ln, a⟩]) (a + 1) (a + 1)) (fun k => by rw [hr, if_neg e1, e4, if_neg (by decide), if_neg e3, if_pos e5]) hev), fun hc => ⟨(q1 hc).1, ?_⟩, q2⟩
          have := (q1 hc).2
          rw [List.length_append, List.length_singleton] at this; omega
        · rw [if_neg e5] at hb2
          refine ⟨[], 110, a, hgo _ (Ev.step (f := fun _ => some ([], 110, a)) (fun k => by rw [hr, if_neg e1, e4, if_neg (by decide), if_neg e3, if_neg e5]) (Ev.now _)), fun hc => absurd hc (by decide), fun _ => ?_⟩
          rw [hd, List.cons_append, run_cons, hb2, run_err (s := ⟨l, ln, a, en, .err 110 ln a⟩) rfl]
    · refine ⟨l ++ [endT ln en], 0, 0, Ev.step (f := fun k => kilnref11_line.j1 k s ln l a en false) (fun k => ?_) hend, fun _ => ⟨?_, ?_⟩, fun h => absurd rfl h⟩
      · conv => lhs; unfold kilnref11_line.l0
        rw [if_neg hlt]
      · rw [drop_end s a (by omega)]; rfl
      · rw [List.length_append, List.length_singleton]; omega
/-! tokens that stand ahead turn nothing -/
def St.pre (p : List S27) (s : St) : St := ⟨p ++ s.tk, s.ln, s.col, s.beh, s.md⟩
theorem blank_pre (p : List S27) (s : St) (c : UInt8) : blank (s.pre p) c = (blank s c).pre p := by
  unfold blank St.pre St.endl
  repeat' split
  all_goals simp [List.append_assoc]
theorem step_pre (p : List S27) (s : St) (c : UInt8) : step (s.pre p) c = (step s c).pre p := by
  obtain ⟨tk, ln, col, beh, md⟩ := s
  cases md with
  | bl => exact blank_pre p _ c
  | wd w a =>
    simp only [step, St.pre]
    split
    · split <;> rfl
    · have := blank_pre p ⟨tk ++ [⟨1, mk w, ln, a⟩], ln, col, col, .bl⟩ c
      simp only [St.pre, ← List.append_assoc] at this
      exact this
  | lit t a =>
    simp only [step, St.pre]
    repeat' split
    all_goals first | rfl | simp [List.append_assoc]
  | esc t a q => simp only [step, St.pre]; repeat' split
                 all_goals rfl
  | hx t a q => simp only [step, St.pre]; repeat' split
                all_goals rfl
  | hy t a q d => simp only [step, St.pre]; repeat' split
                  all_goals rfl
  | rem => simp only [step, St.pre, St.endl]; split <;> first | rfl | simp [List.append_assoc]
  | err a b d => rfl
theorem run_pre (p : List S27) : ∀ (l : By) (s : St), run (s.pre p) l = (run s l).pre p := by
  intro l
  induction l with
  | nil => intro s; rfl
  | cons c l ih => intro s; rw [run_cons, run_cons, step_pre, ih]
/-- behind a line's end -/
theorem step10 (s : St) : (∃ c n p, (step s 10).md = .err c n p) ∨ ((step s 10).col = 0 ∧ (step s 10).beh = 0 ∧ (step s 10).md = .bl) := by
  obtain ⟨tk, ln, col, beh, md⟩ := s
  cases md with
  | bl => exact .inr ⟨rfl, rfl, rfl⟩
  | wd w a => exact .inr ⟨rfl, rfl, rfl⟩
  | lit t a => exact .inl ⟨_, _, _, rfl⟩
  | esc t a p => exact .inl ⟨_, _, _, rfl⟩
  | hx t a p => exact .inl ⟨_, _, _, rfl⟩
  | hy t a p d => exact .inl ⟨_, _, _, rfl⟩
  | rem => exact .inr ⟨rfl, rfl, rfl⟩
  | err a b d => exact .inl ⟨_, _, _, rfl⟩
/-! the document's lines -/
def spl : By → By → List By
  | cur, [] => if cur = [] then [] else [cur]
  | cur, c :: r => if c = 10 then cur :: spl [] r else spl (cur ++ [c]) r
def joinL (ls : List By) : By := ls.flatMap fun l => l ++ [10]
theorem joinL_cons (l : By) (ls : List By) : joinL (l :: ls) = (l ++ [10]) ++ joinL ls := by simp [joinL]
theorem fin_of_err {s : St} {c n p : Int} (h : s.md = .err c n p) : s.fin = s := by
  obtain ⟨tk, ln, col, beh, md⟩ := s
  simp only at h
  subst h; rfl
theorem run_spl : ∀ (r cur : By) (tk : List S27) (ln beh : Int), (∀ c ∈ cur, c ≠ 10) → (run ⟨tk, ln, 0, beh, .bl⟩ (cur ++ r)).fin = run ⟨tk, ln, 0, beh, .bl⟩ (joinL (spl cur r)) := by
  intro r
  induction r with
  | nil =>
    intro cur tk ln beh hno
    rw [List.append_nil]
    unfold spl
    by_cases h : cur = []
    · rw [if_pos h, h]; rfl
    · rw [if_neg h, fin_off _ (run_off cur _ (Int.le_refl _) hno h)]
      simp only [joinL, List.flatMap_cons, List.flatMap_nil, List.append_nil]
      rw [run_append]; rfl
  | cons c r ih =>
    intro cur tk ln beh hno
    unfold spl
    by_cases h : c = 10
    · subst h
      rw [if_pos rfl, show cur ++ 10 :: r = (cur ++ [10]) ++ r by simp, run_append _ (cur ++ [10]) r]
      rw [joinL_cons, run_append _ (cur ++ [10])]
      have h10 : run ⟨tk, ln, 0, beh, .bl⟩ (cur ++ [10]) = step (run ⟨tk, ln, 0, beh, .bl⟩ cur) 10 := by rw [run_append]; rfl
      rw [h10]
      rcases step10 (run ⟨tk, ln, 0, beh, .bl⟩ cur) with ⟨a, b, d, he⟩ | ⟨h1, h2, h3⟩
      · rw [run_err he, run_err he, fin_of_err he]
      · have := ih [] (step (run ⟨tk, ln, 0, beh, .bl⟩ cur) 10).tk (step (run ⟨tk, ln, 0, beh, .bl⟩ cur) 10).ln 0 (fun _ h => by cases h)
        rw [List.nil_append] at this
        generalize step (run ⟨tk, ln, 0, beh, .bl⟩ cur) 10 = S at *
        obtain ⟨tk', ln', col', beh', md'⟩ := S
        simp only at h1 h2 h3 this
        subst h1; subst h2; subst h3
        exact this
    · rw [if_neg h]
      have := ih (cur ++ [c]) tk ln beh (fun x hx => by
        rcases List.mem_append.1 hx with hx | hx
        · exact hno x hx
        · rw [List.mem_singleton.1 hx]; exact h)
      rw [← this, List.append_assoc]; rfl
theorem spl_no10 : ∀ (r cur : By), (∀ c ∈ cur, c ≠ 10) → ∀ l ∈ spl cur r, ∀ c ∈ l, c ≠ 10 := by
  intro r
  induction r with
  | nil =>
    intro cur hno l hl
    unfold spl at hl
    split at hl
    · cases hl
    · rw [List.mem_singleton.1 hl]; exact hno
  | cons c r ih =>
    intro cur hno l hl
    unfold spl at hl
    split at hl
    · rcases List.mem_cons.1 hl with rfl | hl
      · exact hno
      · exact ih [] (fun _ h => by cases h) l hl
    · rename_i h
      refine ih (cur ++ [c]) (fun x hx => ?_) l hl
      rcases List.mem_append.1 hx with hx | hx
      · exact hno x hx
      · rw [List.mem_singleton.1 hx]; exact h
/-- how long: lines and their bytes -/
theorem spl_len : ∀ (r cur : By), (joinL (spl cur r)).length ≤ cur.length + r.length + 1 := by
  intro r
  induction r with
  | nil =>
    intro cur
    unfold spl
    split <;> simp [joinL]
  | cons c r ih =>
    intro cur
    unfold spl
    split
    · have := ih []
      simp only [joinL, List.flatMap_cons, List.length_append, List.length_cons, List.length_nil] at this ⊢
      omega
    · have := ih (cur ++ [c])
      simp only [List.length_append, List.length_cons, List.length_nil] at this ⊢
      omega
theorem spl_count : ∀ (ls : List By), ls.length ≤ (joinL ls).length := by
  intro ls
  induction ls with
  | nil => simp [joinL]
  | cons l ls ih => simp only [joinL, List.flatMap_cons, List.length_append, List.length_cons, List.length_nil] at ih ⊢; omega
theorem lines_ev (x : ByteArray) (hx : x.size ≤ 65536) : ∀ (n : Nat) (out : List ByteArray) (fr i : Int), n = (x.size - i).toNat → 0 ≤ fr → fr ≤ i → i ≤ x.size → (out.length : Int) ≤ i →
    Ev (fun k => kilnref11_Lines.l0 k x out fr i) (out ++ (spl (sl x fr i) ((bs x).drop i.toNat)).map mk) := by
  intro n
  induction n with
  | zero =>
    intro out fr i hn h0 h1 h2 hlen
    have hi : i = x.size := by omega
    have hl := sl_length x fr i h0 h1 h2
    rw [drop_end x i (by omega)]
    unfold spl
    by_cases h : fr < (x.size : Int)
    · rw [if_neg (fun hh => by rw [hh] at hl; simp at hl; omega)]
      refine Ev.step (f := fun _ => some (out ++ [x.extract fr.toNat x.size])) (fun k => ?_) ?_
      · conv => lhs; unfold kilnref11_Lines.l0
        rw [if_neg (by omega), if_pos h, if_pos h0, if_pos (by omega), if_pos (by omega)]
      · have : sl x fr i = bs (x.extract fr.toNat x.size) := by rw [hi]; rfl
        rw [this]
        exact Ev.now _
    · rw [if_pos (List.eq_nil_of_length_eq_zero (by omega)), List.map_nil, List.append_nil]
      refine Ev.step (f := fun _ => some out) (fun k => ?_) (Ev.now _)
      conv => lhs; unfold kilnref11_Lines.l0
      rw [if_neg (by omega), if_neg h]
  | succ n ih =>
    intro out fr i hn h0 h1 h2 hlen
    have hlt : i < (x.size : Int) := by omega
    obtain ⟨c, hd, hb⟩ := drop_at x i (by omega) hlt
    rw [hd]
    unfold spl
    by_cases h : c = 10
    · rw [if_pos h]
      have := ih (out ++ [x.extract fr.toNat i.toNat]) (i + 1) (i + 1) (by omega) (by omega) (by omega) (by omega) (by rw [List.length_append, List.length_singleton]; omega)
      rw [sl_nil, List.append_assoc] at this
      refine Ev.step (f := fun k => kilnref11_Lines.l0 k x (out ++ [x.extract fr.toNat i.toNat]) (i + 1) (i + 1)) (fun k => ?_) this
      conv => lhs; unfold kilnref11_Lines.l0
      rw [if_pos hlt, if_pos (by omega), if_pos (by rw [hb, c10]; exact h), if_pos h0, if_pos h1, if_pos h2, if_pos (by omega), IntWalk.wrap64_in _ (by omega)]
    · rw [if_neg h]
      have := ih out fr (i + 1) (by omega) (by omega) (by omega) (by omega) (by omega)
      rw [sl_snoc x fr i c _ h0 h1 hd] at this
      refine Ev.step (f := fun k => kilnref11_Lines.l0 k x out fr (i + 1)) (fun k => ?_) this
      conv => lhs; unfold kilnref11_Lines.l0
      rw [if_pos hlt, if_pos (by omega), if_neg (by rw [hb, c10]; exact h), IntWalk.wrap64_in _ (by omega)]
theorem tokensR_ev (ls : List By) (hls : (joinL ls).length ≤ 65537) (hno : ∀ l ∈ ls, ∀ c ∈ l, c ≠ 10) : ∀ (n : Nat) (acc : List S27) (j : Nat), n = ls.length - j → j ≤ ls.length → (acc.length : Int) + (joinL (ls.drop j)).length ≤ 200000 →
    Ev (fun k => kilnref11_Tokens.l0 k (ls.map mk) acc j) (run ⟨acc, (j : Int) + 1, 0, 0, .bl⟩ (joinL (ls.drop j))).out := by
  have hcnt := spl_count ls
  intro n
  induction n with
  | zero =>
    intro acc j hn hj hlen
    rw [List.drop_eq_nil_of_le (by omega)]
    refine Ev.step (f := fun _ => some (acc, 0, 0, 0)) (fun k => ?_) (Ev.now _)
    conv => lhs; unfold kilnref11_Tokens.l0
    rw [if_neg (by rw [List.length_map]; omega)]
  | succ n ih =>
    intro acc j hn hj hlen
    have hlt : j < ls.length := by omega
    have hd := List.drop_eq_getElem_cons hlt
    have hmem : ls[j] ∈ ls := List.getElem_mem hlt
    have hin : (ls[j]).length + 1 ≤ (joinL (ls.drop j)).length := by rw [hd]; simp only [joinL, List.flatMap_cons, List.length_append, List.length_cons, List.length_nil]; omega
    have hin2 : (joinL (ls.drop j)).length ≤ (joinL ls).length := by
      have : joinL ls = joinL (ls.take j) ++ joinL (ls.drop j) := by unfold joinL; rw [← List.flatMap_append, List.take_append_drop]
      rw [this, List.length_append]; omega
    have hsz : (mk ls[j]).size = (ls[j]).length := by rw [← bs_length]; rfl
    obtain ⟨tks, code, place, hev, q1, q2⟩ := line_ev (mk ls[j]) (by omega) (hno _ hmem) ((j : Int) + 1) ((mk ls[j]).size) 0 0 [] (by simp) (Int.le_refl _) (by omega) (by simp; omega)
    have hrd : rdOf ByteArray.empty (ls.map mk) (j : Int) = mk ls[j] := by
      unfold rdOf
      rw [List.getD_eq_getElem?_getD, Int.toNat_natCast, List.getElem?_map, List.getElem?_eq_getElem hlt]; rfl
    have hr : ∀ k, kilnref11_Tokens.l0 (k + 1) (ls.map mk) acc j = ((kilnref11_line.l0 k (mk ls[j]) ((j : Int) + 1) [] 0 0).bind fun p => (if p.2.1 = 0 then (if acc.length + p.1.length < 3518437208883 then (kilnref11_Tokens.l0 k (ls.map mk) (acc ++ p.1) ((j + 1 : Nat) : Int)) else none) else (some ([], p.2.1, (j : Int) + 1, p.2.2)))) := by
      intro k
      conv => lhs; unfold kilnref11_Tokens.l0
      rw [if_pos (by rw [List.length_map]; omega), if_pos (by omega), hrd, IntWalk.wrap64_in _ (by omega)]
      rfl
    replace q1 : code = 0 → run ⟨[], (j : Int) + 1, 0, 0, .bl⟩ (ls[j] ++ [10]) = ⟨tks, (j : Int) + 1 + 1, 0, 0, .bl⟩ ∧ (tks.length : Int) ≤ ((mk ls[j]).size : Int) + 1 := fun h => ⟨(q1 h).1, by have := (q1 h).2; simp at this; omega⟩
    replace q2 : code ≠ 0 → (run ⟨[], (j : Int) + 1, 0, 0, .bl⟩ (ls[j] ++ [10])).md = .err code ((j : Int) + 1) place := q2
    have hpre : run ⟨acc, (j : Int) + 1, 0, 0, .bl⟩ (ls[j] ++ [10]) = (run ⟨[], (j : Int) + 1, 0, 0, .bl⟩ (ls[j] ++ [10])).pre acc := by
      have := run_pre acc (ls[j] ++ [10]) ⟨[], (j : Int) + 1, 0, 0, .bl⟩
      rw [← this]
      simp only [St.pre, List.append_nil]
    have hj2 : joinL (ls.drop j) = (ls[j] ++ [10]) ++ joinL (ls.drop (j + 1)) := by rw [hd]; exact joinL_cons _ _
    rw [hj2, run_append, hpre]
    by_cases hc0 : code = 0
    · subst hc0
      obtain ⟨r1, r2⟩ := q1 rfl
      rw [r1]
      have hlen2 : (joinL (ls.drop j)).length = (ls[j]).length + 1 + (joinL (ls.drop (j + 1))).length := by rw [hj2, List.length_append, List.length_append]; rfl
      have hev2 := ih (acc ++ tks) (j + 1) (by omega) (by omega) (by rw [List.length_append]; omega)
      refine Ev.step (f := fun k => _) hr (Ev.bind hev ?_)
      refine Ev.congr (f := fun k => kilnref11_Tokens.l0 k (ls.map mk) (acc ++ tks) ((j + 1 : Nat) : Int)) (fun k => ?_) ?_
      · rw [if_pos rfl, if_pos (show acc.length + tks.length < 3518437208883 by omega)]
      · rw [show ((j + 1 : Nat) : Int) + 1 = (j : Int) + 1 + 1 by omega] at hev2
        exact hev2
    · have he := q2 hc0
      have he2 : ((run ⟨[], (j : Int) + 1, 0, 0, .bl⟩ (ls[j] ++ [10])).pre acc).md = .err code ((j : Int) + 1) place := he
      rw [run_err he2]
      have ho : ((run ⟨[], (j : Int) + 1, 0, 0, .bl⟩ (ls[j] ++ [10])).pre acc).out = ([], code, (j : Int) + 1, place) := by
        unfold St.out; rw [he2]
      rw [ho]
      refine Ev.step (f := fun k => _) hr (Ev.bind hev ?_)
      exact Ev.congr (f := fun k => some ([], code, (j : Int) + 1, place)) (fun k => by rw [if_neg hc0]) (Ev.now _)
theorem TokensR_ev (x : ByteArray) : Ev (fun k => kilnref11_Tokens.f k x) (lexT (bs x)) := by
  unfold kilnref11_Tokens.f lexT
  rw [bs_length]
  by_cases h : x.size > 65536
  · rw [if_pos h]
    exact Ev.congr (fun k => by rw [if_pos (by omega)]) (Ev.now _)
  · rw [if_neg h]
    have hl := lines_ev x (by omega) x.size [] 0 0 (by simp) (Int.le_refl _) (Int.le_refl _) (by omega) (by simp)
    rw [sl_nil, List.nil_append] at hl
    replace hl : Ev (fun k => kilnref11_Lines.l0 k x [] 0 0) ((spl [] (bs x)).map mk) := hl
    have hlen := spl_len (bs x) []
    rw [bs_length, List.length_nil] at hlen
    have ht := tokensR_ev (spl [] (bs x)) (by omega) (spl_no10 _ _ (fun _ h => by cases h)) _ [] 0 rfl (Nat.zero_le _) (by rw [List.drop_zero]; simp; omega)
    rw [List.drop_zero] at ht
    have hs := run_spl (bs x) [] [] 1 0 (fun _ h => by cases h)
    rw [List.nil_append] at hs
    have he : lex (bs x) = (run ⟨[], ((0 : Nat) : Int) + 1, 0, 0, .bl⟩ (joinL (spl [] (bs x)))).out := by
      unfold lex
      show (run ⟨[], 1, 0, 0, .bl⟩ (bs x)).fin.out = _
      rw [hs]; rfl
    rw [he]
    refine Ev.congr (f := fun k => (kilnref11_Lines.f k x).bind fun t140 => (kilnref11_Tokens.l0 k t140 [] 0)) (fun k => by rw [if_neg (by omega)]) ?_
    exact Ev.bind hl ht
end Go.Proofs.Ytnmmapjcphefpaa.G

-- Token, the plain law, part 7: Quote, words, what a token is written as.
namespace Go.Proofs.Ytnmmapjcphefpaa.G
open Go.RowKit Go.Proofs.YtnmmapjcphefpaaW.PrintWords Go.Proofs.YtnmmapjcphefpaaW.PrintLast Go.Proofs.YtnmmapjcphefpaaW.PrintMore
set_option linter.unusedVariables false
set_option linter.unusedSimpArgs false

theorem same_ev (l : List S27) (hl : l.length ≤ 1000000000000) : ∀ (n : Nat) (i : Int), n = (l.length - i).toNat → 0 ≤ i → i ≤ l.length → Ev (fun k => kilnref11_Same.l0 k l l i) true := by
  intro n
  induction n with
  | zero =>
    intro i hn h0 h1
    refine Ev.step (f := fun _ => some true) (fun k => ?_) (Ev.now _)
    conv => lhs; unfold kilnref11_Same.l0
    rw [if_neg (by omega)]
  | succ n ih =>
    intro i hn h0 h1
    refine Ev.step (f := fun k => kilnref11_Same.l0 k l l (i + 1)) (fun k => ?_) (ih (i + 1) (by omega) (by omega) (by omega))
    conv => lhs; unfold kilnref11_Same.l0
    rw [if_pos (by omega), if_pos h0, if_pos (by omega), if_neg (by simp), IntWalk.wrap64_in _ (by omega)]
theorem Same_ev (l : List S27) (hl : l.length ≤ 1000000000000) : Ev (fun k => kilnref11_Same.f k l l) true := by
  refine Ev.congr (f := fun k => kilnref11_Same.l0 k l l 0) (fun k => ?_) (same_ev l hl l.length 0 (by simp) (Int.le_refl _) (by omega))
  unfold kilnref11_Same.f
  rw [if_pos rfl]
/-- how many tokens a text has at most -/
theorem blank_len (s : St) (c : UInt8) : (blank s c).tk.length ≤ s.tk.length + 1 := by
  unfold blank St.endl
  repeat' split
  all_goals first | (simp only [List.length_append, List.length_singleton]; omega) | (simp only; omega)
theorem step_len (s : St) (c : UInt8) : (step s c).tk.length ≤ s.tk.length + 2 := by
  obtain ⟨tk, ln, col, beh, md⟩ := s
  cases md with
  | bl => have := blank_len ⟨tk, ln, col, beh, .bl⟩ c; simp only [step] at this ⊢; omega
  | wd w a =>
    simp only [step]
    split
    · split <;> simp only <;> omega
    · have := blank_len ⟨tk ++ [⟨1, mk w, ln, a⟩], ln, col, col, .bl⟩ c
      simp only [List.length_append, List.length_singleton] at this ⊢; omega
  | _ =>
    simp only [step, St.endl]
    repeat' split
    all_goals first | (simp only [List.length_append, List.length_singleton]; omega) | (simp only; omega) | (simp only [List.length_append, List.length_cons, List.length_nil]; omega) | omega
theorem run_len : ∀ (l : By) (s : St), (run s l).tk.length ≤ s.tk.length + 2 * l.length := by
  intro l
  induction l with
  | nil => intro s; simp [run_nil]
  | cons c l ih => intro s; rw [run_cons]; have := ih (step s c); have := step_len s c; simp only [List.length_cons]; omega
theorem lexT_len (l : By) : (lexT l).1.length ≤ 131074 := by
  unfold lexT
  split
  · simp
  · unfold lex
    have h1 := run_len l st0
    have h2 : (run st0 l).fin.tk.length ≤ (run st0 l).tk.length + 2 := by
      generalize run st0 l = s
      unfold St.fin
      split
      · split
        · omega
        · exact step_len _ _
      · exact step_len _ _
    have h3 : (run st0 l).fin.out.1.length ≤ (run st0 l).fin.tk.length := by
      unfold St.out
      split <;> simp
    have h4 : st0.tk.length = 0 := rfl
    omega
theorem cuts_ev (x : ByteArray) : Ev (fun k => kilnlaw11_cuts.f k x) true := by
  unfold kilnlaw11_cuts.f
  refine Ev.bind (Tokens_ev x) (Ev.bind (TokensR_ev x) ?_)
  have := lexT_len (bs x)
  refine Ev.congr (f := fun k => (kilnref11_Same.f k (lexT (bs x)).1 (lexT (bs x)).1).bind fun t => some t) (fun k => ?_) ?_
  · rw [if_pos rfl, if_pos rfl, if_pos rfl]
  · exact Ev.bind (f := fun _ t => some t) (Same_ev _ (by omega)) (Ev.now _)
/-! Quote -/
def qB (c : UInt8) : By :=
  if c = 34 then [92, 34] else if c = 92 then [92, 92] else if c = 10 then [92, 110]
  else if cI c < 32 then [92, 120, UInt8.ofNat (bt digs (cI c / 16)).toNat, UInt8.ofNat (bt digs (cI c % 16)).toNat]
  else if 126 < cI c then [92, 120, UInt8.ofNat (bt digs (cI c / 16)).toNat, UInt8.ofNat (bt digs (cI c % 16)).toNat]
  else [c]
def quote (t : By) : By := 34 :: (t.flatMap qB ++ [34])
theorem qB_len (c : UInt8) : (qB c).length ≤ 4 := by
  unfold qB
  repeat' split
  all_goals simp
theorem fq_len (t : By) : (t.flatMap qB).length ≤ 4 * t.length := by
  induction t with
  | nil => simp
  | cons c t ih => have := qB_len c; simp only [List.flatMap_cons, List.length_append, List.length_cons]; omega
theorem quote_len (t : By) : (quote t).length ≤ 4 * t.length + 2 := by
  have := fq_len t
  simp only [quote, List.length_cons, List.length_append, List.length_nil]; omega
/-- one byte, by the program -/
def qP (c : Int) : List Int :=
  if c = 34 then [92, 34] else if c = 92 then [92, 92] else if c = 10 then [92, 110]
  else if c < 32 then [92, 120, bt digs (c / 16), bt digs (Go.bits .and .u8 c 15)]
  else if c > 126 then [92, 120, bt digs (c / 16), bt digs (Go.bits .and .u8 c 15)]
  else [c]
def qR (c : Int) : List Int :=
  if c = 34 then [92, 34] else if c = 92 then [92, 92] else if c = 10 then [92, 110]
  else if c < 32 then [92, 120, bt digs (c / 16), bt digs (c % 16)]
  else if 126 < c then [92, 120, bt digs (c / 16), bt digs (c % 16)]
  else [c]
theorem qP_nat : ∀ c : Fin 256, qP (c.val : Int) = qR (c.val : Int) ∧ 0 ≤ (Go.bits .and .u8 (c.val : Int) 15) ∧ (Go.bits .and .u8 (c.val : Int) 15) < 16 := by decide +kernel
theorem qP_is (c : UInt8) : qP (cI c) = qR (cI c) ∧ 0 ≤ (Go.bits .and .u8 (cI c) 15) ∧ (Go.bits .and .u8 (cI c) 15) < 16 := qP_nat ⟨c.toNat, c.toNat_lt⟩
theorem bt_map (s : ByteArray) (i : Int) : cI (UInt8.ofNat (bt s i).toNat) = bt s i := cI_ofNat _ (bt_range s i).1 (bt_range s i).2
theorem qR_is (c : UInt8) : qR (cI c) = (qB c).map cI := by
  unfold qR qB
  simp only [c34, c92, c10]
  by_cases e1 : c = 34
  · rw [if_pos e1, if_pos e1]; rfl
  rw [if_neg e1, if_neg e1]
  by_cases e2 : c = 92
  · rw [if_pos e2, if_pos e2]; rfl
  rw [if_neg e2, if_neg e2]
  by_cases e3 : c = 10
  · rw [if_pos e3, if_pos e3]; rfl
  rw [if_neg e3, if_neg e3]
  by_cases e4 : cI c < 32
  · rw [if_pos e4, if_pos e4]
    simp only [List.map_cons, List.map_nil, bt_map]; rfl
  rw [if_neg e4, if_neg e4]
  by_cases e5 : 126 < cI c
  · rw [if_pos e5, if_pos e5]
    simp only [List.map_cons, List.map_nil, bt_map]; rfl
  rw [if_neg e5, if_neg e5]; rfl
theorem quoteR_ev (x : ByteArray) (hx : x.size ≤ 10000000000) : ∀ (n : Nat) (acc : By) (i : Int), n = (x.size - i).toNat → 0 ≤ i → i ≤ x.size → (acc.length : Int) ≤ 1 + 4 * i →
    Ev (fun k => kilnref11_Quote.l0 k x (acc.map cI) i) (mk (acc ++ (((bs x).drop i.toNat).flatMap qB ++ [34]))) := by
  intro n
  induction n with
  | zero =>
    intro acc i hn h0 h1 hlen
    rw [drop_end x i (by omega)]
    refine Ev.step (f := fun _ => some (mk (acc ++ [34]))) (fun k => ?_) (Ev.now _)
    conv => lhs; unfold kilnref11_Quote.l0
    rw [if_pos (by rw [List.length_map]; omega), if_neg (by omega), ← str_map]
    rw [List.map_append]; rfl
  | succ n ih =>
    intro acc i hn h0 h1 hlen
    have hlt : i < (x.size : Int) := by omega
    obtain ⟨c, hd, hb⟩ := drop_at x i h0 hlt
    have hq := qB_len c
    have := ih (acc ++ qB c) (i + 1) (by omega) (by omega) (by omega) (by rw [List.length_append]; omega)
    rw [hd, List.flatMap_cons, show acc ++ ((qB c ++ List.flatMap qB ((bs x).drop (i + 1).toNat)) ++ [34]) = (acc ++ qB c) ++ (List.flatMap qB ((bs x).drop (i + 1).toNat) ++ [34]) by simp only [List.append_assoc]]
    refine Ev.step (f := fun k => kilnref11_Quote.l0 k x ((acc ++ qB c).map cI) (i + 1)) (fun k => ?_) this
    rw [List.map_append, ← qR_is]
    conv => lhs; unfold kilnref11_Quote.l0
    rw [if_pos (by rw [List.length_map]; omega), if_pos hlt, if_pos h0, hb, IntWalk.wrap64_in _ (by omega)]
    unfold qR
    repeat' split
    all_goals rfl
theorem QuoteR_ev (x : ByteArray) (hx : x.size ≤ 10000000000) : Ev (fun k => kilnref11_Quote.f k x) (mk (quote (bs x))) :=
  quoteR_ev x hx x.size [34] 0 (by simp) (Int.le_refl _) (by omega) (by simp)
theorem quote_ev (x : ByteArray) (hx : x.size ≤ 30000000000000) : ∀ (n : Nat) (acc : By) (i : Int), n = (x.size - i).toNat → 0 ≤ i → i ≤ x.size → (acc.length : Int) ≤ 1 + 4 * i →
    Ev (fun k => token_Quote.l0 k x (acc.map cI) x.size i) (mk (acc ++ (((bs x).drop i.toNat).flatMap qB ++ [34]))) := by
  intro n
  induction n with
  | zero =>
    intro acc i hn h0 h1 hlen
    rw [drop_end x i (by omega)]
    refine Ev.step (f := fun _ => some (mk (acc ++ [34]))) (fun k => ?_) (Ev.now _)
    conv => lhs; unfold token_Quote.l0
    rw [if_neg (by omega), if_pos (by rw [List.length_map]; omega), ← str_map]
    rw [List.map_append]; rfl
  | succ n ih =>
    intro acc i hn h0 h1 hlen
    have hlt : i < (x.size : Int) := by omega
    obtain ⟨c, hd, hb⟩ := drop_at x i h0 hlt
    have hq := qB_len c
    have := ih (acc ++ qB c) (i + 1) (by omega) (by omega) (by omega) (by rw [List.length_append]; omega)
    rw [hd, List.flatMap_cons, show acc ++ ((qB c ++ List.flatMap qB ((bs x).drop (i + 1).toNat)) ++ [34]) = (acc ++ qB c) ++ (List.flatMap qB ((bs x).drop (i + 1).toNat) ++ [34]) by simp only [List.append_assoc]]
    have hr : ∀ k, token_Quote.l0 (k + 1) x (acc.map cI) x.size i = token_Quote.j1 k x (acc.map cI) (cI c) x.size i (c == 34 || c == 92) := by
      intro k
      conv => lhs; unfold token_Quote.l0
      rw [if_pos hlt, if_pos h0, if_pos hlt, hb, b92]
      simp only [c34]
      by_cases e1 : c = 34
      · rw [if_pos e1, e1]; rfl
      · rw [if_neg e1, show (c == 34) = false by simpa using e1, Bool.false_or]
    refine Ev.step (f := fun k => token_Quote.j1 k x (acc.map cI) (cI c) x.size i (c == 34 || c == 92)) hr ?_
    refine Ev.step (f := fun k => token_Quote.l0 k x ((acc ++ qB c).map cI) x.size (i + 1)) (fun k => ?_) this
    obtain ⟨h3, h4, h5⟩ := qP_is c
    have hcd := cI_bd c
    rw [List.map_append, ← qR_is, ← h3]
    conv => lhs; unfold token_Quote.j1
    have hl : (acc.map cI).length ≤ 120000000000001 := by rw [List.length_map]; omega
    simp only [Option.bind_some, List.length_cons, List.length_nil, IntWalk.wrap64_in (i + 1) (by omega)]
    simp only [if_pos (show 0 ≤ cI c / 16 by omega), if_pos (show cI c / 16 < 16 by omega), if_pos h4, if_pos h5, if_pos (show (acc.map cI).length + (0 + 1 + 1) < 140737488355328 by omega), if_pos (show (acc.map cI).length + (0 + 1 + 1 + 1 + 1) < 140737488355328 by omega), if_pos (show (acc.map cI).length < 140737488355328 by omega)]
    unfold qP
    simp only [c34, c92, c10]
    by_cases e1 : c = 34
    · subst e1; rfl
    by_cases e2 : c = 92
    · subst e2; rfl
    rw [if_neg (by simp [e1, e2]), if_neg e1, if_neg e2]
    by_cases e3 : c = 10
    · rw [if_pos e3, if_pos e3]
    rw [if_neg e3, if_neg e3]
    by_cases e4 : cI c < 32
    · rw [if_pos e4, if_pos e4]; rfl
    rw [if_neg e4, if_neg e4]
    by_cases e5 : cI c > 126
    · rw [if_pos e5, if_pos e5]; rfl
    rw [if_neg e5, if_neg e5]
theorem Quote_ev (x : ByteArray) (hx : x.size ≤ 30000000000000) : Ev (fun k => token_Quote.f k x) (mk (quote (bs x))) :=
  quote_ev x hx x.size [34] 0 (by simp) (Int.le_refl _) (by omega) (by simp)
/-! words -/
def wordB (t : By) : Bool := decide (1 ≤ t.length) && decide (t.length ≤ 255) && t.all letB
theorem wordyl_ev (x : ByteArray) (hx : x.size ≤ 255) : ∀ (n : Nat) (i : Int), n = (x.size - i).toNat → 0 ≤ i → i ≤ x.size → Ev (fun k => token_wordy.l0 k x x.size i) (((bs x).drop i.toNat).all letB) := by
  intro n
  induction n with
  | zero =>
    intro i hn h0 h1
    rw [drop_end x i (by omega)]
    refine Ev.step (f := fun _ => some true) (fun k => ?_) (Ev.now _)
    conv => lhs; unfold token_wordy.l0
    rw [if_neg (by omega)]
  | succ n ih =>
    intro i hn h0 h1
    have hlt : i < (x.size : Int) := by omega
    obtain ⟨c, hd, hb⟩ := drop_at x i h0 hlt
    rw [hd, List.all_cons]
    have hr : ∀ k, token_wordy.l0 (k + 1) x x.size i = (if letB c = true then (token_wordy.l0 k x x.size (i + 1)) else some false) := by
      intro k
      conv => lhs; unfold token_wordy.l0
      rw [if_pos hlt, if_pos h0, if_pos hlt, hb, letB_is, IntWalk.wrap64_in _ (by omega)]; rfl
    cases hc : letB c with
    | true => exact Ev.step (f := fun k => token_wordy.l0 k x x.size (i + 1)) (fun k => by rw [hr, hc, if_pos rfl]) (ih (i + 1) (by omega) (by omega) (by omega))
    | false => exact Ev.step (f := fun k => some false) (fun k => by rw [hr, hc]; rfl) (Ev.now _)
theorem Wordy_ev (x : ByteArray) : Ev (fun k => token_wordy.f k x) (wordB (bs x)) := by
  unfold token_wordy.f wordB
  rw [bs_length]
  have hj : ∀ k b, token_wordy.j0 (k + 1) x b = if b = true then (some false) else (token_wordy.l0 k x (x.size : Int) 0) := by
    intro k b
    conv => lhs; unfold token_wordy.j0
  have hfalse : Ev (fun k => token_wordy.j0 k x true) false := Ev.step (f := fun _ => some false) (fun k => by rw [hj]; rfl) (Ev.now _)
  by_cases h1 : (x.size : Int) < 1
  · rw [show decide (1 ≤ x.size) = false from decide_eq_false (by omega)]
    exact Ev.congr (f := fun k => token_wordy.j0 k x true) (fun k => by rw [if_pos h1]) hfalse
  · rw [show decide (1 ≤ x.size) = true from decide_eq_true (by omega), Bool.true_and]
    by_cases h2 : (x.size : Int) > 255
    · rw [show decide (x.size ≤ 255) = false from decide_eq_false (by omega), Bool.false_and]
      exact Ev.congr (f := fun k => token_wordy.j0 k x true) (fun k => by rw [if_neg h1, show decide ((x.size : Int) > 255) = true from decide_eq_true (by omega)]) hfalse
    · rw [show decide (x.size ≤ 255) = true from decide_eq_true (by omega), Bool.true_and]
      refine Ev.congr (f := fun k => token_wordy.j0 k x false) (fun k => by rw [if_neg h1, show decide ((x.size : Int) > 255) = false from decide_eq_false (by omega)]) ?_
      refine Ev.step (f := fun k => token_wordy.l0 k x x.size 0) (fun k => by rw [hj]; rfl) ?_
      exact wordyl_ev x (by omega) x.size 0 (by simp) (Int.le_refl _) (by omega)
theorem wordl_ev (x : ByteArray) (hx : x.size ≤ 10000000000000) : ∀ (n : Nat) (i : Int), n = (x.size - i).toNat → 0 ≤ i → i ≤ x.size → Ev (fun k => kilnref11_Word.l0 k x i) (((bs x).drop i.toNat).all letB && (decide (1 ≤ x.size) && decide (x.size ≤ 255))) := by
  intro n
  induction n with
  | zero =>
    intro i hn h0 h1
    rw [drop_end x i (by omega)]
    have hr : ∀ k, kilnref11_Word.l0 (k + 1) x i = (if (x.size : Int) ≥ 1 then (some (decide ((x.size : Int) ≤ 255))) else (some false)) := by
      intro k
      conv => lhs; unfold kilnref11_Word.l0
      rw [if_neg (by omega)]
    by_cases h : (x.size : Int) ≥ 1
    · refine Ev.step (f := fun _ => some (decide ((x.size : Int) ≤ 255))) (fun k => by rw [hr, if_pos h]) ?_
      rw [show decide (1 ≤ x.size) = true from decide_eq_true (by omega), Bool.true_and, List.all_nil, Bool.true_and]
      rw [show decide (x.size ≤ 255) = decide ((x.size : Int) ≤ 255) by rw [decide_eq_decide]; omega]
      exact Ev.now _
    · refine Ev.step (f := fun _ => some false) (fun k => by rw [hr, if_neg h]) ?_
      rw [show decide (1 ≤ x.size) = false from decide_eq_false (by omega), Bool.false_and, Bool.and_false]
      exact Ev.now _
  | succ n ih =>
    intro i hn h0 h1
    have hlt : i < (x.size : Int) := by omega
    obtain ⟨c, hd, hb⟩ := drop_at x i h0 hlt
    rw [hd, List.all_cons]
    have hr : ∀ k, kilnref11_Word.l0 (k + 1) x i = (if letB c = true then (kilnref11_Word.l0 k x (i + 1)) else some false) := by
      intro k
      conv => lhs; unfold kilnref11_Word.l0
      rw [if_pos hlt, if_pos h0, hb, inword_is, IntWalk.wrap64_in _ (by omega)]; rfl
    cases hc : letB c with
    | true => exact Ev.step (f := fun k => kilnref11_Word.l0 k x (i + 1)) (fun k => by rw [hr, hc, if_pos rfl]) (ih (i + 1) (by omega) (by omega) (by omega))
    | false => exact Ev.step (f := fun k => some false) (fun k => by rw [hr, hc]; rfl) (Ev.now _)
theorem Word_ev (x : ByteArray) (hx : x.size ≤ 10000000000000) : Ev (fun k => kilnref11_Word.f k x) (wordB (bs x)) := by
  have := wordl_ev x hx x.size 0 (by simp) (Int.le_refl _) (by omega)
  rw [show wordB (bs x) = ((((bs x).drop (0 : Int).toNat).all letB) && (decide (1 ≤ x.size) && decide (x.size ≤ 255))) by unfold wordB; rw [bs_length, Bool.and_comm]; rfl]
  exact this
end Go.Proofs.Ytnmmapjcphefpaa.G

-- Token, the plain law, part 8: Print, by the program and by the document; so 'prints' holds.
namespace Go.Proofs.Ytnmmapjcphefpaa.G
open Go.RowKit Go.Proofs.YtnmmapjcphefpaaW.PrintWords Go.Proofs.YtnmmapjcphefpaaW.PrintLast Go.Proofs.YtnmmapjcphefpaaW.PrintMore
set_option linter.unusedVariables false
set_option linter.unusedSimpArgs false
set_option linter.unusedSectionVars false

def tightB (k : Int) : Bool := k == 4 || k == 5 || k == 6 || k == 7
def shownB (t : S27) : By :=
  if t.f0 = 1 then bs t.f1 else if t.f0 = 2 then quote (bs t.f1) else if t.f0 = 3 then [61] else if t.f0 = 4 then [40] else if t.f0 = 5 then [41] else if t.f0 = 6 then [44] else [10]
def okT (t : S27) : Bool := decide (1 ≤ t.f0) && decide (t.f0 ≤ 7) && (t.f0 != 1 || wordB (bs t.f1))
def sep (p : Option Int) (k : Int) : By := match p with
  | none => []
  | some p => if tightB p = true then [] else if tightB k = true then [] else [32]
def body : Option Int → List S27 → By
  | _, [] => []
  | p, t :: l => sep p t.f0 ++ shownB t ++ body (some t.f0) l
def lastB : List S27 → Bool
  | [] => true
  | [t] => t.f0 == 7
  | _ :: l => lastB l
def outL (b : By) : ByteArray × Int := if 65536 < b.length then (⟨#[]⟩, 2) else (mk b, 0)
/-- Print of any list -/
def printT (l : List S27) : ByteArray × Int := if l.all okT = true then (if lastB l = true then outL (body none l) else (⟨#[]⟩, 1)) else (⟨#[]⟩, 1)
theorem shownB_len (t : S27) : (shownB t).length ≤ 4 * t.f1.size + 2 := by
  unfold shownB
  have h := quote_len (bs t.f1)
  rw [bs_length] at h
  repeat' split
  all_goals first | (rw [bs_length]; omega) | exact h | (simp only [List.length_singleton]; omega)
theorem sep_len (p : Option Int) (k : Int) : (sep p k).length ≤ 1 := by
  unfold sep
  repeat' split
  all_goals simp
theorem lastB_get : ∀ (l : List S27), l ≠ [] → lastB l = ((rd_T27 l ((l.length : Int) - 1)).f0 == 7) := by
  intro l
  induction l with
  | nil => intro h; exact absurd rfl h
  | cons t l ih =>
    intro _
    cases l with
    | nil => rfl
    | cons u l =>
      rw [show lastB (t :: u :: l) = lastB (u :: l) from rfl, ih (by simp)]
      unfold rd_T27
      rw [List.getD_eq_getElem?_getD, List.getD_eq_getElem?_getD]
      rw [show (((t :: u :: l).length : Int) - 1).toNat = (((u :: l).length : Int) - 1).toNat + 1 by simp only [List.length_cons]; omega]
      rw [List.getElem?_cons_succ]
theorem rd_drop (l : List S27) (i : Int) (h0 : 0 ≤ i) (h : i < l.length) : l.drop i.toNat = rd_T27 l i :: l.drop (i + 1).toNat ∧ rd_T27 l i ∈ l := by
  have hi : i.toNat < l.length := by omega
  have e : rd_T27 l i = l[i.toNat] := by
    unfold rd_T27
    rw [List.getD_eq_getElem?_getD, List.getElem?_eq_getElem hi]; rfl
  rw [e, show (i + 1).toNat = i.toNat + 1 by omega]
  exact ⟨List.drop_eq_getElem_cons hi, List.getElem_mem hi⟩
theorem tight_is (k : Int) : token_tight.f k = some (tightB k) := by
  unfold token_tight.f tightB
  by_cases e4 : k = 4
  · subst e4; rfl
  by_cases e5 : k = 5
  · subst e5; rfl
  by_cases e6 : k = 6
  · subst e6; rfl
  rw [if_neg e4, if_neg e5, if_neg e6]
  simp [e4, e5, e6]
def prv (l : List S27) (i : Int) : Option Int := if 0 < i then some (rd_T27 l (i - 1)).f0 else none
theorem prv_next (l : List S27) (i : Int) (h0 : 0 ≤ i) : prv l (i + 1) = some (rd_T27 l i).f0 := by
  unfold prv
  rw [if_pos (by omega), show i + 1 - 1 = i by omega]
theorem bl_is (l : List S27) (i : Int) : token_Print.bl l i = some (decide (sep (prv l i) (rd_T27 l i).f0 = [32])) := by
  unfold token_Print.bl prv
  by_cases h : 0 < i
  · rw [if_pos h, if_pos h, tight_is, tight_is]
    simp only [Option.bind_some, sep]
    by_cases t1 : tightB (rd_T27 l (i - 1)).f0 = true
    · simp [t1]
    · by_cases t2 : tightB (rd_T27 l i).f0 = true <;> simp [t1, t2]
  · rw [if_neg h, if_neg h]; simp [sep]
theorem sep_ite (p : Option Int) (k : Int) : (if decide (sep p k = [32]) = true then ([32] : By) else []) = sep p k := by
  unfold sep
  repeat' split
  all_goals simp_all
/-- what is written, as both write it -/
theorem shown_ev (t : S27) (ht : t.f1.size ≤ 10000000000) : Ev (fun k => token_shown.f k t.f0 t.f1 t.f2 t.f3) (mk (shownB t)) := by
  unfold token_shown.f shownB
  by_cases e1 : t.f0 = 1
  · simp only [if_pos e1]; exact Ev.now _
  by_cases e2 : t.f0 = 2
  · simp only [if_neg e1, if_pos e2]
    exact Ev.bind (f := fun _ t => some t) (Quote_ev t.f1 (by omega)) (Ev.now _)
  simp only [if_neg e1, if_neg e2]
  repeat' split
  all_goals exact Ev.now _
theorem written_ev (t : S27) (ht : t.f1.size ≤ 10000000000) : Ev (fun k => kilnref11_written.f k t.f0 t.f1 t.f2 t.f3) (mk (shownB t)) := by
  unfold kilnref11_written.f shownB
  by_cases e1 : t.f0 = 1
  · simp only [if_pos e1]; exact Ev.now _
  by_cases e2 : t.f0 = 2
  · simp only [if_neg e1, if_pos e2]
    exact Ev.bind (f := fun _ t => some t) (QuoteR_ev t.f1 ht) (Ev.now _)
  simp only [if_neg e1, if_neg e2]
  repeat' split
  all_goals exact Ev.now _
theorem all_rounds (l : List S27) (hl : ∀ t ∈ l, t.f1.size ≤ 10000000000) : ∃ K, ∀ kk, K ≤ kk → ∀ t ∈ l, token_wordy.f kk t.f1 = some (wordB (bs t.f1)) ∧ token_shown.f kk t.f0 t.f1 t.f2 t.f3 = some (mk (shownB t)) := by
  induction l with
  | nil => exact ⟨0, fun _ _ t ht => by cases ht⟩
  | cons t l ih =>
    obtain ⟨K, hK⟩ := ih (fun u hu => hl u (List.mem_cons_of_mem _ hu))
    obtain ⟨K1, h1⟩ := Wordy_ev t.f1
    obtain ⟨K2, h2⟩ := shown_ev t (hl t List.mem_cons_self)
    refine ⟨max K (max K1 K2), fun kk hk u hu => ?_⟩
    rcases List.mem_cons.1 hu with rfl | hu
    · exact ⟨h1 kk (by omega), h2 kk (by omega)⟩
    · exact hK kk (by omega) u hu
theorem mk_size (l : By) : (mk l).size = l.length := by rw [← bs_length, bs_mk]
section
variable (l : List S27) (hl : l.length ≤ 100000000000) (hs : ∀ t ∈ l, t.f1.size ≤ 10000000000) (kk : Nat)
  (hk : ∀ t ∈ l, token_wordy.f kk t.f1 = some (wordB (bs t.f1)) ∧ token_shown.f kk t.f0 t.f1 t.f2 t.f3 = some (mk (shownB t)))
include hl hs hk
theorem print0 : ∀ (n : Nat) (i : Int) (k : Nat), n = (l.length - i).toNat → 0 ≤ i → i ≤ l.length → n < k → token_Print.l0 kk l k i = some ((l.drop i.toNat).all okT) := by
  intro n
  induction n with
  | zero =>
    intro i k hn h0 h1 hk2
    obtain ⟨k, rfl⟩ : ∃ m, k = m + 1 := ⟨k - 1, by omega⟩
    conv => lhs; unfold token_Print.l0
    rw [if_neg (by omega), List.drop_eq_nil_of_le (by omega)]; rfl
  | succ n ih =>
    intro i k hn h0 h1 hk2
    obtain ⟨k, rfl⟩ : ∃ m, k = m + 1 := ⟨k - 1, by omega⟩
    obtain ⟨hd, hm⟩ := rd_drop l i h0 (by omega)
    have hi := ih (i + 1) k (by omega) (by omega) (by omega) (by omega)
    rw [hd, List.all_cons]
    conv => lhs; unfold token_Print.l0
    rw [if_pos (by omega), if_pos h0, IntWalk.wrap64_in _ (by omega), hi, (hk _ hm).1]
    unfold okT
    generalize rd_T27 l i = t
    by_cases a1 : t.f0 < 1
    · rw [if_pos a1, show decide (1 ≤ t.f0) = false from decide_eq_false (by omega)]; rfl
    rw [if_neg a1, show decide (1 ≤ t.f0) = true from decide_eq_true (by omega)]
    by_cases a2 : 7 < t.f0
    · rw [if_pos a2, show decide (t.f0 ≤ 7) = false from decide_eq_false (by omega)]; rfl
    rw [if_neg a2, show decide (t.f0 ≤ 7) = true from decide_eq_true (by omega)]
    by_cases a3 : t.f0 = 1
    · rw [if_pos a3, show (t.f0 != 1) = false by simp [a3]]
      simp only [Option.bind_some]
      cases wordB (bs t.f1) <;> rfl
    · rw [if_neg a3, show (t.f0 != 1) = true by simp [a3]]; rfl
theorem print1 : ∀ (n : Nat) (i : Int) (acc : By) (k : Nat), n = (l.length - i).toNat → 0 ≤ i → i ≤ l.length → n < k → acc.length ≤ 65536 → token_Print.l1 kk l k i acc = some (outL (acc ++ body (prv l i) (l.drop i.toNat))) := by
  intro n
  induction n with
  | zero =>
    intro i acc k hn h0 h1 hk2 hacc
    obtain ⟨k, rfl⟩ : ∃ m, k = m + 1 := ⟨k - 1, by omega⟩
    conv => lhs; unfold token_Print.l1
    rw [if_neg (by omega), List.drop_eq_nil_of_le (by omega)]
    unfold body outL
    rw [List.append_nil, if_neg (by omega)]; rfl
  | succ n ih =>
    intro i acc k hn h0 h1 hk2 hacc
    obtain ⟨k, rfl⟩ : ∃ m, k = m + 1 := ⟨k - 1, by omega⟩
    obtain ⟨hd, hm⟩ := rd_drop l i h0 (by omega)
    have hsz := shownB_len (rd_T27 l i)
    have hts := hs _ hm
    rw [hd]
    conv => lhs; unfold token_Print.l1
    rw [if_pos (by omega), if_pos h0, bl_is, (hk _ hm).2]
    simp only [Option.bind_some, sep_ite]
    rw [if_pos (by rw [mk_size]; omega), IntWalk.wrap64_in _ (by omega)]
    rw [show (mk (shownB (rd_T27 l i))).data.toList = shownB (rd_T27 l i) from rfl]
    have hb : acc ++ body (prv l i) (rd_T27 l i :: l.drop (i + 1).toNat) = (acc ++ sep (prv l i) (rd_T27 l i).f0 ++ shownB (rd_T27 l i)) ++ body (prv l (i + 1)) (l.drop (i + 1).toNat) := by
      rw [prv_next l i h0]
      simp only [body, List.append_assoc]
    rw [hb]
    by_cases hlong : 65536 < ((acc ++ sep (prv l i) (rd_T27 l i).f0 ++ shownB (rd_T27 l i)).length : Int)
    · rw [if_pos hlong]
      unfold outL
      rw [if_pos (by rw [List.length_append]; omega)]
    · rw [if_neg hlong]
      exact ih (i + 1) _ k (by omega) (by omega) (by omega) (by omega) (by omega)
end
theorem Print_ev (l : List S27) (hl : l.length ≤ 100000000000) (hs : ∀ t ∈ l, t.f1.size ≤ 10000000000) : Ev (fun k => token_Print.f k l) (printT l) := by
  obtain ⟨K, hK⟩ := all_rounds l hs
  refine ⟨max K (l.length + 1), fun k hk => ?_⟩
  have h0 := print0 l hl hs k (hK k (by omega)) l.length 0 k (by simp) (Int.le_refl _) (by omega) (by omega)
  have h1 := print1 l hl hs k (hK k (by omega)) l.length 0 [] k (by simp) (Int.le_refl _) (by omega) (by omega) (by simp)
  replace h0 : token_Print.l0 k l k 0 = some (l.all okT) := h0
  replace h1 : token_Print.l1 k l k 0 [] = some (outL (body none l)) := h1
  unfold token_Print.f printT
  simp only [h0, h1, Option.bind_some]
  cases l.all okT with
  | false => rfl
  | true =>
    simp only [if_true]
    by_cases he : l = []
    · subst he; rfl
    · have hlen : 0 < l.length := List.length_pos_iff.2 he
      rw [if_pos (by omega), lastB_get l he]
      by_cases h7 : (rd_T27 l ((l.length : Int) - 1)).f0 = 7
      · rw [if_pos h7, if_pos (by simp [h7])]
      · rw [if_neg h7, if_neg (by simp [h7])]
/-! the document's Print -/
theorem close_is (k : Int) : kilnref11_close.f k = some (k == 4 || k == 5 || k == 6) := by
  unfold kilnref11_close.f
  by_cases e4 : k = 4
  · subst e4; rfl
  by_cases e5 : k = 5
  · subst e5; rfl
  rw [if_neg e4, if_neg e5]
  simp [e4, e5]
theorem tight_split (k : Int) : tightB k = ((k == 4 || k == 5 || k == 6) || k == 7) := rfl
theorem bytesOf_mk (s : By) : bytesOf (mk s) = s.map cI := rfl
theorem printR_j2 (l : List S27) (hl : l.length ≤ 2000000) (k : Nat) (i : Int) (acc : By) (h0 : 0 ≤ i) (h1 : i < l.length) (hacc : acc.length ≤ 100000000000000) (t : By) (hw : kilnref11_written.f k (rd_T27 l i).f0 (rd_T27 l i).f1 (rd_T27 l i).f2 (rd_T27 l i).f3 = some (mk t)) (ht : t.length ≤ 10000000) :
    kilnref11_Print.j2 (k + 1) l (acc.map cI) i (rd_T27 l i).f0 false = kilnref11_Print.l0 k l ((acc ++ sep (prv l i) (rd_T27 l i).f0 ++ t).map cI) (i + 1) := by
  conv => lhs; unfold kilnref11_Print.j2
  rw [if_neg (by decide)]
  have hn : (acc.map cI).length = acc.length := List.length_map _
  have hpush : ∀ (xs : By), xs.length ≤ 100000000000001 → (if (xs.map cI).length + (mk t).size < 140737488355328 then (kilnref11_Print.l0 k l (xs.map cI ++ bytesOf (mk t)) (wrap64 (i + 1))) else (none)) = kilnref11_Print.l0 k l ((xs ++ t).map cI) (i + 1) := by
    intro xs hx
    rw [if_pos (by rw [mk_size, List.length_map]; omega), bytesOf_mk, IntWalk.wrap64_in _ (by omega), List.map_append]
  have hA := hpush acc (by omega)
  have hB := hpush (acc ++ [32]) (by rw [List.length_append, List.length_singleton]; omega)
  rw [List.map_append, List.map_cons, List.map_nil] at hB
  by_cases hi : i > 0
  · rw [if_pos hi]
    have hp : prv l i = some (rd_T27 l (i - 1)).f0 := by unfold prv; rw [if_pos hi]
    rw [hp]
    simp only [IntWalk.wrap64_in (i - 1) (by omega), if_pos h0, if_pos h1, if_pos (show 0 ≤ i - 1 by omega), if_pos (show i - 1 < (l.length : Int) by omega), hw, Option.bind_some, hA, close_is, if_pos (show (acc.map cI).length < 140737488355328 by omega)]
    simp only [sep, tight_split]
    by_cases a1 : (rd_T27 l i).f0 = 7
    · rw [if_pos a1]
      simp [a1]
    rw [if_neg a1]
    by_cases a2 : (rd_T27 l (i - 1)).f0 = 7
    · rw [if_pos a2]
      simp [a2]
    rw [if_neg a2]
    have b1 : ((rd_T27 l i).f0 == 7) = false := by simpa using a1
    have b2 : ((rd_T27 l (i - 1)).f0 == 7) = false := by simpa using a2
    simp only [b1, b2, Bool.or_false]
    by_cases t2 : ((rd_T27 l i).f0 == 4 || (rd_T27 l i).f0 == 5 || (rd_T27 l i).f0 == 6) = true
    · simp only [t2, if_true, reduceIte, ite_self, List.append_nil]
    · by_cases t1 : ((rd_T27 l (i - 1)).f0 == 4 || (rd_T27 l (i - 1)).f0 == 5 || (rd_T27 l (i - 1)).f0 == 6) = true
      · simp only [t2, t1, if_true, if_false, reduceIte, List.append_nil, Bool.false_eq_true]
      · simp only [t2, t1, if_true, if_false, reduceIte, Bool.false_eq_true]
        exact hB
  · rw [if_neg hi]
    have hp : prv l i = none := by unfold prv; rw [if_neg hi]
    rw [hp]
    simp only [if_pos h0, if_pos h1, hw, Option.bind_some, hA, sep, List.append_nil]
theorem printR_ev (l : List S27) (hl : l.length ≤ 2000000) (hs : ∀ t ∈ l, t.f1.size ≤ 2000000) : ∀ (n : Nat) (i : Int) (acc : By), n = (l.length - i).toNat → 0 ≤ i → i ≤ l.length → (acc.length : Int) ≤ 8000003 * i →
    Ev (fun k => kilnref11_Print.l0 k l (acc.map cI) i) (if (l.drop i.toNat).all okT = true then outL (acc ++ body (prv l i) (l.drop i.toNat)) else (⟨#[]⟩, 1)) := by
  intro n
  induction n with
  | zero =>
    intro i acc hn h0 h1 hacc
    rw [List.drop_eq_nil_of_le (by omega), List.all_nil, if_pos rfl]
    unfold body outL
    rw [List.append_nil]
    have hr : ∀ k, kilnref11_Print.l0 (k + 1) l (acc.map cI) i = (if ((acc.map cI).length : Int) > 65536 then (some ((⟨#[]⟩ : ByteArray), 2)) else (some (strOfNums (acc.map cI), 0))) := by
      intro k
      conv => lhs; unfold kilnref11_Print.l0
      rw [if_neg (by omega)]
    rw [List.length_map, str_map] at hr
    by_cases h : 65536 < acc.length
    · rw [if_pos h]
      exact Ev.step (f := fun _ => some (⟨#[]⟩, 2)) (fun k => by rw [hr, if_pos (by omega)]) (Ev.now _)
    · rw [if_neg h]
      exact Ev.step (f := fun _ => some (mk acc, 0)) (fun k => by rw [hr, if_neg (by omega)]) (Ev.now _)
  | succ n ih =>
    intro i acc hn h0 h1 hacc
    obtain ⟨hd, hm⟩ := rd_drop l i h0 (by omega)
    have hsz := shownB_len (rd_T27 l i)
    have hts := hs _ hm
    have hsep := sep_len (prv l i) (rd_T27 l i).f0
    rw [hd, List.all_cons]
    have hr : ∀ k, kilnref11_Print.l0 (k + 1) l (acc.map cI) i = (if ((rd_T27 l i).f0) < 1 then (kilnref11_Print.j2 k l (acc.map cI) i ((rd_T27 l i).f0) true) else (if ((rd_T27 l i).f0) > 7 then (kilnref11_Print.j2 k l (acc.map cI) i ((rd_T27 l i).f0) true) else (if ((rd_T27 l i).f0) = 1 then ((kilnref11_Word.f k ((rd_T27 l i).f1)).bind fun t207 => (kilnref11_Print.j2 k l (acc.map cI) i ((rd_T27 l i).f0) (!t207))) else (kilnref11_Print.j2 k l (acc.map cI) i ((rd_T27 l i).f0) false)))) := by
      intro k
      conv => lhs; unfold kilnref11_Print.l0
      rw [if_pos (by omega), if_pos h0]
    have hbad : Ev (fun k => kilnref11_Print.j2 k l (acc.map cI) i ((rd_T27 l i).f0) true) (⟨#[]⟩, 1) := by
      refine Ev.step (f := fun _ => some (⟨#[]⟩, 1)) (fun k => ?_) (Ev.now _)
      conv => lhs; unfold kilnref11_Print.j2
      rw [if_pos rfl]
    have hgood : Ev (fun k => kilnref11_Print.j2 k l (acc.map cI) i ((rd_T27 l i).f0) false) (if (l.drop (i + 1).toNat).all okT = true then outL (acc ++ body (prv l i) (rd_T27 l i :: l.drop (i + 1).toNat)) else (⟨#[]⟩, 1)) := by
      have hb : acc ++ body (prv l i) (rd_T27 l i :: l.drop (i + 1).toNat) = (acc ++ sep (prv l i) (rd_T27 l i).f0 ++ shownB (rd_T27 l i)) ++ body (prv l (i + 1)) (l.drop (i + 1).toNat) := by
        rw [prv_next l i h0]
        simp only [body, List.append_assoc]
      rw [hb]
      obtain ⟨K1, g1⟩ := ih (i + 1) (acc ++ sep (prv l i) (rd_T27 l i).f0 ++ shownB (rd_T27 l i)) (by omega) (by omega) (by omega) (by rw [List.length_append, List.length_append]; omega)
      obtain ⟨K2, g2⟩ := written_ev (rd_T27 l i) (by omega)
      refine ⟨max K1 K2 + 1, fun k hk => ?_⟩
      obtain ⟨k, rfl⟩ : ∃ m, k = m + 1 := ⟨k - 1, by omega⟩
      exact (printR_j2 l hl k i acc h0 (by omega) (by omega) _ (g2 k (by omega)) (by omega)).trans (g1 k (by omega))
    generalize hR : (if (l.drop (i + 1).toNat).all okT = true then outL (acc ++ body (prv l i) (rd_T27 l i :: l.drop (i + 1).toNat)) else (⟨#[]⟩, 1)) = R at hgood
    have hRR : ∀ b : Bool, (if (b && (l.drop (i + 1).toNat).all okT) = true then outL (acc ++ body (prv l i) (rd_T27 l i :: l.drop (i + 1).toNat)) else (⟨#[]⟩, 1)) = if b = true then R else (⟨#[]⟩, 1) := by
      intro b
      cases b with
      | true => rw [Bool.true_and, if_pos rfl]; exact hR
      | false => rfl
    rw [hRR]
    unfold okT
    by_cases a1 : (rd_T27 l i).f0 < 1
    · rw [show decide (1 ≤ (rd_T27 l i).f0) = false from decide_eq_false (by omega)]
      exact Ev.step (f := fun k => kilnref11_Print.j2 k l (acc.map cI) i ((rd_T27 l i).f0) true) (fun k => by rw [hr, if_pos a1]) hbad
    rw [show decide (1 ≤ (rd_T27 l i).f0) = true from decide_eq_true (by omega)]
    by_cases a2 : (rd_T27 l i).f0 > 7
    · rw [show decide ((rd_T27 l i).f0 ≤ 7) = false from decide_eq_false (by omega)]
      exact Ev.step (f := fun k => kilnref11_Print.j2 k l (acc.map cI) i ((rd_T27 l i).f0) true) (fun k => by rw [hr, if_neg a1, if_pos a2]) hbad
    rw [show decide ((rd_T27 l i).f0 ≤ 7) = true from decide_eq_true (by omega)]
    by_cases a3 : (rd_T27 l i).f0 = 1
    · rw [show ((rd_T27 l i).f0 != 1) = false by simp [a3]]
      rw [Bool.true_and, Bool.true_and, Bool.false_or]
      refine Ev.step (f := fun k => (kilnref11_Word.f k ((rd_T27 l i).f1)).bind fun t207 => (kilnref11_Print.j2 k l (acc.map cI) i ((rd_T27 l i).f0) (!t207))) (fun k => by rw [hr, if_neg a1, if_neg a2, if_pos a3]) ?_
      refine Ev.bind (Word_ev _ (by omega)) ?_
      cases wordB (bs (rd_T27 l i).f1) with
      | true => exact hgood
      | false => exact hbad
    · rw [show ((rd_T27 l i).f0 != 1) = true by simp [a3]]
      exact Ev.step (f := fun k => kilnref11_Print.j2 k l (acc.map cI) i ((rd_T27 l i).f0) false) (fun k => by rw [hr, if_neg a1, if_neg a2, if_neg a3]) hgood
theorem PrintR_ev (l : List S27) (hl : l.length ≤ 2000000) (hs : ∀ t ∈ l, t.f1.size ≤ 2000000) : Ev (fun k => kilnref11_Print.f k l) (printT l) := by
  have h := printR_ev l hl hs l.length 0 [] (by simp) (Int.le_refl _) (by omega) (by simp)
  replace h : Ev (fun k => kilnref11_Print.l0 k l [] 0) (if l.all okT = true then outL (body none l) else (⟨#[]⟩, 1)) := h
  have hj : ∀ b k, kilnref11_Print.j0 (k + 1) l b = if b = true then (some ((⟨#[]⟩ : ByteArray), 1)) else (kilnref11_Print.l0 k l ([] : List Int) 0) := by
    intro b k
    conv => lhs; unfold kilnref11_Print.j0
  have hfin : lastB l = true → Ev (fun k => kilnref11_Print.j0 k l false) (printT l) := by
    intro hb
    refine Ev.step (f := fun k => kilnref11_Print.l0 k l [] 0) (fun k => by rw [hj, if_neg (by decide)]) ?_
    unfold printT
    rw [hb]
    exact h
  unfold kilnref11_Print.f
  by_cases he : l = []
  · subst he
    exact hfin rfl
  · have hlen : 0 < l.length := List.length_pos_iff.2 he
    refine Ev.congr (f := fun k => kilnref11_Print.j0 k l (((rd_T27 l ((l.length : Int) - 1)).f0) != 7)) (fun k => by rw [if_pos (by omega), IntWalk.wrap64_in _ (by omega), if_pos (by omega), if_pos (by omega)]) ?_
    by_cases h7 : (rd_T27 l ((l.length : Int) - 1)).f0 = 7
    · rw [show (((rd_T27 l ((l.length : Int) - 1)).f0) != 7) = false by simp [h7]]
      exact hfin (by rw [lastB_get l he]; simp [h7])
    · rw [show (((rd_T27 l ((l.length : Int) - 1)).f0) != 7) = true by simp [h7]]
      refine Ev.step (f := fun _ => some (⟨#[]⟩, 1)) (fun k => by rw [hj, if_pos rfl]) ?_
      have : printT l = (⟨#[]⟩, 1) := by
        unfold printT
        rw [show lastB l = false by rw [lastB_get l he]; simp [h7]]
        split <;> rfl
      rw [this]
      exact Ev.now _
theorem prints_ev (l : List S27) (hl : l.length ≤ 2000000) (hs : ∀ t ∈ l, t.f1.size ≤ 2000000) : Ev (fun k => kilnlaw11_prints.f k l) true := by
  unfold kilnlaw11_prints.f
  refine Ev.congr (f := fun k => (token_Print.f k l).bind fun p => ((kilnref11_Print.f k l).bind fun q => (if p.2 = q.2 then (if p.1.toList = q.1.toList then (some true) else (some false)) else (some false)))) (fun k => by rw [if_pos (by omega)]) ?_
  refine Ev.bind (Print_ev l (by omega) (fun t ht => by have := hs t ht; omega)) (Ev.bind (PrintR_ev l hl hs) ?_)
  exact Ev.congr (f := fun _ => some true) (fun k => by rw [if_pos rfl, if_pos rfl]) (Ev.now _)
end Go.Proofs.Ytnmmapjcphefpaa.G

-- Token, the plain law, part 9: Told; a text cut off.
namespace Go.Proofs.Ytnmmapjcphefpaa.G
open Go.RowKit Go.Proofs.YtnmmapjcphefpaaW.PrintWords Go.Proofs.YtnmmapjcphefpaaW.PrintLast Go.Proofs.YtnmmapjcphefpaaW.PrintMore
set_option linter.unusedVariables false
set_option linter.unusedSimpArgs false

theorem Told_ev : Ev (fun k => kilnlaw11_Told.f k) true := by
  unfold kilnlaw11_Told.f
  refine Ev.bind (cuts_ev _) ?_
  refine Ev.congr (fun k => if_pos rfl) ?_
  refine Ev.bind (cuts_ev _) ?_
  refine Ev.congr (fun k => if_pos rfl) ?_
  refine Ev.bind (prints_ev _ (by decide) (by decide)) ?_
  refine Ev.congr (fun k => if_pos rfl) ?_
  have h := Quote_ev (⟨#[0, 34]⟩ : ByteArray) (by decide)
  refine Ev.bind (f := fun _ t => some (t.toList == ([34, 92, 120, 48, 48, 92, 34, 34] : List UInt8))) h ?_
  have e : ((mk (quote (bs ⟨#[0, 34]⟩))).toList == ([34, 92, 120, 48, 48, 92, 34, 34] : List UInt8)) = true := by
    rw [toList_data]; decide +kernel
  rw [e]
  exact Ev.now _
theorem cut_is (s : ByteArray) (n : Int) (h0 : 0 ≤ n) : kilnlaw11_cut.f s n = some (mk ((bs s).take n.toNat)) := by
  unfold kilnlaw11_cut.f
  by_cases h : (s.size : Int) > n
  · rw [if_pos h, if_pos h0, if_pos (by omega)]
    have := sl_eq s 0 n
    rw [Int.toNat_zero, List.drop_zero, Nat.sub_zero] at this
    rw [← this]; rfl
  · rw [if_neg h, List.take_of_length_le (by rw [bs_length]; omega)]; rfl
theorem TokenCuts_pure : kilnlaw11_TokenCuts.Pure := by
  intro a0 _
  refine Ev.rounds ?_
  unfold kilnlaw11_TokenCuts.f
  refine Ev.bind Told_ev ?_
  refine Ev.congr (fun k => if_pos rfl) ?_
  rw [cut_is a0 70000 (by decide)]
  exact Ev.bind (f := fun _ t => some t) (cuts_ev _) (Ev.now _)
end Go.Proofs.Ytnmmapjcphefpaa.G

-- Token, the plain law: n times the same text.
namespace Go.Proofs.Ytnmmapjcphefpaa.G
open Go.RowKit Go.Proofs.YtnmmapjcphefpaaW.PrintWords Go.Proofs.YtnmmapjcphefpaaW.PrintLast Go.Proofs.YtnmmapjcphefpaaW.PrintMore
set_option linter.unusedVariables false
set_option linter.unusedSimpArgs false

def repB : Nat → By → By
  | 0, _ => []
  | n + 1, l => l ++ repB n l
theorem repB_len (n : Nat) (l : By) : (repB n l).length = n * l.length := by
  induction n with
  | zero => simp [repB]
  | succ n ih => simp only [repB, List.length_append, ih, Nat.add_mul, Nat.one_mul]; omega
theorem many_ev (x : ByteArray) (n : Int) (hx : x.size ≤ 10) (hn : n ≤ 1000000) : ∀ (m : Nat) (acc : By) (i : Int), m = (n - i).toNat → 0 ≤ i → acc.length ≤ 10 * i → (i ≤ n ∨ n ≤ i) → i ≤ 1000000 →
    Ev (fun k => kilnlaw11_many.l0 k x n (acc.map cI) i) (mk (acc ++ repB (n - i).toNat (bs x))) := by
  intro m
  induction m with
  | zero =>
    intro acc i hm h0 hacc _ hi
    rw [← hm, repB, List.append_nil]
    refine Ev.step (f := fun _ => some (mk acc)) (fun k => ?_) (Ev.now _)
    conv => lhs; unfold kilnlaw11_many.l0
    rw [if_neg (by omega), str_map]
  | succ m ih =>
    intro acc i hm h0 hacc _ hi
    have := ih (acc ++ bs x) (i + 1) (by omega) (by omega) (by rw [List.length_append, bs_length]; omega) (by omega) (by omega)
    rw [show (n - i).toNat = (n - (i + 1)).toNat + 1 by omega, repB, ← List.append_assoc]
    refine Ev.step (f := fun k => kilnlaw11_many.l0 k x n ((acc ++ bs x).map cI) (i + 1)) (fun k => ?_) this
    conv => lhs; unfold kilnlaw11_many.l0
    rw [if_pos (by omega), if_pos (by rw [List.length_map]; omega), IntWalk.wrap64_in _ (by omega), List.map_append]
    rfl
theorem Many_ev (x : ByteArray) (n : Int) (hx : x.size ≤ 10) (hn : n ≤ 1000000) : Ev (fun k => kilnlaw11_many.f k x n) (mk (repB n.toNat (bs x))) := by
  have := many_ev x n hx hn (n - 0).toNat [] 0 rfl (Int.le_refl _) (by simp) (by omega) (by omega)
  rw [Int.sub_zero] at this
  exact this
theorem Many_size (x : ByteArray) (n : Int) : (mk (repB n.toNat (bs x))).size = n.toNat * x.size := by rw [mk_size, repB_len, bs_length]
end Go.Proofs.Ytnmmapjcphefpaa.G

-- Token, the plain law: what Quote writes is read as just the bytes.
namespace Go.Proofs.Ytnmmapjcphefpaa.G
open Go.RowKit Go.Proofs.YtnmmapjcphefpaaW.PrintWords Go.Proofs.YtnmmapjcphefpaaW.PrintLast Go.Proofs.YtnmmapjcphefpaaW.PrintMore
set_option linter.unusedVariables false
set_option linter.unusedSimpArgs false

def dg1 (c : UInt8) : UInt8 := UInt8.ofNat (bt digs (cI c / 16)).toNat
def dg2 (c : UInt8) : UInt8 := UInt8.ofNat (bt digs (cI c % 16)).toNat
theorem dg_nat : ∀ c : Fin 256, hexU (dg1 (UInt8.ofNat c.val)) = (c.val : Int) / 16 ∧ hexU (dg2 (UInt8.ofNat c.val)) = (c.val : Int) % 16 := by decide +kernel
theorem dg_is (c : UInt8) : hexU (dg1 c) = cI c / 16 ∧ hexU (dg2 c) = cI c % 16 := by
  have := dg_nat ⟨c.toNat, c.toNat_lt⟩
  simp only [UInt8.ofNat_toNat] at this
  exact this
theorem ofNat_cI (c : UInt8) : UInt8.ofNat (cI c).toNat = c := by
  unfold cI
  rw [Int.toNat_natCast]
  exact UInt8.ofNat_toNat
theorem run_hexes (tk : List S27) (ln col beh a : Int) (acc : By) (c : UInt8) : run ⟨tk, ln, col, beh, .lit acc a⟩ [92, 120, dg1 c, dg2 c] = ⟨tk, ln, col + 4, beh, .lit (acc ++ [c]) a⟩ := by
  obtain ⟨h1, h2⟩ := dg_is c
  have hb := cI_bd c
  have e1 : step ⟨tk, ln, col, beh, .lit acc a⟩ 92 = ⟨tk, ln, col + 1, beh, .esc acc a col⟩ := rfl
  have e2 : step ⟨tk, ln, col + 1, beh, .esc acc a col⟩ 120 = ⟨tk, ln, col + 1 + 1, beh, .hx acc a col⟩ := rfl
  have e3 : step ⟨tk, ln, col + 1 + 1, beh, .hx acc a col⟩ (dg1 c) = ⟨tk, ln, col + 1 + 1 + 1, beh, .hy acc a col (hexU (dg1 c))⟩ := by
    simp only [step]
    rw [if_pos (by omega)]
  have e4 : step ⟨tk, ln, col + 1 + 1 + 1, beh, .hy acc a col (hexU (dg1 c))⟩ (dg2 c) = ⟨tk, ln, col + 1 + 1 + 1 + 1, beh, .lit (acc ++ [UInt8.ofNat (16 * hexU (dg1 c) + hexU (dg2 c)).toNat]) a⟩ := by
    simp only [step]
    rw [if_pos (by omega)]
  rw [run_cons, e1, run_cons, e2, run_cons, e3, run_cons, e4, run_nil, h1, h2, show 16 * (cI c / 16) + cI c % 16 = cI c by omega, ofNat_cI, show col + 1 + 1 + 1 + 1 = col + 4 by omega]
theorem run_qB (tk : List S27) (ln col beh a : Int) (acc : By) (c : UInt8) : run ⟨tk, ln, col, beh, .lit acc a⟩ (qB c) = ⟨tk, ln, col + (qB c).length, beh, .lit (acc ++ [c]) a⟩ := by
  unfold qB
  by_cases e1 : c = 34
  · subst e1
    rw [if_pos rfl, run_cons, run_cons, run_nil]
    show (⟨tk, ln, col + 1 + 1, beh, .lit (acc ++ [34]) a⟩ : St) = ⟨tk, ln, col + 2, beh, .lit (acc ++ [34]) a⟩
    rw [show col + 1 + 1 = col + 2 by omega]
  rw [if_neg e1]
  by_cases e2 : c = 92
  · subst e2
    rw [if_pos rfl, run_cons, run_cons, run_nil]
    show (⟨tk, ln, col + 1 + 1, beh, .lit (acc ++ [92]) a⟩ : St) = ⟨tk, ln, col + 2, beh, .lit (acc ++ [92]) a⟩
    rw [show col + 1 + 1 = col + 2 by omega]
  rw [if_neg e2]
  by_cases e3 : c = 10
  · subst e3
    rw [if_pos rfl, run_cons, run_cons, run_nil]
    show (⟨tk, ln, col + 1 + 1, beh, .lit (acc ++ [10]) a⟩ : St) = ⟨tk, ln, col + 2, beh, .lit (acc ++ [10]) a⟩
    rw [show col + 1 + 1 = col + 2 by omega]
  rw [if_neg e3]
  by_cases e4 : cI c < 32
  · rw [if_pos e4]; exact run_hexes tk ln col beh a acc c
  rw [if_neg e4]
  by_cases e5 : 126 < cI c
  · rw [if_pos e5]; exact run_hexes tk ln col beh a acc c
  rw [if_neg e5, run_cons, run_nil]
  simp only [step, if_neg e3, if_neg e1, if_neg e4, if_neg e5, if_neg e2]
  rfl
theorem run_quoted (t : By) : ∀ (tk : List S27) (ln col beh a : Int) (acc : By), run ⟨tk, ln, col, beh, .lit acc a⟩ (t.flatMap qB) = ⟨tk, ln, col + (t.flatMap qB).length, beh, .lit (acc ++ t) a⟩ := by
  induction t with
  | nil => intro tk ln col beh a acc; simp [run_nil]
  | cons c t ih =>
    intro tk ln col beh a acc
    rw [List.flatMap_cons, run_append, run_qB, ih, List.length_append, List.append_assoc]
    rw [show col + ((qB c).length : Int) + ((t.flatMap qB).length : Int) = col + (((qB c).length + (t.flatMap qB).length : Nat) : Int) by omega]
    rfl
theorem quote_length (t : By) : (quote t).length = (t.flatMap qB).length + 2 := by simp [quote]
/-- a literal as it is written, behind which the machine stands at a blank -/
theorem run_quote (tk : List S27) (ln col beh : Int) (t : By) : run ⟨tk, ln, col, beh, .bl⟩ (quote t) = ⟨tk ++ [⟨2, mk t, ln, col⟩], ln, col + (quote t).length, col + (quote t).length, .bl⟩ := by
  have e0 : step ⟨tk, ln, col, beh, .bl⟩ 34 = ⟨tk, ln, col + 1, beh, .lit [] col⟩ := rfl
  rw [quote_length]
  unfold quote
  rw [run_cons, e0, run_append, run_quoted, run_cons, run_nil, List.nil_append]
  show (⟨tk ++ [⟨2, mk t, ln, col⟩], ln, col + 1 + ((t.flatMap qB).length : Int) + 1, col + 1 + ((t.flatMap qB).length : Int) + 1, .bl⟩ : St) = _
  rw [show col + 1 + ((t.flatMap qB).length : Int) + 1 = col + (((t.flatMap qB).length + 2 : Nat) : Int) by omega]
/-- its bytes can be printed -/
theorem qB_nat : ∀ c : Fin 256, (qB (UInt8.ofNat c.val)).all (fun x => decide (32 ≤ cI x) && decide (cI x ≤ 126)) = true := by decide +kernel
theorem qB_all (c : UInt8) : (qB c).all (fun x => decide (32 ≤ cI x) && decide (cI x ≤ 126)) = true := by
  have := qB_nat ⟨c.toNat, c.toNat_lt⟩
  simp only [UInt8.ofNat_toNat] at this
  exact this
theorem quote_all (t : By) : ∀ x ∈ quote t, 32 ≤ cI x ∧ cI x ≤ 126 := by
  intro x hx
  unfold quote at hx
  rcases List.mem_cons.1 hx with rfl | hx
  · decide
  · rcases List.mem_append.1 hx with hx | hx
    · obtain ⟨c, _, hc⟩ := List.mem_flatMap.1 hx
      have := List.all_eq_true.1 (qB_all c) x hc
      simpa using this
    · rw [List.mem_singleton.1 hx]; decide
end Go.Proofs.Ytnmmapjcphefpaa.G

-- Token, the plain law: what is printed is read again.
namespace Go.Proofs.Ytnmmapjcphefpaa.G
open Go.RowKit Go.Proofs.YtnmmapjcphefpaaW.PrintWords Go.Proofs.YtnmmapjcphefpaaW.PrintLast Go.Proofs.YtnmmapjcphefpaaW.PrintMore
set_option linter.unusedVariables false
set_option linter.unusedSimpArgs false

def txt (t : S27) : ByteArray := if t.f0 = 1 then t.f1 else if t.f0 = 2 then t.f1 else ⟨#[]⟩
/-- the tokens that are read from the print: the same kinds and texts; lines and places as they stand there -/
def rl : Int → Int → Option Int → List S27 → List S27
  | _, _, _, [] => []
  | ln, col, p, t :: l =>
    if t.f0 = 7 then endT ln col :: rl (ln + 1) 0 (some 7) l
    else ⟨t.f0, txt t, ln, col + (sep p t.f0).length⟩ :: rl ln (col + (sep p t.f0).length + (shownB t).length) (some t.f0) l
def lns : Int → List S27 → Int
  | ln, [] => ln
  | ln, t :: l => lns (if t.f0 = 7 then ln + 1 else ln) l
theorem word_run (tk : List S27) (ln beh a : Int) : ∀ (r w : By) (col : Int), w.length + r.length ≤ 255 → r.all letB = true → run ⟨tk, ln, col, beh, .wd w a⟩ r = ⟨tk, ln, col + r.length, beh, .wd (w ++ r) a⟩ := by
  intro r
  induction r with
  | nil => intro w col _ _; simp [run_nil]
  | cons c r ih =>
    intro w col hl ha
    rw [List.all_cons, Bool.and_eq_true] at ha
    simp only [List.length_cons] at hl
    have hs : step ⟨tk, ln, col, beh, .wd w a⟩ c = ⟨tk, ln, col + 1, beh, .wd (w ++ [c]) a⟩ := by
      simp only [step]
      rw [if_pos ha.1, if_neg (by omega)]
    rw [run_cons, hs, ih (w ++ [c]) (col + 1) (by simp only [List.length_append, List.length_cons, List.length_nil]; omega) ha.2, List.append_assoc]
    rw [show col + 1 + (r.length : Int) = col + ((c :: r).length : Nat) by simp only [List.length_cons]; omega]
    rfl
/-- a word, and what can't be a part of it -/
theorem word_read (tk : List S27) (ln col beh : Int) (w r : By) (c : UInt8) (hw : wordB w = true) (hc : letB c = false) :
    run ⟨tk, ln, col, beh, .bl⟩ (w ++ c :: r) = run ⟨tk ++ [⟨1, mk w, ln, col⟩], ln, col + w.length, col + w.length, .bl⟩ (c :: r) := by
  unfold wordB at hw
  simp only [Bool.and_eq_true, decide_eq_true_eq] at hw
  obtain ⟨⟨h1, h2⟩, h3⟩ := hw
  rcases w with _ | ⟨d, w⟩
  · simp at h1
  · rw [run_append]
    have h3' := h3
    rw [List.all_cons, Bool.and_eq_true] at h3'
    rw [run_letter _ _ _ _ _ _ h3'.1, word_run tk ln beh col (d :: w) [] col (by simpa using h2) h3, List.nil_append, run_cons, run_cons]
    congr 1
    simp only [step, hc, Bool.false_eq_true, if_false, reduceIte]
theorem sign_bytes : letB 61 = false ∧ letB 40 = false ∧ letB 41 = false ∧ letB 44 = false ∧ signB 61 = 3 ∧ signB 40 = 4 ∧ signB 41 = 5 ∧ signB 44 = 6 := by decide +kernel
/-- behind a word stands no byte of a word -/
theorem body_head (t : S27) (l : List S27) (ht : okT t = true) : ∃ c r, body (some 1) (t :: l) = c :: r ∧ letB c = false := by
  obtain ⟨s1, s2, s3, s4, _⟩ := sign_bytes
  have hb : body (some 1) (t :: l) = sep (some 1) t.f0 ++ shownB t ++ body (some t.f0) l := rfl
  rw [hb]
  by_cases h : tightB t.f0 = true
  · have hs : sep (some 1) t.f0 = [] := by
      show (if tightB 1 = true then ([] : By) else if tightB t.f0 = true then [] else [32]) = []
      rw [if_neg (show ¬ tightB 1 = true by decide), if_pos h]
    rw [hs, List.nil_append]
    unfold tightB at h
    simp only [Bool.or_eq_true, beq_iff_eq] at h
    unfold shownB
    rcases h with ((h | h) | h) | h
    · rw [h]; exact ⟨40, _, rfl, s2⟩
    · rw [h]; exact ⟨41, _, rfl, s3⟩
    · rw [h]; exact ⟨44, _, rfl, s4⟩
    · rw [h]; exact ⟨10, _, rfl, let10⟩
  · have hs : sep (some 1) t.f0 = [32] := by
      show (if tightB 1 = true then ([] : By) else if tightB t.f0 = true then [] else [32]) = [32]
      rw [if_neg (show ¬ tightB 1 = true by decide), if_neg h]
    rw [hs]
    exact ⟨32, _, rfl, let32⟩
theorem sep_cases (p : Option Int) (k : Int) : sep p k = [] ∨ sep p k = [32] := by
  unfold sep
  split
  · exact .inl rfl
  · split
    · exact .inl rfl
    · split
      · exact .inl rfl
      · exact .inr rfl
theorem sep_end (p : Option Int) : sep p 7 = [] := by
  unfold sep
  split
  · rfl
  · split
    · rfl
    · rfl
theorem run_sep (tk : List S27) (ln col beh : Int) (p : Option Int) (k : Int) (r : By) : run ⟨tk, ln, col, beh, .bl⟩ (sep p k ++ r) = run ⟨tk, ln, col + (sep p k).length, beh, .bl⟩ r := by
  rcases sep_cases p k with h | h
  · rw [h, List.nil_append]; simp
  · rw [h]; rfl
theorem okT_kind (t : S27) (h : okT t = true) : 1 ≤ t.f0 ∧ t.f0 ≤ 7 ∧ (t.f0 = 1 → wordB (bs t.f1) = true) := by
  unfold okT at h
  simp only [Bool.and_eq_true, decide_eq_true_eq, Bool.or_eq_true, bne_iff_ne] at h
  exact ⟨h.1.1, h.1.2, fun h1 => by rcases h.2 with h2 | h2; exact absurd h1 h2; exact h2⟩
theorem run_body : ∀ (l : List S27), l.all okT = true → lastB l = true → ∀ (tk : List S27) (ln col : Int) (p : Option Int), (l = [] → col = 0) →
    run ⟨tk, ln, col, col, .bl⟩ (body p l) = ⟨tk ++ rl ln col p l, lns ln l, 0, 0, .bl⟩ := by
  intro l
  induction l with
  | nil =>
    intro _ _ tk ln col p h
    rw [h rfl]
    simp [body, rl, lns, run_nil]
  | cons t l ih =>
    intro hall hlast tk ln col p _
    rw [List.all_cons, Bool.and_eq_true] at hall
    obtain ⟨k1, k7, kw⟩ := okT_kind t hall.1
    have hl2 : l ≠ [] → lastB l = true := by
      intro hne
      cases l with
      | nil => exact absurd rfl hne
      | cons u l => exact hlast
    have hlast0 : l = [] → t.f0 = 7 := by
      intro he
      subst he
      simpa [lastB] using hlast
    have hl3 : lastB l = true := by
      cases l with
      | nil => rfl
      | cons u l => exact hlast
    have hb : body p (t :: l) = sep p t.f0 ++ (shownB t ++ body (some t.f0) l) := by simp only [body, List.append_assoc]
    rw [hb, run_sep]
    by_cases e7 : t.f0 = 7
    · have hsh : shownB t = [10] := by unfold shownB; rw [e7]; rfl
      have hst : run ⟨tk, ln, col + (sep p t.f0).length, col, .bl⟩ ([10] ++ body (some t.f0) l) = run ⟨tk ++ [endT ln col], ln + 1, 0, 0, .bl⟩ (body (some t.f0) l) := rfl
      rw [hsh, hst, ih hall.2 hl3 _ _ _ _ (fun _ => rfl), e7]
      simp only [rl, lns, e7, if_true, List.append_assoc, List.cons_append, List.nil_append]
    · have hlne : l ≠ [] := fun he => e7 (hlast0 he)
      have hrl : rl ln col p (t :: l) = ⟨t.f0, txt t, ln, col + (sep p t.f0).length⟩ :: rl ln (col + (sep p t.f0).length + (shownB t).length) (some t.f0) l := by
        simp only [rl, if_neg e7]
      have hln : lns ln (t :: l) = lns ln l := by simp only [lns, if_neg e7]
      rw [hrl, hln]
      have key : run ⟨tk, ln, col + (sep p t.f0).length, col, .bl⟩ (shownB t ++ body (some t.f0) l) = run ⟨tk ++ [⟨t.f0, txt t, ln, col + (sep p t.f0).length⟩], ln, col + (sep p t.f0).length + (shownB t).length, col + (sep p t.f0).length + (shownB t).length, .bl⟩ (body (some t.f0) l) := by
        generalize col + ((sep p t.f0).length : Int) = co
        by_cases e1 : t.f0 = 1
        · obtain ⟨u, l', rfl⟩ : ∃ u l', l = u :: l' := by
            cases l with
            | nil => exact absurd rfl hlne
            | cons u l' => exact ⟨u, l', rfl⟩
          rw [List.all_cons, Bool.and_eq_true] at hall
          obtain ⟨c, r, hc, hlet⟩ := body_head u l' hall.2.1
          have hsh : shownB t = bs t.f1 := by unfold shownB; rw [if_pos e1]
          have htx : txt t = t.f1 := by unfold txt; rw [if_pos e1]
          rw [hsh, htx, e1, hc, word_read _ _ _ _ _ _ _ (kw e1) hlet, mk_bs]
        by_cases e2 : t.f0 = 2
        · have hsh : shownB t = quote (bs t.f1) := by unfold shownB; rw [if_neg e1, if_pos e2]
          have htx : txt t = t.f1 := by unfold txt; rw [if_neg e1, if_pos e2]
          rw [hsh, htx, e2, run_append, run_quote, mk_bs]
        have htx : txt t = ⟨#[]⟩ := by unfold txt; rw [if_neg e1, if_neg e2]
        rw [htx]
        obtain ⟨_, _, _, _, s5, s6, s7, s8⟩ := sign_bytes
        by_cases e3 : t.f0 = 3
        · have hsh : shownB t = [61] := by unfold shownB; rw [e3]; rfl
          rw [hsh, e3]; rfl
        by_cases e4 : t.f0 = 4
        · have hsh : shownB t = [40] := by unfold shownB; rw [e4]; rfl
          rw [hsh, e4]; rfl
        by_cases e5 : t.f0 = 5
        · have hsh : shownB t = [41] := by unfold shownB; rw [e5]; rfl
          rw [hsh, e5]; rfl
        have e6 : t.f0 = 6 := by omega
        have hsh : shownB t = [44] := by unfold shownB; rw [e6]; rfl
        rw [hsh, e6]; rfl
      rw [key, ih hall.2 hl3 _ _ _ _ (fun he => absurd he hlne)]
      simp only [List.append_assoc, List.cons_append, List.nil_append]
/-- Tokens of a print -/
theorem lex_body (l : List S27) (hall : l.all okT = true) (hlast : lastB l = true) : lex (body none l) = (rl 1 0 none l, 0, 0, 0) := by
  unfold lex st0
  rw [run_body l hall hlast [] 1 0 none (fun _ => rfl)]
  rfl
end Go.Proofs.Ytnmmapjcphefpaa.G
