import Derived.Test.YtnmmapjcphefpaaPlNorm
import Derived.Test.YtnmmapjcphefpaaGx14
-- TokenBlanks: what the law's own function tells is true for every two texts and every number.
namespace Go.Proofs.Ytnmmapjcphefpaa.G
open Go.RowKit Go.Proofs.YtnmmapjcphefpaaW.PrintWords Go.Proofs.YtnmmapjcphefpaaW.PrintLast Go.Proofs.YtnmmapjcphefpaaW.PrintMore
set_option linter.unusedVariables false
set_option linter.unusedSimpArgs false

/-! a remark behind a line -/
theorem rem_tail (S : St) (b : By) (hb : ∀ c ∈ b, c ≠ 10) (h : (step S 10).md = .bl) : run S ([32, 32, 35] ++ b ++ [10]) = step S 10 := by
  obtain ⟨tk, ln, col, beh, md⟩ := S
  rw [List.append_assoc]
  cases md with
  | bl =>
    have e : run ⟨tk, ln, col, beh, .bl⟩ ([32, 32, 35] ++ (b ++ [10])) = run ⟨tk, ln, col + 1 + 1, beh, .rem⟩ (b ++ [10]) := rfl
    rw [e, run_rem _ _ _ _ _ hb]; rfl
  | wd w a =>
    have e : run ⟨tk, ln, col, beh, .wd w a⟩ ([32, 32, 35] ++ (b ++ [10])) = run ⟨tk ++ [⟨1, mk w, ln, a⟩], ln, col + 1 + 1, col, .rem⟩ (b ++ [10]) := rfl
    rw [e, run_rem _ _ _ _ _ hb]; rfl
  | rem =>
    have e : run ⟨tk, ln, col, beh, .rem⟩ ([32, 32, 35] ++ (b ++ [10])) = run ⟨tk, ln, col, beh, .rem⟩ (b ++ [10]) := rfl
    rw [e, run_rem _ _ _ _ _ hb]; rfl
  | lit t a => cases h
  | esc t a p => cases h
  | hx t a p => cases h
  | hy t a p d => cases h
  | err a b d => cases h
/-! states that differ in places alone -/
def Mode.sim : Mode → Mode → Prop
  | .bl, .bl => True
  | .wd w _, .wd w' _ => w = w'
  | .lit t _, .lit t' _ => t = t'
  | .esc t _ _, .esc t' _ _ => t = t'
  | .hx t _ _, .hx t' _ _ => t = t'
  | .hy t _ _ d, .hy t' _ _ d' => t = t' ∧ d = d'
  | .rem, .rem => True
  | .err _ _ _, .err _ _ _ => True
  | _, _ => False
def Sim (s s' : St) : Prop := s.tk.map key = s'.tk.map key ∧ s.ln = s'.ln ∧ s.md.sim s'.md
theorem key_push {a b : List S27} (h : a.map key = b.map key) {t u : S27} (hk : key t = key u) : (a ++ [t]).map key = (b ++ [u]).map key := by
  rw [List.map_append, List.map_append, h, List.map_cons, List.map_cons, hk]
theorem blank_sim (s s' : St) (c : UInt8) (h1 : s.tk.map key = s'.tk.map key) (h2 : s.ln = s'.ln) : Sim (blank s c) (blank s' c) := by
  unfold blank St.endl
  split
  · exact ⟨key_push h1 (by simp only [key, endT, h2]), (by show s.ln + 1 = s'.ln + 1; rw [h2]), trivial⟩
  split
  · exact ⟨h1, h2, trivial⟩
  split
  · exact ⟨h1, h2, trivial⟩
  split
  · exact ⟨h1, h2, rfl⟩
  split
  · exact ⟨h1, h2, rfl⟩
  split
  · exact ⟨key_push h1 (by simp only [key, h2]), h2, trivial⟩
  · exact ⟨h1, h2, trivial⟩
theorem step_sim (s s' : St) (c : UInt8) (h : Sim s s') : Sim (step s c) (step s' c) := by
  obtain ⟨tk, ln, col, beh, md⟩ := s
  obtain ⟨tk', ln', col', beh', md'⟩ := s'
  obtain ⟨h1, h2, h3⟩ := h
  simp only at h1 h2 h3
  subst h2
  cases md <;> cases md' <;> first | (cases h3; done) | skip
  · exact blank_sim _ _ c h1 rfl
  · obtain rfl := h3
    simp only [step]
    split
    · split
      · exact ⟨h1, rfl, trivial⟩
      · exact ⟨h1, rfl, rfl⟩
    · exact blank_sim _ _ c (key_push h1 (by simp only [key])) rfl
  · obtain rfl := h3
    simp only [step]
    split
    · exact ⟨h1, rfl, trivial⟩
    split
    · exact ⟨key_push h1 (by simp only [key]), rfl, trivial⟩
    split
    · exact ⟨h1, rfl, trivial⟩
    split
    · exact ⟨h1, rfl, trivial⟩
    split
    · exact ⟨h1, rfl, rfl⟩
    · exact ⟨h1, rfl, rfl⟩
  · obtain rfl := h3
    simp only [step]
    repeat' split
    all_goals first | exact ⟨h1, rfl, rfl⟩ | exact ⟨h1, rfl, trivial⟩
  · obtain rfl := h3
    simp only [step]
    repeat' split
    all_goals first | exact ⟨h1, rfl, ⟨rfl, rfl⟩⟩ | exact ⟨h1, rfl, trivial⟩
  · obtain ⟨rfl, rfl⟩ := h3
    simp only [step]
    repeat' split
    all_goals first | exact ⟨h1, rfl, rfl⟩ | exact ⟨h1, rfl, trivial⟩
  · simp only [step, St.endl]
    split
    · exact ⟨key_push h1 (by simp only [key, endT]), rfl, trivial⟩
    · exact ⟨h1, rfl, trivial⟩
  · exact ⟨h1, rfl, trivial⟩
theorem run_sim : ∀ (l : By) (s s' : St), Sim s s' → Sim (run s l) (run s' l) := by
  intro l
  induction l with
  | nil => intro s s' h; exact h
  | cons c l ih => intro s s' h; exact ih _ _ (step_sim s s' c h)
theorem blank_tail (S : St) (h : (step S 10).md = .bl) : Sim (run S [32, 10]) (step S 10) := by
  obtain ⟨tk, ln, col, beh, md⟩ := S
  cases md with
  | bl => exact ⟨rfl, rfl, trivial⟩
  | wd w a => exact ⟨rfl, rfl, trivial⟩
  | rem => exact ⟨rfl, rfl, trivial⟩
  | lit t a => cases h
  | esc t a p => cases h
  | hx t a p => cases h
  | hy t a p d => cases h
  | err a b d => cases h
/-! all lines -/
def bitI (n i : Int) : Bool := decide ((Go.bits .and .i64 (shr .i64 n (Int.tmod (IntKind.u64.wrap i) 60)) 1) = 1)
def behL (n : Int) (b : By) : Int → List By → By
  | _, [] => []
  | i, l :: ls => (if bitI n i = true then l ++ [32, 32, 35] ++ b else l) ++ [10] ++ behL n b (i + 1) ls
def aheL (n : Int) : Int → List By → By
  | _, [] => []
  | i, l :: ls => (if bitI n i = true then [32, 32] ++ l ++ [32] else l) ++ [10] ++ aheL n (i + 1) ls
theorem line_bl (S : St) (l : By) (ls : List By) (h : (run S (joinL (l :: ls))).md = .bl) : (step (run S l) 10).md = .bl := by
  rw [joinL_cons, run_append, run_append] at h
  have e : run (run S l) [10] = step (run S l) 10 := rfl
  rw [e] at h
  rcases step10 (run S l) with ⟨a, b, d, he⟩ | ⟨_, _, h3⟩
  · rw [run_err he, he] at h; cases h
  · exact h3
theorem beh_run (n : Int) (b : By) (hb : ∀ c ∈ b, c ≠ 10) : ∀ (ls : List By) (i : Int) (S : St), (run S (joinL ls)).md = .bl → run S (behL n b i ls) = run S (joinL ls) := by
  intro ls
  induction ls with
  | nil => intro i S _; rfl
  | cons l ls ih =>
    intro i S h
    have hl := line_bl S l ls h
    have h' := h
    rw [joinL_cons, run_append, run_append] at h'
    rw [joinL_cons, run_append _ (l ++ [10]), run_append _ l, behL, run_append _ _ (behL n b (i + 1) ls)]
    have e : run S ((if bitI n i = true then l ++ [32, 32, 35] ++ b else l) ++ [10]) = run (run S l) [10] := by
      by_cases hbit : bitI n i = true
      · rw [if_pos hbit, show l ++ [32, 32, 35] ++ b ++ [10] = l ++ ([32, 32, 35] ++ b ++ [10]) by simp only [List.append_assoc], run_append]
        exact rem_tail _ b hb hl
      · rw [if_neg hbit, run_append]
    rw [e]
    exact ih (i + 1) _ h'
theorem ahe_run (n : Int) : ∀ (ls : List By) (i : Int) (S S' : St), Sim S' S → (S.md = .bl) → (run S (joinL ls)).md = .bl → Sim (run S' (aheL n i ls)) (run S (joinL ls)) := by
  intro ls
  induction ls with
  | nil => intro i S S' hs _ _; exact hs
  | cons l ls ih =>
    intro i S S' hs hbl h
    have hl := line_bl S l ls h
    have h' := h
    rw [joinL_cons, run_append, run_append] at h'
    rw [joinL_cons, run_append _ (l ++ [10]), run_append _ l, aheL, run_append _ _ (aheL n (i + 1) ls)]
    refine ih (i + 1) _ _ ?_ hl h'
    by_cases hbit : bitI n i = true
    · rw [if_pos hbit, show [32, 32] ++ l ++ [32] ++ [10] = [32, 32] ++ (l ++ [32, 10]) by simp only [List.append_assoc]; rfl, run_append, run_append]
      have h2 : Sim (run S' [32, 32]) S := by
        obtain ⟨tk, ln, col, beh, md⟩ := S
        obtain ⟨tk', ln', col', beh', md'⟩ := S'
        simp only at hbl
        subst hbl
        obtain ⟨g1, g2, g3⟩ := hs
        cases md' <;> first | (cases g3; done) | exact ⟨g1, g2, trivial⟩
      have h3 := run_sim [32, 10] _ _ (run_sim l _ _ h2)
      have h4 := blank_tail (run S l) hl
      obtain ⟨a1, a2, a3⟩ := h3
      obtain ⟨b1, b2, b3⟩ := h4
      refine ⟨a1.trans b1, a2.trans b2, ?_⟩
      have hm : (run (run S l) [32, 10]).md = .bl := by
        rw [hl] at b3
        generalize (run (run S l) [32, 10]).md = m at b3
        cases m <;> first | rfl | (cases b3; done)
      rw [hm] at a3
      rw [show (run (run S l) [10]).md = .bl from hl]
      exact a3
    · rw [if_neg hbit]
      have := run_sim (l ++ [10]) _ _ hs
      rw [run_append S l] at this
      exact this
theorem mk_append (a b : By) : mk a ++ mk b = mk (a ++ b) := by
  have h : bs (mk a ++ mk b) = a ++ b := by
    unfold bs
    rw [ByteArray.data_append, Array.toList_append]; rfl
  rw [← mk_bs (mk a ++ mk b), h]
theorem Lines_ev (x : ByteArray) (hx : x.size ≤ 65536) : Ev (fun k => kilnref11_Lines.f k x) ((spl [] (bs x)).map mk) := by
  have hl := lines_ev x hx x.size [] 0 0 (by simp) (Int.le_refl _) (Int.le_refl _) (by omega) (by simp)
  rw [sl_nil, List.nil_append] at hl
  exact hl
theorem joinL_mem (ls : List By) (l : By) (h : l ∈ ls) : l.length + 1 ≤ (joinL ls).length := by
  induction ls with
  | nil => cases h
  | cons m ls ih =>
    rw [joinL_cons, List.length_append, List.length_append, List.length_singleton]
    rcases List.mem_cons.1 h with rfl | h
    · omega
    · have := ih h; omega
/-- no fault has the number 0 -/
def EC (s : St) : Prop := ∀ c n p, s.md = .err c n p → c ≠ 0
theorem blank_ec (s : St) (c : UInt8) : EC (blank s c) := by
  unfold blank St.endl
  repeat' split
  all_goals (intro a b e h; simp only at h; cases h <;> decide)
theorem step_ec (s : St) (c : UInt8) (h : EC s) : EC (step s c) := by
  obtain ⟨tk, ln, col, beh, md⟩ := s
  cases md with
  | bl => exact blank_ec _ c
  | wd w a =>
    simp only [step]
    split
    · split
      all_goals (intro a b e h; simp only at h; cases h <;> decide)
    · exact blank_ec ⟨tk ++ [⟨1, mk w, ln, a⟩], ln, col, col, .bl⟩ c
  | err a b e => exact h
  | _ =>
    simp only [step, St.endl]
    repeat' split
    all_goals first | (intro a b e h; simp only at h; cases h <;> decide) | exact h
theorem run_ec : ∀ (l : By) (s : St), EC s → EC (run s l) := by
  intro l
  induction l with
  | nil => intro s h; exact h
  | cons c l ih => intro s h; exact ih _ (step_ec s c h)
theorem lex_home (l : By) (h : (lex l).2.1 = 0) : (run st0 l).fin.md = .bl ∧ (run st0 l).fin.col = 0 := by
  have hE := run_ec l st0 (fun c n p h => by cases h)
  unfold lex at h
  generalize run st0 l = s at *
  have hF : (s.fin = s ∧ s.md = .bl ∧ s.col = 0) ∨ s.fin = step s 10 := by
    obtain ⟨tk, ln, col, beh, md⟩ := s
    cases md with
    | bl =>
      by_cases hc : col = 0
      · exact .inl ⟨by simp only [St.fin, if_pos hc], rfl, hc⟩
      · exact .inr (by simp only [St.fin, if_neg hc])
    | _ => exact .inr rfl
  rcases hF with ⟨f1, f2, f3⟩ | f1
  · rw [f1]; exact ⟨f2, f3⟩
  · rw [f1] at h ⊢
    rcases step10 s with ⟨a, b, d, he⟩ | ⟨h1, h2, h3⟩
    · exfalso
      have hz := step_ec s 10 hE _ _ _ he
      unfold St.out at h
      rw [he] at h
      exact hz h
    · exact ⟨h3, h1⟩
theorem fin_home (s : St) (h1 : s.md = .bl) (h2 : s.col = 0) : s.fin = s := by
  unfold St.fin
  rw [h1]
  simp only [if_pos h2]
theorem out_bl (s : St) (h : s.md = .bl) : s.out = (s.tk, 0, 0, 0) := by unfold St.out; rw [h]
/-- the last byte is a line's end -/
theorem fin_of10 (s : St) (l : By) (h : (run s (l ++ [10])).md = .bl) : (run s (l ++ [10])).fin = run s (l ++ [10]) := by
  rw [run_append] at h ⊢
  have e : run (run s l) [10] = step (run s l) 10 := rfl
  rw [e] at h ⊢
  rcases step10 (run s l) with ⟨a, b, d, he⟩ | ⟨h1, _, _⟩
  · rw [he] at h; cases h
  · exact fin_home _ h h1
theorem aheL_end (n : Int) : ∀ (ls : List By) (i : Int), ls ≠ [] → ∃ r, aheL n i ls = r ++ [10] := by
  intro ls
  induction ls with
  | nil => intro i h; exact absurd rfl h
  | cons l ls ih =>
    intro i _
    cases ls with
    | nil => exact ⟨_, by simp only [aheL, List.append_nil]; rfl⟩
    | cons m ls =>
      obtain ⟨r, hr⟩ := ih (i + 1) (by simp)
      refine ⟨(if bitI n i = true then [32, 32] ++ l ++ [32] else l) ++ [10] ++ r, ?_⟩
      rw [aheL, hr, ← List.append_assoc]
theorem blanks_lex (t : By) (h : (lex t).2.1 = 0) (n : Int) (b : By) (hb : ∀ c ∈ b, c ≠ 10) :
    lex (behL n b 0 (spl [] t)) = ((lex t).1, 0, 0, 0) ∧ (lex (aheL n 0 (spl [] t))).2 = (0, 0, 0) ∧ (lex (aheL n 0 (spl [] t))).1.map key = (lex t).1.map key := by
  obtain ⟨hm, hc⟩ := lex_home t h
  have hs := run_spl t [] [] 1 0 (fun _ h => by cases h)
  rw [List.nil_append] at hs
  replace hs : (run st0 t).fin = run st0 (joinL (spl [] t)) := hs
  rw [hs] at hm hc
  have hl : lex t = ((run st0 (joinL (spl [] t))).tk, 0, 0, 0) := by unfold lex; rw [hs, out_bl _ hm]
  rw [hl]
  have hB := beh_run n b hb (spl [] t) 0 st0 hm
  have hA := ahe_run n (spl [] t) 0 st0 st0 ⟨rfl, rfl, trivial⟩ rfl hm
  refine ⟨?_, ?_⟩
  · unfold lex
    rw [hB, fin_home _ hm hc, out_bl _ hm]
  · have hmA : (run st0 (aheL n 0 (spl [] t))).md = .bl := by
      have := hA.2.2
      rw [hm] at this
      generalize (run st0 (aheL n 0 (spl [] t))).md = m at this
      cases m <;> first | rfl | (cases this; done)
    have hfA : (run st0 (aheL n 0 (spl [] t))).fin = run st0 (aheL n 0 (spl [] t)) := by
      by_cases he : spl [] t = []
      · rw [he]; rfl
      · obtain ⟨r, hr⟩ := aheL_end n (spl [] t) 0 he
        rw [hr] at hmA ⊢
        exact fin_of10 _ _ hmA
    unfold lex
    rw [hfA, out_bl _ hmA]
    exact ⟨rfl, hA.1⟩
theorem u64_tmod (i : Int) : 0 ≤ Int.tmod (IntKind.u64.wrap i) 60 := by
  refine Int.tmod_nonneg _ ?_
  show 0 ≤ IntKind.u64.wrap i
  simp only [IntKind.wrap_u64]
  omega
theorem blanks_l1 (n : Int) (b : By) (hb : b.length ≤ 100) (toks : List S27) (ls : List By) (hls : ls.length ≤ 3001) (hl : ∀ l ∈ ls, l.length ≤ 3000)
    (hfin : ∀ P Q : By, P = behL n b 0 ls → Q = aheL n 0 ls → Ev (fun k => if ((mk P).size : Int) > 65536 then (kilnlaw11_TokenBlanks.j2 k toks (mk P) (mk Q) true) else (kilnlaw11_TokenBlanks.j2 k toks (mk P) (mk Q) (decide (((mk Q).size : Int) > 65536)))) true) :
    ∀ (m j : Nat) (p q : By), m = ls.length - j → j ≤ ls.length → p.length ≤ 4000 * j → q.length ≤ 4000 * j → p ++ behL n b j (ls.drop j) = behL n b 0 ls → q ++ aheL n j (ls.drop j) = aheL n 0 ls →
    Ev (fun k => kilnlaw11_TokenBlanks.l1 k n toks (b.map cI) (ls.map mk) (mk p) (mk q) (j : Int)) true := by
  intro m
  induction m with
  | zero =>
    intro j p q hm hj hp hq h1 h2
    rw [List.drop_eq_nil_of_le (by omega), behL, List.append_nil] at h1
    rw [List.drop_eq_nil_of_le (by omega), aheL, List.append_nil] at h2
    refine Ev.step (f := fun k => _) (fun k => ?_) (hfin p q h1 h2)
    conv => lhs; unfold kilnlaw11_TokenBlanks.l1
    rw [if_neg (by rw [List.length_map]; omega)]
  | succ m ih =>
    intro j p q hm hj hp hq h1 h2
    have hlt : j < ls.length := by omega
    have hd := List.drop_eq_getElem_cons hlt
    have hle := hl _ (List.getElem_mem hlt)
    have hrd : rdOf ByteArray.empty (ls.map mk) (j : Int) = mk ls[j] := by
      unfold rdOf
      rw [List.getD_eq_getElem?_getD, Int.toNat_natCast, List.getElem?_map, List.getElem?_eq_getElem hlt]; rfl
    rw [hd, behL] at h1
    rw [hd, aheL] at h2
    have hc : ((j : Int) + 1) = ((j + 1 : Nat) : Int) := by omega
    rw [hc] at h1 h2
    generalize ls[j] = l at *
    have z3 : (⟨#[32, 32, 35]⟩ : ByteArray) = mk [32, 32, 35] := rfl
    have z2 : (⟨#[32, 32]⟩ : ByteArray) = mk [32, 32] := rfl
    have z1 : (⟨#[32]⟩ : ByteArray) = mk [32] := rfl
    have z0 : (⟨#[10]⟩ : ByteArray) = mk [10] := rfl
    by_cases hbit : bitI n j = true
    · rw [if_pos hbit] at h1 h2
      have hbit' : (Go.bits .and .i64 (shr .i64 n (Int.tmod (IntKind.u64.wrap (j : Int)) 60)) 1) = 1 := by simpa [bitI] using hbit
      refine Ev.step (f := fun k => kilnlaw11_TokenBlanks.l1 k n toks (b.map cI) (ls.map mk) (mk (p ++ ((l ++ [32, 32, 35] ++ b) ++ [10]))) (mk (q ++ (([32, 32] ++ l ++ [32]) ++ [10]))) ((j + 1 : Nat) : Int)) (fun k => ?_) (ih (j + 1) _ _ (by omega) (by omega) ?_ ?_ (by rw [← h1]; simp only [List.append_assoc]) (by rw [← h2]; simp only [List.append_assoc]))
      · conv => lhs; unfold kilnlaw11_TokenBlanks.l1
        rw [if_pos (by rw [List.length_map]; omega), if_pos (by omega), if_pos (u64_tmod _), if_pos hbit', hrd, str_map, z3, z2, z1, z0]
        simp only [mk_append, mk_size, List.length_append, List.length_cons, List.length_nil]
        rw [if_pos (by omega), if_pos (by omega), if_pos (by omega), if_pos (by omega), if_pos (by omega), if_pos (by omega), if_pos (by omega), if_pos (by omega), IntWalk.wrap64_in _ (by omega), hc]
        simp only [List.append_assoc]
      · simp only [List.length_append, List.length_cons, List.length_nil]; omega
      · simp only [List.length_append, List.length_cons, List.length_nil]; omega
    · rw [if_neg hbit] at h1 h2
      have hbit' : ¬ (Go.bits .and .i64 (shr .i64 n (Int.tmod (IntKind.u64.wrap (j : Int)) 60)) 1) = 1 := by simpa [bitI] using hbit
      refine Ev.step (f := fun k => kilnlaw11_TokenBlanks.l1 k n toks (b.map cI) (ls.map mk) (mk (p ++ (l ++ [10]))) (mk (q ++ (l ++ [10]))) ((j + 1 : Nat) : Int)) (fun k => ?_) (ih (j + 1) _ _ (by omega) (by omega) ?_ ?_ (by rw [← h1]; simp only [List.append_assoc]) (by rw [← h2]; simp only [List.append_assoc]))
      · conv => lhs; unfold kilnlaw11_TokenBlanks.l1
        rw [if_pos (by rw [List.length_map]; omega), if_pos (by omega), if_pos (u64_tmod _), if_neg hbit', hrd, z0]
        simp only [mk_append, mk_size, List.length_append, List.length_cons, List.length_nil]
        rw [if_pos (by omega), if_pos (by omega), if_pos (by omega), if_pos (by omega), IntWalk.wrap64_in _ (by omega), hc]
        simp only [List.append_assoc]
      · simp only [List.length_append, List.length_cons, List.length_nil]; omega
      · simp only [List.length_append, List.length_cons, List.length_nil]; omega
theorem blanks_j2 (x : ByteArray) (hx : x.size ≤ 3000) (he : (lexT (bs x)).2.1 = 0) (n : Int) (b : By) (hb : ∀ c ∈ b, c ≠ 10) (P Q : By) (hP : P = behL n b 0 (spl [] (bs x))) (hQ : Q = aheL n 0 (spl [] (bs x))) :
    Ev (fun k => if ((mk P).size : Int) > 65536 then (kilnlaw11_TokenBlanks.j2 k (lexT (bs x)).1 (mk P) (mk Q) true) else (kilnlaw11_TokenBlanks.j2 k (lexT (bs x)).1 (mk P) (mk Q) (decide (((mk Q).size : Int) > 65536)))) true := by
  have hln := bs_length x
  have hlen := lexT_len (bs x)
  have e1 : lexT (bs x) = lex (bs x) := by unfold lexT; rw [if_neg (by omega)]
  rw [e1] at he hlen ⊢
  obtain ⟨h1, h2, h3⟩ := blanks_lex (bs x) he n b hb
  rw [← hP] at h1
  rw [← hQ] at h2 h3
  have hlong : Ev (fun k => kilnlaw11_TokenBlanks.j2 k (lex (bs x)).1 (mk P) (mk Q) true) true := Ev.step (f := fun _ => some true) (fun k => by rw [kilnlaw11_TokenBlanks.j2, if_pos rfl]) (Ev.now _)
  by_cases a : ((mk P).size : Int) > 65536
  · exact Ev.congr (fun k => if_pos a) hlong
  refine Ev.congr (fun k => if_neg a) ?_
  by_cases c : ((mk Q).size : Int) > 65536
  · rw [decide_eq_true c]; exact hlong
  rw [decide_eq_false c]
  rw [mk_size] at a c
  refine Ev.step (f := fun k => _) (fun k => by rw [kilnlaw11_TokenBlanks.j2, if_neg (by decide)]) ?_
  refine Ev.bind (Tokens_ev _) ?_
  refine Ev.bind (Tokens_ev _) ?_
  have eP : lexT (bs (mk P)) = ((lex (bs x)).1, 0, 0, 0) := by rw [bs_mk]; unfold lexT; rw [if_neg (by omega)]; exact h1
  have eQ : lexT (bs (mk Q)) = lex Q := by rw [bs_mk]; unfold lexT; rw [if_neg (by omega)]
  rw [eP, eQ]
  refine Ev.congr (fun k => if_pos rfl) ?_
  refine Ev.congr (fun k => if_pos (by rw [h2])) ?_
  refine Ev.bind (Same_ev _ (by show (lex (bs x)).1.length ≤ _; omega)) ?_
  refine Ev.congr (fun k => if_pos rfl) ?_
  have hl3 : (lex Q).1.length = (lex (bs x)).1.length := by simpa using congrArg List.length h3
  exact Ev.bind (f := fun _ t => some t) (Alike_ev _ _ h3 (by omega)) (Ev.now _)
theorem blanks_l0 (x y : ByteArray) (hy : y.size ≤ 100) (n : Int) (toks : List S27) (hgo : ∀ b : By, (∀ c ∈ b, c ≠ 10) → b.length ≤ 100 → Ev (fun k => (kilnref11_Lines.f k x).bind fun t334 => (kilnlaw11_TokenBlanks.l1 k n toks (b.map cI) t334 (⟨#[]⟩ : ByteArray) (⟨#[]⟩ : ByteArray) 0)) true) :
    ∀ (m : Nat) (acc : By) (i : Int), m = (y.size - i).toNat → 0 ≤ i → i ≤ y.size → acc.length ≤ i → (∀ c ∈ acc, c ≠ 10) → Ev (fun k => kilnlaw11_TokenBlanks.l0 k x n y toks (acc.map cI) i) true := by
  intro m
  induction m with
  | zero =>
    intro acc i hm h0 h1 ha hno
    refine Ev.step (f := fun k => _) (fun k => ?_) (hgo acc hno (by omega))
    conv => lhs; unfold kilnlaw11_TokenBlanks.l0
    rw [if_neg (by omega)]
  | succ m ih =>
    intro acc i hm h0 h1 ha hno
    have hlt : i < (y.size : Int) := by omega
    obtain ⟨c, hd, hb⟩ := drop_at y i h0 hlt
    by_cases hc : c = 10
    · refine Ev.step (f := fun k => kilnlaw11_TokenBlanks.l0 k x n y toks (acc.map cI) (i + 1)) (fun k => ?_) (ih acc (i + 1) (by omega) (by omega) (by omega) (by omega) hno)
      conv => lhs; unfold kilnlaw11_TokenBlanks.l0
      rw [if_pos hlt, if_pos h0, hb, if_pos (by rw [c10]; exact hc), IntWalk.wrap64_in _ (by omega)]
    · refine Ev.step (f := fun k => kilnlaw11_TokenBlanks.l0 k x n y toks ((acc ++ [c]).map cI) (i + 1)) (fun k => ?_) (ih (acc ++ [c]) (i + 1) (by omega) (by omega) (by omega) (by rw [List.length_append, List.length_singleton]; omega) ?_)
      · conv => lhs; unfold kilnlaw11_TokenBlanks.l0
        rw [if_pos hlt, if_pos h0, hb, if_neg (by rw [c10]; exact hc), if_pos (by rw [List.length_map]; omega), IntWalk.wrap64_in _ (by omega), List.map_append]
        rfl
      · intro d hd
        rcases List.mem_append.1 hd with hd | hd
        · exact hno d hd
        · rw [List.mem_singleton.1 hd]; exact hc
theorem TokenBlanks_pure : kilnlaw11_TokenBlanks.Pure := by
  intro a0 n a2 _ _ _
  refine Ev.rounds ?_
  unfold kilnlaw11_TokenBlanks.f
  rw [cut_is a0 3000 (by decide), cut_is a2 100 (by decide)]
  have hx : (mk ((bs a0).take (3000 : Int).toNat)).size ≤ 3000 := by rw [mk_size, List.length_take]; show min 3000 _ ≤ _; omega
  have hy : (mk ((bs a2).take (100 : Int).toNat)).size ≤ 100 := by rw [mk_size, List.length_take]; show min 100 _ ≤ _; omega
  generalize mk ((bs a0).take (3000 : Int).toNat) = x at *
  generalize mk ((bs a2).take (100 : Int).toNat) = y at *
  refine Ev.bind (Ev.now x) ?_
  refine Ev.bind (Ev.now y) ?_
  refine Ev.bind Told_ev ?_
  refine Ev.congr (fun k => if_pos rfl) ?_
  refine Ev.bind (Tokens_ev x) ?_
  by_cases he : (lexT (bs x)).2.1 = 0
  · refine Ev.congr (fun k => if_pos he) ?_
    refine blanks_l0 x y hy n _ (fun b hb hbl => ?_) ((y.size : Int) - 0).toNat [] 0 rfl (Int.le_refl _) (by omega) (by simp) (fun c h => by cases h)
    refine Ev.bind (Lines_ev x (by omega)) ?_
    have hsl := spl_len (bs x) []
    have hct := spl_count (spl [] (bs x))
    rw [bs_length, List.length_nil] at hsl
    exact blanks_l1 n b hbl _ (spl [] (bs x)) (by omega) (fun l hl => by have := joinL_mem _ l hl; omega) (fun P Q hP hQ => blanks_j2 x hx he n b hb P Q hP hQ) _ 0 [] [] rfl (Nat.zero_le _) (by simp) (by simp) rfl rfl
  · exact Ev.congr (fun k => if_neg he) (Ev.now _)
end Go.Proofs.Ytnmmapjcphefpaa.G
namespace Go.Proofs.Ytnmmapjcphefpaa.Pure
theorem TokenBlanks : G.kilnlaw11_TokenBlanks.Pure := G.TokenBlanks_pure
end Go.Proofs.Ytnmmapjcphefpaa.Pure
