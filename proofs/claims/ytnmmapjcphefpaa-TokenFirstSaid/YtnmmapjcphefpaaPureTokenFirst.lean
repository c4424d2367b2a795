import Derived.Test.YtnmmapjcphefpaaPlMany
import Derived.Test.YtnmmapjcphefpaaGx16
-- TokenFirst: what the law's own function tells is true for every two texts and every number.
namespace Go.Proofs.Ytnmmapjcphefpaa.G
open Go.RowKit Go.Proofs.YtnmmapjcphefpaaW.PrintWords Go.Proofs.YtnmmapjcphefpaaW.PrintLast Go.Proofs.YtnmmapjcphefpaaW.PrintMore
set_option linter.unusedVariables false
set_option linter.unusedSimpArgs false

/-- the machine some lines further on -/
def Mode.up (d : Int) : Mode → Mode
  | .err c n p => .err c (n + d) p
  | m => m
def tup (d : Int) (t : S27) : S27 := ⟨t.f0, t.f1, t.f2 + d, t.f3⟩
def St.up (d : Int) (s : St) : St := ⟨s.tk.map (tup d), s.ln + d, s.col, s.beh, s.md.up d⟩
theorem St.ext' {a b : St} (h1 : a.tk = b.tk) (h2 : a.ln = b.ln) (h3 : a.col = b.col) (h4 : a.beh = b.beh) (h5 : a.md = b.md) : a = b := by
  obtain ⟨_, _, _, _, _⟩ := a
  obtain ⟨_, _, _, _, _⟩ := b
  simp only at h1 h2 h3 h4 h5
  rw [h1, h2, h3, h4, h5]
theorem blank_up (d : Int) (s : St) (c : UInt8) : blank ⟨s.tk.map (tup d), s.ln + d, s.col, s.beh, .bl⟩ c = (blank s c).up d := by
  unfold blank St.endl St.up
  repeat' split
  all_goals (apply St.ext' <;> simp only [List.map_append, List.map_cons, List.map_nil, tup, endT, Mode.up] <;> omega)
theorem step_up (d : Int) (s : St) (c : UInt8) : step (s.up d) c = (step s c).up d := by
  obtain ⟨tk, ln, col, beh, md⟩ := s
  cases md with
  | bl => exact blank_up d _ c
  | wd w a =>
    show step ⟨tk.map (tup d), ln + d, col, beh, .wd w a⟩ c = (step ⟨tk, ln, col, beh, .wd w a⟩ c).up d
    have hb := blank_up d ⟨tk ++ [⟨1, mk w, ln, a⟩], ln, col, col, .bl⟩ c
    simp only [List.map_append, List.map_cons, List.map_nil, tup] at hb
    simp only [step]
    by_cases h1 : letB c = true
    · rw [if_pos h1, if_pos h1]
      by_cases h2 : w.length = 255
      · rw [if_pos h2, if_pos h2]; rfl
      · rw [if_neg h2, if_neg h2]; rfl
    · rw [if_neg h1, if_neg h1]; exact hb
  | lit t a =>
    show step ⟨tk.map (tup d), ln + d, col, beh, .lit t a⟩ c = (step ⟨tk, ln, col, beh, .lit t a⟩ c).up d
    simp only [step]
    repeat' split
    all_goals first | rfl | (apply St.ext' <;> simp only [St.up, List.map_append, List.map_cons, List.map_nil, tup, Mode.up])
  | esc t a q =>
    show step ⟨tk.map (tup d), ln + d, col, beh, .esc t a q⟩ c = (step ⟨tk, ln, col, beh, .esc t a q⟩ c).up d
    simp only [step]
    repeat' split
    all_goals rfl
  | hx t a q =>
    show step ⟨tk.map (tup d), ln + d, col, beh, .hx t a q⟩ c = (step ⟨tk, ln, col, beh, .hx t a q⟩ c).up d
    simp only [step]
    repeat' split
    all_goals rfl
  | hy t a q e =>
    show step ⟨tk.map (tup d), ln + d, col, beh, .hy t a q e⟩ c = (step ⟨tk, ln, col, beh, .hy t a q e⟩ c).up d
    simp only [step]
    repeat' split
    all_goals rfl
  | rem =>
    show step ⟨tk.map (tup d), ln + d, col, beh, .rem⟩ c = (step ⟨tk, ln, col, beh, .rem⟩ c).up d
    simp only [step]
    split
    · apply St.ext' <;> simp only [St.up, St.endl, List.map_append, List.map_cons, List.map_nil, tup, endT, Mode.up] <;> omega
    · rfl
  | err a b e => rfl
theorem run_up (d : Int) : ∀ (l : By) (s : St), run (s.up d) l = (run s l).up d := by
  intro l
  induction l with
  | nil => intro s; rfl
  | cons c l ih => intro s; rw [run_cons, run_cons, step_up, ih]
/-- an error stands in the line at which the machine is -/
def EL (s : St) : Prop := ∀ c n p, s.md = .err c n p → n = s.ln
theorem blank_el (s : St) (c : UInt8) : EL (blank s c) ∧ s.ln ≤ (blank s c).ln ∧ (blank s c).ln ≤ s.ln + 1 := by
  unfold blank St.endl
  repeat' split
  all_goals (refine ⟨?_, ?_, ?_⟩ <;> first | (intro a b e h; simp only at h; cases h <;> rfl) | (simp only; omega))
theorem step_el (s : St) (c : UInt8) (h : EL s) : EL (step s c) ∧ s.ln ≤ (step s c).ln ∧ (step s c).ln ≤ s.ln + 1 := by
  obtain ⟨tk, ln, col, beh, md⟩ := s
  cases md with
  | bl => exact blank_el _ c
  | wd w a =>
    simp only [step]
    split
    · split
      all_goals (refine ⟨?_, ?_, ?_⟩ <;> first | (intro a b e h; simp only at h; cases h <;> rfl) | (simp only; omega))
    · exact blank_el ⟨tk ++ [⟨1, mk w, ln, a⟩], ln, col, col, .bl⟩ c
  | err a b e => exact ⟨h, Int.le_refl _, by show ln ≤ ln + 1; omega⟩
  | _ =>
    simp only [step, St.endl]
    repeat' split
    all_goals (refine ⟨?_, ?_, ?_⟩ <;> first | (intro a b e h; simp only at h; cases h <;> rfl) | (simp only; omega) | omega)
theorem run_el : ∀ (l : By) (s : St), EL s → EL (run s l) ∧ s.ln ≤ (run s l).ln ∧ (run s l).ln ≤ s.ln + l.length := by
  intro l
  induction l with
  | nil => intro s h; exact ⟨h, Int.le_refl _, by simp [run_nil]⟩
  | cons c l ih =>
    intro s h
    obtain ⟨h1, h2, h3⟩ := step_el s c h
    obtain ⟨h4, h5, h6⟩ := ih (step s c) h1
    rw [run_cons]
    refine ⟨h4, by omega, ?_⟩
    rw [List.length_cons]; omega
theorem fin_err10 {s : St} {c n p : Int} (h : s.fin.md = .err c n p) : (step s 10).md = .err c n p := by
  obtain ⟨tk, ln, col, beh, md⟩ := s
  cases md with
  | bl =>
    simp only [St.fin] at h
    split at h
    · cases h
    · exact h
  | _ => exact h
theorem run_rems : ∀ (n : Nat) (tk : List S27) (ln : Int), ∃ tk', run ⟨tk, ln, 0, 0, .bl⟩ (repB n [32, 35, 10]) = ⟨tk', ln + n, 0, 0, .bl⟩ := by
  intro n
  induction n with
  | zero => intro tk ln; exact ⟨tk, by rw [show ln + ((0 : Nat) : Int) = ln by omega]; rfl⟩
  | succ n ih =>
    intro tk ln
    obtain ⟨tk', h⟩ := ih (tk ++ [endT ln 0]) (ln + 1)
    refine ⟨tk', ?_⟩
    rw [repB, run_append]
    have : run ⟨tk, ln, 0, 0, .bl⟩ [32, 35, 10] = ⟨tk ++ [endT ln 0], ln + 1, 0, 0, .bl⟩ := rfl
    rw [this, h, show ln + 1 + (n : Int) = ln + ((n + 1 : Nat) : Int) by omega]
theorem out_code (s : St) (h : s.out.2.1 ≠ 0) : s.md = .err s.out.2.1 s.out.2.2.1 s.out.2.2.2 := by
  obtain ⟨tk, ln, col, beh, md⟩ := s
  cases md with
  | err c n p => rfl
  | _ => exact absurd rfl h
theorem first_lex (t more : By) (n : Nat) (ht : t.length ≤ 3000) (hm : more.length ≤ 3000) (hn : n ≤ 50) (he : (lexT t).2.1 ≠ 0) :
    (lexT (repB n [32, 35, 10] ++ t ++ [10] ++ more)).2 = ((lexT t).2.1, (lexT t).2.2.1 + n, (lexT t).2.2.2) ∧ 1 ≤ (lexT t).2.2.1 ∧ (lexT t).2.2.1 ≤ 3002 := by
  have hl := repB_len n [32, 35, 10]
  have e1 : lexT t = lex t := by unfold lexT; rw [if_neg (by omega)]
  have e2 : lexT (repB n [32, 35, 10] ++ t ++ [10] ++ more) = lex (repB n [32, 35, 10] ++ t ++ [10] ++ more) := by
    unfold lexT
    rw [if_neg (by simp only [List.length_append, List.length_cons, List.length_nil] at hl ⊢; omega)]
  rw [e1] at he ⊢
  rw [e2]
  have hmd := out_code _ he
  have h10 := fin_err10 hmd
  have hr10 : run st0 (t ++ [10]) = step (run st0 t) 10 := by rw [run_append]; rfl
  rw [← hr10] at h10
  obtain ⟨tk', hr⟩ := run_rems n [] 1
  have hall : run st0 (repB n [32, 35, 10] ++ t ++ [10] ++ more) = run (run ⟨tk', 1 + n, 0, 0, .bl⟩ (t ++ [10])) more := by
    rw [List.append_assoc, List.append_assoc, run_append, show run st0 (repB n [32, 35, 10]) = _ from hr, ← List.append_assoc, run_append]
  have hpre : (⟨tk', 1 + n, 0, 0, .bl⟩ : St) = (st0.up n).pre tk' := by
    simp only [St.pre, St.up, st0, List.map_nil, List.append_nil, Mode.up]
  have hmd2 : (run ⟨tk', 1 + n, 0, 0, .bl⟩ (t ++ [10])).md = .err (lex t).2.1 ((lex t).2.2.1 + n) (lex t).2.2.2 := by
    rw [hpre, run_pre, run_up]
    show (run st0 (t ++ [10])).md.up n = _
    rw [h10]; rfl
  have hel : EL st0 := fun c n p h => by cases h
  obtain ⟨g1, g2, g3⟩ := run_el (t ++ [10]) st0 hel
  have hln := g1 _ _ _ h10
  have hs0 : st0.ln = 1 := rfl
  refine ⟨?_, ?_, ?_⟩
  · show (run st0 (repB n [32, 35, 10] ++ t ++ [10] ++ more)).fin.out.2 = _
    rw [hall, run_err hmd2, fin_err hmd2]
  · show 1 ≤ (run st0 t).fin.out.2.2.1
    rw [hln]; omega
  · show (run st0 t).fin.out.2.2.1 ≤ 3002
    rw [hln]
    simp only [List.length_append, List.length_cons, List.length_nil] at g3
    omega
theorem first2 (x y : ByteArray) (n : Int) (hx : x.size ≤ 3000) (hy : y.size ≤ 3000) (h0 : 0 ≤ n) (h1 : n ≤ 50) : Ev (fun k => kilnlaw11_TokenFirst.j1 k x y n) true := by
  refine Ev.step (f := fun k => _) (fun k => by conv => lhs; unfold kilnlaw11_TokenFirst.j1) ?_
  refine Ev.bind (Tokens_ev x) ?_
  refine Ev.bind Told_ev ?_
  refine Ev.congr (fun k => if_pos rfl) ?_
  refine Ev.step (f := fun k => _) (fun k => by conv => lhs; unfold kilnlaw11_TokenFirst.j2) ?_
  by_cases he : (lexT (bs x)).2.1 = 0
  · refine Ev.congr (fun k => if_pos (by rw [he]; rfl)) ?_
    exact Ev.bind (f := fun _ t => some t) Told_ev (Ev.now _)
  · refine Ev.congr (fun k => if_neg (by simpa using he)) ?_
    have hb : bs (⟨#[32, 35, 10]⟩ : ByteArray) = [32, 35, 10] := rfl
    refine Ev.bind (Many_ev _ _ (by decide) (by omega)) ?_
    have hs := Many_size (⟨#[32, 35, 10]⟩ : ByteArray) n
    have hz : (⟨#[32, 35, 10]⟩ : ByteArray).size = 3 := rfl
    rw [hz] at hs
    rw [hb] at hs ⊢
    refine Ev.congr (fun k => if_pos (by omega)) ?_
    refine Ev.congr (fun k => if_pos (by rw [ByteArray.size_append]; omega)) ?_
    refine Ev.congr (fun k => if_pos (by rw [ByteArray.size_append, ByteArray.size_append]; show _ + _ + 1 + _ ≤ _; omega)) ?_
    refine Ev.bind (Tokens_ev _) ?_
    have hcat : bs (((mk (repB n.toNat [32, 35, 10]) ++ x) ++ (⟨#[10]⟩ : ByteArray)) ++ y) = repB n.toNat [32, 35, 10] ++ bs x ++ [10] ++ bs y := by
      unfold bs
      simp only [ByteArray.data_append, Array.toList_append]
      rfl
    obtain ⟨f1, f2, f3⟩ := first_lex (bs x) (bs y) n.toNat (by rw [bs_length]; exact hx) (by rw [bs_length]; exact hy) (by omega) he
    rw [hcat, f1]
    refine Ev.congr (fun k => if_pos rfl) ?_
    refine Ev.congr (fun k => if_pos (by show _ + _ = _; rw [IntWalk.wrap64_in _ (by omega)]; omega)) ?_
    show Ev (fun _ => some ((lexT (bs x)).2.2.2 == (lexT (bs x)).2.2.2)) true
    rw [beq_self_eq_true]
    exact Ev.now _
theorem TokenFirst_pure : kilnlaw11_TokenFirst.Pure := by
  intro a0 a1 n _ _ _
  refine Ev.rounds ?_
  unfold kilnlaw11_TokenFirst.f
  rw [cut_is a0 3000 (by decide), cut_is a1 3000 (by decide)]
  have hx : (mk ((bs a0).take (3000 : Int).toNat)).size ≤ 3000 := by rw [mk_size, List.length_take]; show min 3000 _ ≤ _; omega
  have hy : (mk ((bs a1).take (3000 : Int).toNat)).size ≤ 3000 := by rw [mk_size, List.length_take]; show min 3000 _ ≤ _; omega
  generalize mk ((bs a0).take (3000 : Int).toNat) = x at *
  generalize mk ((bs a1).take (3000 : Int).toNat) = y at *
  refine Ev.bind (Ev.now x) ?_
  refine Ev.bind (Ev.now y) ?_
  have hj : ∀ b k, kilnlaw11_TokenFirst.j0 (k + 1) x y n b = if b = true then (kilnlaw11_TokenFirst.j1 k x y 3) else (kilnlaw11_TokenFirst.j1 k x y n) := by
    intro b k
    rw [kilnlaw11_TokenFirst.j0]
  have ht : Ev (fun k => kilnlaw11_TokenFirst.j0 k x y n true) true := Ev.step (f := fun k => kilnlaw11_TokenFirst.j1 k x y 3) (fun k => by rw [hj, if_pos rfl]) (first2 x y 3 hx hy (by decide) (by decide))
  by_cases a : n < 0
  · exact Ev.congr (fun k => if_pos a) ht
  · refine Ev.congr (fun k => if_neg a) ?_
    by_cases b : n > 50
    · rw [decide_eq_true b]; exact ht
    · rw [decide_eq_false b]
      exact Ev.step (f := fun k => kilnlaw11_TokenFirst.j1 k x y n) (fun k => by rw [hj, if_neg (by decide)]) (first2 x y n hx hy (by omega) (by omega))
end Go.Proofs.Ytnmmapjcphefpaa.G
namespace Go.Proofs.Ytnmmapjcphefpaa.Pure
theorem TokenFirst : G.kilnlaw11_TokenFirst.Pure := G.TokenFirst_pure
end Go.Proofs.Ytnmmapjcphefpaa.Pure
