import Derived.Test.YtnmmapjcphefpaaPl
import Derived.Test.YtnmmapjcphefpaaGx13
-- Token, the plain law: what the tokens of a text are like; two lists that are alike.
namespace Go.Proofs.Ytnmmapjcphefpaa.G
open Go.RowKit Go.Proofs.YtnmmapjcphefpaaW.PrintWords Go.Proofs.YtnmmapjcphefpaaW.PrintLast Go.Proofs.YtnmmapjcphefpaaW.PrintMore
set_option linter.unusedVariables false
set_option linter.unusedSimpArgs false

def Norm : Int → List S27 → Prop
  | _, [] => True
  | ln, t :: l => (okT t = true ∧ t.f1 = txt t ∧ t.f2 = ln) ∧ Norm (if t.f0 = 7 then ln + 1 else ln) l
theorem norm_append : ∀ (a b : List S27) (ln : Int), Norm ln (a ++ b) ↔ Norm ln a ∧ Norm (lns ln a) b := by
  intro a
  induction a with
  | nil => intro b ln; simp [Norm, lns]
  | cons t a ih => intro b ln; simp only [List.cons_append, Norm, lns, ih]; exact and_assoc.symm
theorem lns_append : ∀ (a b : List S27) (ln : Int), lns ln (a ++ b) = lns (lns ln a) b := by
  intro a
  induction a with
  | nil => intro b ln; rfl
  | cons t a ih => intro b ln; simp only [List.cons_append, lns, ih]
theorem lastB_snoc : ∀ (l : List S27) (t : S27), lastB (l ++ [t]) = (t.f0 == 7) := by
  intro l
  induction l with
  | nil => intro t; rfl
  | cons u l ih =>
    intro t
    have := ih t
    cases l with
    | nil => rfl
    | cons v l => exact this
theorem norm_all : ∀ (l : List S27) (ln : Int), Norm ln l → l.all okT = true := by
  intro l
  induction l with
  | nil => intro _ _; rfl
  | cons t l ih => intro ln h; rw [List.all_cons, h.1.1, ih _ h.2]; rfl
def accL : Mode → Nat
  | .wd w _ => w.length
  | .lit t _ => t.length
  | .esc t _ _ => t.length
  | .hx t _ _ => t.length
  | .hy t _ _ _ => t.length
  | _ => 0
structure Inv (n : Nat) (s : St) : Prop where
  norm : Norm 1 s.tk
  ln : lns 1 s.tk = s.ln
  col : 0 ≤ s.col
  last : s.md = .bl → s.col = 0 → lastB s.tk = true
  wd : ∀ w a, s.md = .wd w a → wordB w = true
  small : ∀ t ∈ s.tk, t.f1.size ≤ n
  acc : accL s.md ≤ n
theorem inv_push {n : Nat} {s : St} (t : S27) (hn : Norm 1 s.tk) (hl : lns 1 s.tk = s.ln) (h1 : okT t = true) (h2 : t.f1 = txt t) (h3 : t.f2 = s.ln) :
    Norm 1 (s.tk ++ [t]) ∧ lns 1 (s.tk ++ [t]) = (if t.f0 = 7 then s.ln + 1 else s.ln) := by
  rw [norm_append, lns_append, hl]
  exact ⟨⟨hn, ⟨⟨h1, h2, h3⟩, trivial⟩⟩, rfl⟩
theorem sgn_nat : ∀ c : Fin 256, 0 < signB (UInt8.ofNat c.val) → 3 ≤ signB (UInt8.ofNat c.val) ∧ signB (UInt8.ofNat c.val) ≤ 6 := by decide +kernel
theorem sgn (c : UInt8) (h : 0 < signB c) : 3 ≤ signB c ∧ signB c ≤ 6 := by
  have := sgn_nat ⟨c.toNat, c.toNat_lt⟩
  simp only [UInt8.ofNat_toNat] at this
  exact this h
theorem small_push {n : Nat} {l : List S27} {t : S27} (h : ∀ t ∈ l, t.f1.size ≤ n) (ht : t.f1.size ≤ n) : ∀ u ∈ l ++ [t], u.f1.size ≤ n := by
  intro u hu
  rcases List.mem_append.1 hu with hu | hu
  · exact h u hu
  · rw [List.mem_singleton.1 hu]; exact ht
theorem okT_end (ln p : Int) : okT (endT ln p) = true := rfl
theorem blank_inv (n : Nat) (s : St) (c : UInt8) (hn : Norm 1 s.tk) (hl : lns 1 s.tk = s.ln) (hc : 0 ≤ s.col) (hs : ∀ t ∈ s.tk, t.f1.size ≤ n) (h1 : 1 ≤ n) : Inv n (blank s c) := by
  unfold blank St.endl
  split
  · obtain ⟨g1, g2⟩ := inv_push (n := n) (endT s.ln s.beh) hn hl rfl rfl rfl
    exact ⟨g1, g2, Int.le_refl _, fun _ _ => by simp only [lastB_snoc]; rfl, fun w a h => (by cases h), small_push hs (Nat.zero_le _), Nat.zero_le _⟩
  split
  · exact ⟨hn, hl, (by show 0 ≤ s.col + 1; omega), fun _ h => (by exfalso; have h' : s.col + 1 = 0 := h; omega), fun w a h => (by cases h), hs, Nat.zero_le _⟩
  split
  · exact ⟨hn, hl, hc, fun h _ => (by cases h), fun w a h => (by cases h), hs, Nat.zero_le _⟩
  split
  · exact ⟨hn, hl, (by show 0 ≤ s.col + 1; omega), fun h _ => (by cases h), fun w a h => (by cases h), hs, Nat.zero_le _⟩
  split
  · rename_i hlet
    refine ⟨hn, hl, (by show 0 ≤ s.col + 1; omega), fun h _ => (by cases h), fun w a h => ?_, hs, h1⟩
    cases h
    show (decide (1 ≤ 1) && decide (1 ≤ 255) && [c].all letB) = true
    simp [hlet]
  split
  · rename_i hsg
    obtain ⟨q1, q2⟩ := sgn c hsg
    have hok : okT ⟨signB c, ⟨#[]⟩, s.ln, s.col⟩ = true := by
      unfold okT
      simp only [Bool.and_eq_true, decide_eq_true_eq, Bool.or_eq_true, bne_iff_ne]
      exact ⟨⟨by omega, by omega⟩, .inl (by omega)⟩
    have htx : (⟨signB c, ⟨#[]⟩, s.ln, s.col⟩ : S27).f1 = txt ⟨signB c, ⟨#[]⟩, s.ln, s.col⟩ := by
      unfold txt
      rw [if_neg (by simp only; omega), if_neg (by simp only; omega)]
    obtain ⟨g1, g2⟩ := inv_push (n := n) ⟨signB c, ⟨#[]⟩, s.ln, s.col⟩ hn hl hok htx rfl
    rw [if_neg (by simp only; omega)] at g2
    exact ⟨g1, g2, (by show 0 ≤ s.col + 1; omega), fun _ h => (by exfalso; have h' : s.col + 1 = 0 := h; omega), fun w a h => (by cases h), small_push hs (Nat.zero_le _), Nat.zero_le _⟩
  · exact ⟨hn, hl, hc, fun h _ => (by cases h), fun w a h => (by cases h), hs, Nat.zero_le _⟩
theorem step_inv (n : Nat) (s : St) (c : UInt8) (h : Inv n s) : Inv (n + 1) (step s c) := by
  obtain ⟨tk, ln, col, beh, md⟩ := s
  obtain ⟨hn, hl, hc, hla, hw, hs, ha⟩ := h
  have hs' : ∀ t ∈ tk, t.f1.size ≤ n + 1 := fun t ht => Nat.le_succ_of_le (hs t ht)
  have plain : ∀ (col' : Int) (md' : Mode), 0 ≤ col' → (md' ≠ .bl) → (∀ w a, md' ≠ .wd w a) → accL md' ≤ n + 1 → Inv (n + 1) ⟨tk, ln, col', beh, md'⟩ := fun col' md' q1 q2 q3 q4 =>
    ⟨hn, hl, q1, fun h _ => absurd h q2, fun w a h => absurd h (q3 w a), hs', q4⟩
  have hcc : 0 ≤ col := hc
  cases md with
  | bl => exact blank_inv (n + 1) _ c hn hl hc hs' (by omega)
  | wd w a =>
    have hwb := hw w a rfl
    have hal : w.length ≤ n := ha
    simp only [step]
    split
    · rename_i hlet
      split
      · exact plain col _ hcc (by simp) (by simp) (Nat.zero_le _)
      · rename_i h255
        refine ⟨hn, hl, (by show 0 ≤ col + 1; omega), fun h _ => (by cases h), fun w' a' h => ?_, hs', (by show (w ++ [c]).length ≤ n + 1; simp; omega)⟩
        cases h
        unfold wordB at hwb ⊢
        simp only [Bool.and_eq_true, decide_eq_true_eq, List.all_append, List.length_append, List.length_cons, List.length_nil] at hwb ⊢
        exact ⟨⟨by omega, by omega⟩, hwb.2, by simp [hlet]⟩
    · have hok : okT ⟨1, mk w, ln, a⟩ = true := by
        unfold okT
        simp only [Bool.and_eq_true, decide_eq_true_eq, Bool.or_eq_true, bne_iff_ne]
        exact ⟨⟨by omega, by omega⟩, .inr hwb⟩
      obtain ⟨g1, g2⟩ := inv_push (n := n) (s := ⟨tk, ln, col, beh, .wd w a⟩) ⟨1, mk w, ln, a⟩ hn hl hok rfl rfl
      exact blank_inv (n + 1) ⟨tk ++ [⟨1, mk w, ln, a⟩], ln, col, col, .bl⟩ c g1 g2 hc (small_push hs' (by rw [mk_size]; omega)) (by omega)
  | lit t a =>
    have hal : t.length ≤ n := ha
    simp only [step]
    split
    · exact plain col _ hcc (by simp) (by simp) (Nat.zero_le _)
    split
    · obtain ⟨g1, g2⟩ := inv_push (n := n) (s := ⟨tk, ln, col, beh, .lit t a⟩) ⟨2, mk t, ln, a⟩ hn hl rfl rfl rfl
      exact ⟨g1, g2, (by show 0 ≤ col + 1; omega), fun _ h => (by exfalso; have h' : col + 1 = 0 := h; omega), fun w a h => (by cases h), small_push hs' (by rw [mk_size]; omega), Nat.zero_le _⟩
    split
    · exact plain col _ hcc (by simp) (by simp) (Nat.zero_le _)
    split
    · exact plain col _ hcc (by simp) (by simp) (Nat.zero_le _)
    split
    · exact plain (col + 1) _ (by omega) (by simp) (by simp) (by show t.length ≤ n + 1; omega)
    · exact plain (col + 1) _ (by omega) (by simp) (by simp) (by show (t ++ [c]).length ≤ n + 1; simp; omega)
  | esc t a p =>
    have hal : t.length ≤ n := ha
    simp only [step]
    split
    · exact plain (col + 1) _ (by omega) (by simp) (by simp) (by show (t ++ [34]).length ≤ n + 1; simp; omega)
    split
    · exact plain (col + 1) _ (by omega) (by simp) (by simp) (by show (t ++ [92]).length ≤ n + 1; simp; omega)
    split
    · exact plain (col + 1) _ (by omega) (by simp) (by simp) (by show (t ++ [10]).length ≤ n + 1; simp; omega)
    split
    · exact plain (col + 1) _ (by omega) (by simp) (by simp) (by show t.length ≤ n + 1; omega)
    · exact plain col _ hcc (by simp) (by simp) (Nat.zero_le _)
  | hx t a p =>
    have hal : t.length ≤ n := ha
    simp only [step]
    split
    · exact plain (col + 1) _ (by omega) (by simp) (by simp) (by show t.length ≤ n + 1; omega)
    · exact plain col _ hcc (by simp) (by simp) (Nat.zero_le _)
  | hy t a p d =>
    have hal : t.length ≤ n := ha
    simp only [step]
    split
    · exact plain (col + 1) _ (by omega) (by simp) (by simp) (by show (t ++ [_]).length ≤ n + 1; simp; omega)
    · exact plain col _ hcc (by simp) (by simp) (Nat.zero_le _)
  | rem =>
    simp only [step, St.endl]
    split
    · obtain ⟨g1, g2⟩ := inv_push (n := n) (s := ⟨tk, ln, col, beh, .rem⟩) (endT ln beh) hn hl rfl rfl rfl
      exact ⟨g1, g2, Int.le_refl _, fun _ _ => by simp only [lastB_snoc]; rfl, fun w a h => (by cases h), small_push hs' (Nat.zero_le _), Nat.zero_le _⟩
    · exact plain col _ hcc (by simp) (by simp) (Nat.zero_le _)
  | err a b e => exact plain col _ hcc (by simp) (by simp) (Nat.zero_le _)
theorem run_inv : ∀ (l : By) (n : Nat) (s : St), Inv n s → Inv (n + l.length) (run s l) := by
  intro l
  induction l with
  | nil => intro n s h; exact h
  | cons c l ih =>
    intro n s h
    rw [run_cons, List.length_cons, show n + (l.length + 1) = n + 1 + l.length by omega]
    exact ih (n + 1) _ (step_inv n s c h)
theorem inv0 : Inv 0 st0 := ⟨trivial, rfl, Int.le_refl _, fun _ _ => rfl, fun w a h => (by cases h), fun t h => (by cases h), Nat.le_refl _⟩
/-- the tokens of a text that is none too long and has no fault -/
theorem lex_norm (l : By) (h : (lex l).2.1 = 0) : Norm 1 (lex l).1 ∧ lastB (lex l).1 = true ∧ ∀ t ∈ (lex l).1, t.f1.size ≤ l.length + 1 := by
  have hI := run_inv l 0 st0 inv0
  rw [Nat.zero_add] at hI
  unfold lex at h ⊢
  generalize run st0 l = s at *
  have hF : (s.fin = s ∧ s.md = .bl ∧ s.col = 0) ∨ s.fin = step s 10 := by
    obtain ⟨tk, ln, col, beh, md⟩ := s
    cases md with
    | bl =>
      by_cases hc : col = 0
      · left
        refine ⟨?_, rfl, hc⟩
        simp only [St.fin, if_pos hc]
      · right
        simp only [St.fin, if_neg hc]
    | _ => exact .inr rfl
  rcases hF with ⟨f1, f2, f3⟩ | f1
  · rw [f1]
    have ho : s.out = (s.tk, 0, 0, 0) := by unfold St.out; rw [f2]
    rw [ho]
    exact ⟨hI.norm, hI.last f2 f3, fun t ht => Nat.le_succ_of_le (hI.small t ht)⟩
  · have hJ := step_inv _ s 10 hI
    rw [f1] at h ⊢
    rcases step10 s with ⟨a, b, d, he⟩ | ⟨h1, h2, h3⟩
    · have ho : (step s 10).out = ([], a, b, d) := by unfold St.out; rw [he]
      rw [ho] at h ⊢
      exact ⟨trivial, rfl, fun t ht => (by cases ht)⟩
    · have ho : (step s 10).out = ((step s 10).tk, 0, 0, 0) := by unfold St.out; rw [h3]
      rw [ho]
      exact ⟨hJ.norm, hJ.last h3 h1, hJ.small⟩
theorem lexT_err (l : By) (h : (lexT l).2.1 ≠ 0) : (lexT l).1 = [] := by
  unfold lexT at h ⊢
  split
  · rfl
  · rename_i hh
    rw [if_neg hh] at h
    unfold lex at h ⊢
    generalize (run st0 l).fin = s at *
    obtain ⟨tk, ln, col, beh, md⟩ := s
    cases md with
    | err c n p => rfl
    | _ => exact absurd rfl h
/-! alike -/
def key (t : S27) : Int × ByteArray × Int := (t.f0, t.f1, t.f2)
theorem key_rd (a b : List S27) (h : a.map key = b.map key) (i : Int) (h0 : 0 ≤ i) (h1 : i < a.length) : key (rd_T27 a i) = key (rd_T27 b i) := by
  have hl : a.length = b.length := by simpa using congrArg List.length h
  unfold rd_T27
  rw [List.getD_eq_getElem?_getD, List.getD_eq_getElem?_getD]
  have h2 : (a.map key)[i.toNat]? = (b.map key)[i.toNat]? := by rw [h]
  rw [List.getElem?_map, List.getElem?_map, List.getElem?_eq_getElem (by omega), List.getElem?_eq_getElem (by omega)] at h2
  rw [List.getElem?_eq_getElem (by omega), List.getElem?_eq_getElem (by omega)]
  simpa using h2
theorem alike_ev (a b : List S27) (h : a.map key = b.map key) (hl : a.length ≤ 1000000000) : ∀ (n : Nat) (i : Int), n = (a.length - i).toNat → 0 ≤ i → i ≤ a.length → Ev (fun k => kilnref11_Alike.l0 k a b i) true := by
  have hlen : a.length = b.length := by simpa using congrArg List.length h
  intro n
  induction n with
  | zero =>
    intro i hn h0 h1
    refine Ev.step (f := fun _ => some true) (fun k => ?_) (Ev.now _)
    conv => lhs; unfold kilnref11_Alike.l0
    rw [if_neg (by omega)]
  | succ n ih =>
    intro i hn h0 h1
    have hk := key_rd a b h i h0 (by omega)
    simp only [key, Prod.mk.injEq] at hk
    refine Ev.step (f := fun k => kilnref11_Alike.l0 k a b (i + 1)) (fun k => ?_) (ih (i + 1) (by omega) (by omega) (by omega))
    conv => lhs; unfold kilnref11_Alike.l0
    rw [if_pos (by omega), if_pos h0, if_pos (by omega), if_pos hk.1, if_pos (by rw [hk.2.1]), if_pos hk.2.2, IntWalk.wrap64_in _ (by omega)]
theorem Alike_ev (a b : List S27) (h : a.map key = b.map key) (hl : a.length ≤ 1000000000) : Ev (fun k => kilnref11_Alike.f k a b) true := by
  have hlen : a.length = b.length := by simpa using congrArg List.length h
  refine Ev.congr (f := fun k => kilnref11_Alike.l0 k a b 0) (fun k => ?_) (alike_ev a b h hl a.length 0 (by simp) (Int.le_refl _) (by omega))
  unfold kilnref11_Alike.f
  rw [if_pos (by omega)]
theorem rl_key : ∀ (l : List S27) (ln col : Int) (p : Option Int), Norm ln l → (rl ln col p l).map key = l.map key := by
  intro l
  induction l with
  | nil => intro _ _ _ _; rfl
  | cons t l ih =>
    intro ln col p h
    obtain ⟨⟨h1, h2, h3⟩, h4⟩ := h
    by_cases e7 : t.f0 = 7
    · rw [if_pos e7] at h4
      have ht : txt t = ⟨#[]⟩ := by unfold txt; rw [e7]; rfl
      simp only [rl, if_pos e7, List.map_cons, ih _ _ _ h4]
      simp only [key, endT, h2, ht, h3, e7]
    · rw [if_neg e7] at h4
      simp only [rl, if_neg e7, List.map_cons, ih _ _ _ h4]
      simp only [key, ← h2, h3]
end Go.Proofs.Ytnmmapjcphefpaa.G
