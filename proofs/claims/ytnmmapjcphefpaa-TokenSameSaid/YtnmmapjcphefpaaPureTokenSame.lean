import Derived.Test.YtnmmapjcphefpaaPlNorm
-- TokenSame: what the law's own function tells is true for every text.
namespace Go.Proofs.Ytnmmapjcphefpaa.G
open Go.RowKit Go.Proofs.YtnmmapjcphefpaaW.PrintWords Go.Proofs.YtnmmapjcphefpaaW.PrintLast Go.Proofs.YtnmmapjcphefpaaW.PrintMore
set_option linter.unusedVariables false
set_option linter.unusedSimpArgs false

theorem TokenSame_pure : kilnlaw11_TokenSame.Pure := by
  intro a0 _
  refine Ev.rounds ?_
  unfold kilnlaw11_TokenSame.f
  refine Ev.bind Told_ev ?_
  refine Ev.congr (fun k => if_pos rfl) ?_
  rw [cut_is a0 70000 (by decide)]
  generalize mk ((bs a0).take (70000 : Int).toNat) = x
  refine Ev.bind (Ev.now x) ?_
  refine Ev.bind (Tokens_ev x) ?_
  have hlen := lexT_len (bs x)
  by_cases he : (lexT (bs x)).2.1 = 0
  · refine Ev.congr (fun k => if_pos he) ?_
    have hlong : ¬ (bs x).length > 65536 := by
      intro hh
      unfold lexT at he
      rw [if_pos hh] at he
      exact absurd he (by decide)
    have e1 : lexT (bs x) = lex (bs x) := by unfold lexT; rw [if_neg hlong]
    rw [e1] at he hlen ⊢
    obtain ⟨h1, h2, h3⟩ := lex_norm (bs x) he
    generalize (lex (bs x)).1 = l at *
    have hall := norm_all l 1 h1
    have hp : printT l = outL (body none l) := by unfold printT; rw [if_pos hall, if_pos h2]
    refine Ev.bind (Print_ev l (by omega) (fun t ht => by have := h3 t ht; omega)) ?_
    rw [hp]
    unfold outL
    by_cases hb : 65536 < (body none l).length
    · rw [if_pos hb]
      exact Ev.congr (f := fun _ => some true) (fun k => by rw [if_pos rfl, toList_data]; rfl) (Ev.now _)
    · rw [if_neg hb]
      refine Ev.congr (fun k => if_neg (show ¬ (0 : Int) = 2 by decide)) ?_
      refine Ev.bind (Tokens_ev _) ?_
      have e2 : lexT (bs (mk (body none l))) = (rl 1 0 none l, 0, 0, 0) := by
        rw [bs_mk]
        unfold lexT
        rw [if_neg (by omega)]
        exact lex_body l hall h2
      rw [e2]
      refine Ev.congr (fun k => if_pos rfl) ?_
      refine Ev.congr (fun k => if_pos rfl) ?_
      exact Ev.bind (f := fun _ t => some t) (Alike_ev _ _ (rl_key l 1 0 none h1).symm (by omega)) (Ev.now _)
  · refine Ev.congr (fun k => if_neg he) ?_
    rw [lexT_err _ he]
    exact Ev.now _
end Go.Proofs.Ytnmmapjcphefpaa.G
namespace Go.Proofs.Ytnmmapjcphefpaa.Pure
theorem TokenSame : G.kilnlaw11_TokenSame.Pure := G.TokenSame_pure
end Go.Proofs.Ytnmmapjcphefpaa.Pure
