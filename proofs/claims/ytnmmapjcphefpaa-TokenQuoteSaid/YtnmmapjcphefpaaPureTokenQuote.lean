import Derived.Test.YtnmmapjcphefpaaPlQuote
import Derived.Test.YtnmmapjcphefpaaGx16
-- TokenQuote: what the law's own function tells is true for every text.
namespace Go.Proofs.Ytnmmapjcphefpaa.G
open Go.RowKit Go.Proofs.YtnmmapjcphefpaaW.PrintWords Go.Proofs.YtnmmapjcphefpaaW.PrintLast Go.Proofs.YtnmmapjcphefpaaW.PrintMore
set_option linter.unusedVariables false
set_option linter.unusedSimpArgs false

theorem lex_quote (t : By) (h : (quote t).length ≤ 65536) : lexT (quote t) = ([⟨2, mk t, 1, 0⟩, endT 1 (quote t).length], 0, 0, 0) := by
  unfold lexT lex st0
  rw [if_neg (by omega), run_quote]
  have hl := quote_length t
  have : (⟨[] ++ [⟨2, mk t, 1, 0⟩], 1, 0 + ((quote t).length : Int), 0 + ((quote t).length : Int), .bl⟩ : St).fin = step ⟨[] ++ [⟨2, mk t, 1, 0⟩], 1, 0 + ((quote t).length : Int), 0 + ((quote t).length : Int), .bl⟩ 10 := by
    simp only [St.fin]
    rw [if_neg (by omega)]
  rw [this, Int.zero_add]
  rfl
theorem bt_mk (q : By) (i : Int) (c : UInt8) (h : q[i.toNat]? = some c) (h0 : 0 ≤ i) : bt (mk q) i = cI c := by
  have := bt_list (mk q) i.toNat c h
  rw [Int.toNat_of_nonneg h0] at this
  exact this
theorem quote_ev2 (x : ByteArray) (hx : (quote (bs x)).length ≤ 65536) : ∀ (n : Nat) (i : Int), n = ((quote (bs x)).length - i).toNat → 0 ≤ i → i ≤ (quote (bs x)).length → Ev (fun k => kilnlaw11_TokenQuote.l0 k x (mk (quote (bs x))) i) true := by
  intro n
  induction n with
  | zero =>
    intro i hn h0 h1
    have hsz := mk_size (quote (bs x))
    have hr : ∀ k, kilnlaw11_TokenQuote.l0 (k + 1) x (mk (quote (bs x))) i = ((token_Tokens.f k (mk (quote (bs x)))).bind fun bt387 => (if bt387.2.1 = 0 then (if (bt387.1.length : Int) = 2 then (if 0 < (bt387.1.length : Int) then (if (((rd_T27 bt387.1 0).f0) == 2 && ((((rd_T27 bt387.1 0).f1).toList) == x.toList && (((rd_T27 bt387.1 0).f2) == 1 && (((rd_T27 bt387.1 0).f3) == 0)))) = true then (if 1 < (bt387.1.length : Int) then (some (((rd_T27 bt387.1 1).f3) == ((mk (quote (bs x))).size : Int))) else (none)) else (some false)) else (none)) else (some false)) else (some false))) := by
      intro k
      conv => lhs; unfold kilnlaw11_TokenQuote.l0
      rw [if_neg (by omega)]
    refine Ev.step (f := fun k => _) hr (Ev.bind (Tokens_ev _) ?_)
    rw [bs_mk, lex_quote _ hx]
    refine Ev.congr (f := fun _ => some true) (fun k => ?_) (Ev.now _)
    rw [if_pos rfl, if_pos (by rfl), if_pos (by simp), if_pos (by
      show ((2 : Int) == 2 && ((mk (bs x)).toList == x.toList && ((1 : Int) == 1 && (0 : Int) == 0))) = true
      rw [mk_bs]; simp), if_pos (by simp)]
    show some (((quote (bs x)).length : Int) == ((mk (quote (bs x))).size : Int)) = some true
    rw [hsz]; simp
  | succ n ih =>
    intro i hn h0 h1
    have hsz := mk_size (quote (bs x))
    have hlt : i < ((mk (quote (bs x))).size : Int) := by omega
    obtain ⟨c, hd, hb⟩ := drop_at (mk (quote (bs x))) i h0 hlt
    have hm : c ∈ quote (bs x) := List.mem_of_mem_drop (show c ∈ (quote (bs x)).drop i.toNat by rw [show (quote (bs x)).drop i.toNat = _ from hd]; exact List.mem_cons_self)
    obtain ⟨q1, q2⟩ := quote_all _ c hm
    refine Ev.step (f := fun k => kilnlaw11_TokenQuote.l0 k x (mk (quote (bs x))) (i + 1)) (fun k => ?_) (ih (i + 1) (by omega) (by omega) (by omega))
    conv => lhs; unfold kilnlaw11_TokenQuote.l0
    rw [if_pos hlt, if_pos h0, hb, if_neg (by omega), if_neg (by omega), IntWalk.wrap64_in _ (by omega)]
theorem TokenQuote_pure : kilnlaw11_TokenQuote.Pure := by
  intro a0 _
  refine Ev.rounds ?_
  unfold kilnlaw11_TokenQuote.f
  rw [cut_is a0 16000 (by decide)]
  have hx : (mk ((bs a0).take (16000 : Int).toNat)).size ≤ 16000 := by rw [mk_size, List.length_take]; show min 16000 _ ≤ _; omega
  generalize mk ((bs a0).take (16000 : Int).toNat) = x at *
  refine Ev.bind (Ev.now x) ?_
  refine Ev.bind (Quote_ev x (by omega)) ?_
  refine Ev.bind Told_ev ?_
  refine Ev.congr (fun k => if_pos rfl) ?_
  have hl := quote_length (bs x)
  have hl2 := quote_len (bs x)
  rw [bs_length] at hl2
  have hsz := mk_size (quote (bs x))
  refine Ev.congr (fun k => if_neg (by omega)) ?_
  refine Ev.congr (fun k => if_pos (by omega)) ?_
  have b0 : bt (mk (quote (bs x))) 0 = 34 := bt_mk _ 0 34 rfl (Int.le_refl _)
  refine Ev.congr (fun k => if_pos b0) ?_
  rw [IntWalk.wrap64_in _ (by omega)]
  refine Ev.congr (fun k => if_pos (by omega)) ?_
  refine Ev.congr (fun k => if_pos (by omega)) ?_
  have b1 : bt (mk (quote (bs x))) (((mk (quote (bs x))).size : Int) - 1) = 34 := by
    refine bt_mk _ _ 34 ?_ (by omega)
    rw [show (((mk (quote (bs x))).size : Int) - 1).toNat = ((bs x).flatMap qB).length + 1 by omega]
    show ((bs x).flatMap qB ++ [34])[((bs x).flatMap qB).length]? = some 34
    rw [List.getElem?_append_right (Nat.le_refl _), Nat.sub_self]; rfl
  rw [b1]
  have hj : ∀ k, kilnlaw11_TokenQuote.j0 (k + 1) x (mk (quote (bs x))) ((34 : Int) != 34) = kilnlaw11_TokenQuote.l0 k x (mk (quote (bs x))) 0 := by
    intro k
    rw [kilnlaw11_TokenQuote.j0]
    rfl
  exact Ev.step (f := fun k => kilnlaw11_TokenQuote.l0 k x (mk (quote (bs x))) 0) hj (quote_ev2 x (by omega) _ 0 rfl (Int.le_refl _) (by omega))
end Go.Proofs.Ytnmmapjcphefpaa.G
namespace Go.Proofs.Ytnmmapjcphefpaa.Pure
theorem TokenQuote : G.kilnlaw11_TokenQuote.Pure := G.TokenQuote_pure
end Go.Proofs.Ytnmmapjcphefpaa.Pure
