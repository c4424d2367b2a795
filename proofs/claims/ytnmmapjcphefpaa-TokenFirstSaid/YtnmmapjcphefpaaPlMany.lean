import Derived.Test.YtnmmapjcphefpaaPl
-- Token, the plain law: n times the same text.
namespace Go.Proofs.Ytnmmapjcphefpaa.G
open Go.RowKit Go.Proofs.YtnmmapjcphefpaaW.PrintWords Go.Proofs.YtnmmapjcphefpaaW.PrintLast Go.Proofs.YtnmmapjcphefpaaW.PrintMore
set_option linter.unusedVariables false
set_option linter.unusedSimpArgs false

def repB : Nat → By → By
  | 0, _ => []
  | n + 1, l => l ++ repB n l
theorem repB_len (n : Nat) (l : By) : (repB n l).length = n * l.length := by
  induction n with
  | zero => simp [repB]
  | succ n ih => simp only [repB, List.length_append, ih, Nat.add_mul, Nat.one_mul]; omega
theorem many_ev (x : ByteArray) (n : Int) (hx : x.size ≤ 10) (hn : n ≤ 1000000) : ∀ (m : Nat) (acc : By) (i : Int), m = (n - i).toNat → 0 ≤ i → acc.length ≤ 10 * i → (i ≤ n ∨ n ≤ i) → i ≤ 1000000 →
    Ev (fun k => kilnlaw11_many.l0 k x n (acc.map cI) i) (mk (acc ++ repB (n - i).toNat (bs x))) := by
  intro m
  induction m with
  | zero =>
    intro acc i hm h0 hacc _ hi
    rw [← hm, repB, List.append_nil]
    refine Ev.step (f := fun _ => some (mk acc)) (fun k => ?_) (Ev.now _)
    conv => lhs; unfold kilnlaw11_many.l0
    rw [if_neg (by omega), str_map]
  | succ m ih =>
    intro acc i hm h0 hacc _ hi
    have := ih (acc ++ bs x) (i + 1) (by omega) (by omega) (by rw [List.length_append, bs_length]; omega) (by omega) (by omega)
    rw [show (n - i).toNat = (n - (i + 1)).toNat + 1 by omega, repB, ← List.append_assoc]
    refine Ev.step (f := fun k => kilnlaw11_many.l0 k x n ((acc ++ bs x).map cI) (i + 1)) (fun k => ?_) this
    conv => lhs; unfold kilnlaw11_many.l0
    rw [if_pos (by omega), if_pos (by rw [List.length_map]; omega), IntWalk.wrap64_in _ (by omega), List.map_append]
    rfl
theorem Many_ev (x : ByteArray) (n : Int) (hx : x.size ≤ 10) (hn : n ≤ 1000000) : Ev (fun k => kilnlaw11_many.f k x n) (mk (repB n.toNat (bs x))) := by
  have := many_ev x n hx hn (n - 0).toNat [] 0 rfl (Int.le_refl _) (by simp) (by omega) (by omega)
  rw [Int.sub_zero] at this
  exact this
theorem Many_size (x : ByteArray) (n : Int) : (mk (repB n.toNat (bs x))).size = n.toNat * x.size := by rw [mk_size, repB_len, bs_length]
end Go.Proofs.Ytnmmapjcphefpaa.G
