/- SpaceOnce's plain law: what is free against what is out. -/
import Derived.Test.YtnjjijkcenhebaaDoorPlainW
set_option linter.unusedVariables false
set_option linter.unusedSimpArgs false
namespace Go.Proofs.YtnjjijkcenhebaaDoor

theorem negs_negs (is : List Bool) : negs (negs is) = is := by simp [negs, Function.comp_def]
theorem negs_set (is : List Bool) (k : Nat) (x : Bool) : negs (is.set k x) = (negs is).set k (!x) := by simp [negs, List.map_set]
theorem negs_at (is : List Bool) (k : Nat) (h : k < is.length) : (negs is)[k]? = some (!is.getD k false) := by
  simp [negs, List.getD_eq_getElem?_getD, List.getElem?_eq_getElem h]
/-- a number that lies inside -/
theorem inside (fr N : Nat) (z : Int) (h1 : (fr : Int) ≤ z) (h2 : z < (fr : Int) + N) : ∃ k : Nat, z = (fr : Int) + k ∧ k < N := ⟨(z - fr).toNat, by omega, by omega⟩
theorem has_at (fr : Nat) (is : List Bool) (k : Nat) : hasB fr is ((fr : Int) + (k : Int)) = is.getD k false := by
  have e : ((fr : Int) + k - fr).toNat = k := by omega
  unfold hasB
  rw [e]
  simp
  omega
theorem claim_at (fr : Nat) (is : List Bool) (k : Nat) (h : is.getD k false = true) : claimS fr is ((fr : Int) + (k : Int)) = is.set k false := by
  have e : ((fr : Int) + k - fr).toNat = k := by omega
  unfold claimS
  rw [has_at, h, if_pos rfl, e]
theorem has_out (fr N : Nat) (is : List Bool) (hl : is.length = N) (z : Int) (h : ¬ ((fr : Int) ≤ z ∧ z < (fr : Int) + N)) : hasB fr is z = false := by
  unfold hasB
  by_cases h1 : (fr : Int) ≤ z
  · have : is.length ≤ (z - fr).toNat := by omega
    rw [List.getD_eq_getElem?_getD, List.getElem?_eq_none this]
    simp
  · simp [h1]
theorem claim_no (fr : Nat) (is : List Bool) (z : Int) (h : hasB fr is z = false) : claimS fr is z = is := by
  unfold claimS
  rw [h, if_neg (by simp)]
theorem give_at (fr N : Nat) (is : List Bool) (k : Nat) (hk : k < N) : giveB fr (fr + N) is ((fr : Int) + (k : Int)) = !is.getD k false := by
  unfold giveB
  rw [has_at]
  have h1 : decide ((fr : Int) ≤ (fr : Int) + k) = true := by simp; omega
  have h2 : decide ((fr : Int) + (k : Int) < ((fr + N : Nat) : Int)) = true := by simp; omega
  rw [h1, h2]
  simp
theorem give_out (fr N : Nat) (is : List Bool) (z : Int) (h : ¬ ((fr : Int) ≤ z ∧ z < (fr : Int) + N)) : giveB fr (fr + N) is z = false := by
  unfold giveB
  by_cases h1 : (fr : Int) ≤ z
  · have h2 : decide (z < ((fr + N : Nat) : Int)) = false := decide_eq_false (by omega)
    rw [h2]
    simp
  · simp [h1]
theorem giveS_at (fr N : Nat) (is : List Bool) (k : Nat) (hk : k < N) (h : is.getD k false = false) : giveS fr (fr + N) is ((fr : Int) + (k : Int)) = is.set k true := by
  have e : ((fr : Int) + k - fr).toNat = k := by omega
  unfold giveS
  rw [give_at fr N is k hk, h, e]
  rfl
theorem giveS_no (fr to : Nat) (is : List Bool) (z : Int) (h : giveB fr to is z = false) : giveS fr to is z = is := by
  unfold giveS
  rw [h, if_neg (by simp)]
end Go.Proofs.YtnjjijkcenhebaaDoor
namespace Go.Proofs.YtnjjijkcenhebaaDoor
theorem trues_first {is : List Bool} {m : Nat} {t : List Nat} (h : trues is = m :: t) : is.getD m false = true ∧ m < is.length ∧ ∀ i, i < m → is.getD i false = false := by
  have hm : m ∈ trues is := by rw [h]; simp
  refine ⟨(mem_trues is m).1 hm, trues_lt hm, fun i hi => ?_⟩
  cases hb : is.getD i false with
  | false => rfl
  | true =>
    exfalso
    have h1 : i ∈ trues is := (mem_trues is i).2 hb
    have hp : (trues is).Pairwise (· < ·) := List.Pairwise.filter _ List.pairwise_lt_range
    rw [h] at h1 hp
    rcases List.mem_cons.1 h1 with rfl | h2
    · omega
    · have := (List.pairwise_cons.1 hp).1 i h2
      omega
/-- the k-th of those that were free -/
theorem told_at {is : List Bool} {k : Nat} (hk : k < (trues is).length) : ∃ m t, trues (clear is ((trues is).take k)) = m :: t ∧ (trues is)[k]? = some m := by
  refine ⟨(trues is)[k], (trues is).drop (k + 1), ?_, List.getElem?_eq_getElem hk⟩
  rw [trues_clear_take]
  exact List.drop_eq_getElem_cons hk
theorem told_num (fr : Nat) {is : List Bool} {k c m : Nat} (hk : k < c) (h : (trues is)[k]? = some m) : (ints (nums fr ((trues is).take c)))[k]? = some (.int .i64 ((fr : Int) + m)) := by
  simp [ints, nums, List.getElem?_take, hk, h]
end Go.Proofs.YtnjjijkcenhebaaDoor
