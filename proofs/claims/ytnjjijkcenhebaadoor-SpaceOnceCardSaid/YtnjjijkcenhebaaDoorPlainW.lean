/- SpaceWay's plain law: what is free, from the marks of what is gone. -/
import Derived.Test.YtnjjijkcenhebaaDoorLaw7
set_option linter.unusedVariables false
set_option linter.unusedSimpArgs false
namespace Go.Proofs.YtnjjijkcenhebaaDoor

def negs (gl : List Bool) : List Bool := gl.map fun x => !x
theorem negs_len (gl : List Bool) : (negs gl).length = gl.length := by simp [negs]
theorem negs_get (gl : List Bool) (k : Nat) (x : Bool) (h : gl[k]? = some x) : (negs gl)[k]? = some (!x) := by simp [negs, h]
theorem has_negs (fr : Nat) (gl : List Bool) (k : Nat) (x : Bool) (h : gl[k]? = some x) : hasB fr (negs gl) ((fr : Int) + (k : Int)) = !x := by
  have e : ((fr : Int) + k - fr).toNat = k := by omega
  unfold hasB
  rw [e, List.getD_eq_getElem?_getD, negs_get gl k x h]
  simp
  omega
theorem set_same {α : Type} (l : List α) (k : Nat) (x : α) (h : l[k]? = some x) : l.set k x = l := by
  refine List.ext_getElem? fun i => ?_
  have hk := (List.getElem?_eq_some_iff.1 h).1
  by_cases e : i = k
  · subst e; rw [List.getElem?_set_self hk, h]
  · rw [List.getElem?_set_ne (by omega)]
theorem claim_negs (fr : Nat) (gl : List Bool) (k : Nat) (x : Bool) (h : gl[k]? = some x) : claimS fr (negs gl) ((fr : Int) + (k : Int)) = negs (gl.set k true) := by
  have e : ((fr : Int) + k - fr).toNat = k := by omega
  unfold claimS
  rw [has_negs fr gl k x h, e]
  have e2 : negs (gl.set k true) = (negs gl).set k false := by simp [negs, List.map_set]
  rw [e2]
  cases x with
  | false => simp
  | true =>
    simp only [Bool.not_true, Bool.false_eq_true, if_false]
    exact (set_same _ _ _ (negs_get gl k true h)).symm
theorem clear_range (n : Nat) : ∀ (m : Nat) (l : List Bool), clear l (List.range m) = List.replicate (min m l.length) false ++ l.drop m := by
  intro m
  induction m with
  | zero => intro l; simp [clear]
  | succ m ih =>
    intro l
    have e : clear l (List.range (m + 1)) = (clear l (List.range m)).set m false := by
      unfold clear
      rw [List.range_succ, List.foldl_append]
      rfl
    rw [e, ih l]
    by_cases hm : m < l.length
    · rw [Nat.min_eq_left (by omega), Nat.min_eq_left (by omega), List.drop_eq_getElem_cons hm, List.set_append_right _ _ (by simp)]
      simp only [List.length_replicate, Nat.sub_self, List.set_cons_zero, List.replicate_succ', List.append_assoc, List.cons_append, List.nil_append]
    · rw [Nat.min_eq_right (by omega), Nat.min_eq_right (by omega), List.drop_eq_nil_of_le (by omega), List.drop_eq_nil_of_le (by omega)]
      rw [List.append_nil]
      exact List.set_eq_of_length_le (by simp; omega)
theorem all_full (n : Nat) : takeAllOk (List.replicate n true) (n : Int) = true := by simp [takeAllOk, trues_full]
theorem all_out (fr n : Nat) : (takeAllOut fr (List.replicate n true) (n : Int)).length = n := by simp [takeAllOut, all_full, trues_full, nums]
theorem all_S (n : Nat) : takeAllS (List.replicate n true) (n : Int) = List.replicate n false := by
  unfold takeAllS
  rw [all_full, if_pos rfl, trues_full, List.take_of_length_le (by simp), clear_range n]
  simp
/-- the numbers from the k-th one on are as they stand in gl, those below it are all taken -/
def part (gl : List Bool) (k : Nat) : List Bool := List.replicate k false ++ (negs gl).drop k
theorem part_all (gl : List Bool) : part gl gl.length = List.replicate gl.length false := by
  unfold part
  rw [List.drop_eq_nil_of_le (by rw [negs_len]; omega), List.append_nil]
theorem part_zero (gl : List Bool) : part gl 0 = negs gl := by simp [part]
theorem part_set (gl : List Bool) (k : Nat) (x : Bool) (h : gl[k]? = some x) : (part gl (k + 1)).set k (!x) = part gl k := by
  have hk := (List.getElem?_eq_some_iff.1 (negs_get gl k x h)).1
  have hx := (List.getElem?_eq_some_iff.1 (negs_get gl k x h)).2
  unfold part
  rw [List.replicate_succ', List.append_assoc, List.set_append_right _ _ (by simp), List.drop_eq_getElem_cons hk, hx]
  simp
theorem part_get (gl : List Bool) (k : Nat) : (part gl (k + 1))[k]? = some false := by
  unfold part
  rw [List.getElem?_append_left (by simp), List.getElem?_replicate, if_pos (by omega)]
theorem part_keep (gl : List Bool) (k : Nat) (h : gl[k]? = some true) : part gl (k + 1) = part gl k := by
  have := part_set gl k true h
  rw [← this]
  exact (set_same _ _ _ (part_get gl k)).symm
theorem part_give (fr n : Nat) (gl : List Bool) (k : Nat) (hk : k < n) (h : gl[k]? = some false) : giveB fr (fr + n) (part gl (k + 1)) ((fr : Int) + (k : Int)) = true ∧ giveS fr (fr + n) (part gl (k + 1)) ((fr : Int) + (k : Int)) = part gl k := by
  have e : ((fr : Int) + k - fr).toNat = k := by omega
  have hh : hasB fr (part gl (k + 1)) ((fr : Int) + (k : Int)) = false := by
    unfold hasB
    rw [e, List.getD_eq_getElem?_getD, part_get]
    simp
  have hg : giveB fr (fr + n) (part gl (k + 1)) ((fr : Int) + (k : Int)) = true := by
    unfold giveB
    rw [hh]
    simp
    omega
  refine ⟨hg, ?_⟩
  unfold giveS
  rw [hg, if_pos rfl, e]
  exact part_set gl k false h
end Go.Proofs.YtnjjijkcenhebaaDoor
