import Derived.Test.YtnmmapjcphefpaaPlMany
import Derived.Test.YtnmmapjcphefpaaGx12
-- TokenLong: what the law's own function tells is true for every two numbers.
namespace Go.Proofs.Ytnmmapjcphefpaa.G
open Go.RowKit Go.Proofs.YtnmmapjcphefpaaW.PrintWords Go.Proofs.YtnmmapjcphefpaaW.PrintLast Go.Proofs.YtnmmapjcphefpaaW.PrintMore
set_option linter.unusedVariables false
set_option linter.unusedSimpArgs false

theorem long5 (m : Int) (h0 : -3 ≤ m) (h1 : m ≤ 3) : Ev (fun k => kilnlaw11_TokenLong.j5 k m false) true := by
  refine Ev.step (f := fun k => _) (fun k => by conv => lhs; unfold kilnlaw11_TokenLong.j5) ?_
  refine Ev.congr (fun k => if_neg (by decide)) ?_
  rw [IntWalk.wrap64_in (65533 + m) (by omega), IntWalk.wrap64_in (16383 + m) (by omega)]
  have s1 : (mk (repB (65533 + m).toNat (bs (⟨#[99]⟩ : ByteArray)))).size = (65533 + m).toNat := by rw [Many_size]; exact Nat.mul_one _
  have s2 : (mk (repB (16383 + m).toNat (bs (⟨#[1]⟩ : ByteArray)))).size = (16383 + m).toNat := by rw [Many_size]; exact Nat.mul_one _
  refine Ev.bind (Many_ev _ _ (by decide) (by omega)) ?_
  refine Ev.bind (Many_ev _ _ (by decide) (by omega)) ?_
  refine Ev.bind (Many_ev _ _ (by decide) (by omega)) ?_
  generalize mk (repB (65533 + m).toNat (bs (⟨#[99]⟩ : ByteArray))) = t at *
  generalize mk (repB (16383 + m).toNat (bs (⟨#[1]⟩ : ByteArray))) = u at *
  refine Ev.bind (prints_ev _ (by simp) (by
    intro x hx
    simp only [List.mem_cons, List.not_mem_nil, or_false] at hx
    rcases hx with rfl | rfl
    · show t.size ≤ _; omega
    · decide)) ?_
  refine Ev.congr (fun k => if_pos rfl) ?_
  refine Ev.bind (prints_ev _ (by simp) (by
    intro x hx
    simp only [List.mem_cons, List.not_mem_nil, or_false] at hx
    rcases hx with rfl | rfl | rfl
    · show u.size ≤ _; omega
    · decide
    · decide)) ?_
  refine Ev.congr (fun k => if_pos rfl) ?_
  refine Ev.bind (f := fun _ t => some t) (prints_ev _ (by simp) (by
    intro x hx
    simp only [List.mem_cons, List.not_mem_nil, or_false] at hx
    rcases hx with rfl | rfl | rfl
    · show t.size ≤ _; omega
    · decide
    · decide)) (Ev.now _)
theorem long4 (m : Int) (h0 : -3 ≤ m) (h1 : m ≤ 3) : Ev (fun k => kilnlaw11_TokenLong.j4 k m false) true := by
  refine Ev.step (f := fun k => _) (fun k => by conv => lhs; unfold kilnlaw11_TokenLong.j4) ?_
  refine Ev.congr (fun k => if_neg (by decide)) ?_
  rw [IntWalk.wrap64_in (65533 + m) (by omega), IntWalk.wrap64_in (65536 + m) (by omega), IntWalk.wrap64_in (65535 + m) (by omega)]
  have s1 : (mk (repB (65533 + m).toNat (bs (⟨#[98]⟩ : ByteArray)))).size = (65533 + m).toNat := by rw [Many_size]; exact Nat.mul_one _
  have s3 : (mk (repB (65535 + m).toNat (bs (⟨#[10]⟩ : ByteArray)))).size = (65535 + m).toNat := by rw [Many_size]; exact Nat.mul_one _
  refine Ev.bind (Many_ev _ _ (by decide) (by omega)) ?_
  refine Ev.congr (fun k => if_pos (by omega)) ?_
  refine Ev.bind (cuts_ev _) ?_
  refine Ev.congr (fun k => if_pos rfl) ?_
  refine Ev.bind (Many_ev _ _ (by decide) (by omega)) ?_
  refine Ev.bind (cuts_ev _) ?_
  refine Ev.congr (fun k => if_pos rfl) ?_
  refine Ev.bind (Many_ev _ _ (by decide) (by omega)) ?_
  refine Ev.congr (fun k => if_pos (by omega)) ?_
  refine Ev.bind (cuts_ev _) ?_
  exact long5 m h0 h1
theorem long3 (n m : Int) (hn0 : 0 ≤ n) (hn1 : n ≤ 600) (h0 : -3 ≤ m) (h1 : m ≤ 3) : Ev (fun k => kilnlaw11_TokenLong.j3 k n m) true := by
  refine Ev.step (f := fun k => _) (fun k => by conv => lhs; unfold kilnlaw11_TokenLong.j3) ?_
  have s1 : (mk (repB n.toNat (bs (⟨#[97]⟩ : ByteArray)))).size = n.toNat := by rw [Many_size]; exact Nat.mul_one _
  refine Ev.bind Told_ev ?_
  refine Ev.congr (fun k => if_pos rfl) ?_
  refine Ev.bind (Many_ev _ _ (by decide) (by omega)) ?_
  refine Ev.congr (fun k => if_pos (by omega)) ?_
  refine Ev.congr (fun k => if_pos (by rw [ByteArray.size_append]; show 2 + _ + 1 ≤ _; omega)) ?_
  refine Ev.bind (cuts_ev _) ?_
  refine Ev.congr (fun k => if_pos rfl) ?_
  refine Ev.bind (Many_ev _ _ (by decide) (by omega)) ?_
  refine Ev.bind (cuts_ev _) ?_
  refine Ev.congr (fun k => if_pos rfl) ?_
  refine Ev.bind (Many_ev _ _ (by decide) (by omega)) ?_
  generalize mk (repB n.toNat (bs (⟨#[97]⟩ : ByteArray))) = t at *
  refine Ev.bind (prints_ev _ (by simp) (by
    intro x hx
    simp only [List.mem_cons, List.not_mem_nil, or_false] at hx
    rcases hx with rfl | rfl
    · show t.size ≤ _; omega
    · decide)) ?_
  exact long4 m h0 h1
theorem long1 (n m : Int) (hn0 : 0 ≤ n) (hn1 : n ≤ 600) : Ev (fun k => kilnlaw11_TokenLong.j1 k n m) true := by
  refine Ev.step (f := fun k => _) (fun k => by conv => lhs; unfold kilnlaw11_TokenLong.j1) ?_
  have hj : ∀ b k, kilnlaw11_TokenLong.j2 (k + 1) n m b = if b = true then (kilnlaw11_TokenLong.j3 k n 0) else (kilnlaw11_TokenLong.j3 k n m) := by
    intro b k
    conv => lhs; unfold kilnlaw11_TokenLong.j2
  have ht : Ev (fun k => kilnlaw11_TokenLong.j2 k n m true) true := Ev.step (f := fun k => kilnlaw11_TokenLong.j3 k n 0) (fun k => by rw [hj, if_pos rfl]) (long3 n 0 hn0 hn1 (by decide) (by decide))
  by_cases a : m < -3
  · exact Ev.congr (fun k => if_pos a) ht
  · refine Ev.congr (fun k => if_neg a) ?_
    by_cases b : m > 3
    · rw [decide_eq_true b]; exact ht
    · rw [decide_eq_false b]
      exact Ev.step (f := fun k => kilnlaw11_TokenLong.j3 k n m) (fun k => by rw [hj, if_neg (by decide)]) (long3 n m hn0 hn1 (by omega) (by omega))
theorem TokenLong_pure : kilnlaw11_TokenLong.Pure := by
  intro n m _ _
  refine Ev.rounds ?_
  unfold kilnlaw11_TokenLong.f
  have hj : ∀ b k, kilnlaw11_TokenLong.j0 (k + 1) n m b = if b = true then (kilnlaw11_TokenLong.j1 k 255 m) else (kilnlaw11_TokenLong.j1 k n m) := by
    intro b k
    conv => lhs; unfold kilnlaw11_TokenLong.j0
  have ht : Ev (fun k => kilnlaw11_TokenLong.j0 k n m true) true := Ev.step (f := fun k => kilnlaw11_TokenLong.j1 k 255 m) (fun k => by rw [hj, if_pos rfl]) (long1 255 m (by decide) (by decide))
  by_cases a : n < 0
  · exact Ev.congr (fun k => if_pos a) ht
  · refine Ev.congr (fun k => if_neg a) ?_
    by_cases b : n > 600
    · rw [decide_eq_true b]; exact ht
    · rw [decide_eq_false b]
      exact Ev.step (f := fun k => kilnlaw11_TokenLong.j1 k n m) (fun k => by rw [hj, if_neg (by decide)]) (long1 n m (by omega) (by omega))
end Go.Proofs.Ytnmmapjcphefpaa.G
namespace Go.Proofs.Ytnmmapjcphefpaa.Pure
theorem TokenLong : G.kilnlaw11_TokenLong.Pure := G.TokenLong_pure
end Go.Proofs.Ytnmmapjcphefpaa.Pure
