-- Printed by wip/graft.py out of the translation, over the kit's print; contracts that it lacks are given by hand.
import Derived.Test.YtnmmapjcphefpaaGx0
import Derived.Test.YtnmmapjcphefpaaKit3
import Derived.Deep.RegionLaw
import Derived.StillTailTactics
namespace Go.Proofs.Ytnmmapjcphefpaa.G
open Go.RowKit Go.Proofs.YtnmmapjcphefpaaW.PrintWords Go.Proofs.YtnmmapjcphefpaaW.PrintLast Go.Proofs.YtnmmapjcphefpaaW.PrintMore
attribute [local go_sem] max2_int min2_int max_two min_two max_three min_three max_four min_four   -- for this text's walks alone
set_option linter.unusedVariables false
set_option linter.unusedSimpArgs false

/-- GRAFT token_reader_join: function 50, by hand. -/
theorem graft_token_reader_join : True := trivial
/-- a list of tokens as cells -/
def tcells (l : List S27) : List Value := l.flatMap fun t => [.int .i64 t.f0, .string t.f1, .int .i64 t.f2, .int .i64 t.f3]
theorem tcells_append (l m : List S27) : tcells (l ++ m) = tcells l ++ tcells m := by simp [tcells]
theorem tcells_one (t : S27) : tcells [t] = [.int .i64 t.f0, .string t.f1, .int .i64 t.f2, .int .i64 t.f3] := by simp [tcells]
/-- the reader's block; its list of tokens -/
def rdT (b : Nat) (s : ByteArray) (line at_ : Int) (v : Value) : Thing := strT b #[.string s, .int .i64 line, .int .i64 at_, v] 70
def tkT (v : Value) (l : List S27) : Thing := rowT v 27 4 l.length (tcells l)
theorem tinfo27 : (Try.prog.info? 27).map (fun i => (i.zero, i.size, i.bytes)) = some (some (.agg #[(.int .i64 0), (.string ⟨#[]⟩), (.int .i64 0), (.int .i64 0)]), 4, 40) := by kernel_rfl
theorem tk_len {B : Nat} {w : World} {L : List Thing} (h : Has B w L) (i : Nat) {v : Value} {l : List S27} (ht : L[i]? = some (tkT v l)) : ∃ ao c, v = .slice ao l.length c := by
  have hP := h.get i ht
  rcases own_form (show w.ownsRow 0 27 4 v l.length (tcells l) from hP) with ⟨rfl, h0, _⟩ | ⟨g, cap, rfl, _⟩
  · exact ⟨none, 0, by rw [h0]⟩
  · exact ⟨_, _, rfl⟩
theorem drew_keeps0 (w : World) : Keeps [] w w.drew := (Keeps.refl [] w).drew
def JoinPost (B b : Nat) (s : ByteArray) (line to_ : Int) (l : List S27) (L : List Thing) (w : World) (e : Ending) (w' : World) : Prop :=
  e = .returned (.tuple #[]) ∧ ∃ v', Has B w' (rdT b s line to_ v' :: tkT v' l :: L) ∧ Below B w w'
set_option maxHeartbeats 4000000 in
set_option maxRecDepth 100000 in
theorem join_calls {B b : Nat} {w : World} {s : ByteArray} {line at_ : Int} {v : Value} {l : List S27} {L : List Thing} (H : Has B w (rdT b s line at_ v :: tkT v l :: L)) (hl : l.length ≤ 1000000) (kind fr to_ : Int) (text : ByteArray) :
    Calls Try.prog 50 #[.pointer (some ⟨b, 0, none⟩), .int .i64 kind, .string text, .int .i64 fr, .int .i64 to_] w (JoinPost B b s line to_ (l ++ [⟨kind, text, line, fr⟩]) L w) := by
  have HD := H.keeps0 (drew_keeps0 w)
  have hBD := keeps_below (B := B) (drew_keeps0 w) (by simp) H.le
  have hb := StrAt.lt (HD.get 0 rfl)
  have d1 : w.drew.cell? ⟨b, 1, none⟩ = some (.int .i64 line) := (StrAt.cell (HD.get 0 rfl) 1).trans rfl
  have d3 : w.drew.cell? ⟨b, 3, none⟩ = some v := (StrAt.cell (HD.get 0 rfl) 3).trans rfl
  have f3 := StrAt.frozen (HD.get 0 rfl) 3
  have q1 : w.cell? ⟨b, 1, none⟩ = some (.int .i64 line) := d1
  have q3 : w.cell? ⟨b, 3, none⟩ = some v := d3
  have hbw : b < w.heap.size := hb
  have hbn : b ≠ w.heap.size := by omega
  clear H
  go_enter Try.func50, Try.ntmps50
  go_wp2_with fail
  go_region_law (first | (refine step_push rfl _ _ 25 27 (.agg #[(.int .i64 0), (.string ⟨#[]⟩), (.int .i64 0), (.int .i64 0)]) 4 40 rfl Try.underlying25 tinfo27 rfl (by omega) (by omega) v l.length (tcells l) #[.int .i64 kind, .string text, .int .i64 line, .int .i64 fr] rfl rfl (by simp) rfl (by simp [Value.oneCell']) (HD.get 1 rfl) (by omega) ?_; intro v6 w6 hown6 hk6 hf6; obtain ⟨g6, p6, rfl, _⟩ := own_some hown6 (by omega); obtain ⟨h6, hB6⟩ := HD.row 1 rfl (e1 := 27) (size1 := 4) (n1 := l.length + 1) (ys := tcells l ++ (#[Value.int .i64 kind, .string text, .int .i64 line, .int .i64 fr] : Array Value).toList) hown6 hk6 hf6; have c6 := (StrAt.cell (h6.get 0 rfl) 3).trans (show _ = some v from rfl); have f6 := StrAt.frozen (h6.get 0 rfl) 3) | fail)
  all_goals
    obtain ⟨h7, hB7⟩ := h6.store 0 rfl 3 (.slice (some ⟨g6, 0, none⟩) (l.length + 1) p6)
    have c7 := (StrAt.cell (h7.get 0 rfl) 2).trans (show _ = some (.int .i64 at_) from rfl)
    have f7 := StrAt.frozen (h7.get 0 rfl) 2
    have c62 := (StrAt.cell (h6.get 0 rfl) 2).trans (show _ = some (.int .i64 at_) from rfl)
    have f62 := StrAt.frozen (h6.get 0 rfl) 2
    obtain ⟨h8, hB8⟩ := h7.store 0 rfl 2 (.int .i64 to_)
    go_wp2
    go_end0
    refine ⟨rfl, .slice (some ⟨g6, 0, none⟩) (l.length + 1) p6, ?_, hBD.trans (hB6.trans (hB7.trans hB8))⟩
    have e1 : tkT (.slice (some ⟨g6, 0, none⟩) (l.length + 1) p6) (l ++ [⟨kind, text, line, fr⟩]) = rowT (.slice (some ⟨g6, 0, none⟩) (l.length + 1) p6) 27 4 (l.length + 1) (tcells l ++ [Value.int .i64 kind, .string text, .int .i64 line, .int .i64 fr]) := by
      simp [tkT, tcells_append, tcells_one]
    rw [e1]
    exact h8

end Go.Proofs.Ytnmmapjcphefpaa.G
