/- Of one list of tokens, changed in place between two calls, Print tells each time what it holds then: law TokenAgain returns true. For all arguments that can be read and are together of bulk at most 1048576. -/
import Derived.Test.YtnmmapjcphefpaaKit
import Derived.ProofKit
import Derived.OpenShut
import Derived.Carry
import Derived.Deep.Slices
import Derived.Test.YtnmmapjcphefpaaRows
import Derived.Test.YtnmmapjcphefpaaGx0
import Derived.Lib.SmallJoins
import Derived.WideShapes
import Derived.Test.YtnmmapjcphefpaaPlNorm
import Derived.Test.YtnmmapjcphefpaaGx11
import Derived.Test.YtnmmapjcphefpaaGxhkilnlaw11prints
import Derived.JoinedCond
/- General words for a law's row: what the row asks behind the call, where nothing below the call's own blocks has turned; arguments that are slices of structs of whole numbers. -/
set_option linter.unusedVariables false
set_option linter.unusedSimpArgs false
namespace Go.Proofs.Ytnmmapjcphefpaa
open Go.ChangeShapes Go.WideShapes Go.ChangeAt Go.RowKit

section
variable {H : Type} {enc : TypeId × Value → H} {P : Program}
theorem trodAll_stay (hl : laidOutB P = true) {W W' : World} {sp : Nat → Bool} : ∀ (ts : List TypeId) (vs : List Value) (ds : List (DataW H)) (ps : List MemPlace), (∀ t ∈ ts, P.readableRec t = true ∧ t < P.types.size) →
    DataW.TrodAll enc P W 0 (fun _ => true) true ts vs ds ps → (∀ p ∈ ps, W.sameAt W' p) → (∀ p ∈ ps, sp p.block = true) → DataW.TrodAll enc P W' 0 sp true ts vs ds ps
  | [], [], [], ps, _, h, _, _ => h
  | t :: ts, v :: vs, d :: ds, ps, hr, h, hs, hp => by
    obtain ⟨p, q, h1, h2, rfl⟩ := h
    refine ⟨p, q, ?_, trodAll_stay hl ts vs ds q (fun x hx => hr x (List.mem_cons_of_mem _ hx)) h2 (fun x hx => hs x (List.mem_append_right _ hx)) (fun x hx => hp x (List.mem_append_right _ hx)), rfl⟩
    exact WideElems.Trod_stays hl (hr t (by simp)).1 (hr t (by simp)).2 h1 (fun x hx => hs x (List.mem_append_left _ hx)) (fun x hx => hp x (List.mem_append_left _ hx))
  | [], _ :: _, _, _, _, h, _, _ => h.elim
  | [], [], _ :: _, _, _, h, _, _ => h.elim
  | _ :: _, [], _, _, _, h, _, _ => h.elim
  | _ :: _, _ :: _, [], _, _, h, _, _ => h.elim

/-- a law with no variable among what it is asked of: the arguments read as they read, the answer is true, the old blocks are as they were -/
theorem law_post (hl : laidOutB P = true) {f : Func} {s : ChangeSpec} {W W' : World} {args : Array Value} {ds : List (DataW H)} {before : List MemPlace} {T : TypeId} (hT : P.underlying T = some .bool) (hres : f.resultTypes = #[T])
    (hr : ∀ t ∈ f.params.toList, P.readableRec t = true ∧ t < P.types.size)
    (hspec : s.fn H (ds ++ []) = { results := [.lit (.bool true)], args := ds }) (hvars : s.vars = [])
    (hW : DataW.Whole enc P f.params.toList s.vars false W args.toList ds [] before)
    (hb : Below W.heap.size W W') : s.post enc P f false true false false W args (.bool true) W' := by
  have old : ∀ p ∈ before, p.block < W.heap.size := fun p hp => hW.lt p hp
  have inOld : ∀ p ∈ before, (fun b => decide (b < W.heap.size)) p.block = true := fun p hp => by simpa using old p hp
  have R : ∀ (b : Nat) (sp : Nat → Bool) (hd : Bool), DataW.TrodAll enc P W' b sp hd f.resultTypes.toList ((Value.bool true).resultList f.resultTypes.size) (s.fn H (ds ++ [])).results [] := by
    intro b sp hd
    rw [hspec, hres]
    exact trodAll_cons_mk (shut_bool hT true) trodAll_mk0
  have A : ∀ sp : Nat → Bool, (∀ p ∈ before, sp p.block = true) → DataW.TrodAll enc P W' 0 sp true f.params.toList args.toList (s.fn H (ds ++ [])).args before := by
    intro sp hsp
    rw [hspec]
    obtain ⟨p, q, h1, h2, h3, _, _⟩ := hW
    rw [hvars] at h2
    obtain rfl : q = [] := h2
    rw [List.append_nil] at h3
    subst h3
    exact trodAll_stay hl _ _ _ _ hr h1 (fun x hx => hb.same (old x hx)) hsp
  have V : ∀ sp : Nat → Bool, DataW.TrodVars enc P W' sp s.vars (s.fn H (ds ++ [])).vars [] := by
    intro sp
    rw [hspec, hvars]
    rfl
  refine ⟨ds, [], before, [], before, [], hW, R _ _ _, A _ inOld, V _, World.keptBut_mono (fun p hp => ⟨hp, .inr (by simpa using hp)⟩) (hb.frame (· ∈ before)), fun _ => ⟨fun j t r ht hr => ?_, ?_⟩⟩
  · rw [hres] at ht hr
    match j, ht, hr with
    | 0, ht, hr =>
      simp at ht
      simp [Value.resultList] at hr
      subst ht
      subst hr
      exact okWide_bool_mk hT true
  · obtain ⟨_, _, _, _, _, hz, hn⟩ := hW
    refine ⟨_, _, ([] ++ before) ++ [], ⟨[] ++ before, [], trodAll_append (A _ (fun _ _ => rfl)) (R _ _ _), V _, rfl, ?_, ?_⟩, ?_⟩
    · intro b off hp
      have hin : MemPlace.cell b off ∈ before := by simpa using hp
      exact (hb.frozen (p := ⟨b, off, none⟩) (old _ hin)).trans (hz b off hin)
    · intro ha
      simpa using hn ha
    · intro p hp _
      simpa using hp

/-- a struct of n whole numbers: its cells -/
theorem open_numbers {w : World} {base : Nat} {sp : Nat → Bool} {held : Bool} {e : TypeId} {fs : Array Field} {fuel : Nat} {cs : List Value} {x : DataW H × List MemPlace} (he : P.underlying e = some (.struct fs)) (hC : P.cellsOf e = fs.size)
    (hf : ∀ (j : Nat) (f : Field), fs[j]? = some f → f.offset = j ∧ P.underlying f.type = some (.int .i64) ∧ P.cellsOf f.type = 1) (h : DataW.trod enc P w base sp held fuel e cs = some x) : ∀ j, j < fs.size → ∃ z, cs[j]? = some (.int .i64 z) := by
  intro j hj
  obtain ⟨xs, n, _, _, hlen, hxl, hat⟩ := DataW.trod_struct he h
  obtain ⟨ho, hu, hc⟩ := hf j fs[j] (Array.getElem?_eq_getElem hj)
  have h1 := hat j fs[j] (Array.getElem?_eq_getElem hj)
  rw [ho, hc, List.getElem?_eq_getElem (show j < xs.length by omega)] at h1
  obtain ⟨z, hz, _⟩ := DataW.trod_int hu h1
  refine ⟨z, ?_⟩
  have h2 : ((cs.drop j).take 1)[0]? = some (.int .i64 z) := by rw [hz]; rfl
  simpa [List.getElem?_take, List.getElem?_drop] using h2
/-- a slice of such structs that came in -/
theorem open_numberRows {w : World} {t e : TypeId} {fs : Array Field} {v : Value} {d : DataW H} {ps : List MemPlace} {r : Reach} {b0 : Nat} (ht : P.underlying t = some (.slice e)) (he : P.underlying e = some (.struct fs)) (hC : P.cellsOf e = fs.size)
    (hf : ∀ (j : Nat) (f : Field), fs[j]? = some f → f.offset = j ∧ P.underlying f.type = some (.int .i64) ∧ P.cellsOf f.type = 1)
    (hv : Value.okWide P w r b0 t v) (h : DataW.Trod enc P w 0 (fun _ => true) true t v d ps) :
    (v = .slice none 0 0) ∨ ∃ (a : Addr) (len cap : Nat), v = .slice (some a) len cap ∧ len ≤ cap ∧ cap ≤ maxLen ∧ ∀ i j, i < len → j < fs.size → ∃ z, w.cell? (a.add (i * fs.size + j)) = some (.int .i64 z) := by
  obtain ⟨fuel, hx⟩ := h
  rcases Go.Deep.open_slice ht hx with ⟨h1, _⟩ | ⟨a, len, cap, m, n, D, Pl, h1, _, h2, h3, h4, _, h6⟩
  · left
    obtain ⟨a, n, c, rfl⟩ := okWide_slice ht hv
    simpa [Value.cells] using h1
  · right
    obtain ⟨a', n', c', rfl⟩ := okWide_slice ht hv
    simp [Value.cells] at h1
    obtain ⟨rfl, rfl, rfl⟩ := h1
    refine ⟨a, _, _, rfl, h2, h3, fun i j hi hj => ?_⟩
    simp at h4
    obtain ⟨cs', hc, hr⟩ := h6 i (by omega)
    rw [hC] at hc
    obtain ⟨z, hz⟩ := open_numbers he hC hf hr j hj
    obtain ⟨_, _, hat⟩ := World.cells?_some hc
    have := hat j hj
    rw [hz] at this
    exact ⟨z, by rw [← Go.Deep.add_add]; exact this⟩
end
end Go.Proofs.Ytnmmapjcphefpaa

-- A slice of tokens that comes in, opened: its tokens, and how long their texts are.
namespace Go.Proofs.Ytnmmapjcphefpaa.G
open Go.ChangeShapes Go.WideShapes Go.ChangeAt Go.RowKit Go.Proofs.YtnmmapjcphefpaaW.PrintWords Go.Proofs.YtnmmapjcphefpaaW.PrintLast Go.Proofs.YtnmmapjcphefpaaW.PrintMore
set_option linter.unusedVariables false
set_option linter.unusedSimpArgs false
section
variable {H : Type} {enc : TypeId × Value → H}
theorem tcells3 : Try.prog.cellsOf 3 = 1 := by kernel_rfl
theorem tcells9 : Try.prog.cellsOf 9 = 1 := by kernel_rfl
theorem tcells27 : Try.prog.cellsOf 27 = 4 := by kernel_rfl
/-- one token's cells -/
theorem tok_cells {w : World} {n : Nat} {sp : Nat → Bool} {hd : Bool} {cs : List Value} {x : DataW H × List MemPlace} (h : DataW.trod enc Try.prog w 0 sp hd n 27 cs = some x) :
    ∃ t : S27, cs = [.int .i64 t.f0, .string t.f1, .int .i64 t.f2, .int .i64 t.f3] ∧ t.f1.size ≤ maxLen ∧ ∃ y0 y2 y3, x.1 = .agg [y0, .lit (.string t.f1.data.toList), y2, y3] := by
  obtain ⟨y0, y1, y2, y3, m, hx, hl, h0, h1, h2, h3⟩ := Go.Joins.trod_struct4 Try.underlying27 h
  rw [tcells27] at hl
  obtain ⟨c0, c1, c2, c3, rfl⟩ : ∃ c0 c1 c2 c3, cs = [c0, c1, c2, c3] := by
    match cs, hl with
    | [c0, c1, c2, c3], _ => exact ⟨c0, c1, c2, c3, rfl⟩
  simp only [tcells3, tcells9, List.drop_zero, List.drop_succ_cons, List.take_succ_cons, List.take_zero] at h0 h1 h2 h3
  obtain ⟨z0, hz0, _⟩ := DataW.trod_int Try.underlying3 h0
  obtain ⟨z1, hz1, hq1, hs1⟩ := DataW.trod_string Try.underlying9 h1
  obtain ⟨z2, hz2, _⟩ := DataW.trod_int Try.underlying3 h2
  obtain ⟨z3, hz3, _⟩ := DataW.trod_int Try.underlying3 h3
  simp only [List.cons.injEq, and_true] at hz0 hz1 hz2 hz3
  refine ⟨⟨z0, z1, z2, z3⟩, by rw [hz0, hz1, hz2, hz3], hs1, y0.1, y2.1, y3.1, ?_⟩
  rw [hx, hq1]
theorem bulk_mem {d : DataW H} : ∀ {l : List (DataW H)}, d ∈ l → Rows.uptoBulk d ≤ Rows.uptoBulkAll l := by
  intro l
  induction l with
  | nil => intro h; cases h
  | cons x l ih =>
    intro h
    rw [Rows.uptoBulkAll]
    rcases List.mem_cons.1 h with rfl | h
    · omega
    · have := ih h; omega
theorem bulk_pos (d : DataW H) : 1 ≤ Rows.uptoBulk d := by
  cases d with
  | lit l => cases l <;> simp [Rows.uptoBulk]
  | _ => simp [Rows.uptoBulk]
theorem bulk_len : ∀ (l : List (DataW H)), l.length ≤ Rows.uptoBulkAll l := by
  intro l
  induction l with
  | nil => simp [Rows.uptoBulkAll]
  | cons x l ih => rw [Rows.uptoBulkAll, List.length_cons]; have := bulk_pos x; omega
/-- the argument's tokens -/
theorem open_toks {W : World} {base : Nat} {r : Reach} {v : Value} {d : DataW H} {p : List MemPlace} (hv : Value.okWide Try.prog W r base 25 v) (h : DataW.Trod enc Try.prog W 0 (fun _ => true) true 25 v d p) :
    ∃ (ao : Option Addr) (l : List S27) (c : Nat), v = .slice ao l.length c ∧ l.length ≤ c ∧ c ≤ maxLen ∧ Kd.C k27 W ao l.length l ∧ l.length ≤ Rows.uptoBulk d ∧ ∀ t ∈ l, t.f1.size ≤ Rows.uptoBulk d := by
  obtain ⟨fuel, hx⟩ := h
  obtain ⟨a', n', c', rfl⟩ := okWide_slice Try.underlying25 hv
  rcases Go.Deep.open_slice Try.underlying25 hx with ⟨h1, _⟩ | ⟨a, len, cap, m, n, D, Pl, h1, _, h2, h3, h4, h5, h6⟩
  · simp [Value.cells] at h1
    obtain ⟨rfl, rfl, rfl⟩ := h1
    exact ⟨none, [], 0, rfl, Nat.le_refl _, Nat.zero_le _, ⟨rfl, Nat.zero_le _, fun h => absurd h (Nat.lt_irrefl _)⟩, Nat.zero_le _, fun t ht => by cases ht⟩
  · simp [Value.cells] at h1
    obtain ⟨rfl, rfl, rfl⟩ := h1
    simp only [if_true] at h4
    have hel : ∀ i, i < n' → ∃ t : S27, (∃ cs', W.cells? 0 (a.add (i * 4)) 4 = some cs' ∧ cs' = [.int .i64 t.f0, .string t.f1, .int .i64 t.f2, .int .i64 t.f3]) ∧ t.f1.size ≤ Rows.uptoBulk (D i) := by
      intro i hi
      obtain ⟨cs', hc, hr⟩ := h6 i (by omega)
      rw [tcells27] at hc
      obtain ⟨t, ht, _, y0, y2, y3, hy⟩ := tok_cells hr
      refine ⟨t, ⟨cs', hc, ht⟩, ?_⟩
      have hy' : D i = .agg [y0, .lit (.string t.f1.data.toList), y2, y3] := hy
      rw [hy', Rows.uptoBulk]
      have := bulk_mem (d := (DataW.lit (.string t.f1.data.toList) : DataW H)) (l := [y0, .lit (.string t.f1.data.toList), y2, y3]) (by simp)
      rw [Rows.uptoBulk] at this
      have hsz : t.f1.data.toList.length = t.f1.size := Array.length_toList
      omega
    have hpick : ∃ f : Nat → S27, ∀ i, i < n' → (∃ cs', W.cells? 0 (a.add (i * 4)) 4 = some cs' ∧ cs' = [.int .i64 (f i).f0, .string (f i).f1, .int .i64 (f i).f2, .int .i64 (f i).f3]) ∧ (f i).f1.size ≤ Rows.uptoBulk (D i) := by
      refine ⟨fun i => if hi : i < n' then Classical.choose (hel i hi) else z27, fun i hi => ?_⟩
      simp only [dif_pos hi]
      exact Classical.choose_spec (hel i hi)
    obtain ⟨f, hf⟩ := hpick
    have hlen : ((List.range n').map f).length = n' := by simp
    have hd : d = .slice ((List.range n').map D) ((List.range (m - n')).map fun j => D (n' + j)) := congrArg Prod.fst h5
    have hb : Rows.uptoBulkAll ((List.range n').map D) + 1 ≤ Rows.uptoBulk d := by rw [hd, Rows.uptoBulk]; omega
    refine ⟨some a, (List.range n').map f, c', by rw [hlen], by rw [hlen]; exact h2, h3, ?_, ?_, ?_⟩
    · rw [hlen]
      refine ⟨hlen, by unfold maxLen at h3; omega, fun _ => ⟨a, rfl, fun j t hj => ?_⟩⟩
      have hjl : j < n' := by
        have := (List.getElem?_eq_some_iff.1 hj).1
        rwa [hlen] at this
      have ht : t = f j := by
        rw [List.getElem?_map, List.getElem?_range hjl] at hj
        simpa using hj.symm
      obtain ⟨⟨cs', hc, hcs⟩, _⟩ := hf j hjl
      rw [← ht] at hcs
      subst hcs
      refine ⟨_, rfl, k27_mk W t, fun i u hu => ?_⟩
      obtain ⟨_, _, hat⟩ := World.cells?_some hc
      have hi : i < 4 := (List.getElem?_eq_some_iff.1 hu).1
      have := hat i hi
      rw [Go.Deep.add_add] at this
      rw [← hu]; exact this
    · rw [hlen]
      have := bulk_len ((List.range n').map D)
      simp only [List.length_map, List.length_range] at this
      omega
    · intro t ht
      obtain ⟨i, hi, rfl⟩ := List.mem_map.1 ht
      have hi' := List.mem_range.1 hi
      have h7 := (hf i hi').2
      have h8 := bulk_mem (d := D i) (l := (List.range n').map D) (List.mem_map.2 ⟨i, hi, rfl⟩)
      omega
end
end Go.Proofs.Ytnmmapjcphefpaa.G

-- A slice of whole numbers that comes in, opened; what a row asks of a law that answers true, with a bound.
namespace Go.Proofs.Ytnmmapjcphefpaa.G
open Go.ChangeShapes Go.WideShapes Go.ChangeAt Go.RowKit Go.Proofs.YtnmmapjcphefpaaW.PrintWords Go.Proofs.YtnmmapjcphefpaaW.PrintLast Go.Proofs.YtnmmapjcphefpaaW.PrintMore
set_option linter.unusedVariables false
set_option linter.unusedSimpArgs false
section
variable {H : Type} {enc : TypeId × Value → H}
theorem laidOut : laidOutB Try.prog = true := by kernel_rfl
theorem open_nums {W : World} {base : Nat} {r : Reach} {v : Value} {d : DataW H} {p : List MemPlace} (hv : Value.okWide Try.prog W r base 42 v) (h : DataW.Trod enc Try.prog W 0 (fun _ => true) true 42 v d p) :
    ∃ (ao : Option Addr) (l : List Int) (c : Nat), v = .slice ao l.length c ∧ l.length ≤ c ∧ c ≤ maxLen ∧ Kd.C (Kd.int .i64) W ao l.length l := by
  obtain ⟨fuel, hx⟩ := h
  rcases open_ints Try.underlying42 Try.underlying3 tcells3 hx with ⟨h1, _⟩ | ⟨a, len, cap, zs, h1, _, h2, h3, h4, _, h5, _⟩
  · obtain ⟨a, n, c, rfl⟩ := okWide_slice Try.underlying42 hv
    simp [Value.cells] at h1
    obtain ⟨rfl, rfl, rfl⟩ := h1
    exact ⟨none, [], 0, rfl, Nat.le_refl _, Nat.zero_le _, ⟨rfl, Nat.zero_le _, fun h => absurd h (Nat.lt_irrefl _)⟩⟩
  · obtain ⟨a', n', c', rfl⟩ := okWide_slice Try.underlying42 hv
    simp [Value.cells] at h1
    obtain ⟨rfl, rfl, rfl⟩ := h1
    simp only [if_true] at h4
    have hlen : (zs.take n').length = n' := by rw [List.length_take]; omega
    refine ⟨some a, zs.take n', c', by rw [hlen], by rw [hlen]; exact h2, h3, ?_⟩
    rw [hlen]
    refine ⟨hlen, by unfold maxLen at h3; omega, fun _ => ⟨a, rfl, fun j t hj => ?_⟩⟩
    have hjl : j < n' := by
      have := (List.getElem?_eq_some_iff.1 hj).1
      rwa [hlen] at this
    have hz : zs.getD j 0 = t := by
      rw [List.getElem?_take, if_pos hjl] at hj
      rw [List.getD_eq_getElem?_getD, hj]; rfl
    refine ⟨_, rfl, rfl, fun i u hu => ?_⟩
    have hi : i < 1 := (List.getElem?_eq_some_iff.1 hu).1
    obtain rfl : i = 0 := by omega
    have := h5 j (by omega)
    rw [hz] at this
    simp at hu
    subst hu
    show W.cell? (a.add (j * 1 + 0)) = _
    rw [show j * 1 + 0 = j by omega]
    exact this
end
end Go.Proofs.Ytnmmapjcphefpaa.G

-- TokenAgain: the walk; what it looks at is true at every turn.
namespace Go.Proofs.Ytnmmapjcphefpaa.G
open Go.RowKit Go.Proofs.YtnmmapjcphefpaaW.PrintWords Go.Proofs.YtnmmapjcphefpaaW.PrintLast Go.Proofs.YtnmmapjcphefpaaW.PrintMore
attribute [local go_sem] max2_int min2_int max_two min_two max_three min_three max_four min_four
set_option linter.unusedVariables false
set_option linter.unusedSimpArgs false
theorem print_rounds (xs : List S27) (h : xs.length ≤ 1000) (hs : ∀ t ∈ xs, t.f1.size ≤ 2000000) : ∃ k t e, token_Print.f k xs = some (t, e) ∧ kilnref11_Print.f k xs = some (t, e) := by
  obtain ⟨K1, g1⟩ := Print_ev xs (by omega) (fun t ht => by have := hs t ht; omega)
  obtain ⟨K2, g2⟩ := PrintR_ev xs (by omega) hs
  exact ⟨max K1 K2, (printT xs).1, (printT xs).2, g1 _ (by omega), g2 _ (by omega)⟩
theorem tcells_get (l : List S27) (j : Nat) (t : S27) (h : l[j]? = some t) : (tcells l)[j * 4]? = some (.int .i64 t.f0) ∧ (tcells l)[j * 4 + 1]? = some (.string t.f1) ∧ (tcells l)[j * 4 + 2]? = some (.int .i64 t.f2) ∧ (tcells l)[j * 4 + 3]? = some (.int .i64 t.f3) := by
  induction l generalizing j with
  | nil => simp at h
  | cons u l ih =>
    have e : tcells (u :: l) = [.int .i64 u.f0, .string u.f1, .int .i64 u.f2, .int .i64 u.f3] ++ tcells l := by simp [tcells]
    rw [e]
    cases j with
    | zero => simp at h; subst h; exact ⟨rfl, rfl, rfl, rfl⟩
    | succ j =>
      have := ih j (by simpa using h)
      rw [show (j + 1) * 4 = j * 4 + 4 by omega]
      rw [List.getElem?_append_right (by simp), List.getElem?_append_right (by simp), List.getElem?_append_right (by simp), List.getElem?_append_right (by simp)]
      simp only [List.length_cons, List.length_nil]
      rw [show j * 4 + 4 - (0 + 1 + 1 + 1 + 1) = j * 4 by omega, show j * 4 + 4 + 1 - (0 + 1 + 1 + 1 + 1) = j * 4 + 1 by omega, show j * 4 + 4 + 2 - (0 + 1 + 1 + 1 + 1) = j * 4 + 2 by omega, show j * 4 + 4 + 3 - (0 + 1 + 1 + 1 + 1) = j * 4 + 3 by omega]
      exact this
theorem tcells_len (l : List S27) : (tcells l).length = l.length * 4 := by
  induction l with
  | nil => rfl
  | cons u l ih =>
    have e : tcells (u :: l) = [.int .i64 u.f0, .string u.f1, .int .i64 u.f2, .int .i64 u.f3] ++ tcells l := by simp [tcells]
    rw [e, List.length_append, ih]; simp; omega
theorem tcells_set (l : List S27) (j : Nat) (hj : j < l.length) (t : S27) : ((((tcells l).set (j * 4) (.int .i64 t.f0)).set (j * 4 + 1) (.string t.f1)).set (j * 4 + 2) (.int .i64 t.f2)).set (j * 4 + 3) (.int .i64 t.f3) = tcells (l.set j t) := by
  induction l generalizing j with
  | nil => simp at hj
  | cons u l ih =>
    have e : ∀ (v : S27) (m : List S27), tcells (v :: m) = .int .i64 v.f0 :: .string v.f1 :: .int .i64 v.f2 :: .int .i64 v.f3 :: tcells m := fun v m => by simp [tcells]
    rw [e]
    cases j with
    | zero =>
      show _ = tcells (t :: l)
      rw [e]; rfl
    | succ j =>
      rw [List.set_cons_succ, e, ← ih j (by simpa using hj)]
      rw [show (j + 1) * 4 = j * 4 + 4 by omega, show j * 4 + 4 + 1 = (j * 4 + 1) + 4 by omega, show j * 4 + 4 + 2 = (j * 4 + 2) + 4 by omega, show j * 4 + 4 + 3 = (j * 4 + 3) + 4 by omega]
      rfl
theorem row_C {W : World} {g cap : Nat} {l : List S27} (h : RowAt W g 27 4 l.length cap (tcells l)) (hl : l.length ≤ 1000000000) : Kd.C k27 W (some ⟨g, 0, none⟩) l.length l := by
  refine ⟨rfl, by omega, fun _ => ⟨_, rfl, fun j t hj => ⟨_, rfl, k27_mk W t, fun i u hu => ?_⟩⟩⟩
  have hjl := (List.getElem?_eq_some_iff.1 hj).1
  have hi : i < 4 := (List.getElem?_eq_some_iff.1 hu).1
  have ea : (⟨g, 0, none⟩ : Addr).add (j * k27.sz + i) = ⟨g, j * 4 + i, none⟩ := by
    have e1 : j * k27.sz + i = j * 4 + i := rfl
    rw [e1]; unfold Addr.add; split <;> simp_all
  rw [ea, RowAt.cell h (j * 4 + i) (by omega)]
  obtain ⟨g0, g1, g2, g3⟩ := tcells_get l j t hj
  have h4 : i = 0 ∨ i = 1 ∨ i = 2 ∨ i = 3 := by omega
  rcases h4 with rfl | rfl | rfl | rfl
  · rw [← hu]; exact g0
  · rw [← hu]; exact g1
  · rw [← hu]; exact g2
  · rw [← hu]; exact g3
theorem R_row {w : World} {B : Nat} {g cap n : Nat} {l : List S27} (hl : l.length = n) (h : Kd.R k27 27 w B (fun _ => True) (.slice (some ⟨g, 0, none⟩) n cap) l) (hB : B ≤ w.heap.size) : RowAt w g 27 4 n cap (tcells l) := by
  have h1 := (R_has h hB).get 0 rfl
  subst hl
  exact h1
theorem at_num {w : World} {A : Option Addr} {n : Nat} {xs : List Int} (h : (Kd.int .i64).C w A n xs) (i : Int) (h0 : 0 ≤ i) (h1 : i < n) : ∃ ad, A = some ad ∧ w.cell? (ad.add i.toNat) = some (.int .i64 (rd xs i)) := by
  obtain ⟨ad, c, e, hs, hr, hc⟩ := ReadsRow.get_ h 0 i h0 h1
  refine ⟨ad, e, ?_⟩
  have hr' : c = [.int .i64 (xs.getD i.toNat 0)] := hr
  have := hc 0 (.int .i64 (xs.getD i.toNat 0)) (by rw [hr']; rfl)
  have e1 : i.toNat * (Kd.int .i64).sz + 0 = i.toNat := Nat.mul_one _
  rw [e1] at this
  exact this
/-- what stands at each turn -/
def AgInv (B g cap n : Nat) (xs : List S27) (w w' : World) : Prop :=
  xs.length = n ∧ RowAt w' g 27 4 (n + 3) cap (tcells (xs ++ marks3)) ∧ Below B w w' ∧ B ≤ g ∧ ∀ t ∈ xs, t.f1.size ≤ 2000000
theorem AgInv.base {B g cap n m : Nat} {xs : List S27} {w w' : World} (h : AgInv B g cap n xs w (w'.drewN m)) : AgInv B g cap n xs w w' := ⟨h.1, h.2.1, ⟨h.2.2.1.os, h.2.2.1.tape, h.2.2.1.output, h.2.2.1.size, h.2.2.1.block⟩, h.2.2.2⟩
theorem tcells_text (l : List S27) (j : Nat) (t : S27) (h : l[j]? = some t) (s : ByteArray) : (tcells l).set (j * 4 + 1) (.string s) = tcells (l.set j ⟨t.f0, s, t.f2, t.f3⟩) := by
  induction l generalizing j with
  | nil => simp at h
  | cons u l ih =>
    have e : ∀ (v : S27) (m : List S27), tcells (v :: m) = .int .i64 v.f0 :: .string v.f1 :: .int .i64 v.f2 :: .int .i64 v.f3 :: tcells m := fun v m => by simp [tcells]
    cases j with
    | zero =>
      simp at h
      subst h
      show _ = tcells (⟨u.f0, s, u.f2, u.f3⟩ :: l)
      rw [e, e]; rfl
    | succ j =>
      rw [List.set_cons_succ, e, e, ← ih j (by simpa using h)]
      rw [show (j + 1) * 4 + 1 = (j * 4 + 1) + 4 by omega]
      rfl
theorem ag_store {B g cap n m J : Nat} {xs : List S27} {w w' : World} (h : AgInv B g cap n xs w w') (hJ : J < n) (t : S27) (ht : t.f1.size ≤ 2000000) (hB : B ≤ w.heap.size) :
    AgInv B g cap n (xs.set J t) w (((((w'.drewN m).setCell ⟨g, J * 4, none⟩ (.int .i64 t.f0)).setCell ⟨g, J * 4 + 1, none⟩ (.string t.f1)).setCell ⟨g, J * 4 + 2, none⟩ (.int .i64 t.f2)).setCell ⟨g, J * 4 + 3, none⟩ (.int .i64 t.f3)) := by
  obtain ⟨h1, h2, h3, h4, h5⟩ := h
  refine ⟨by rw [List.length_set]; exact h1, ?_, ?_, h4, fun u hu => ?_⟩
  · have := RowAt.set (RowAt.set (RowAt.set (RowAt.set (h2.drewN m) (J * 4) (.int .i64 t.f0)) (J * 4 + 1) (.string t.f1)) (J * 4 + 2) (.int .i64 t.f2)) (J * 4 + 3) (.int .i64 t.f3)
    rw [tcells_set (xs ++ marks3) J (by rw [List.length_append]; omega) t, List.set_append_left _ _ (by omega)] at this
    exact this
  · exact (below_dn h3).trans (keeps_below (((((Keeps.refl [g] (w'.drewN m)).setCell (by simp) _).setCell (by simp) _).setCell (by simp) _).setCell (by simp) _) (by simpa using h4) (Nat.le_trans hB h3.size))
  · rcases List.mem_or_eq_of_mem_set hu with hu | rfl
    · exact h5 u hu
    · exact ht
theorem ag_text {B g cap n m J : Nat} {xs : List S27} {w w' : World} (h : AgInv B g cap n xs w w') (t : S27) (hJ : xs[J]? = some t) (s : ByteArray) (hs : s.size ≤ 2000000) (hB : B ≤ w.heap.size) :
    AgInv B g cap n (xs.set J ⟨t.f0, s, t.f2, t.f3⟩) w ((w'.drewN m).setCell ⟨g, J * 4 + 1, none⟩ (.string s)) := by
  obtain ⟨h1, h2, h3, h4, h5⟩ := h
  have hJl := (List.getElem?_eq_some_iff.1 hJ).1
  refine ⟨by rw [List.length_set]; exact h1, ?_, ?_, h4, fun u hu => ?_⟩
  · have := RowAt.set (h2.drewN m) (J * 4 + 1) (.string s)
    rw [tcells_text (xs ++ marks3) J t (by rw [List.getElem?_append_left hJl]; exact hJ) s, List.set_append_left _ _ hJl] at this
    exact this
  · exact (below_dn h3).trans (keeps_below ((Keeps.refl [g] (w'.drewN m)).setCell (by simp) _) (by simpa using h4) (Nat.le_trans hB h3.size))
  · rcases List.mem_or_eq_of_mem_set hu with hu | rfl
    · exact h5 u hu
    · exact hs
def AgPost (w : World) (e : Ending) (w' : World) : Prop := e = .returned (.bool true) ∧ Below w.heap.size w w'
set_option maxHeartbeats 8000000 in
set_option maxRecDepth 100000 in
theorem again_short (A0 : Option Addr) (c0 : Nat) (l0 : List S27) (A1 : Option Addr) (c1 : Nat) (l1 : List Int) (A2 : Option Addr) (c2 : Nat) (l2 : List S27) (w : World)
    (hr0 : Kd.C k27 w A0 l0.length l0) (hc0 : l0.length ≤ c0) (hr1 : Kd.C (Kd.int .i64) w A1 l1.length l1) (hc1 : l1.length ≤ c1) (hr2 : Kd.C k27 w A2 l2.length l2) (hc2 : l2.length ≤ c2)
    (ht0 : ∀ t ∈ l0, t.f1.size ≤ 2000000) (ht2 : ∀ t ∈ l2, t.f1.size ≤ 2000000) (hs : l0.length ≤ 100) :
    Calls Try.prog 12 #[.slice A0 l0.length c0, .slice A1 l1.length c1, .slice A2 l2.length c2] w (AgPost w) := by
  obtain ⟨kt, hT⟩ := Ev.rounds Told_ev
  have hnl : l0.length ≤ 100 := hs
  have cs0 : decide ((l0.length : Int) > 100) = false := decide_eq_false (by omega)
  have cs1 : decide (100 < (l0.length : Int)) = false := cs0
  have cs2 : ((100 : Int) < (l0.length : Int)) = False := eq_false (by omega)
  clear hs
  have HT := Lib.hid hT
  have H0 := Lib.hid hr0
  have C0 := Lib.hid hc0
  have H1 := Lib.hid hr1
  have C1 := Lib.hid hc1
  have H2 := Lib.hid hr2
  have C2 := Lib.hid hc2
  have HL := Lib.hid hnl
  have T0 := Lib.hid ht0
  have T2 := Lib.hid ht2
  clear hT hr0 hc0 hr1 hc1 hr2 hc2 hnl ht0 ht2
  go_enter Try.func12, Try.ntmps12
  go_wp2_with fail
  refine (kilnlaw11_Told.calls kt true w HT.out).mono ?_
  rintro e w1 ⟨rfl, hb1⟩
  have B1 := Lib.hid hb1
  clear hb1
  go_wp2_with fail
  refine (laid_calls A0 c0 l0 w1 (Kd.C_below H0.out B1.out) (by have := HL.out; omega)).mono ?_
  rintro e w3 ⟨A', cap, hcap, rfl, hR, hb3⟩
  have hml : (l0 ++ marks3).length = l0.length + 3 := by rw [List.length_append]; rfl
  have hown := (R_has hR hb3.size).get 0 rfl
  obtain ⟨g, cap', hv, _⟩ := own_some (show w3.ownsRow 0 27 4 (.slice A' (l0.length + 3) cap) (l0 ++ marks3).length (tcells (l0 ++ marks3)) from hown) (by rw [hml]; omega)
  have hg : w1.heap.size ≤ g := (R_has hR hb3.size).ge g (by rw [hml] at hv; simp [fps, tkT, rowT, hv, Value.ownBlock])
  obtain ⟨rfl, rfl⟩ : A' = some ⟨g, 0, none⟩ ∧ cap = cap' := by
    simp only [Value.slice.injEq] at hv
    exact ⟨hv.1, hv.2.2⟩
  have hrow := R_row hml hR hb3.size
  have INV := Lib.hid (show AgInv w.heap.size g cap l0.length l0 w w3 from ⟨rfl, hrow, B1.out.trans (hb3.mono B1.out.size), Nat.le_trans B1.out.size hg, T0.out⟩)
  have HCAP := Lib.hid hcap
  obtain ⟨n, hn⟩ : ∃ n, n = l0.length := ⟨_, rfl⟩
  rw [← hn] at INV HL HCAP
  clear hR hb3 hv hg hrow hcap hml hown
  rw [← hn]
  clear hn
  go_wp2_with fail
  go_loopg [8] 22 (fun q s8 wr => ∃ (i : Nat) (xs : List S27), s8 = .int .i64 (i : Int) ∧ Hid (q + i = 22) ∧ Hid (AgInv w.heap.size g cap n xs w wr))
  case atStart => exact ⟨0, l0, rfl, Lib.hid rfl, INV⟩
  case round =>
    clear INV
    obtain ⟨i, xs, rfl, HQ, INV⟩ := hrel
    have hn := INV.out.1
    subst hn
    by_cases hi : i ≤ l1.length ∧ i ≤ 20
    · cases gk with
      | zero => exact absurd HQ.out (by omega)
      | succ k1 =>
      have HI := Lib.hid hi
      have d1 : decide ((i : Int) ≤ (l1.length : Int)) = true := decide_eq_true (by omega)
      have d1b : decide (i ≤ l1.length) = true := decide_eq_true hi.1
      have d2 : decide ((i : Int) ≤ 20) = true := decide_eq_true (by omega)
      obtain ⟨kx, t, er, hx1, hx2⟩ := print_rounds xs (by have := HL.out; omega) INV.out.2.2.2.2
      have X1 := Lib.hid hx1
      have X2 := Lib.hid hx2
      have hml : (xs ++ marks3).length = xs.length + 3 := by rw [List.length_append]; rfl
      have hCx := row_C (l := xs ++ marks3) (by have := INV.out.2.1; rw [hml]; exact this) (by rw [hml]; have := HL.out; omega)
      have CX := Lib.hid hCx
      have hT := Kd.C_take (m := xs.length) hCx (by simp)
      rw [List.take_left] at hT
      have CT := Lib.hid hT
      clear hx1 hx2 hCx hT hml hi
      go_wp2_with (at_builtin; refine Kd.R_append_rows k27 (w0 := wr) wr.heap.size rfl (.const (.slice none 0 0)) (.tmp 34) 25 27 (.agg #[(.int .i64 0), (.string ⟨#[]⟩), (.int .i64 0), (.int .i64 0)]) 40 rfl Try.underlying25 info27 rfl (by decide) (by omega) (.slice none 0 0) ([] : List S27) xs _ _ _ (fun _ => True) (fun _ => False) rfl rfl (Kd.R_nil _ _ _ _ (fun _ => True)) CT.out (fun _ _ h => h) (fun _ h => h.elim) (fun _ _ => trivial) (Below.refl _ _) (Nat.le_refl _) (by have := HL.out; simp; omega) ?_)
      intro v4 w4 ho hb4 hg4 hat
      have ho : Kd.R k27 27 w4 wr.heap.size (fun _ => True) v4 xs := ho
      have hown := (R_has ho hb4.size).get 0 rfl
      obtain ⟨A9, c9, rfl, hl9, hC9⟩ : ∃ A c, v4 = .slice A xs.length c ∧ xs.length ≤ c ∧ Kd.C k27 w4 A xs.length xs := Kd.R_reads ho
      have L9 := Lib.hid hl9
      have C9 := Lib.hid hC9
      have B4 := Lib.hid hb4
      clear ho hb4 hg4 hat hl9 hC9 hown
      go_wp2_with fail
      refine (token_Print.calls kx (some ⟨g, 0, none⟩) cap xs t er w4 (Kd.C_below CT.out B4.out) (by have := HCAP.out; omega) X1.out).mono ?_
      rintro e w5 ⟨rfl, hb5⟩
      have B5 := Lib.hid (B4.out.trans (hb5.mono B4.out.size))
      have C9b := Lib.hid (Kd.C_below C9.out hb5)
      clear hb5 C9
      go_wp2_with fail
      refine (kilnref11_Print.calls kx A9 c9 xs t er w5 C9b.out L9.out X2.out).mono ?_
      rintro e w6 ⟨rfl, hb6⟩
      have B6 := Lib.hid (B5.out.trans (hb6.mono B5.out.size))
      have C9c := Lib.hid (Kd.C_below C9b.out hb6)
      clear hb6 C9b
      go_wp2_with fail
      refine (intact_calls ⟨g, 0, none⟩ cap A9 c9 xs w6 HCAP.out (Kd.C_below CX.out B6.out) C9c.out (by have := HL.out; omega) L9.out).mono ?_
      rintro e w7 ⟨rfl, ⟨⟨m7, rfl⟩⟩⟩
      have I7 := Lib.hid (show AgInv w.heap.size g cap xs.length xs w (w6.drewN m7) from ⟨rfl, (RowAt.keeps INV.out.2.1 (Keeps.of_below B6.out) (by simp)).drewN _, below_dn (INV.out.2.2.1.trans (B6.out.mono INV.out.2.2.1.size)), INV.out.2.2.2⟩)
      by_cases hu : i < l1.length ∧ i < l2.length ∧ 0 < xs.length
      · obtain ⟨u1, u2, u3⟩ := hu
        have f1 : decide ((i : Int) < (l1.length : Int)) = true := decide_eq_true (by omega)
        have f1b : decide (i < l1.length) = true := decide_eq_true u1
        have f2 : decide ((i : Int) < (l2.length : Int)) = true := decide_eq_true (by omega)
        have f2b : decide (i < l2.length) = true := decide_eq_true u2
        have f3 : decide (0 < (xs.length : Int)) = true := decide_eq_true (by omega)
        have f3b : decide (0 < xs.length) = true := decide_eq_true u3
        have f4 : ((xs.length : Int) == 0) = false := beq_false_of_ne (by omega)
        have p0 : (0 ≤ (i : Int)) = True := eq_true (Int.natCast_nonneg _)
        have q1 : ((i : Int) < (l1.length : Int)) = True := eq_true (by omega)
        have q2 : ((i : Int) < (l2.length : Int)) = True := eq_true (by omega)
        obtain ⟨ad1, e1, x1⟩ := at_num (Kd.C_below H1.out I7.out.2.2.1) (i : Int) (Int.natCast_nonneg _) (by omega)
        obtain ⟨ad2, e2, y0, y1, y2, y3⟩ := at_T27 (Kd.C_below H2.out I7.out.2.2.1) (i : Int) (Int.natCast_nonneg _) (by omega)
        have hby := T2.out _ (rd_drop l2 (i : Int) (Int.natCast_nonneg _) (by omega)).2
        generalize rd_T27 l2 (i : Int) = tb at y0 y1 y2 y3 hby
        cases e1
        cases e2
        simp only [Int.toNat_natCast] at x1 y0 y1 y2 y3
        obtain ⟨m, hm⟩ : ∃ m : Int, Int.tmod (rd l1 (i : Int)) (xs.length : Int) = m := ⟨_, rfl⟩
        have hm1 : m < (xs.length : Int) := by rw [← hm]; exact Int.tmod_lt_of_pos _ (by omega)
        have hm2 : -(xs.length : Int) < m := by
          have := Int.tmod_lt_of_pos (-(rd l1 (i : Int))) (show 0 < (xs.length : Int) by omega)
          rw [Int.neg_tmod, hm] at this
          omega
        have HM := Lib.hid (And.intro hm1 hm2)
        have HBY := Lib.hid hby
        clear hm1 hm2 u1 u2 hby
        by_cases hneg : m < 0
        · have g1 : decide (m < 0) = true := decide_eq_true hneg
          obtain ⟨J, hJ1, hJ2⟩ : ∃ J : Nat, m + (xs.length : Int) = (J : Int) ∧ J < xs.length := ⟨(m + (xs.length : Int)).toNat, by have := HM.out; omega, by have := HM.out; omega⟩
          have hw : wrap64 (m + (xs.length : Int)) = (J : Int) := by rw [IntWalk.wrap64_in _ (by have := HL.out; omega)]; exact hJ1
          have hw2 : IntKind.i64.wrap (m + (xs.length : Int)) = (J : Int) := (i64_w _).trans hw
          clear hneg hJ1
          have pJ : (0 ≤ (J : Int)) = True := eq_true (Int.natCast_nonneg _)
          have qJ : ((J : Int) < (xs.length : Int)) = True := eq_true (by omega)
          obtain ⟨z0, z1, z2, z3⟩ := tcells_get (xs ++ marks3) J (xs[J]) (by rw [List.getElem?_append_left hJ2, List.getElem?_eq_getElem hJ2])
          have r0 : w6.cell? ⟨g, J * 4, none⟩ = _ := (RowAt.cell I7.out.2.1 (J * 4) (by omega)).trans z0
          have r1 : w6.cell? ⟨g, J * 4 + 1, none⟩ = _ := (RowAt.cell I7.out.2.1 (J * 4 + 1) (by omega)).trans z1
          have r2 : w6.cell? ⟨g, J * 4 + 2, none⟩ = _ := (RowAt.cell I7.out.2.1 (J * 4 + 2) (by omega)).trans z2
          have r3 : w6.cell? ⟨g, J * 4 + 3, none⟩ = _ := (RowAt.cell I7.out.2.1 (J * 4 + 3) (by omega)).trans z3
          have s0 : w6.frozen? ⟨g, J * 4, none⟩ = false := RowAt.frozen I7.out.2.1 _
          have s1 : w6.frozen? ⟨g, J * 4 + 1, none⟩ = false := RowAt.frozen I7.out.2.1 _
          have s2 : w6.frozen? ⟨g, J * 4 + 2, none⟩ = false := RowAt.frozen I7.out.2.1 _
          have s3 : w6.frozen? ⟨g, J * 4 + 3, none⟩ = false := RowAt.frozen I7.out.2.1 _
          clear z0 z1 z2 z3
          go_wp2_with fail
          have I8 := ag_store (m := m7) (AgInv.base I7.out) hJ2 tb HBY.out (Nat.le_refl _)
          generalize hW4 : World.setCell (World.setCell (World.setCell (World.setCell (w6.drewN m7) _ _) _ _) _ _) _ _ = W4 at I8 ⊢
          have I8 := Lib.hid I8
          clear hW4 r0 r1 r2 r3 s0 s1 s2 s3
          refine (kilnlaw11_cut.calls _ 300 _ _ (cut_is tb.f1 300 (by decide))).mono ?_
          rintro e w8 ⟨rfl, ⟨⟨m8, rfl⟩⟩⟩
          have hget : (xs.set J tb)[J]? = some tb := by rw [List.getElem?_set_self hJ2]
          obtain ⟨_, z1, _, _⟩ := tcells_get (xs.set J tb ++ marks3) J tb (by rw [List.getElem?_append_left (by rw [List.length_set]; exact hJ2)]; exact hget)
          have r1 : W4.cell? ⟨g, J * 4 + 1, none⟩ = _ := (RowAt.cell I8.out.2.1 (J * 4 + 1) (by omega)).trans z1
          have s1 : W4.frozen? ⟨g, J * 4 + 1, none⟩ = false := RowAt.frozen I8.out.2.1 _
          have hcs : (mk ((bs tb.f1).take (300 : Int).toNat)).size ≤ 2000000 := by
            rw [mk_size, List.length_take]
            have : (300 : Int).toNat = 300 := rfl
            omega
          have I9 := Lib.hid (ag_text (m := m8) I8.out tb hget _ hcs (Nat.le_refl _))
          clear z1 hget hcs
          go_wp2_with fail
          have hwi : wrap64 ((i : Int) + 1) = ((i + 1 : Nat) : Int) := by rw [IntWalk.wrap64_in _ (by have := HI.out; omega)]; omega
          go_roundg k1
          case rel => exact ⟨i + 1, _, by rw [hwi], Lib.hid (by have := HQ.out; omega), I9⟩
          case measure => exact Nat.lt_succ_self _
        · have g1 : decide (m < 0) = false := decide_eq_false hneg
          obtain ⟨J, hJ1, hJ2⟩ : ∃ J : Nat, m = (J : Int) ∧ J < xs.length := ⟨m.toNat, by omega, by have := HM.out; omega⟩
          subst hJ1
          clear hneg
          have pJ : (0 ≤ (J : Int)) = True := eq_true (Int.natCast_nonneg _)
          have qJ : ((J : Int) < (xs.length : Int)) = True := eq_true (by omega)
          obtain ⟨z0, z1, z2, z3⟩ := tcells_get (xs ++ marks3) J (xs[J]) (by rw [List.getElem?_append_left hJ2, List.getElem?_eq_getElem hJ2])
          have r0 : w6.cell? ⟨g, J * 4, none⟩ = _ := (RowAt.cell I7.out.2.1 (J * 4) (by omega)).trans z0
          have r1 : w6.cell? ⟨g, J * 4 + 1, none⟩ = _ := (RowAt.cell I7.out.2.1 (J * 4 + 1) (by omega)).trans z1
          have r2 : w6.cell? ⟨g, J * 4 + 2, none⟩ = _ := (RowAt.cell I7.out.2.1 (J * 4 + 2) (by omega)).trans z2
          have r3 : w6.cell? ⟨g, J * 4 + 3, none⟩ = _ := (RowAt.cell I7.out.2.1 (J * 4 + 3) (by omega)).trans z3
          have s0 : w6.frozen? ⟨g, J * 4, none⟩ = false := RowAt.frozen I7.out.2.1 _
          have s1 : w6.frozen? ⟨g, J * 4 + 1, none⟩ = false := RowAt.frozen I7.out.2.1 _
          have s2 : w6.frozen? ⟨g, J * 4 + 2, none⟩ = false := RowAt.frozen I7.out.2.1 _
          have s3 : w6.frozen? ⟨g, J * 4 + 3, none⟩ = false := RowAt.frozen I7.out.2.1 _
          clear z0 z1 z2 z3
          go_wp2_with fail
          have I8 := ag_store (m := m7) (AgInv.base I7.out) hJ2 tb HBY.out (Nat.le_refl _)
          generalize hW4 : World.setCell (World.setCell (World.setCell (World.setCell (w6.drewN m7) _ _) _ _) _ _) _ _ = W4 at I8 ⊢
          have I8 := Lib.hid I8
          clear hW4 r0 r1 r2 r3 s0 s1 s2 s3
          refine (kilnlaw11_cut.calls _ 300 _ _ (cut_is tb.f1 300 (by decide))).mono ?_
          rintro e w8 ⟨rfl, ⟨⟨m8, rfl⟩⟩⟩
          have hget : (xs.set J tb)[J]? = some tb := by rw [List.getElem?_set_self hJ2]
          obtain ⟨_, z1, _, _⟩ := tcells_get (xs.set J tb ++ marks3) J tb (by rw [List.getElem?_append_left (by rw [List.length_set]; exact hJ2)]; exact hget)
          have r1 : W4.cell? ⟨g, J * 4 + 1, none⟩ = _ := (RowAt.cell I8.out.2.1 (J * 4 + 1) (by omega)).trans z1
          have s1 : W4.frozen? ⟨g, J * 4 + 1, none⟩ = false := RowAt.frozen I8.out.2.1 _
          have hcs : (mk ((bs tb.f1).take (300 : Int).toNat)).size ≤ 2000000 := by
            rw [mk_size, List.length_take]
            have : (300 : Int).toNat = 300 := rfl
            omega
          have I9 := Lib.hid (ag_text (m := m8) I8.out tb hget _ hcs (Nat.le_refl _))
          clear z1 hget hcs
          go_wp2_with fail
          have hwi : wrap64 ((i : Int) + 1) = ((i + 1 : Nat) : Int) := by rw [IntWalk.wrap64_in _ (by have := HI.out; omega)]; omega
          go_roundg k1
          case rel => exact ⟨i + 1, _, by rw [hwi], Lib.hid (by have := HQ.out; omega), I9⟩
          case measure => exact Nat.lt_succ_self _
      · have hwi : wrap64 ((i : Int) + 1) = ((i + 1 : Nat) : Int) := by rw [IntWalk.wrap64_in _ (by have := HI.out; omega)]; omega
        have HF := Lib.hid (show ∃ (i' : Nat) (xs' : List S27), (Value.int .i64 (wrap64 ((i : Int) + 1))) = .int .i64 (i' : Int) ∧ Hid (k1 + i' = 22) ∧ Hid (AgInv w.heap.size g cap xs.length xs' w (w6.drewN m7)) from ⟨i + 1, xs, by rw [hwi], Lib.hid (by have := HQ.out; omega), I7⟩)
        by_cases u1 : i < l1.length
        · have f1 : decide ((i : Int) < (l1.length : Int)) = true := decide_eq_true (by omega)
          have f1b : decide (i < l1.length) = true := decide_eq_true u1
          by_cases u2 : i < l2.length
          · have f2 : decide ((i : Int) < (l2.length : Int)) = true := decide_eq_true (by omega)
            have f2b : decide (i < l2.length) = true := decide_eq_true u2
            have u3 : ¬ 0 < xs.length := fun h => hu ⟨u1, u2, h⟩
            have f3 : decide (0 < (xs.length : Int)) = false := decide_eq_false (by omega)
            have f3b : decide (0 < xs.length) = false := decide_eq_false u3
            clear u1 u2 u3 hu
            go_wp2_with fail
            go_roundg k1
            case rel => exact HF.out
            case measure => exact Nat.lt_succ_self _
          · have f2 : decide ((i : Int) < (l2.length : Int)) = false := decide_eq_false (by omega)
            have f2b : decide (i < l2.length) = false := decide_eq_false u2
            clear u1 u2 hu
            go_wp2_with fail
            go_roundg k1
            case rel => exact HF.out
            case measure => exact Nat.lt_succ_self _
        · have f1 : decide ((i : Int) < (l1.length : Int)) = false := decide_eq_false (by omega)
          have f1b : decide (i < l1.length) = false := decide_eq_false u1
          clear u1 hu
          go_wp2_with fail
          go_roundg k1
          case rel => exact HF.out
          case measure => exact Nat.lt_succ_self _
    · have HF := Lib.hid (show AgPost w (.returned (.bool true)) wr from ⟨rfl, INV.out.2.2.1⟩)
      by_cases u1 : i ≤ l1.length
      · have u2 : ¬ i ≤ 20 := fun h => hi ⟨u1, h⟩
        have f1 : decide ((i : Int) ≤ (l1.length : Int)) = true := decide_eq_true (by omega)
        have f1b : decide (i ≤ l1.length) = true := decide_eq_true u1
        have f2 : decide ((i : Int) ≤ 20) = false := decide_eq_false (by omega)
        clear u1 u2 hi
        go_wp2
        go_ret
        exact HF.out
      · have f1 : decide ((i : Int) ≤ (l1.length : Int)) = false := decide_eq_false (by omega)
        have f1b : decide (i ≤ l1.length) = false := decide_eq_false u1
        clear u1 hi
        go_wp2
        go_ret
        exact HF.out
set_option maxHeartbeats 8000000 in
set_option maxRecDepth 100000 in
theorem again_long (A0 : Option Addr) (c0 : Nat) (n0 : Nat) (l0 : List S27) (A1 : Option Addr) (c1 : Nat) (l1 : List Int) (A2 : Option Addr) (c2 : Nat) (l2 : List S27) (w : World)
    (hr0 : Kd.C k27 w A0 l0.length l0) (hc0 : l0.length ≤ c0) (hr1 : Kd.C (Kd.int .i64) w A1 l1.length l1) (hc1 : l1.length ≤ c1) (hr2 : Kd.C k27 w A2 l2.length l2) (hc2 : l2.length ≤ c2)
    (ht0 : ∀ t ∈ l0, t.f1.size ≤ 2000000) (ht2 : ∀ t ∈ l2, t.f1.size ≤ 2000000) (hn0 : 100 < n0) (hl : l0.length = 100) :
    Calls Try.prog 12 #[.slice A0 n0 c0, .slice A1 l1.length c1, .slice A2 l2.length c2] w (AgPost w) := by
  obtain ⟨kt, hT⟩ := Ev.rounds Told_ev
  have hnl : l0.length ≤ 100 := by omega
  have cs0 : decide ((n0 : Int) > 100) = true := decide_eq_true (by omega)
  have cs1 : decide (100 < (n0 : Int)) = true := cs0
  have cs2 : ((100 : Int) < (n0 : Int)) = True := eq_true (by omega)
  obtain ⟨i0, hi0, _⟩ := info_parts info27
  have hcap0 := cut_cap (P := Try.prog) 25 27 .i64 Try.underlying25 hi0 A0 n0 c0 (100 : Int) (by omega) (by omega)
  have hcut : ∀ W : World, (Instr.slice 25 (.slice A0 n0 c0) none (some (.int .i64 100)) none).run Try.prog W = .ok (.slice A0 l0.length c0) W := fun W => by rw [hcap0 W, hl]; rfl
  clear hi0 hcap0 hl hn0
  have HT := Lib.hid hT
  have H0 := Lib.hid hr0
  have C0 := Lib.hid hc0
  have H1 := Lib.hid hr1
  have C1 := Lib.hid hc1
  have H2 := Lib.hid hr2
  have C2 := Lib.hid hc2
  have HL := Lib.hid hnl
  have T0 := Lib.hid ht0
  have T2 := Lib.hid ht2
  clear hT hr0 hc0 hr1 hc1 hr2 hc2 hnl ht0 ht2
  go_enter Try.func12, Try.ntmps12
  go_wp2_with fail
  refine (kilnlaw11_Told.calls kt true w HT.out).mono ?_
  rintro e w1 ⟨rfl, hb1⟩
  have B1 := Lib.hid hb1
  clear hb1
  go_wp2_with fail
  refine (laid_calls A0 c0 l0 w1 (Kd.C_below H0.out B1.out) (by have := HL.out; omega)).mono ?_
  rintro e w3 ⟨A', cap, hcap, rfl, hR, hb3⟩
  have hml : (l0 ++ marks3).length = l0.length + 3 := by rw [List.length_append]; rfl
  have hown := (R_has hR hb3.size).get 0 rfl
  obtain ⟨g, cap', hv, _⟩ := own_some (show w3.ownsRow 0 27 4 (.slice A' (l0.length + 3) cap) (l0 ++ marks3).length (tcells (l0 ++ marks3)) from hown) (by rw [hml]; omega)
  have hg : w1.heap.size ≤ g := (R_has hR hb3.size).ge g (by rw [hml] at hv; simp [fps, tkT, rowT, hv, Value.ownBlock])
  obtain ⟨rfl, rfl⟩ : A' = some ⟨g, 0, none⟩ ∧ cap = cap' := by
    simp only [Value.slice.injEq] at hv
    exact ⟨hv.1, hv.2.2⟩
  have hrow := R_row hml hR hb3.size
  have INV := Lib.hid (show AgInv w.heap.size g cap l0.length l0 w w3 from ⟨rfl, hrow, B1.out.trans (hb3.mono B1.out.size), Nat.le_trans B1.out.size hg, T0.out⟩)
  have HCAP := Lib.hid hcap
  obtain ⟨n, hn⟩ : ∃ n, n = l0.length := ⟨_, rfl⟩
  rw [← hn] at INV HL HCAP
  clear hR hb3 hv hg hrow hcap hml hown
  rw [← hn]
  clear hn
  go_wp2_with fail
  go_loopg [8] 22 (fun q s8 wr => ∃ (i : Nat) (xs : List S27), s8 = .int .i64 (i : Int) ∧ Hid (q + i = 22) ∧ Hid (AgInv w.heap.size g cap n xs w wr))
  case atStart => exact ⟨0, l0, rfl, Lib.hid rfl, INV⟩
  case round =>
    clear INV
    obtain ⟨i, xs, rfl, HQ, INV⟩ := hrel
    have hn := INV.out.1
    subst hn
    by_cases hi : i ≤ l1.length ∧ i ≤ 20
    · cases gk with
      | zero => exact absurd HQ.out (by omega)
      | succ k1 =>
      have HI := Lib.hid hi
      have d1 : decide ((i : Int) ≤ (l1.length : Int)) = true := decide_eq_true (by omega)
      have d1b : decide (i ≤ l1.length) = true := decide_eq_true hi.1
      have d2 : decide ((i : Int) ≤ 20) = true := decide_eq_true (by omega)
      obtain ⟨kx, t, er, hx1, hx2⟩ := print_rounds xs (by have := HL.out; omega) INV.out.2.2.2.2
      have X1 := Lib.hid hx1
      have X2 := Lib.hid hx2
      have hml : (xs ++ marks3).length = xs.length + 3 := by rw [List.length_append]; rfl
      have hCx := row_C (l := xs ++ marks3) (by have := INV.out.2.1; rw [hml]; exact this) (by rw [hml]; have := HL.out; omega)
      have CX := Lib.hid hCx
      have hT := Kd.C_take (m := xs.length) hCx (by simp)
      rw [List.take_left] at hT
      have CT := Lib.hid hT
      clear hx1 hx2 hCx hT hml hi
      go_wp2_with (at_builtin; refine Kd.R_append_rows k27 (w0 := wr) wr.heap.size rfl (.const (.slice none 0 0)) (.tmp 34) 25 27 (.agg #[(.int .i64 0), (.string ⟨#[]⟩), (.int .i64 0), (.int .i64 0)]) 40 rfl Try.underlying25 info27 rfl (by decide) (by omega) (.slice none 0 0) ([] : List S27) xs _ _ _ (fun _ => True) (fun _ => False) rfl rfl (Kd.R_nil _ _ _ _ (fun _ => True)) CT.out (fun _ _ h => h) (fun _ h => h.elim) (fun _ _ => trivial) (Below.refl _ _) (Nat.le_refl _) (by have := HL.out; simp; omega) ?_)
      intro v4 w4 ho hb4 hg4 hat
      have ho : Kd.R k27 27 w4 wr.heap.size (fun _ => True) v4 xs := ho
      have hown := (R_has ho hb4.size).get 0 rfl
      obtain ⟨A9, c9, rfl, hl9, hC9⟩ : ∃ A c, v4 = .slice A xs.length c ∧ xs.length ≤ c ∧ Kd.C k27 w4 A xs.length xs := Kd.R_reads ho
      have L9 := Lib.hid hl9
      have C9 := Lib.hid hC9
      have B4 := Lib.hid hb4
      clear ho hb4 hg4 hat hl9 hC9 hown
      go_wp2_with fail
      refine (token_Print.calls kx (some ⟨g, 0, none⟩) cap xs t er w4 (Kd.C_below CT.out B4.out) (by have := HCAP.out; omega) X1.out).mono ?_
      rintro e w5 ⟨rfl, hb5⟩
      have B5 := Lib.hid (B4.out.trans (hb5.mono B4.out.size))
      have C9b := Lib.hid (Kd.C_below C9.out hb5)
      clear hb5 C9
      go_wp2_with fail
      refine (kilnref11_Print.calls kx A9 c9 xs t er w5 C9b.out L9.out X2.out).mono ?_
      rintro e w6 ⟨rfl, hb6⟩
      have B6 := Lib.hid (B5.out.trans (hb6.mono B5.out.size))
      have C9c := Lib.hid (Kd.C_below C9b.out hb6)
      clear hb6 C9b
      go_wp2_with fail
      refine (intact_calls ⟨g, 0, none⟩ cap A9 c9 xs w6 HCAP.out (Kd.C_below CX.out B6.out) C9c.out (by have := HL.out; omega) L9.out).mono ?_
      rintro e w7 ⟨rfl, ⟨⟨m7, rfl⟩⟩⟩
      have I7 := Lib.hid (show AgInv w.heap.size g cap xs.length xs w (w6.drewN m7) from ⟨rfl, (RowAt.keeps INV.out.2.1 (Keeps.of_below B6.out) (by simp)).drewN _, below_dn (INV.out.2.2.1.trans (B6.out.mono INV.out.2.2.1.size)), INV.out.2.2.2⟩)
      by_cases hu : i < l1.length ∧ i < l2.length ∧ 0 < xs.length
      · obtain ⟨u1, u2, u3⟩ := hu
        have f1 : decide ((i : Int) < (l1.length : Int)) = true := decide_eq_true (by omega)
        have f1b : decide (i < l1.length) = true := decide_eq_true u1
        have f2 : decide ((i : Int) < (l2.length : Int)) = true := decide_eq_true (by omega)
        have f2b : decide (i < l2.length) = true := decide_eq_true u2
        have f3 : decide (0 < (xs.length : Int)) = true := decide_eq_true (by omega)
        have f3b : decide (0 < xs.length) = true := decide_eq_true u3
        have f4 : ((xs.length : Int) == 0) = false := beq_false_of_ne (by omega)
        have p0 : (0 ≤ (i : Int)) = True := eq_true (Int.natCast_nonneg _)
        have q1 : ((i : Int) < (l1.length : Int)) = True := eq_true (by omega)
        have q2 : ((i : Int) < (l2.length : Int)) = True := eq_true (by omega)
        obtain ⟨ad1, e1, x1⟩ := at_num (Kd.C_below H1.out I7.out.2.2.1) (i : Int) (Int.natCast_nonneg _) (by omega)
        obtain ⟨ad2, e2, y0, y1, y2, y3⟩ := at_T27 (Kd.C_below H2.out I7.out.2.2.1) (i : Int) (Int.natCast_nonneg _) (by omega)
        have hby := T2.out _ (rd_drop l2 (i : Int) (Int.natCast_nonneg _) (by omega)).2
        generalize rd_T27 l2 (i : Int) = tb at y0 y1 y2 y3 hby
        cases e1
        cases e2
        simp only [Int.toNat_natCast] at x1 y0 y1 y2 y3
        obtain ⟨m, hm⟩ : ∃ m : Int, Int.tmod (rd l1 (i : Int)) (xs.length : Int) = m := ⟨_, rfl⟩
        have hm1 : m < (xs.length : Int) := by rw [← hm]; exact Int.tmod_lt_of_pos _ (by omega)
        have hm2 : -(xs.length : Int) < m := by
          have := Int.tmod_lt_of_pos (-(rd l1 (i : Int))) (show 0 < (xs.length : Int) by omega)
          rw [Int.neg_tmod, hm] at this
          omega
        have HM := Lib.hid (And.intro hm1 hm2)
        have HBY := Lib.hid hby
        clear hm1 hm2 u1 u2 hby
        by_cases hneg : m < 0
        · have g1 : decide (m < 0) = true := decide_eq_true hneg
          obtain ⟨J, hJ1, hJ2⟩ : ∃ J : Nat, m + (xs.length : Int) = (J : Int) ∧ J < xs.length := ⟨(m + (xs.length : Int)).toNat, by have := HM.out; omega, by have := HM.out; omega⟩
          have hw : wrap64 (m + (xs.length : Int)) = (J : Int) := by rw [IntWalk.wrap64_in _ (by have := HL.out; omega)]; exact hJ1
          have hw2 : IntKind.i64.wrap (m + (xs.length : Int)) = (J : Int) := (i64_w _).trans hw
          clear hneg hJ1
          have pJ : (0 ≤ (J : Int)) = True := eq_true (Int.natCast_nonneg _)
          have qJ : ((J : Int) < (xs.length : Int)) = True := eq_true (by omega)
          obtain ⟨z0, z1, z2, z3⟩ := tcells_get (xs ++ marks3) J (xs[J]) (by rw [List.getElem?_append_left hJ2, List.getElem?_eq_getElem hJ2])
          have r0 : w6.cell? ⟨g, J * 4, none⟩ = _ := (RowAt.cell I7.out.2.1 (J * 4) (by omega)).trans z0
          have r1 : w6.cell? ⟨g, J * 4 + 1, none⟩ = _ := (RowAt.cell I7.out.2.1 (J * 4 + 1) (by omega)).trans z1
          have r2 : w6.cell? ⟨g, J * 4 + 2, none⟩ = _ := (RowAt.cell I7.out.2.1 (J * 4 + 2) (by omega)).trans z2
          have r3 : w6.cell? ⟨g, J * 4 + 3, none⟩ = _ := (RowAt.cell I7.out.2.1 (J * 4 + 3) (by omega)).trans z3
          have s0 : w6.frozen? ⟨g, J * 4, none⟩ = false := RowAt.frozen I7.out.2.1 _
          have s1 : w6.frozen? ⟨g, J * 4 + 1, none⟩ = false := RowAt.frozen I7.out.2.1 _
          have s2 : w6.frozen? ⟨g, J * 4 + 2, none⟩ = false := RowAt.frozen I7.out.2.1 _
          have s3 : w6.frozen? ⟨g, J * 4 + 3, none⟩ = false := RowAt.frozen I7.out.2.1 _
          clear z0 z1 z2 z3
          go_wp2_with fail
          have I8 := ag_store (m := m7) (AgInv.base I7.out) hJ2 tb HBY.out (Nat.le_refl _)
          generalize hW4 : World.setCell (World.setCell (World.setCell (World.setCell (w6.drewN m7) _ _) _ _) _ _) _ _ = W4 at I8 ⊢
          have I8 := Lib.hid I8
          clear hW4 r0 r1 r2 r3 s0 s1 s2 s3
          refine (kilnlaw11_cut.calls _ 300 _ _ (cut_is tb.f1 300 (by decide))).mono ?_
          rintro e w8 ⟨rfl, ⟨⟨m8, rfl⟩⟩⟩
          have hget : (xs.set J tb)[J]? = some tb := by rw [List.getElem?_set_self hJ2]
          obtain ⟨_, z1, _, _⟩ := tcells_get (xs.set J tb ++ marks3) J tb (by rw [List.getElem?_append_left (by rw [List.length_set]; exact hJ2)]; exact hget)
          have r1 : W4.cell? ⟨g, J * 4 + 1, none⟩ = _ := (RowAt.cell I8.out.2.1 (J * 4 + 1) (by omega)).trans z1
          have s1 : W4.frozen? ⟨g, J * 4 + 1, none⟩ = false := RowAt.frozen I8.out.2.1 _
          have hcs : (mk ((bs tb.f1).take (300 : Int).toNat)).size ≤ 2000000 := by
            rw [mk_size, List.length_take]
            have : (300 : Int).toNat = 300 := rfl
            omega
          have I9 := Lib.hid (ag_text (m := m8) I8.out tb hget _ hcs (Nat.le_refl _))
          clear z1 hget hcs
          go_wp2_with fail
          have hwi : wrap64 ((i : Int) + 1) = ((i + 1 : Nat) : Int) := by rw [IntWalk.wrap64_in _ (by have := HI.out; omega)]; omega
          go_roundg k1
          case rel => exact ⟨i + 1, _, by rw [hwi], Lib.hid (by have := HQ.out; omega), I9⟩
          case measure => exact Nat.lt_succ_self _
        · have g1 : decide (m < 0) = false := decide_eq_false hneg
          obtain ⟨J, hJ1, hJ2⟩ : ∃ J : Nat, m = (J : Int) ∧ J < xs.length := ⟨m.toNat, by omega, by have := HM.out; omega⟩
          subst hJ1
          clear hneg
          have pJ : (0 ≤ (J : Int)) = True := eq_true (Int.natCast_nonneg _)
          have qJ : ((J : Int) < (xs.length : Int)) = True := eq_true (by omega)
          obtain ⟨z0, z1, z2, z3⟩ := tcells_get (xs ++ marks3) J (xs[J]) (by rw [List.getElem?_append_left hJ2, List.getElem?_eq_getElem hJ2])
          have r0 : w6.cell? ⟨g, J * 4, none⟩ = _ := (RowAt.cell I7.out.2.1 (J * 4) (by omega)).trans z0
          have r1 : w6.cell? ⟨g, J * 4 + 1, none⟩ = _ := (RowAt.cell I7.out.2.1 (J * 4 + 1) (by omega)).trans z1
          have r2 : w6.cell? ⟨g, J * 4 + 2, none⟩ = _ := (RowAt.cell I7.out.2.1 (J * 4 + 2) (by omega)).trans z2
          have r3 : w6.cell? ⟨g, J * 4 + 3, none⟩ = _ := (RowAt.cell I7.out.2.1 (J * 4 + 3) (by omega)).trans z3
          have s0 : w6.frozen? ⟨g, J * 4, none⟩ = false := RowAt.frozen I7.out.2.1 _
          have s1 : w6.frozen? ⟨g, J * 4 + 1, none⟩ = false := RowAt.frozen I7.out.2.1 _
          have s2 : w6.frozen? ⟨g, J * 4 + 2, none⟩ = false := RowAt.frozen I7.out.2.1 _
          have s3 : w6.frozen? ⟨g, J * 4 + 3, none⟩ = false := RowAt.frozen I7.out.2.1 _
          clear z0 z1 z2 z3
          go_wp2_with fail
          have I8 := ag_store (m := m7) (AgInv.base I7.out) hJ2 tb HBY.out (Nat.le_refl _)
          generalize hW4 : World.setCell (World.setCell (World.setCell (World.setCell (w6.drewN m7) _ _) _ _) _ _) _ _ = W4 at I8 ⊢
          have I8 := Lib.hid I8
          clear hW4 r0 r1 r2 r3 s0 s1 s2 s3
          refine (kilnlaw11_cut.calls _ 300 _ _ (cut_is tb.f1 300 (by decide))).mono ?_
          rintro e w8 ⟨rfl, ⟨⟨m8, rfl⟩⟩⟩
          have hget : (xs.set J tb)[J]? = some tb := by rw [List.getElem?_set_self hJ2]
          obtain ⟨_, z1, _, _⟩ := tcells_get (xs.set J tb ++ marks3) J tb (by rw [List.getElem?_append_left (by rw [List.length_set]; exact hJ2)]; exact hget)
          have r1 : W4.cell? ⟨g, J * 4 + 1, none⟩ = _ := (RowAt.cell I8.out.2.1 (J * 4 + 1) (by omega)).trans z1
          have s1 : W4.frozen? ⟨g, J * 4 + 1, none⟩ = false := RowAt.frozen I8.out.2.1 _
          have hcs : (mk ((bs tb.f1).take (300 : Int).toNat)).size ≤ 2000000 := by
            rw [mk_size, List.length_take]
            have : (300 : Int).toNat = 300 := rfl
            omega
          have I9 := Lib.hid (ag_text (m := m8) I8.out tb hget _ hcs (Nat.le_refl _))
          clear z1 hget hcs
          go_wp2_with fail
          have hwi : wrap64 ((i : Int) + 1) = ((i + 1 : Nat) : Int) := by rw [IntWalk.wrap64_in _ (by have := HI.out; omega)]; omega
          go_roundg k1
          case rel => exact ⟨i + 1, _, by rw [hwi], Lib.hid (by have := HQ.out; omega), I9⟩
          case measure => exact Nat.lt_succ_self _
      · have hwi : wrap64 ((i : Int) + 1) = ((i + 1 : Nat) : Int) := by rw [IntWalk.wrap64_in _ (by have := HI.out; omega)]; omega
        have HF := Lib.hid (show ∃ (i' : Nat) (xs' : List S27), (Value.int .i64 (wrap64 ((i : Int) + 1))) = .int .i64 (i' : Int) ∧ Hid (k1 + i' = 22) ∧ Hid (AgInv w.heap.size g cap xs.length xs' w (w6.drewN m7)) from ⟨i + 1, xs, by rw [hwi], Lib.hid (by have := HQ.out; omega), I7⟩)
        by_cases u1 : i < l1.length
        · have f1 : decide ((i : Int) < (l1.length : Int)) = true := decide_eq_true (by omega)
          have f1b : decide (i < l1.length) = true := decide_eq_true u1
          by_cases u2 : i < l2.length
          · have f2 : decide ((i : Int) < (l2.length : Int)) = true := decide_eq_true (by omega)
            have f2b : decide (i < l2.length) = true := decide_eq_true u2
            have u3 : ¬ 0 < xs.length := fun h => hu ⟨u1, u2, h⟩
            have f3 : decide (0 < (xs.length : Int)) = false := decide_eq_false (by omega)
            have f3b : decide (0 < xs.length) = false := decide_eq_false u3
            clear u1 u2 u3 hu
            go_wp2_with fail
            go_roundg k1
            case rel => exact HF.out
            case measure => exact Nat.lt_succ_self _
          · have f2 : decide ((i : Int) < (l2.length : Int)) = false := decide_eq_false (by omega)
            have f2b : decide (i < l2.length) = false := decide_eq_false u2
            clear u1 u2 hu
            go_wp2_with fail
            go_roundg k1
            case rel => exact HF.out
            case measure => exact Nat.lt_succ_self _
        · have f1 : decide ((i : Int) < (l1.length : Int)) = false := decide_eq_false (by omega)
          have f1b : decide (i < l1.length) = false := decide_eq_false u1
          clear u1 hu
          go_wp2_with fail
          go_roundg k1
          case rel => exact HF.out
          case measure => exact Nat.lt_succ_self _
    · have HF := Lib.hid (show AgPost w (.returned (.bool true)) wr from ⟨rfl, INV.out.2.2.1⟩)
      by_cases u1 : i ≤ l1.length
      · have u2 : ¬ i ≤ 20 := fun h => hi ⟨u1, h⟩
        have f1 : decide ((i : Int) ≤ (l1.length : Int)) = true := decide_eq_true (by omega)
        have f1b : decide (i ≤ l1.length) = true := decide_eq_true u1
        have f2 : decide ((i : Int) ≤ 20) = false := decide_eq_false (by omega)
        clear u1 u2 hi
        go_wp2
        go_ret
        exact HF.out
      · have f1 : decide ((i : Int) ≤ (l1.length : Int)) = false := decide_eq_false (by omega)
        have f1b : decide (i ≤ l1.length) = false := decide_eq_false u1
        clear u1 hi
        go_wp2
        go_ret
        exact HF.out
theorem again_calls (A0 : Option Addr) (c0 : Nat) (l0 : List S27) (A1 : Option Addr) (c1 : Nat) (l1 : List Int) (A2 : Option Addr) (c2 : Nat) (l2 : List S27) (w : World)
    (hr0 : Kd.C k27 w A0 l0.length l0) (hc0 : l0.length ≤ c0) (hr1 : Kd.C (Kd.int .i64) w A1 l1.length l1) (hc1 : l1.length ≤ c1) (hr2 : Kd.C k27 w A2 l2.length l2) (hc2 : l2.length ≤ c2)
    (ht0 : ∀ t ∈ l0, t.f1.size ≤ 2000000) (ht2 : ∀ t ∈ l2, t.f1.size ≤ 2000000) :
    Calls Try.prog 12 #[.slice A0 l0.length c0, .slice A1 l1.length c1, .slice A2 l2.length c2] w (AgPost w) := by
  by_cases hs : l0.length ≤ 100
  · exact again_short A0 c0 l0 A1 c1 l1 A2 c2 l2 w hr0 hc0 hr1 hc1 hr2 hc2 ht0 ht2 hs
  · have hl : (l0.take 100).length = 100 := by rw [List.length_take]; omega
    exact again_long A0 c0 l0.length (l0.take 100) A1 c1 l1 A2 c2 l2 w (Kd.C_take (m := 100) hr0 (by omega)) (by omega) hr1 hc1 hr2 hc2 (fun t ht => ht0 t (List.mem_of_mem_take ht)) ht2 (by omega) hl
theorem kilnlaw11_TokenAgain.calls (k : Nat) (A0 : Option Addr) (c0 : Nat) (l0 : List S27) (A1 : Option Addr) (c1 : Nat) (l1 : List Int) (A2 : Option Addr) (c2 : Nat) (l2 : List S27) (r : Bool) (w : World)
    (hr0 : Kd.C k27 w A0 l0.length l0) (hc0 : l0.length ≤ c0) (hr1 : Kd.C (Kd.int .i64) w A1 l1.length l1) (hc1 : l1.length ≤ c1) (hr2 : Kd.C k27 w A2 l2.length l2) (hc2 : l2.length ≤ c2)
    (h : r = true ∧ (∀ t ∈ l0, t.f1.size ≤ 2000000) ∧ (∀ t ∈ l2, t.f1.size ≤ 2000000)) :
    Calls Try.prog 12 #[.slice A0 l0.length c0, .slice A1 l1.length c1, .slice A2 l2.length c2] w fun e w' => e = .returned (.bool r) ∧ Below w.heap.size w w' := by
  obtain ⟨rfl, h0, h2⟩ := h
  exact again_calls A0 c0 l0 A1 c1 l1 A2 c2 l2 w hr0 hc0 hr1 hc1 hr2 hc2 h0 h2
end Go.Proofs.Ytnmmapjcphefpaa.G

/- Of one list of tokens, changed in place between two calls, Print tells each time what it holds then: law TokenAgain returns true. For all arguments that can be read and are together of bulk at most 1048576. -/
set_option linter.unusedVariables false
set_option linter.unusedSimpArgs false
namespace Go.Proofs.Ytnmmapjcphefpaa.tokenAgain
open Go.ChangeShapes Go.WideShapes Go.ChangeAt Go.RowKit

theorem own : ownKnob Try.prog.godebug = none := by kernel_rfl
theorem contract (H : Type) (enc : TypeId × Value → H) (W : World) (base : Nat) (args : Array Value) (ds gs : List (DataW H)) (before : List MemPlace)
    (hval : ∀ (j : Nat) t v, Try.f12.params[j]? = some t → args[j]? = some v → Value.okWide Try.prog W .any base t v)
    (hW : DataW.Whole enc Try.prog Try.f12.params.toList Rows.tokenAgainSpec.vars false W args.toList ds gs before) (hk : Rows.uptoSmall H (ds ++ gs) = true) :
    Calls Try.prog 12 args W fun e W' => ∃ v, e = .returned v ∧ Rows.tokenAgainSpec.post enc Try.prog Try.f12 false true false false W args v W' := by
  have hW' := hW
  obtain ⟨p, q, hA0, hV, rfl, hfz, hnd⟩ := hW
  have hA : DataW.TrodAll enc Try.prog W 0 (fun _ => true) true Try.f12.params.toList args.toList ds p := hA0
  rw [Try.params12] at hA hval
  obtain ⟨v0, vs0, d0, ds0, p0, q0, hargs, rfl, rfl, h0, r0⟩ := trodAll_cons hA
  obtain ⟨v1, vs1, d1, ds1, p1, q1, rfl, rfl, rfl, h1, r1⟩ := trodAll_cons r0
  obtain ⟨v2, vs2, d2, ds2, p2, q2, rfl, rfl, rfl, h2, r2⟩ := trodAll_cons r1
  obtain ⟨rfl, rfl, rfl⟩ := trodAll_nil r2
  obtain rfl : args = #[v0, v1, v2] := by cases args; simp_all
  obtain ⟨rfl, rfl⟩ := trodVars_none hV
  have hb : Rows.uptoBulkAll ([d0, d1, d2] ++ ([] : List (DataW H))) ≤ 1048576 := of_decide_eq_true hk
  simp only [List.append_nil, Rows.uptoBulkAll] at hb
  obtain ⟨a0, l0, c0, rfl, o0, _, e0, b0, s0⟩ := G.open_toks (hval 0 25 v0 rfl rfl) h0
  obtain ⟨a1, l1, c1, rfl, o1, _, e1⟩ := G.open_nums (hval 1 42 v1 rfl rfl) h1
  obtain ⟨a2, l2, c2, rfl, o2, _, e2, b2, s2⟩ := G.open_toks (hval 2 25 v2 rfl rfl) h2
  clear hA0
  obtain ⟨k, hk'⟩ : ∃ k : Nat, (true = true ∧ (∀ t ∈ l0, t.f1.size ≤ 2000000) ∧ ∀ t ∈ l2, t.f1.size ≤ 2000000) := ⟨0, rfl, fun t ht => by have := s0 t ht; omega, fun t ht => by have := s2 t ht; omega⟩
  refine (G.kilnlaw11_TokenAgain.calls k a0 c0 l0 a1 c1 l1 a2 c2 l2 true W e0 o0 e1 o1 e2 o2 hk').mono fun e W' ⟨he, hg⟩ => ?_
  subst he
  exact ⟨_, rfl, law_post G.laidOut Try.underlying4 (by kernel_rfl) (fun t ht => by rw [Try.params12] at ht; simp at ht; rcases ht with rfl | rfl | rfl <;> exact ⟨by kernel_rfl, of_decide_eq_true (by kernel_rfl)⟩) rfl rfl hW' hg⟩

set_option maxRecDepth 100000 in
theorem lifted (os : Os) (started : os.Started) (H : Type) (enc : TypeId × Value → H) (F : Stop.Interp) :
    ReturnsInHanded {} Try.checked os 12 .any ((Rows.OpenSpec.upto Rows.tokenAgainSpec).pre6 enc Try.prog Try.f12 Rows.tokenAgainUptoRow.domain false) (((Rows.OpenSpec.upto Rows.tokenAgainSpec).at F).post enc Try.prog Try.f12 false true false false) := by
  refine returnsInHanded_of_cond (C := Try.checked) (s := Rows.OpenSpec.upto Rows.tokenAgainSpec) (k := Rows.uptoSmall) rfl own started (by kernel_rfl) Try.func12
    (OpenSpec.witness (enc := enc) (C := Try.checked) (s := Rows.OpenSpec.upto Rows.tokenAgainSpec) (k := Rows.uptoSmall) rfl false ⟨#[], #[.slice none 0 0, .slice none 0 0, .slice none 0 0], []⟩ 8 (by kernel_rfl) (by kernel_rfl) (by kernel_rfl)
      (x := ([.nil, .nil, .nil], [], [])) (by kernel_rfl) rfl (by kernel_rfl)) ?_
  intro W base args ds gs before hval hW _ hk _
  exact contract H enc W base args ds gs before hval hW hk

theorem said : Rows.TokenAgainUptoSaid :=
  OpenClaim.holds_of_cond 12 Try.f12 rfl rfl rfl rfl rfl rfl rfl ⟨rfl, rfl, rfl, rfl, rfl⟩ rfl rfl rfl rfl rfl (by kernel_rfl) Try.func12 (by kernel_rfl)
    (of_decide_eq_true (by kernel_rfl)) (by unfold Func.isWrapper; first | (rw [if_pos (by decide +kernel)]; kernel_rfl) | (rw [if_neg (by decide +kernel)]; exact ⟨rfl, rfl⟩))
    (fun os started H enc _ F => lifted os started H enc F)
end Go.Proofs.Ytnmmapjcphefpaa.tokenAgain
namespace Go.Proofs.Ytnmmapjcphefpaa
/-- The row, under a short name, for the claim. -/
theorem tokenAgain_holds : Rows.TokenAgainUptoSaid := tokenAgain.said
end Go.Proofs.Ytnmmapjcphefpaa
