/- Print of any tokens tells what the document tells, and Quote of each one's text: law TokenPrints returns true. For all arguments that can be read and are together of bulk at most 1048576. -/
import Derived.Test.YtnmmapjcphefpaaKit
import Derived.ProofKit
import Derived.OpenShut
import Derived.Carry
import Derived.Deep.Slices
import Derived.Test.YtnmmapjcphefpaaRows
import Derived.Test.YtnmmapjcphefpaaGx0
import Derived.Lib.SmallJoins
import Derived.WideShapes
import Derived.Test.YtnmmapjcphefpaaGx7
import Derived.Test.YtnmmapjcphefpaaGx11
import Derived.Test.YtnmmapjcphefpaaGxhkilnlaw11prints
import Derived.Test.YtnmmapjcphefpaaGxhkilnref11Quote
import Derived.Test.YtnmmapjcphefpaaPlNorm
import Derived.JoinedCond
/- General words for a law's row: what the row asks behind the call, where nothing below the call's own blocks has turned; arguments that are slices of structs of whole numbers. -/
set_option linter.unusedVariables false
set_option linter.unusedSimpArgs false
namespace Go.Proofs.Ytnmmapjcphefpaa
open Go.ChangeShapes Go.WideShapes Go.ChangeAt Go.RowKit

section
variable {H : Type} {enc : TypeId × Value → H} {P : Program}
theorem trodAll_stay (hl : laidOutB P = true) {W W' : World} {sp : Nat → Bool} : ∀ (ts : List TypeId) (vs : List Value) (ds : List (DataW H)) (ps : List MemPlace), (∀ t ∈ ts, P.readableRec t = true ∧ t < P.types.size) →
    DataW.TrodAll enc P W 0 (fun _ => true) true ts vs ds ps → (∀ p ∈ ps, W.sameAt W' p) → (∀ p ∈ ps, sp p.block = true) → DataW.TrodAll enc P W' 0 sp true ts vs ds ps
  | [], [], [], ps, _, h, _, _ => h
  | t :: ts, v :: vs, d :: ds, ps, hr, h, hs, hp => by
    obtain ⟨p, q, h1, h2, rfl⟩ := h
    refine ⟨p, q, ?_, trodAll_stay hl ts vs ds q (fun x hx => hr x (List.mem_cons_of_mem _ hx)) h2 (fun x hx => hs x (List.mem_append_right _ hx)) (fun x hx => hp x (List.mem_append_right _ hx)), rfl⟩
    exact WideElems.Trod_stays hl (hr t (by simp)).1 (hr t (by simp)).2 h1 (fun x hx => hs x (List.mem_append_left _ hx)) (fun x hx => hp x (List.mem_append_left _ hx))
  | [], _ :: _, _, _, _, h, _, _ => h.elim
  | [], [], _ :: _, _, _, h, _, _ => h.elim
  | _ :: _, [], _, _, _, h, _, _ => h.elim
  | _ :: _, _ :: _, [], _, _, h, _, _ => h.elim

/-- a law with no variable among what it is asked of: the arguments read as they read, the answer is true, the old blocks are as they were -/
theorem law_post (hl : laidOutB P = true) {f : Func} {s : ChangeSpec} {W W' : World} {args : Array Value} {ds : List (DataW H)} {before : List MemPlace} {T : TypeId} (hT : P.underlying T = some .bool) (hres : f.resultTypes = #[T])
    (hr : ∀ t ∈ f.params.toList, P.readableRec t = true ∧ t < P.types.size)
    (hspec : s.fn H (ds ++ []) = { results := [.lit (.bool true)], args := ds }) (hvars : s.vars = [])
    (hW : DataW.Whole enc P f.params.toList s.vars false W args.toList ds [] before)
    (hb : Below W.heap.size W W') : s.post enc P f false true false false W args (.bool true) W' := by
  have old : ∀ p ∈ before, p.block < W.heap.size := fun p hp => hW.lt p hp
  have inOld : ∀ p ∈ before, (fun b => decide (b < W.heap.size)) p.block = true := fun p hp => by simpa using old p hp
  have R : ∀ (b : Nat) (sp : Nat → Bool) (hd : Bool), DataW.TrodAll enc P W' b sp hd f.resultTypes.toList ((Value.bool true).resultList f.resultTypes.size) (s.fn H (ds ++ [])).results [] := by
    intro b sp hd
    rw [hspec, hres]
    exact trodAll_cons_mk (shut_bool hT true) trodAll_mk0
  have A : ∀ sp : Nat → Bool, (∀ p ∈ before, sp p.block = true) → DataW.TrodAll enc P W' 0 sp true f.params.toList args.toList (s.fn H (ds ++ [])).args before := by
    intro sp hsp
    rw [hspec]
    obtain ⟨p, q, h1, h2, h3, _, _⟩ := hW
    rw [hvars] at h2
    obtain rfl : q = [] := h2
    rw [List.append_nil] at h3
    subst h3
    exact trodAll_stay hl _ _ _ _ hr h1 (fun x hx => hb.same (old x hx)) hsp
  have V : ∀ sp : Nat → Bool, DataW.TrodVars enc P W' sp s.vars (s.fn H (ds ++ [])).vars [] := by
    intro sp
    rw [hspec, hvars]
    rfl
  refine ⟨ds, [], before, [], before, [], hW, R _ _ _, A _ inOld, V _, World.keptBut_mono (fun p hp => ⟨hp, .inr (by simpa using hp)⟩) (hb.frame (· ∈ before)), fun _ => ⟨fun j t r ht hr => ?_, ?_⟩⟩
  · rw [hres] at ht hr
    match j, ht, hr with
    | 0, ht, hr =>
      simp at ht
      simp [Value.resultList] at hr
      subst ht
      subst hr
      exact okWide_bool_mk hT true
  · obtain ⟨_, _, _, _, _, hz, hn⟩ := hW
    refine ⟨_, _, ([] ++ before) ++ [], ⟨[] ++ before, [], trodAll_append (A _ (fun _ _ => rfl)) (R _ _ _), V _, rfl, ?_, ?_⟩, ?_⟩
    · intro b off hp
      have hin : MemPlace.cell b off ∈ before := by simpa using hp
      exact (hb.frozen (p := ⟨b, off, none⟩) (old _ hin)).trans (hz b off hin)
    · intro ha
      simpa using hn ha
    · intro p hp _
      simpa using hp

/-- a struct of n whole numbers: its cells -/
theorem open_numbers {w : World} {base : Nat} {sp : Nat → Bool} {held : Bool} {e : TypeId} {fs : Array Field} {fuel : Nat} {cs : List Value} {x : DataW H × List MemPlace} (he : P.underlying e = some (.struct fs)) (hC : P.cellsOf e = fs.size)
    (hf : ∀ (j : Nat) (f : Field), fs[j]? = some f → f.offset = j ∧ P.underlying f.type = some (.int .i64) ∧ P.cellsOf f.type = 1) (h : DataW.trod enc P w base sp held fuel e cs = some x) : ∀ j, j < fs.size → ∃ z, cs[j]? = some (.int .i64 z) := by
  intro j hj
  obtain ⟨xs, n, _, _, hlen, hxl, hat⟩ := DataW.trod_struct he h
  obtain ⟨ho, hu, hc⟩ := hf j fs[j] (Array.getElem?_eq_getElem hj)
  have h1 := hat j fs[j] (Array.getElem?_eq_getElem hj)
  rw [ho, hc, List.getElem?_eq_getElem (show j < xs.length by omega)] at h1
  obtain ⟨z, hz, _⟩ := DataW.trod_int hu h1
  refine ⟨z, ?_⟩
  have h2 : ((cs.drop j).take 1)[0]? = some (.int .i64 z) := by rw [hz]; rfl
  simpa [List.getElem?_take, List.getElem?_drop] using h2
/-- a slice of such structs that came in -/
theorem open_numberRows {w : World} {t e : TypeId} {fs : Array Field} {v : Value} {d : DataW H} {ps : List MemPlace} {r : Reach} {b0 : Nat} (ht : P.underlying t = some (.slice e)) (he : P.underlying e = some (.struct fs)) (hC : P.cellsOf e = fs.size)
    (hf : ∀ (j : Nat) (f : Field), fs[j]? = some f → f.offset = j ∧ P.underlying f.type = some (.int .i64) ∧ P.cellsOf f.type = 1)
    (hv : Value.okWide P w r b0 t v) (h : DataW.Trod enc P w 0 (fun _ => true) true t v d ps) :
    (v = .slice none 0 0) ∨ ∃ (a : Addr) (len cap : Nat), v = .slice (some a) len cap ∧ len ≤ cap ∧ cap ≤ maxLen ∧ ∀ i j, i < len → j < fs.size → ∃ z, w.cell? (a.add (i * fs.size + j)) = some (.int .i64 z) := by
  obtain ⟨fuel, hx⟩ := h
  rcases Go.Deep.open_slice ht hx with ⟨h1, _⟩ | ⟨a, len, cap, m, n, D, Pl, h1, _, h2, h3, h4, _, h6⟩
  · left
    obtain ⟨a, n, c, rfl⟩ := okWide_slice ht hv
    simpa [Value.cells] using h1
  · right
    obtain ⟨a', n', c', rfl⟩ := okWide_slice ht hv
    simp [Value.cells] at h1
    obtain ⟨rfl, rfl, rfl⟩ := h1
    refine ⟨a, _, _, rfl, h2, h3, fun i j hi hj => ?_⟩
    simp at h4
    obtain ⟨cs', hc, hr⟩ := h6 i (by omega)
    rw [hC] at hc
    obtain ⟨z, hz⟩ := open_numbers he hC hf hr j hj
    obtain ⟨_, _, hat⟩ := World.cells?_some hc
    have := hat j hj
    rw [hz] at this
    exact ⟨z, by rw [← Go.Deep.add_add]; exact this⟩
end
end Go.Proofs.Ytnmmapjcphefpaa

-- A slice of tokens that comes in, opened: its tokens, and how long their texts are.
namespace Go.Proofs.Ytnmmapjcphefpaa.G
open Go.ChangeShapes Go.WideShapes Go.ChangeAt Go.RowKit Go.Proofs.YtnmmapjcphefpaaW.PrintWords Go.Proofs.YtnmmapjcphefpaaW.PrintLast Go.Proofs.YtnmmapjcphefpaaW.PrintMore
set_option linter.unusedVariables false
set_option linter.unusedSimpArgs false
section
variable {H : Type} {enc : TypeId × Value → H}
theorem tcells3 : Try.prog.cellsOf 3 = 1 := by kernel_rfl
theorem tcells9 : Try.prog.cellsOf 9 = 1 := by kernel_rfl
theorem tcells27 : Try.prog.cellsOf 27 = 4 := by kernel_rfl
/-- one token's cells -/
theorem tok_cells {w : World} {n : Nat} {sp : Nat → Bool} {hd : Bool} {cs : List Value} {x : DataW H × List MemPlace} (h : DataW.trod enc Try.prog w 0 sp hd n 27 cs = some x) :
    ∃ t : S27, cs = [.int .i64 t.f0, .string t.f1, .int .i64 t.f2, .int .i64 t.f3] ∧ t.f1.size ≤ maxLen ∧ ∃ y0 y2 y3, x.1 = .agg [y0, .lit (.string t.f1.data.toList), y2, y3] := by
  obtain ⟨y0, y1, y2, y3, m, hx, hl, h0, h1, h2, h3⟩ := Go.Joins.trod_struct4 Try.underlying27 h
  rw [tcells27] at hl
  obtain ⟨c0, c1, c2, c3, rfl⟩ : ∃ c0 c1 c2 c3, cs = [c0, c1, c2, c3] := by
    match cs, hl with
    | [c0, c1, c2, c3], _ => exact ⟨c0, c1, c2, c3, rfl⟩
  simp only [tcells3, tcells9, List.drop_zero, List.drop_succ_cons, List.take_succ_cons, List.take_zero] at h0 h1 h2 h3
  obtain ⟨z0, hz0, _⟩ := DataW.trod_int Try.underlying3 h0
  obtain ⟨z1, hz1, hq1, hs1⟩ := DataW.trod_string Try.underlying9 h1
  obtain ⟨z2, hz2, _⟩ := DataW.trod_int Try.underlying3 h2
  obtain ⟨z3, hz3, _⟩ := DataW.trod_int Try.underlying3 h3
  simp only [List.cons.injEq, and_true] at hz0 hz1 hz2 hz3
  refine ⟨⟨z0, z1, z2, z3⟩, by rw [hz0, hz1, hz2, hz3], hs1, y0.1, y2.1, y3.1, ?_⟩
  rw [hx, hq1]
theorem bulk_mem {d : DataW H} : ∀ {l : List (DataW H)}, d ∈ l → Rows.uptoBulk d ≤ Rows.uptoBulkAll l := by
  intro l
  induction l with
  | nil => intro h; cases h
  | cons x l ih =>
    intro h
    rw [Rows.uptoBulkAll]
    rcases List.mem_cons.1 h with rfl | h
    · omega
    · have := ih h; omega
theorem bulk_pos (d : DataW H) : 1 ≤ Rows.uptoBulk d := by
  cases d with
  | lit l => cases l <;> simp [Rows.uptoBulk]
  | _ => simp [Rows.uptoBulk]
theorem bulk_len : ∀ (l : List (DataW H)), l.length ≤ Rows.uptoBulkAll l := by
  intro l
  induction l with
  | nil => simp [Rows.uptoBulkAll]
  | cons x l ih => rw [Rows.uptoBulkAll, List.length_cons]; have := bulk_pos x; omega
/-- the argument's tokens -/
theorem open_toks {W : World} {base : Nat} {r : Reach} {v : Value} {d : DataW H} {p : List MemPlace} (hv : Value.okWide Try.prog W r base 25 v) (h : DataW.Trod enc Try.prog W 0 (fun _ => true) true 25 v d p) :
    ∃ (ao : Option Addr) (l : List S27) (c : Nat), v = .slice ao l.length c ∧ l.length ≤ c ∧ c ≤ maxLen ∧ Kd.C k27 W ao l.length l ∧ l.length ≤ Rows.uptoBulk d ∧ ∀ t ∈ l, t.f1.size ≤ Rows.uptoBulk d := by
  obtain ⟨fuel, hx⟩ := h
  obtain ⟨a', n', c', rfl⟩ := okWide_slice Try.underlying25 hv
  rcases Go.Deep.open_slice Try.underlying25 hx with ⟨h1, _⟩ | ⟨a, len, cap, m, n, D, Pl, h1, _, h2, h3, h4, h5, h6⟩
  · simp [Value.cells] at h1
    obtain ⟨rfl, rfl, rfl⟩ := h1
    exact ⟨none, [], 0, rfl, Nat.le_refl _, Nat.zero_le _, ⟨rfl, Nat.zero_le _, fun h => absurd h (Nat.lt_irrefl _)⟩, Nat.zero_le _, fun t ht => by cases ht⟩
  · simp [Value.cells] at h1
    obtain ⟨rfl, rfl, rfl⟩ := h1
    simp only [if_true] at h4
    have hel : ∀ i, i < n' → ∃ t : S27, (∃ cs', W.cells? 0 (a.add (i * 4)) 4 = some cs' ∧ cs' = [.int .i64 t.f0, .string t.f1, .int .i64 t.f2, .int .i64 t.f3]) ∧ t.f1.size ≤ Rows.uptoBulk (D i) := by
      intro i hi
      obtain ⟨cs', hc, hr⟩ := h6 i (by omega)
      rw [tcells27] at hc
      obtain ⟨t, ht, _, y0, y2, y3, hy⟩ := tok_cells hr
      refine ⟨t, ⟨cs', hc, ht⟩, ?_⟩
      have hy' : D i = .agg [y0, .lit (.string t.f1.data.toList), y2, y3] := hy
      rw [hy', Rows.uptoBulk]
      have := bulk_mem (d := (DataW.lit (.string t.f1.data.toList) : DataW H)) (l := [y0, .lit (.string t.f1.data.toList), y2, y3]) (by simp)
      rw [Rows.uptoBulk] at this
      have hsz : t.f1.data.toList.length = t.f1.size := Array.length_toList
      omega
    have hpick : ∃ f : Nat → S27, ∀ i, i < n' → (∃ cs', W.cells? 0 (a.add (i * 4)) 4 = some cs' ∧ cs' = [.int .i64 (f i).f0, .string (f i).f1, .int .i64 (f i).f2, .int .i64 (f i).f3]) ∧ (f i).f1.size ≤ Rows.uptoBulk (D i) := by
      refine ⟨fun i => if hi : i < n' then Classical.choose (hel i hi) else z27, fun i hi => ?_⟩
      simp only [dif_pos hi]
      exact Classical.choose_spec (hel i hi)
    obtain ⟨f, hf⟩ := hpick
    have hlen : ((List.range n').map f).length = n' := by simp
    have hd : d = .slice ((List.range n').map D) ((List.range (m - n')).map fun j => D (n' + j)) := congrArg Prod.fst h5
    have hb : Rows.uptoBulkAll ((List.range n').map D) + 1 ≤ Rows.uptoBulk d := by rw [hd, Rows.uptoBulk]; omega
    refine ⟨some a, (List.range n').map f, c', by rw [hlen], by rw [hlen]; exact h2, h3, ?_, ?_, ?_⟩
    · rw [hlen]
      refine ⟨hlen, by unfold maxLen at h3; omega, fun _ => ⟨a, rfl, fun j t hj => ?_⟩⟩
      have hjl : j < n' := by
        have := (List.getElem?_eq_some_iff.1 hj).1
        rwa [hlen] at this
      have ht : t = f j := by
        rw [List.getElem?_map, List.getElem?_range hjl] at hj
        simpa using hj.symm
      obtain ⟨⟨cs', hc, hcs⟩, _⟩ := hf j hjl
      rw [← ht] at hcs
      subst hcs
      refine ⟨_, rfl, k27_mk W t, fun i u hu => ?_⟩
      obtain ⟨_, _, hat⟩ := World.cells?_some hc
      have hi : i < 4 := (List.getElem?_eq_some_iff.1 hu).1
      have := hat i hi
      rw [Go.Deep.add_add] at this
      rw [← hu]; exact this
    · rw [hlen]
      have := bulk_len ((List.range n').map D)
      simp only [List.length_map, List.length_range] at this
      omega
    · intro t ht
      obtain ⟨i, hi, rfl⟩ := List.mem_map.1 ht
      have hi' := List.mem_range.1 hi
      have h7 := (hf i hi').2
      have h8 := bulk_mem (d := D i) (l := (List.range n').map D) (List.mem_map.2 ⟨i, hi, rfl⟩)
      omega
end
end Go.Proofs.Ytnmmapjcphefpaa.G

-- A slice of whole numbers that comes in, opened; what a row asks of a law that answers true, with a bound.
namespace Go.Proofs.Ytnmmapjcphefpaa.G
open Go.ChangeShapes Go.WideShapes Go.ChangeAt Go.RowKit Go.Proofs.YtnmmapjcphefpaaW.PrintWords Go.Proofs.YtnmmapjcphefpaaW.PrintLast Go.Proofs.YtnmmapjcphefpaaW.PrintMore
set_option linter.unusedVariables false
set_option linter.unusedSimpArgs false
section
variable {H : Type} {enc : TypeId × Value → H}
theorem laidOut : laidOutB Try.prog = true := by kernel_rfl
theorem open_nums {W : World} {base : Nat} {r : Reach} {v : Value} {d : DataW H} {p : List MemPlace} (hv : Value.okWide Try.prog W r base 42 v) (h : DataW.Trod enc Try.prog W 0 (fun _ => true) true 42 v d p) :
    ∃ (ao : Option Addr) (l : List Int) (c : Nat), v = .slice ao l.length c ∧ l.length ≤ c ∧ c ≤ maxLen ∧ Kd.C (Kd.int .i64) W ao l.length l := by
  obtain ⟨fuel, hx⟩ := h
  rcases open_ints Try.underlying42 Try.underlying3 tcells3 hx with ⟨h1, _⟩ | ⟨a, len, cap, zs, h1, _, h2, h3, h4, _, h5, _⟩
  · obtain ⟨a, n, c, rfl⟩ := okWide_slice Try.underlying42 hv
    simp [Value.cells] at h1
    obtain ⟨rfl, rfl, rfl⟩ := h1
    exact ⟨none, [], 0, rfl, Nat.le_refl _, Nat.zero_le _, ⟨rfl, Nat.zero_le _, fun h => absurd h (Nat.lt_irrefl _)⟩⟩
  · obtain ⟨a', n', c', rfl⟩ := okWide_slice Try.underlying42 hv
    simp [Value.cells] at h1
    obtain ⟨rfl, rfl, rfl⟩ := h1
    simp only [if_true] at h4
    have hlen : (zs.take n').length = n' := by rw [List.length_take]; omega
    refine ⟨some a, zs.take n', c', by rw [hlen], by rw [hlen]; exact h2, h3, ?_⟩
    rw [hlen]
    refine ⟨hlen, by unfold maxLen at h3; omega, fun _ => ⟨a, rfl, fun j t hj => ?_⟩⟩
    have hjl : j < n' := by
      have := (List.getElem?_eq_some_iff.1 hj).1
      rwa [hlen] at this
    have hz : zs.getD j 0 = t := by
      rw [List.getElem?_take, if_pos hjl] at hj
      rw [List.getD_eq_getElem?_getD, hj]; rfl
    refine ⟨_, rfl, rfl, fun i u hu => ?_⟩
    have hi : i < 1 := (List.getElem?_eq_some_iff.1 hu).1
    obtain rfl : i = 0 := by omega
    have := h5 j (by omega)
    rw [hz] at this
    simp at hu
    subst hu
    show W.cell? (a.add (j * 1 + 0)) = _
    rw [show j * 1 + 0 = j by omega]
    exact this
end
end Go.Proofs.Ytnmmapjcphefpaa.G

-- The walk of TokenPrints: printed by wip/graft.py with the cut of the list left out, then turned by genback.py.
namespace Go.Proofs.Ytnmmapjcphefpaa.G
open Go.RowKit Go.Proofs.YtnmmapjcphefpaaW.PrintWords Go.Proofs.YtnmmapjcphefpaaW.PrintLast Go.Proofs.YtnmmapjcphefpaaW.PrintMore
attribute [local go_sem] max2_int min2_int max_two min_two max_three min_three max_four min_four
set_option linter.unusedVariables false
set_option linter.unusedSimpArgs false
mutual
def kilnlaw11_TokenPrints.l0 : Nat → List (S27) → Int → Option (Bool)
  | 0, _, _ => none
  | k + 1, x0, x3 => if x3 < (x0.length : Int) then (kilnlaw11_TokenPrints.j1 k x0 x3 (decide (x3 < 50))) else (kilnlaw11_TokenPrints.j1 k x0 x3 false)
def kilnlaw11_TokenPrints.j1 : Nat → List (S27) → Int → Bool → Option (Bool)
  | 0, _, _, _ => none
  | k + 1, x0, x3, x19 => if x19 = true then (if 0 ≤ x3 then (if x3 < (x0.length : Int) then ((kilnlaw11_cut.f ((rd_T27 x0 x3).f1) 2000).bind fun t255 => ((token_Quote.f k t255).bind fun t256 => ((kilnref11_Quote.f k t255).bind fun t257 => (if t256.toList = t257.toList then (kilnlaw11_TokenPrints.l0 k x0 (wrap64 (x3 + 1))) else (some false))))) else (none)) else (none)) else ((kilnlaw11_prints.f k x0).bind fun t253 => (some t253))
end
def kilnlaw11_TokenPrints.f (k : Nat) (l0 : List (S27)) : Option (Bool) := (kilnlaw11_Told.f k).bind fun t252 => (if t252 = true then (kilnlaw11_TokenPrints.l0 k l0 0) else (some false))
theorem kilnlaw11_TokenPrints.mono_l : ∀ k, (∀ y0 y1, LeO (kilnlaw11_TokenPrints.l0 k y0 y1) (kilnlaw11_TokenPrints.l0 (k + 1) y0 y1)) ∧ (∀ y0 y1 y2, LeO (kilnlaw11_TokenPrints.j1 k y0 y1 y2) (kilnlaw11_TokenPrints.j1 (k + 1) y0 y1 y2))
  | 0 => ⟨fun _ _ r h => by simp [kilnlaw11_TokenPrints.l0] at h, fun _ _ _ r h => by simp [kilnlaw11_TokenPrints.j1] at h⟩
  | k + 1 => by
    obtain ⟨ih0, ih1⟩ := kilnlaw11_TokenPrints.mono_l k
    refine ⟨?_, ?_⟩
    · intro y0 y1
      unfold kilnlaw11_TokenPrints.l0
      repeat' first
      | (with_reducible exact ih0 _ _)
      | (with_reducible exact ih1 _ _ _)
      | (with_reducible exact kilnlaw11_Told.mono _)
      | (with_reducible exact kilnlaw11_prints.mono _ _)
      | (with_reducible exact kilnref11_Quote.mono _ _)
      | (with_reducible exact token_Quote.mono _ _)
      | (with_reducible exact LeO.refl _)
      | (with_reducible exact LeO.none _)
      | (with_reducible refine LeO.ite ?_ ?_)
      | (with_reducible refine LeO.bind ?_ (fun _ => ?_))
      | exact ih0 _ _
      | exact ih1 _ _ _
      | exact kilnlaw11_Told.mono _
      | exact kilnlaw11_prints.mono _ _
      | exact kilnref11_Quote.mono _ _
      | exact token_Quote.mono _ _
      | exact LeO.none _
      | refine LeO.ite ?_ ?_
      | refine LeO.bind ?_ (fun _ => ?_)
    · intro y0 y1 y2
      unfold kilnlaw11_TokenPrints.j1
      repeat' first
      | (with_reducible exact ih0 _ _)
      | (with_reducible exact ih1 _ _ _)
      | (with_reducible exact kilnlaw11_Told.mono _)
      | (with_reducible exact kilnlaw11_prints.mono _ _)
      | (with_reducible exact kilnref11_Quote.mono _ _)
      | (with_reducible exact token_Quote.mono _ _)
      | (with_reducible exact LeO.refl _)
      | (with_reducible exact LeO.none _)
      | (with_reducible refine LeO.ite ?_ ?_)
      | (with_reducible refine LeO.bind ?_ (fun _ => ?_))
      | exact ih0 _ _
      | exact ih1 _ _ _
      | exact kilnlaw11_Told.mono _
      | exact kilnlaw11_prints.mono _ _
      | exact kilnref11_Quote.mono _ _
      | exact token_Quote.mono _ _
      | exact LeO.none _
      | refine LeO.ite ?_ ?_
      | refine LeO.bind ?_ (fun _ => ?_)
theorem kilnlaw11_TokenPrints.mono : ∀ a0 k, LeO (kilnlaw11_TokenPrints.f k a0) (kilnlaw11_TokenPrints.f (k + 1) a0) := by
  intro a0 k
  obtain ⟨ih0, ih1⟩ := kilnlaw11_TokenPrints.mono_l k
  unfold kilnlaw11_TokenPrints.f
  repeat' first
      | (with_reducible exact ih0 _ _)
      | (with_reducible exact ih1 _ _ _)
      | (with_reducible exact kilnlaw11_Told.mono _)
      | (with_reducible exact kilnlaw11_prints.mono _ _)
      | (with_reducible exact kilnref11_Quote.mono _ _)
      | (with_reducible exact token_Quote.mono _ _)
      | (with_reducible exact LeO.refl _)
      | (with_reducible exact LeO.none _)
      | (with_reducible refine LeO.ite ?_ ?_)
      | (with_reducible refine LeO.bind ?_ (fun _ => ?_))
      | exact ih0 _ _
      | exact ih1 _ _ _
      | exact kilnlaw11_Told.mono _
      | exact kilnlaw11_prints.mono _ _
      | exact kilnref11_Quote.mono _ _
      | exact token_Quote.mono _ _
      | exact LeO.none _
      | refine LeO.ite ?_ ?_
      | refine LeO.bind ?_ (fun _ => ?_)
set_option maxHeartbeats 8000000 in
set_option maxRecDepth 100000 in
theorem kilnlaw11_TokenPrints.calls_short (k : Nat) (A0 : Option Addr) (c0 : Nat) (l0 : List (S27)) (r : Bool) (w : World) (hr0 : Kd.C k27 w A0 l0.length l0) (hc0 : l0.length ≤ c0) (hs : l0.length ≤ 3000) (h : kilnlaw11_TokenPrints.f k l0 = some r) :
    Calls Try.prog 4 #[.slice A0 l0.length c0] w fun e w' => e = .returned (.bool r) ∧ Below w.heap.size w w' := by
  have cs0 : decide ((l0.length : Int) > 3000) = false := decide_eq_false (by omega)
  have cs1 : decide (3000 < (l0.length : Int)) = false := cs0
  have cs2 : ((3000 : Int) < (l0.length : Int)) = False := eq_false (by omega)
  have HR0 := Aside0.mk hr0
  have HC0 := Aside0.mk hc0
  clear hr0 hc0
  have HB := Aside0.mk (Below.refl w.heap.size w)
  have H : ((kilnlaw11_Told.f k).bind fun t252 => (if t252 = true then (kilnlaw11_TokenPrints.l0 k l0 0) else (some false))) = some r := h
  clear h
  replace H := Option.bind_eq_some_iff.mp H
  obtain ⟨t252, A20, H⟩ := H
  replace H : (if t252 = true then (kilnlaw11_TokenPrints.l0 k l0 0) else (some false)) = some r := H
  have A2 := Aside0.mk A20
  clear A20
  by_cases c3 : t252 = true
  · subst c3
    have H1 : (kilnlaw11_TokenPrints.l0 k l0 0) = some r := by rw [if_pos rfl] at H; exact H
    clear H
    have H := H1
    clear H1
    have H' := Aside0.mk H
    clear H
    go_enter Try.func4, Try.ntmps4
    go_wp2_with (first | ((with_reducible refine gate_callee (f := 14) rfl ?_); refine goesL_ (some 5) rfl rfl Try.func14 (by kernel_rfl) rfl #[] rfl (by (try simp only [List.map_toArray, List.map_cons, List.map_nil]); first | done | rfl | (simp only [List.length_drop, List.length_take]; rfl)) ?_; (with_reducible refine (kilnlaw11_Told.calls k  true _ A2.out).mono ?_); rintro e w4 ⟨rfl, hb⟩; refine ⟨_, rfl, ?_⟩; have n0_ := Aside0.mk (below_step (by repeat (first | (with_reducible first | exact HB.out | apply below_alloc | apply pw_below_drewN | apply below_drew1) | exact HB.out)) hb); clear HB; have HB := n0_; clear n0_; (try clear hb); (try clear hb2); (try clear hk); (try clear hi)))
    go_loopg [3] k (fun kq v3 w' => ∃ (x3_1 : Int), v3 = .int .i64 x3_1 ∧ Aside0 (kilnlaw11_TokenPrints.l0 kq l0 x3_1 = some r) ∧ Aside0 (kq ≤ k) ∧ Aside0 (Below w.heap.size w w'))
    case atStart => exact ⟨(0), (by first | rfl | (simp; done) | (simp [*]; done)), H', ⟨Nat.le_refl _⟩, ⟨by repeat (first | (with_reducible first | exact HB.out | apply below_alloc | apply pw_below_drewN | apply below_drew1) | exact HB.out)⟩⟩
    case round =>
      clear H'
      try clear c1
      try clear p2
      try clear c3
      try clear c4
      obtain ⟨x3_1, rfl, HA, HK1, HB⟩ := hrel
      cases gk with
      | zero => exact absurd HA.out (by simp [kilnlaw11_TokenPrints.l0])
      | succ k1 =>
        have H := HA.out
        clear HA
        simp only [kilnlaw11_TokenPrints.l0] at H
        have HC5 := Aside0.mk H
        clear H
        go_upto_region 6 with (fail)
        go_cut [19] (fun v19 wc => ∃ (kq : Nat) (x19_4 : Bool), v19 = .bool x19_4 ∧ Aside0 (kilnlaw11_TokenPrints.j1 kq l0 x3_1 x19_4 = some r) ∧ Aside0 (kq ≤ k1) ∧ Aside0 (Below w.heap.size w wc))
        case first =>
          have H := HC5.out
          clear HC5
          by_cases c6 : x3_1 < (l0.length : Int)
          · rw [if_pos c6] at H
            have c6b0 : decide (x3_1 < (l0.length : Int)) = true := decide_eq_true c6
            clear c6
            (first | rw [c6b0] | (simp only [i64_w, i32_w]; rw [c6b0]) | skip)
            have H' := Aside0.mk H
            clear H
            go_wp2
            go_meet
            case rel => exact ⟨_, (decide (x3_1 < 50)), (by first | rfl | (simp; done) | (simp [*]; done)), H', ⟨by have := HK1.out; first | omega | exact Nat.le_refl _⟩, ⟨by repeat (first | (with_reducible first | exact HB.out | apply below_alloc | apply pw_below_drewN | apply below_drew1) | exact HB.out)⟩⟩
          · rw [if_neg c6] at H
            have c6b0 : decide (x3_1 < (l0.length : Int)) = false := decide_eq_false c6
            clear c6
            (first | rw [c6b0] | (simp only [i64_w, i32_w]; rw [c6b0]) | skip)
            have H' := Aside0.mk H
            clear H
            go_wp2
            go_meet
            case rel => exact ⟨_, (false), (by first | rfl | (simp; done) | (simp [*]; done)), H', ⟨by have := HK1.out; first | omega | exact Nat.le_refl _⟩, ⟨by repeat (first | (with_reducible first | exact HB.out | apply below_alloc | apply pw_below_drewN | apply below_drew1) | exact HB.out)⟩⟩
        case rest =>
          clear HC5
          try clear c1
          try clear p2
          try clear c3
          try clear c4
          try clear c6
          try clear c6b0
          try clear p2
          obtain ⟨kq, x19_4, rfl, HA, HJ4, HB⟩ := hcut
          cases kq with
          | zero => exact absurd HA.out (by simp [kilnlaw11_TokenPrints.j1])
          | succ kj4 =>
            have H := HA.out
            clear HA
            simp only [kilnlaw11_TokenPrints.j1] at H
            by_cases c7 : x19_4 = true
            · subst c7
              have H1 : (if 0 ≤ x3_1 then (if x3_1 < (l0.length : Int) then ((kilnlaw11_cut.f ((rd_T27 l0 x3_1).f1) 2000).bind fun t255 => ((token_Quote.f kj4 t255).bind fun t256 => ((kilnref11_Quote.f kj4 t255).bind fun t257 => (if t256.toList = t257.toList then (kilnlaw11_TokenPrints.l0 kj4 l0 (wrap64 (x3_1 + 1))) else (some false))))) else (none)) else (none)) = some r := by rw [if_pos rfl] at H; exact H
              clear H
              have H := H1
              clear H1
              by_cases c8 : 0 ≤ x3_1
              · rw [if_pos c8] at H
                have c8b0 : decide (0 ≤ x3_1) = true := decide_eq_true c8
                clear c8
                by_cases c9 : x3_1 < (l0.length : Int)
                · rw [if_pos c9] at H
                  have c9b0 : decide (x3_1 < (l0.length : Int)) = true := decide_eq_true c9
                  clear c9
                  replace H := Option.bind_eq_some_iff.mp H
                  obtain ⟨t255, A100, H⟩ := H
                  replace H : ((token_Quote.f kj4 t255).bind fun t256 => ((kilnref11_Quote.f kj4 t255).bind fun t257 => (if t256.toList = t257.toList then (kilnlaw11_TokenPrints.l0 kj4 l0 (wrap64 (x3_1 + 1))) else (some false)))) = some r := H
                  have A10 := Aside0.mk A100
                  clear A100
                  replace H := Option.bind_eq_some_iff.mp H
                  obtain ⟨t256, A110, H⟩ := H
                  replace H : ((kilnref11_Quote.f kj4 t255).bind fun t257 => (if t256.toList = t257.toList then (kilnlaw11_TokenPrints.l0 kj4 l0 (wrap64 (x3_1 + 1))) else (some false))) = some r := H
                  have A11 := Aside0.mk A110
                  clear A110
                  replace H := Option.bind_eq_some_iff.mp H
                  obtain ⟨t257, A120, H⟩ := H
                  replace H : (if t256.toList = t257.toList then (kilnlaw11_TokenPrints.l0 kj4 l0 (wrap64 (x3_1 + 1))) else (some false)) = some r := H
                  have A12 := Aside0.mk A120
                  clear A120
                  by_cases c13 : t256.toList = t257.toList
                  · rw [if_pos c13] at H
                    have c13b0 : (t256.toList == t257.toList) = true := beq_iff_eq.mpr c13
                    have c13b1 : (t256.toList != t257.toList) = false := bne_eq_false_iff_eq.mpr c13
                    clear c13
                    have H' := Aside0.mk H
                    clear H
                    have p254 : 0 ≤ (x3_1 : Int) := of_decide_eq_true (by first | (with_reducible assumption) | assumption)
                    have q254 : x3_1 < (l0.length : Int) := of_decide_eq_true (by first | (with_reducible assumption) | assumption)
                    obtain ⟨ad254, e254, hx254_0, hx254_1, hx254_2, hx254_3⟩ := at_T27 HR0.out x3_1 p254 q254
                    cases e254
                    replace hx254_0 := (HB.out.cell (World.block_lt_of_cell? w _ hx254_0)).trans hx254_0
                    replace hx254_1 := (HB.out.cell (World.block_lt_of_cell? w _ hx254_1)).trans hx254_1
                    replace hx254_2 := (HB.out.cell (World.block_lt_of_cell? w _ hx254_2)).trans hx254_2
                    replace hx254_3 := (HB.out.cell (World.block_lt_of_cell? w _ hx254_3)).trans hx254_3
                    replace p254 := eq_true p254
                    replace q254 := eq_true q254
                    go_wp2_with (first | ((with_reducible refine gate_callee (f := 16) rfl ?_); refine goesL_ (some 27) rfl rfl Try.func16 (by kernel_rfl) rfl #[.string ((rd_T27 l0 x3_1).f1), .int .i64 2000] rfl (by (try simp only [List.map_toArray, List.map_cons, List.map_nil]); first | done | rfl | (simp only [List.length_drop, List.length_take]; rfl)) ?_; (with_reducible refine (kilnlaw11_cut.calls ((rd_T27 l0 x3_1).f1) 2000 t255 _ A10.out).mono ?_); rintro e w' ⟨rfl, ⟨nd, rfl⟩⟩; refine ⟨_, rfl, ?_⟩) | ((with_reducible refine gate_callee (f := 17) rfl ?_); refine goesL_ (some 29) rfl rfl Try.func17 (by kernel_rfl) rfl #[.string t255] rfl (by (try simp only [List.map_toArray, List.map_cons, List.map_nil]); first | done | rfl | (simp only [List.length_drop, List.length_take]; rfl)) ?_; (with_reducible refine (token_Quote.calls kj4 t255 t256 _ A11.out).mono ?_); rintro e w14 ⟨rfl, hb⟩; refine ⟨_, rfl, ?_⟩; have n0_ := Aside0.mk (below_step (by repeat (first | (with_reducible first | exact HB.out | apply below_alloc | apply pw_below_drewN | apply below_drew1) | exact HB.out)) hb); clear HB; have HB := n0_; clear n0_; (try clear hb); (try clear hb2); (try clear hk); (try clear hi)) | ((with_reducible refine gate_callee (f := 18) rfl ?_); refine goesL_ (some 31) rfl rfl Try.func18 (by kernel_rfl) rfl #[.string t255] rfl (by (try simp only [List.map_toArray, List.map_cons, List.map_nil]); first | done | rfl | (simp only [List.length_drop, List.length_take]; rfl)) ?_; (with_reducible refine (kilnref11_Quote.calls kj4 t255 t257 _ A12.out).mono ?_); rintro e w15 ⟨rfl, hb⟩; refine ⟨_, rfl, ?_⟩; have n0_ := Aside0.mk (below_step (by repeat (first | (with_reducible first | exact HB.out | apply below_alloc | apply pw_below_drewN | apply below_drew1) | exact HB.out)) hb); clear HB; have HB := n0_; clear n0_; (try clear hb); (try clear hb2); (try clear hk); (try clear hi)))
                    go_roundg kj4
                    case measure => have := HK1.out; have := HJ4.out; omega
                    case rel => exact ⟨(wrap64 (x3_1 + 1)), (by first | rfl | (simp; done) | (simp [*]; done)), H', ⟨by have := HK1.out; have := HJ4.out; omega⟩, ⟨by repeat (first | (with_reducible first | exact HB.out | apply below_alloc | apply pw_below_drewN | apply below_drew1) | exact HB.out)⟩⟩
                  · rw [if_neg c13] at H
                    have c13b0 : (t256.toList == t257.toList) = false := beq_eq_false_iff_ne.mpr c13
                    have c13b1 : (t256.toList != t257.toList) = true := bne_iff_ne.mpr c13
                    obtain rfl := Option.some.inj H
                    have p254 : 0 ≤ (x3_1 : Int) := of_decide_eq_true (by first | (with_reducible assumption) | assumption)
                    have q254 : x3_1 < (l0.length : Int) := of_decide_eq_true (by first | (with_reducible assumption) | assumption)
                    obtain ⟨ad254, e254, hx254_0, hx254_1, hx254_2, hx254_3⟩ := at_T27 HR0.out x3_1 p254 q254
                    cases e254
                    replace hx254_0 := (HB.out.cell (World.block_lt_of_cell? w _ hx254_0)).trans hx254_0
                    replace hx254_1 := (HB.out.cell (World.block_lt_of_cell? w _ hx254_1)).trans hx254_1
                    replace hx254_2 := (HB.out.cell (World.block_lt_of_cell? w _ hx254_2)).trans hx254_2
                    replace hx254_3 := (HB.out.cell (World.block_lt_of_cell? w _ hx254_3)).trans hx254_3
                    replace p254 := eq_true p254
                    replace q254 := eq_true q254
                    go_wp2_with (first | ((with_reducible refine gate_callee (f := 16) rfl ?_); refine goesL_ (some 27) rfl rfl Try.func16 (by kernel_rfl) rfl #[.string ((rd_T27 l0 x3_1).f1), .int .i64 2000] rfl (by (try simp only [List.map_toArray, List.map_cons, List.map_nil]); first | done | rfl | (simp only [List.length_drop, List.length_take]; rfl)) ?_; (with_reducible refine (kilnlaw11_cut.calls ((rd_T27 l0 x3_1).f1) 2000 t255 _ A10.out).mono ?_); rintro e w' ⟨rfl, ⟨nd, rfl⟩⟩; refine ⟨_, rfl, ?_⟩) | ((with_reducible refine gate_callee (f := 17) rfl ?_); refine goesL_ (some 29) rfl rfl Try.func17 (by kernel_rfl) rfl #[.string t255] rfl (by (try simp only [List.map_toArray, List.map_cons, List.map_nil]); first | done | rfl | (simp only [List.length_drop, List.length_take]; rfl)) ?_; (with_reducible refine (token_Quote.calls kj4 t255 t256 _ A11.out).mono ?_); rintro e w16 ⟨rfl, hb⟩; refine ⟨_, rfl, ?_⟩; have n0_ := Aside0.mk (below_step (by repeat (first | (with_reducible first | exact HB.out | apply below_alloc | apply pw_below_drewN | apply below_drew1) | exact HB.out)) hb); clear HB; have HB := n0_; clear n0_; (try clear hb); (try clear hb2); (try clear hk); (try clear hi)) | ((with_reducible refine gate_callee (f := 18) rfl ?_); refine goesL_ (some 31) rfl rfl Try.func18 (by kernel_rfl) rfl #[.string t255] rfl (by (try simp only [List.map_toArray, List.map_cons, List.map_nil]); first | done | rfl | (simp only [List.length_drop, List.length_take]; rfl)) ?_; (with_reducible refine (kilnref11_Quote.calls kj4 t255 t257 _ A12.out).mono ?_); rintro e w17 ⟨rfl, hb⟩; refine ⟨_, rfl, ?_⟩; have n0_ := Aside0.mk (below_step (by repeat (first | (with_reducible first | exact HB.out | apply below_alloc | apply pw_below_drewN | apply below_drew1) | exact HB.out)) hb); clear HB; have HB := n0_; clear n0_; (try clear hb); (try clear hb2); (try clear hk); (try clear hi)))
                    go_ret
                    exact ⟨by first | rfl | (simp [errW_none, errW_some] <;> rfl) | (simp [*, errW_none, errW_some] <;> rfl), by repeat (first | (with_reducible first | exact HB.out | apply below_alloc | apply pw_below_drewN | apply below_drew1) | exact HB.out)⟩
                · rw [if_neg c9] at H
                  exact absurd H (by simp)
              · rw [if_neg c8] at H
                exact absurd H (by simp)
            · replace c7 := Bool.eq_false_iff.mpr c7
              subst c7
              have H1 : ((kilnlaw11_prints.f kj4 l0).bind fun t253 => (some t253)) = some r := by rw [if_neg (show ¬ (false = true) by decide)] at H; exact H
              clear H
              have H := H1
              clear H1
              replace H := Option.bind_eq_some_iff.mp H
              obtain ⟨t253, A180, H⟩ := H
              replace H : (some t253) = some r := H
              have A18 := Aside0.mk A180
              clear A180
              obtain rfl := Option.some.inj H
              go_wp2_with (first | ((with_reducible refine gate_callee (f := 19) rfl ?_); refine goesL_ (some 34) rfl rfl Try.func19 (by kernel_rfl) rfl #[.slice A0 l0.length c0] rfl (by (try simp only [List.map_toArray, List.map_cons, List.map_nil]); first | done | rfl | (simp only [List.length_drop, List.length_take]; rfl)) ?_; (with_reducible refine (kilnlaw11_prints.calls kj4 _ _ l0 t253 _ ?side1 ?side2 A18.out).mono ?_); (case side1 => repeat (first | exact (Kd.C_below HR0.out HB.out) | (with_reducible refine Kd.C_alloc ?_ _) | (with_reducible refine Kd.C_drewN ?_ _) | (with_reducible refine Kd.C_drew ?_))); (case side2 => exact HC0.out); rintro e w19 ⟨rfl, hb⟩; refine ⟨_, rfl, ?_⟩; have n0_ := Aside0.mk (below_step (by repeat (first | (with_reducible first | exact HB.out | apply below_alloc | apply pw_below_drewN | apply below_drew1) | exact HB.out)) hb); clear HB; have HB := n0_; clear n0_; (try clear hb); (try clear hb2); (try clear hk); (try clear hi)))
              go_ret
              exact ⟨by first | rfl | (simp [errW_none, errW_some] <;> rfl) | (simp [*, errW_none, errW_some] <;> rfl), by repeat (first | (with_reducible first | exact HB.out | apply below_alloc | apply pw_below_drewN | apply below_drew1) | exact HB.out)⟩
  · replace c3 := Bool.eq_false_iff.mpr c3
    subst c3
    have H1 : (some false) = some r := by rw [if_neg (show ¬ (false = true) by decide)] at H; exact H
    clear H
    have H := H1
    clear H1
    obtain rfl := Option.some.inj H
    go_enter Try.func4, Try.ntmps4
    go_wp2_with (first | ((with_reducible refine gate_callee (f := 14) rfl ?_); refine goesL_ (some 5) rfl rfl Try.func14 (by kernel_rfl) rfl #[] rfl (by (try simp only [List.map_toArray, List.map_cons, List.map_nil]); first | done | rfl | (simp only [List.length_drop, List.length_take]; rfl)) ?_; (with_reducible refine (kilnlaw11_Told.calls k  false _ A2.out).mono ?_); rintro e w20 ⟨rfl, hb⟩; refine ⟨_, rfl, ?_⟩; have n0_ := Aside0.mk (below_step (by repeat (first | (with_reducible first | exact HB.out | apply below_alloc | apply pw_below_drewN | apply below_drew1) | exact HB.out)) hb); clear HB; have HB := n0_; clear n0_; (try clear hb); (try clear hb2); (try clear hk); (try clear hi)))
    go_ret
    exact ⟨by first | rfl | (simp [errW_none, errW_some] <;> rfl) | (simp [*, errW_none, errW_some] <;> rfl), by repeat (first | (with_reducible first | exact HB.out | apply below_alloc | apply pw_below_drewN | apply below_drew1) | exact HB.out)⟩

set_option maxHeartbeats 8000000 in
set_option maxRecDepth 100000 in
theorem kilnlaw11_TokenPrints.calls_long (k : Nat) (A0 : Option Addr) (c0 : Nat) (n0 : Nat) (l0 : List (S27)) (r : Bool) (w : World) (hr0 : Kd.C k27 w A0 l0.length l0) (hc0 : l0.length ≤ c0) (hn : 3000 < n0) (hl : l0.length = 3000) (h : kilnlaw11_TokenPrints.f k l0 = some r) :
    Calls Try.prog 4 #[.slice A0 n0 c0] w fun e w' => e = .returned (.bool r) ∧ Below w.heap.size w w' := by
  have cs0 : decide ((n0 : Int) > 3000) = true := decide_eq_true (by omega)
  have cs1 : decide (3000 < (n0 : Int)) = true := cs0
  have cs2 : ((3000 : Int) < (n0 : Int)) = True := eq_true (by omega)
  obtain ⟨i0, hi0, _⟩ := info_parts info27
  have hcap := cut_cap (P := Try.prog) 25 27 .i64 Try.underlying25 hi0 A0 n0 c0 (3000 : Int) (by omega) (by omega)
  have hcut : ∀ W : World, (Instr.slice 25 (.slice A0 n0 c0) none (some (.int .i64 3000)) none).run Try.prog W = .ok (.slice A0 l0.length c0) W := fun W => by rw [hcap W, hl]; rfl
  clear hi0 hcap hl
  have HR0 := Aside0.mk hr0
  have HC0 := Aside0.mk hc0
  clear hr0 hc0
  have HB := Aside0.mk (Below.refl w.heap.size w)
  have H : ((kilnlaw11_Told.f k).bind fun t252 => (if t252 = true then (kilnlaw11_TokenPrints.l0 k l0 0) else (some false))) = some r := h
  clear h
  replace H := Option.bind_eq_some_iff.mp H
  obtain ⟨t252, A20, H⟩ := H
  replace H : (if t252 = true then (kilnlaw11_TokenPrints.l0 k l0 0) else (some false)) = some r := H
  have A2 := Aside0.mk A20
  clear A20
  by_cases c3 : t252 = true
  · subst c3
    have H1 : (kilnlaw11_TokenPrints.l0 k l0 0) = some r := by rw [if_pos rfl] at H; exact H
    clear H
    have H := H1
    clear H1
    have H' := Aside0.mk H
    clear H
    go_enter Try.func4, Try.ntmps4
    go_wp2_with (first | ((with_reducible refine gate_callee (f := 14) rfl ?_); refine goesL_ (some 5) rfl rfl Try.func14 (by kernel_rfl) rfl #[] rfl (by (try simp only [List.map_toArray, List.map_cons, List.map_nil]); first | done | rfl | (simp only [List.length_drop, List.length_take]; rfl)) ?_; (with_reducible refine (kilnlaw11_Told.calls k  true _ A2.out).mono ?_); rintro e w4 ⟨rfl, hb⟩; refine ⟨_, rfl, ?_⟩; have n0_ := Aside0.mk (below_step (by repeat (first | (with_reducible first | exact HB.out | apply below_alloc | apply pw_below_drewN | apply below_drew1) | exact HB.out)) hb); clear HB; have HB := n0_; clear n0_; (try clear hb); (try clear hb2); (try clear hk); (try clear hi)))
    go_loopg [3] k (fun kq v3 w' => ∃ (x3_1 : Int), v3 = .int .i64 x3_1 ∧ Aside0 (kilnlaw11_TokenPrints.l0 kq l0 x3_1 = some r) ∧ Aside0 (kq ≤ k) ∧ Aside0 (Below w.heap.size w w'))
    case atStart => exact ⟨(0), (by first | rfl | (simp; done) | (simp [*]; done)), H', ⟨Nat.le_refl _⟩, ⟨by repeat (first | (with_reducible first | exact HB.out | apply below_alloc | apply pw_below_drewN | apply below_drew1) | exact HB.out)⟩⟩
    case round =>
      clear H'
      try clear c1
      try clear p2
      try clear c3
      try clear c4
      obtain ⟨x3_1, rfl, HA, HK1, HB⟩ := hrel
      cases gk with
      | zero => exact absurd HA.out (by simp [kilnlaw11_TokenPrints.l0])
      | succ k1 =>
        have H := HA.out
        clear HA
        simp only [kilnlaw11_TokenPrints.l0] at H
        have HC5 := Aside0.mk H
        clear H
        go_upto_region 6 with (fail)
        go_cut [19] (fun v19 wc => ∃ (kq : Nat) (x19_4 : Bool), v19 = .bool x19_4 ∧ Aside0 (kilnlaw11_TokenPrints.j1 kq l0 x3_1 x19_4 = some r) ∧ Aside0 (kq ≤ k1) ∧ Aside0 (Below w.heap.size w wc))
        case first =>
          have H := HC5.out
          clear HC5
          by_cases c6 : x3_1 < (l0.length : Int)
          · rw [if_pos c6] at H
            have c6b0 : decide (x3_1 < (l0.length : Int)) = true := decide_eq_true c6
            clear c6
            (first | rw [c6b0] | (simp only [i64_w, i32_w]; rw [c6b0]) | skip)
            have H' := Aside0.mk H
            clear H
            go_wp2
            go_meet
            case rel => exact ⟨_, (decide (x3_1 < 50)), (by first | rfl | (simp; done) | (simp [*]; done)), H', ⟨by have := HK1.out; first | omega | exact Nat.le_refl _⟩, ⟨by repeat (first | (with_reducible first | exact HB.out | apply below_alloc | apply pw_below_drewN | apply below_drew1) | exact HB.out)⟩⟩
          · rw [if_neg c6] at H
            have c6b0 : decide (x3_1 < (l0.length : Int)) = false := decide_eq_false c6
            clear c6
            (first | rw [c6b0] | (simp only [i64_w, i32_w]; rw [c6b0]) | skip)
            have H' := Aside0.mk H
            clear H
            go_wp2
            go_meet
            case rel => exact ⟨_, (false), (by first | rfl | (simp; done) | (simp [*]; done)), H', ⟨by have := HK1.out; first | omega | exact Nat.le_refl _⟩, ⟨by repeat (first | (with_reducible first | exact HB.out | apply below_alloc | apply pw_below_drewN | apply below_drew1) | exact HB.out)⟩⟩
        case rest =>
          clear HC5
          try clear c1
          try clear p2
          try clear c3
          try clear c4
          try clear c6
          try clear c6b0
          try clear p2
          obtain ⟨kq, x19_4, rfl, HA, HJ4, HB⟩ := hcut
          cases kq with
          | zero => exact absurd HA.out (by simp [kilnlaw11_TokenPrints.j1])
          | succ kj4 =>
            have H := HA.out
            clear HA
            simp only [kilnlaw11_TokenPrints.j1] at H
            by_cases c7 : x19_4 = true
            · subst c7
              have H1 : (if 0 ≤ x3_1 then (if x3_1 < (l0.length : Int) then ((kilnlaw11_cut.f ((rd_T27 l0 x3_1).f1) 2000).bind fun t255 => ((token_Quote.f kj4 t255).bind fun t256 => ((kilnref11_Quote.f kj4 t255).bind fun t257 => (if t256.toList = t257.toList then (kilnlaw11_TokenPrints.l0 kj4 l0 (wrap64 (x3_1 + 1))) else (some false))))) else (none)) else (none)) = some r := by rw [if_pos rfl] at H; exact H
              clear H
              have H := H1
              clear H1
              by_cases c8 : 0 ≤ x3_1
              · rw [if_pos c8] at H
                have c8b0 : decide (0 ≤ x3_1) = true := decide_eq_true c8
                clear c8
                by_cases c9 : x3_1 < (l0.length : Int)
                · rw [if_pos c9] at H
                  have c9b0 : decide (x3_1 < (l0.length : Int)) = true := decide_eq_true c9
                  clear c9
                  replace H := Option.bind_eq_some_iff.mp H
                  obtain ⟨t255, A100, H⟩ := H
                  replace H : ((token_Quote.f kj4 t255).bind fun t256 => ((kilnref11_Quote.f kj4 t255).bind fun t257 => (if t256.toList = t257.toList then (kilnlaw11_TokenPrints.l0 kj4 l0 (wrap64 (x3_1 + 1))) else (some false)))) = some r := H
                  have A10 := Aside0.mk A100
                  clear A100
                  replace H := Option.bind_eq_some_iff.mp H
                  obtain ⟨t256, A110, H⟩ := H
                  replace H : ((kilnref11_Quote.f kj4 t255).bind fun t257 => (if t256.toList = t257.toList then (kilnlaw11_TokenPrints.l0 kj4 l0 (wrap64 (x3_1 + 1))) else (some false))) = some r := H
                  have A11 := Aside0.mk A110
                  clear A110
                  replace H := Option.bind_eq_some_iff.mp H
                  obtain ⟨t257, A120, H⟩ := H
                  replace H : (if t256.toList = t257.toList then (kilnlaw11_TokenPrints.l0 kj4 l0 (wrap64 (x3_1 + 1))) else (some false)) = some r := H
                  have A12 := Aside0.mk A120
                  clear A120
                  by_cases c13 : t256.toList = t257.toList
                  · rw [if_pos c13] at H
                    have c13b0 : (t256.toList == t257.toList) = true := beq_iff_eq.mpr c13
                    have c13b1 : (t256.toList != t257.toList) = false := bne_eq_false_iff_eq.mpr c13
                    clear c13
                    have H' := Aside0.mk H
                    clear H
                    have p254 : 0 ≤ (x3_1 : Int) := of_decide_eq_true (by first | (with_reducible assumption) | assumption)
                    have q254 : x3_1 < (l0.length : Int) := of_decide_eq_true (by first | (with_reducible assumption) | assumption)
                    obtain ⟨ad254, e254, hx254_0, hx254_1, hx254_2, hx254_3⟩ := at_T27 HR0.out x3_1 p254 q254
                    cases e254
                    replace hx254_0 := (HB.out.cell (World.block_lt_of_cell? w _ hx254_0)).trans hx254_0
                    replace hx254_1 := (HB.out.cell (World.block_lt_of_cell? w _ hx254_1)).trans hx254_1
                    replace hx254_2 := (HB.out.cell (World.block_lt_of_cell? w _ hx254_2)).trans hx254_2
                    replace hx254_3 := (HB.out.cell (World.block_lt_of_cell? w _ hx254_3)).trans hx254_3
                    replace p254 := eq_true p254
                    replace q254 := eq_true q254
                    go_wp2_with (first | ((with_reducible refine gate_callee (f := 16) rfl ?_); refine goesL_ (some 27) rfl rfl Try.func16 (by kernel_rfl) rfl #[.string ((rd_T27 l0 x3_1).f1), .int .i64 2000] rfl (by (try simp only [List.map_toArray, List.map_cons, List.map_nil]); first | done | rfl | (simp only [List.length_drop, List.length_take]; rfl)) ?_; (with_reducible refine (kilnlaw11_cut.calls ((rd_T27 l0 x3_1).f1) 2000 t255 _ A10.out).mono ?_); rintro e w' ⟨rfl, ⟨nd, rfl⟩⟩; refine ⟨_, rfl, ?_⟩) | ((with_reducible refine gate_callee (f := 17) rfl ?_); refine goesL_ (some 29) rfl rfl Try.func17 (by kernel_rfl) rfl #[.string t255] rfl (by (try simp only [List.map_toArray, List.map_cons, List.map_nil]); first | done | rfl | (simp only [List.length_drop, List.length_take]; rfl)) ?_; (with_reducible refine (token_Quote.calls kj4 t255 t256 _ A11.out).mono ?_); rintro e w14 ⟨rfl, hb⟩; refine ⟨_, rfl, ?_⟩; have n0_ := Aside0.mk (below_step (by repeat (first | (with_reducible first | exact HB.out | apply below_alloc | apply pw_below_drewN | apply below_drew1) | exact HB.out)) hb); clear HB; have HB := n0_; clear n0_; (try clear hb); (try clear hb2); (try clear hk); (try clear hi)) | ((with_reducible refine gate_callee (f := 18) rfl ?_); refine goesL_ (some 31) rfl rfl Try.func18 (by kernel_rfl) rfl #[.string t255] rfl (by (try simp only [List.map_toArray, List.map_cons, List.map_nil]); first | done | rfl | (simp only [List.length_drop, List.length_take]; rfl)) ?_; (with_reducible refine (kilnref11_Quote.calls kj4 t255 t257 _ A12.out).mono ?_); rintro e w15 ⟨rfl, hb⟩; refine ⟨_, rfl, ?_⟩; have n0_ := Aside0.mk (below_step (by repeat (first | (with_reducible first | exact HB.out | apply below_alloc | apply pw_below_drewN | apply below_drew1) | exact HB.out)) hb); clear HB; have HB := n0_; clear n0_; (try clear hb); (try clear hb2); (try clear hk); (try clear hi)))
                    go_roundg kj4
                    case measure => have := HK1.out; have := HJ4.out; omega
                    case rel => exact ⟨(wrap64 (x3_1 + 1)), (by first | rfl | (simp; done) | (simp [*]; done)), H', ⟨by have := HK1.out; have := HJ4.out; omega⟩, ⟨by repeat (first | (with_reducible first | exact HB.out | apply below_alloc | apply pw_below_drewN | apply below_drew1) | exact HB.out)⟩⟩
                  · rw [if_neg c13] at H
                    have c13b0 : (t256.toList == t257.toList) = false := beq_eq_false_iff_ne.mpr c13
                    have c13b1 : (t256.toList != t257.toList) = true := bne_iff_ne.mpr c13
                    obtain rfl := Option.some.inj H
                    have p254 : 0 ≤ (x3_1 : Int) := of_decide_eq_true (by first | (with_reducible assumption) | assumption)
                    have q254 : x3_1 < (l0.length : Int) := of_decide_eq_true (by first | (with_reducible assumption) | assumption)
                    obtain ⟨ad254, e254, hx254_0, hx254_1, hx254_2, hx254_3⟩ := at_T27 HR0.out x3_1 p254 q254
                    cases e254
                    replace hx254_0 := (HB.out.cell (World.block_lt_of_cell? w _ hx254_0)).trans hx254_0
                    replace hx254_1 := (HB.out.cell (World.block_lt_of_cell? w _ hx254_1)).trans hx254_1
                    replace hx254_2 := (HB.out.cell (World.block_lt_of_cell? w _ hx254_2)).trans hx254_2
                    replace hx254_3 := (HB.out.cell (World.block_lt_of_cell? w _ hx254_3)).trans hx254_3
                    replace p254 := eq_true p254
                    replace q254 := eq_true q254
                    go_wp2_with (first | ((with_reducible refine gate_callee (f := 16) rfl ?_); refine goesL_ (some 27) rfl rfl Try.func16 (by kernel_rfl) rfl #[.string ((rd_T27 l0 x3_1).f1), .int .i64 2000] rfl (by (try simp only [List.map_toArray, List.map_cons, List.map_nil]); first | done | rfl | (simp only [List.length_drop, List.length_take]; rfl)) ?_; (with_reducible refine (kilnlaw11_cut.calls ((rd_T27 l0 x3_1).f1) 2000 t255 _ A10.out).mono ?_); rintro e w' ⟨rfl, ⟨nd, rfl⟩⟩; refine ⟨_, rfl, ?_⟩) | ((with_reducible refine gate_callee (f := 17) rfl ?_); refine goesL_ (some 29) rfl rfl Try.func17 (by kernel_rfl) rfl #[.string t255] rfl (by (try simp only [List.map_toArray, List.map_cons, List.map_nil]); first | done | rfl | (simp only [List.length_drop, List.length_take]; rfl)) ?_; (with_reducible refine (token_Quote.calls kj4 t255 t256 _ A11.out).mono ?_); rintro e w16 ⟨rfl, hb⟩; refine ⟨_, rfl, ?_⟩; have n0_ := Aside0.mk (below_step (by repeat (first | (with_reducible first | exact HB.out | apply below_alloc | apply pw_below_drewN | apply below_drew1) | exact HB.out)) hb); clear HB; have HB := n0_; clear n0_; (try clear hb); (try clear hb2); (try clear hk); (try clear hi)) | ((with_reducible refine gate_callee (f := 18) rfl ?_); refine goesL_ (some 31) rfl rfl Try.func18 (by kernel_rfl) rfl #[.string t255] rfl (by (try simp only [List.map_toArray, List.map_cons, List.map_nil]); first | done | rfl | (simp only [List.length_drop, List.length_take]; rfl)) ?_; (with_reducible refine (kilnref11_Quote.calls kj4 t255 t257 _ A12.out).mono ?_); rintro e w17 ⟨rfl, hb⟩; refine ⟨_, rfl, ?_⟩; have n0_ := Aside0.mk (below_step (by repeat (first | (with_reducible first | exact HB.out | apply below_alloc | apply pw_below_drewN | apply below_drew1) | exact HB.out)) hb); clear HB; have HB := n0_; clear n0_; (try clear hb); (try clear hb2); (try clear hk); (try clear hi)))
                    go_ret
                    exact ⟨by first | rfl | (simp [errW_none, errW_some] <;> rfl) | (simp [*, errW_none, errW_some] <;> rfl), by repeat (first | (with_reducible first | exact HB.out | apply below_alloc | apply pw_below_drewN | apply below_drew1) | exact HB.out)⟩
                · rw [if_neg c9] at H
                  exact absurd H (by simp)
              · rw [if_neg c8] at H
                exact absurd H (by simp)
            · replace c7 := Bool.eq_false_iff.mpr c7
              subst c7
              have H1 : ((kilnlaw11_prints.f kj4 l0).bind fun t253 => (some t253)) = some r := by rw [if_neg (show ¬ (false = true) by decide)] at H; exact H
              clear H
              have H := H1
              clear H1
              replace H := Option.bind_eq_some_iff.mp H
              obtain ⟨t253, A180, H⟩ := H
              replace H : (some t253) = some r := H
              have A18 := Aside0.mk A180
              clear A180
              obtain rfl := Option.some.inj H
              go_wp2_with (first | ((with_reducible refine gate_callee (f := 19) rfl ?_); refine goesL_ (some 34) rfl rfl Try.func19 (by kernel_rfl) rfl #[.slice A0 l0.length c0] rfl (by (try simp only [List.map_toArray, List.map_cons, List.map_nil]); first | done | rfl | (simp only [List.length_drop, List.length_take]; rfl)) ?_; (with_reducible refine (kilnlaw11_prints.calls kj4 _ _ l0 t253 _ ?side1 ?side2 A18.out).mono ?_); (case side1 => repeat (first | exact (Kd.C_below HR0.out HB.out) | (with_reducible refine Kd.C_alloc ?_ _) | (with_reducible refine Kd.C_drewN ?_ _) | (with_reducible refine Kd.C_drew ?_))); (case side2 => exact HC0.out); rintro e w19 ⟨rfl, hb⟩; refine ⟨_, rfl, ?_⟩; have n0_ := Aside0.mk (below_step (by repeat (first | (with_reducible first | exact HB.out | apply below_alloc | apply pw_below_drewN | apply below_drew1) | exact HB.out)) hb); clear HB; have HB := n0_; clear n0_; (try clear hb); (try clear hb2); (try clear hk); (try clear hi)))
              go_ret
              exact ⟨by first | rfl | (simp [errW_none, errW_some] <;> rfl) | (simp [*, errW_none, errW_some] <;> rfl), by repeat (first | (with_reducible first | exact HB.out | apply below_alloc | apply pw_below_drewN | apply below_drew1) | exact HB.out)⟩
  · replace c3 := Bool.eq_false_iff.mpr c3
    subst c3
    have H1 : (some false) = some r := by rw [if_neg (show ¬ (false = true) by decide)] at H; exact H
    clear H
    have H := H1
    clear H1
    obtain rfl := Option.some.inj H
    go_enter Try.func4, Try.ntmps4
    go_wp2_with (first | ((with_reducible refine gate_callee (f := 14) rfl ?_); refine goesL_ (some 5) rfl rfl Try.func14 (by kernel_rfl) rfl #[] rfl (by (try simp only [List.map_toArray, List.map_cons, List.map_nil]); first | done | rfl | (simp only [List.length_drop, List.length_take]; rfl)) ?_; (with_reducible refine (kilnlaw11_Told.calls k  false _ A2.out).mono ?_); rintro e w20 ⟨rfl, hb⟩; refine ⟨_, rfl, ?_⟩; have n0_ := Aside0.mk (below_step (by repeat (first | (with_reducible first | exact HB.out | apply below_alloc | apply pw_below_drewN | apply below_drew1) | exact HB.out)) hb); clear HB; have HB := n0_; clear n0_; (try clear hb); (try clear hb2); (try clear hk); (try clear hi)))
    go_ret
    exact ⟨by first | rfl | (simp [errW_none, errW_some] <;> rfl) | (simp [*, errW_none, errW_some] <;> rfl), by repeat (first | (with_reducible first | exact HB.out | apply below_alloc | apply pw_below_drewN | apply below_drew1) | exact HB.out)⟩

/-- the list that the law looks at -/
def kilnlaw11_TokenPrints.g (k : Nat) (l0 : List S27) : Option Bool := if l0.length ≤ 3000 then kilnlaw11_TokenPrints.f k l0 else kilnlaw11_TokenPrints.f k (l0.take 3000)
theorem kilnlaw11_TokenPrints.calls (k : Nat) (A0 : Option Addr) (c0 : Nat) (l0 : List (S27)) (r : Bool) (w : World) (hr0 : Kd.C k27 w A0 l0.length l0) (hc0 : l0.length ≤ c0) (h : kilnlaw11_TokenPrints.g k l0 = some r) :
    Calls Try.prog 4 #[.slice A0 l0.length c0] w fun e w' => e = .returned (.bool r) ∧ Below w.heap.size w w' := by
  unfold kilnlaw11_TokenPrints.g at h
  by_cases hs : l0.length ≤ 3000
  · rw [if_pos hs] at h
    exact kilnlaw11_TokenPrints.calls_short k A0 c0 l0 r w hr0 hc0 hs h
  · rw [if_neg hs] at h
    have hl : (l0.take 3000).length = 3000 := by rw [List.length_take]; omega
    have hT := Kd.C_take (m := 3000) hr0 (by omega)
    exact kilnlaw11_TokenPrints.calls_long k A0 c0 l0.length (l0.take 3000) r w hT (by omega) (by omega) hl h
end Go.Proofs.Ytnmmapjcphefpaa.G

-- TokenPrints: what the law's own function tells is true for every list of tokens that is none too great.
namespace Go.Proofs.Ytnmmapjcphefpaa.G
open Go.RowKit Go.Proofs.YtnmmapjcphefpaaW.PrintWords Go.Proofs.YtnmmapjcphefpaaW.PrintLast Go.Proofs.YtnmmapjcphefpaaW.PrintMore
set_option linter.unusedVariables false
set_option linter.unusedSimpArgs false

theorem tprints_ev (l : List S27) (h0 : l.length ≤ 3000) (hs : ∀ t ∈ l, t.f1.size ≤ 2000000) : ∀ (m : Nat) (i : Int), m = (60 - i).toNat → 0 ≤ i → i ≤ 50 → Ev (fun k => kilnlaw11_TokenPrints.l0 k l i) true := by
  have hend : ∀ i : Int, Ev (fun k => kilnlaw11_TokenPrints.j1 k l i false) true := by
    intro i
    refine Ev.step (f := fun k => (kilnlaw11_prints.f k l).bind fun t253 => (some t253)) (fun k => ?_) (Ev.bind (f := fun _ t => some t) (prints_ev l (by omega) hs) (Ev.now _))
    conv => lhs; unfold kilnlaw11_TokenPrints.j1
    rw [if_neg (by decide)]
  intro m
  induction m with
  | zero => intro i hm hi hi5; omega
  | succ m ih =>
    intro i hm hi hi5
    by_cases hx : i < (l.length : Int)
    case neg =>
      refine Ev.step (f := fun k => kilnlaw11_TokenPrints.j1 k l i false) (fun k => ?_) (hend i)
      conv => lhs; unfold kilnlaw11_TokenPrints.l0
      rw [if_neg hx]
    by_cases h5 : i < 50
    case neg =>
      refine Ev.step (f := fun k => kilnlaw11_TokenPrints.j1 k l i false) (fun k => ?_) (hend i)
      conv => lhs; unfold kilnlaw11_TokenPrints.l0
      rw [if_pos hx, decide_eq_false h5]
    refine Ev.step (f := fun k => kilnlaw11_TokenPrints.j1 k l i true) (fun k => ?_) ?_
    · conv => lhs; unfold kilnlaw11_TokenPrints.l0
      rw [if_pos hx, decide_eq_true h5]
    let f : Nat → Option Bool := fun k => (kilnlaw11_cut.f ((rd_T27 l i).f1) 2000).bind fun t255 => ((token_Quote.f k t255).bind fun t256 => ((kilnref11_Quote.f k t255).bind fun t257 => (if t256.toList = t257.toList then (kilnlaw11_TokenPrints.l0 k l (wrap64 (i + 1))) else (some false))))
    refine Ev.step (f := f) (fun k => ?_) ?_
    · conv => lhs; unfold kilnlaw11_TokenPrints.j1
      rw [if_pos rfl, if_pos hi, if_pos hx]
    show Ev f true
    have hsz : ∀ x : By, (mk (x.take (2000 : Int).toNat)).size ≤ 2000 := fun x => by
      rw [mk_size, List.length_take]
      have : (2000 : Int).toNat = 2000 := rfl
      omega
    refine Ev.congr (f := fun k => (some (mk ((bs (rd_T27 l i).f1).take (2000 : Int).toNat))).bind fun t255 => ((token_Quote.f k t255).bind fun t256 => ((kilnref11_Quote.f k t255).bind fun t257 => (if t256.toList = t257.toList then (kilnlaw11_TokenPrints.l0 k l (wrap64 (i + 1))) else (some false))))) (fun k => by show f k = _; simp only [f]; rw [cut_is _ 2000 (by decide)]) ?_
    refine Ev.bind (Ev.now _) ?_
    refine Ev.bind (Quote_ev _ (by have := hsz (bs (rd_T27 l i).f1); omega)) ?_
    refine Ev.bind (QuoteR_ev _ (by have := hsz (bs (rd_T27 l i).f1); omega)) ?_
    refine Ev.congr (fun k => if_pos rfl) ?_
    rw [IntWalk.wrap64_in _ (by omega)]
    exact ih (i + 1) (by omega) (by omega) (by omega)
theorem Prints_ev (l : List S27) (h0 : l.length ≤ 3000) (hs : ∀ t ∈ l, t.f1.size ≤ 2000000) : Ev (fun k => kilnlaw11_TokenPrints.f k l) true := by
  unfold kilnlaw11_TokenPrints.f
  refine Ev.bind Told_ev ?_
  refine Ev.congr (fun k => if_pos rfl) ?_
  exact tprints_ev l h0 hs 60 0 rfl (Int.le_refl _) (by decide)
theorem TokenPrints_ev (l : List S27) (hs : ∀ t ∈ l, t.f1.size ≤ 2000000) : Ev (fun k => kilnlaw11_TokenPrints.g k l) true := by
  unfold kilnlaw11_TokenPrints.g
  by_cases h : l.length ≤ 3000
  · exact Ev.congr (fun k => if_pos h) (Prints_ev l h hs)
  · exact Ev.congr (fun k => if_neg h) (Prints_ev (l.take 3000) (by rw [List.length_take]; omega) (fun t ht => hs t (List.mem_of_mem_take ht)))
end Go.Proofs.Ytnmmapjcphefpaa.G

/- Print of any tokens tells what the document tells, and Quote of each one's text: law TokenPrints returns true. For all arguments that can be read and are together of bulk at most 1048576. -/
set_option linter.unusedVariables false
set_option linter.unusedSimpArgs false
namespace Go.Proofs.Ytnmmapjcphefpaa.tokenPrints
open Go.ChangeShapes Go.WideShapes Go.ChangeAt Go.RowKit

theorem own : ownKnob Try.prog.godebug = none := by kernel_rfl
theorem contract (H : Type) (enc : TypeId × Value → H) (W : World) (base : Nat) (args : Array Value) (ds gs : List (DataW H)) (before : List MemPlace)
    (hval : ∀ (j : Nat) t v, Try.f4.params[j]? = some t → args[j]? = some v → Value.okWide Try.prog W .any base t v)
    (hW : DataW.Whole enc Try.prog Try.f4.params.toList Rows.tokenPrintsSpec.vars false W args.toList ds gs before) (hk : Rows.uptoSmall H (ds ++ gs) = true) :
    Calls Try.prog 4 args W fun e W' => ∃ v, e = .returned v ∧ Rows.tokenPrintsSpec.post enc Try.prog Try.f4 false true false false W args v W' := by
  have hW' := hW
  obtain ⟨p, q, hA0, hV, rfl, hfz, hnd⟩ := hW
  have hA : DataW.TrodAll enc Try.prog W 0 (fun _ => true) true Try.f4.params.toList args.toList ds p := hA0
  rw [Try.params4] at hA hval
  obtain ⟨v0, vs0, d0, ds0, p0, q0, hargs, rfl, rfl, h0, r0⟩ := trodAll_cons hA
  obtain ⟨rfl, rfl, rfl⟩ := trodAll_nil r0
  obtain rfl : args = #[v0] := by cases args; simp_all
  obtain ⟨rfl, rfl⟩ := trodVars_none hV
  have hb : Rows.uptoBulkAll ([d0] ++ ([] : List (DataW H))) ≤ 1048576 := of_decide_eq_true hk
  simp only [List.append_nil, Rows.uptoBulkAll] at hb
  obtain ⟨a0, l0, c0, rfl, o0, _, e0, b0, s0⟩ := G.open_toks (hval 0 25 v0 rfl rfl) h0
  clear hA0
  obtain ⟨k, hk'⟩ := Go.Proofs.YtnmmapjcphefpaaW.PrintWords.Ev.rounds (G.TokenPrints_ev l0 (fun t ht => by have := s0 t ht; omega))
  refine (G.kilnlaw11_TokenPrints.calls k a0 c0 l0 true W e0 o0 hk').mono fun e W' ⟨he, hg⟩ => ?_
  subst he
  exact ⟨_, rfl, law_post G.laidOut Try.underlying4 (by kernel_rfl) (fun t ht => by rw [Try.params4] at ht; simp at ht; rcases ht with rfl <;> exact ⟨by kernel_rfl, of_decide_eq_true (by kernel_rfl)⟩) rfl rfl hW' hg⟩

set_option maxRecDepth 100000 in
theorem lifted (os : Os) (started : os.Started) (H : Type) (enc : TypeId × Value → H) (F : Stop.Interp) :
    ReturnsInHanded {} Try.checked os 4 .any ((Rows.OpenSpec.upto Rows.tokenPrintsSpec).pre6 enc Try.prog Try.f4 Rows.tokenPrintsUptoRow.domain false) (((Rows.OpenSpec.upto Rows.tokenPrintsSpec).at F).post enc Try.prog Try.f4 false true false false) := by
  refine returnsInHanded_of_cond (C := Try.checked) (s := Rows.OpenSpec.upto Rows.tokenPrintsSpec) (k := Rows.uptoSmall) rfl own started (by kernel_rfl) Try.func4
    (OpenSpec.witness (enc := enc) (C := Try.checked) (s := Rows.OpenSpec.upto Rows.tokenPrintsSpec) (k := Rows.uptoSmall) rfl false ⟨#[], #[.slice none 0 0], []⟩ 8 (by kernel_rfl) (by kernel_rfl) (by kernel_rfl)
      (x := ([.nil], [], [])) (by kernel_rfl) rfl (by kernel_rfl)) ?_
  intro W base args ds gs before hval hW _ hk _
  exact contract H enc W base args ds gs before hval hW hk

theorem said : Rows.TokenPrintsUptoSaid :=
  OpenClaim.holds_of_cond 4 Try.f4 rfl rfl rfl rfl rfl rfl rfl ⟨rfl, rfl, rfl, rfl, rfl⟩ rfl rfl rfl rfl rfl (by kernel_rfl) Try.func4 (by kernel_rfl)
    (of_decide_eq_true (by kernel_rfl)) (by unfold Func.isWrapper; first | (rw [if_pos (by decide +kernel)]; kernel_rfl) | (rw [if_neg (by decide +kernel)]; exact ⟨rfl, rfl⟩))
    (fun os started H enc _ F => lifted os started H enc F)
end Go.Proofs.Ytnmmapjcphefpaa.tokenPrints
namespace Go.Proofs.Ytnmmapjcphefpaa
/-- The row, under a short name, for the claim. -/
theorem tokenPrints_holds : Rows.TokenPrintsUptoSaid := tokenPrints.said
end Go.Proofs.Ytnmmapjcphefpaa
