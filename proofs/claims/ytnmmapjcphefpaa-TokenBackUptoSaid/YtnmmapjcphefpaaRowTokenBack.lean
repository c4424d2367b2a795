/- Tokens that Print takes are read from its text, and what was read is printed as that text again: law TokenBack returns true. For all arguments that can be read and are together of bulk at most 1048576. -/
import Derived.Test.YtnmmapjcphefpaaKit
import Derived.ProofKit
import Derived.OpenShut
import Derived.Carry
import Derived.Deep.Slices
import Derived.Test.YtnmmapjcphefpaaRows
import Derived.Test.YtnmmapjcphefpaaGx0
import Derived.Lib.SmallJoins
import Derived.WideShapes
import Derived.Test.YtnmmapjcphefpaaGx7
import Derived.Test.YtnmmapjcphefpaaGx11
import Derived.Test.YtnmmapjcphefpaaGxhkilnlaw11prints
import Derived.Test.YtnmmapjcphefpaaGxhtokenPrint
import Derived.Test.YtnmmapjcphefpaaGxhtokenTokens
import Derived.Test.YtnmmapjcphefpaaPlNorm
import Derived.JoinedCond
/- General words for a law's row: what the row asks behind the call, where nothing below the call's own blocks has turned; arguments that are slices of structs of whole numbers. -/
set_option linter.unusedVariables false
set_option linter.unusedSimpArgs false
namespace Go.Proofs.Ytnmmapjcphefpaa
open Go.ChangeShapes Go.WideShapes Go.ChangeAt Go.RowKit

section
variable {H : Type} {enc : TypeId × Value → H} {P : Program}
theorem trodAll_stay (hl : laidOutB P = true) {W W' : World} {sp : Nat → Bool} : ∀ (ts : List TypeId) (vs : List Value) (ds : List (DataW H)) (ps : List MemPlace), (∀ t ∈ ts, P.readableRec t = true ∧ t < P.types.size) →
    DataW.TrodAll enc P W 0 (fun _ => true) true ts vs ds ps → (∀ p ∈ ps, W.sameAt W' p) → (∀ p ∈ ps, sp p.block = true) → DataW.TrodAll enc P W' 0 sp true ts vs ds ps
  | [], [], [], ps, _, h, _, _ => h
  | t :: ts, v :: vs, d :: ds, ps, hr, h, hs, hp => by
    obtain ⟨p, q, h1, h2, rfl⟩ := h
    refine ⟨p, q, ?_, trodAll_stay hl ts vs ds q (fun x hx => hr x (List.mem_cons_of_mem _ hx)) h2 (fun x hx => hs x (List.mem_append_right _ hx)) (fun x hx => hp x (List.mem_append_right _ hx)), rfl⟩
    exact WideElems.Trod_stays hl (hr t (by simp)).1 (hr t (by simp)).2 h1 (fun x hx => hs x (List.mem_append_left _ hx)) (fun x hx => hp x (List.mem_append_left _ hx))
  | [], _ :: _, _, _, _, h, _, _ => h.elim
  | [], [], _ :: _, _, _, h, _, _ => h.elim
  | _ :: _, [], _, _, _, h, _, _ => h.elim
  | _ :: _, _ :: _, [], _, _, h, _, _ => h.elim

/-- a law with no variable among what it is asked of: the arguments read as they read, the answer is true, the old blocks are as they were -/
theorem law_post (hl : laidOutB P = true) {f : Func} {s : ChangeSpec} {W W' : World} {args : Array Value} {ds : List (DataW H)} {before : List MemPlace} {T : TypeId} (hT : P.underlying T = some .bool) (hres : f.resultTypes = #[T])
    (hr : ∀ t ∈ f.params.toList, P.readableRec t = true ∧ t < P.types.size)
    (hspec : s.fn H (ds ++ []) = { results := [.lit (.bool true)], args := ds }) (hvars : s.vars = [])
    (hW : DataW.Whole enc P f.params.toList s.vars false W args.toList ds [] before)
    (hb : Below W.heap.size W W') : s.post enc P f false true false false W args (.bool true) W' := by
  have old : ∀ p ∈ before, p.block < W.heap.size := fun p hp => hW.lt p hp
  have inOld : ∀ p ∈ before, (fun b => decide (b < W.heap.size)) p.block = true := fun p hp => by simpa using old p hp
  have R : ∀ (b : Nat) (sp : Nat → Bool) (hd : Bool), DataW.TrodAll enc P W' b sp hd f.resultTypes.toList ((Value.bool true).resultList f.resultTypes.size) (s.fn H (ds ++ [])).results [] := by
    intro b sp hd
    rw [hspec, hres]
    exact trodAll_cons_mk (shut_bool hT true) trodAll_mk0
  have A : ∀ sp : Nat → Bool, (∀ p ∈ before, sp p.block = true) → DataW.TrodAll enc P W' 0 sp true f.params.toList args.toList (s.fn H (ds ++ [])).args before := by
    intro sp hsp
    rw [hspec]
    obtain ⟨p, q, h1, h2, h3, _, _⟩ := hW
    rw [hvars] at h2
    obtain rfl : q = [] := h2
    rw [List.append_nil] at h3
    subst h3
    exact trodAll_stay hl _ _ _ _ hr h1 (fun x hx => hb.same (old x hx)) hsp
  have V : ∀ sp : Nat → Bool, DataW.TrodVars enc P W' sp s.vars (s.fn H (ds ++ [])).vars [] := by
    intro sp
    rw [hspec, hvars]
    rfl
  refine ⟨ds, [], before, [], before, [], hW, R _ _ _, A _ inOld, V _, World.keptBut_mono (fun p hp => ⟨hp, .inr (by simpa using hp)⟩) (hb.frame (· ∈ before)), fun _ => ⟨fun j t r ht hr => ?_, ?_⟩⟩
  · rw [hres] at ht hr
    match j, ht, hr with
    | 0, ht, hr =>
      simp at ht
      simp [Value.resultList] at hr
      subst ht
      subst hr
      exact okWide_bool_mk hT true
  · obtain ⟨_, _, _, _, _, hz, hn⟩ := hW
    refine ⟨_, _, ([] ++ before) ++ [], ⟨[] ++ before, [], trodAll_append (A _ (fun _ _ => rfl)) (R _ _ _), V _, rfl, ?_, ?_⟩, ?_⟩
    · intro b off hp
      have hin : MemPlace.cell b off ∈ before := by simpa using hp
      exact (hb.frozen (p := ⟨b, off, none⟩) (old _ hin)).trans (hz b off hin)
    · intro ha
      simpa using hn ha
    · intro p hp _
      simpa using hp

/-- a struct of n whole numbers: its cells -/
theorem open_numbers {w : World} {base : Nat} {sp : Nat → Bool} {held : Bool} {e : TypeId} {fs : Array Field} {fuel : Nat} {cs : List Value} {x : DataW H × List MemPlace} (he : P.underlying e = some (.struct fs)) (hC : P.cellsOf e = fs.size)
    (hf : ∀ (j : Nat) (f : Field), fs[j]? = some f → f.offset = j ∧ P.underlying f.type = some (.int .i64) ∧ P.cellsOf f.type = 1) (h : DataW.trod enc P w base sp held fuel e cs = some x) : ∀ j, j < fs.size → ∃ z, cs[j]? = some (.int .i64 z) := by
  intro j hj
  obtain ⟨xs, n, _, _, hlen, hxl, hat⟩ := DataW.trod_struct he h
  obtain ⟨ho, hu, hc⟩ := hf j fs[j] (Array.getElem?_eq_getElem hj)
  have h1 := hat j fs[j] (Array.getElem?_eq_getElem hj)
  rw [ho, hc, List.getElem?_eq_getElem (show j < xs.length by omega)] at h1
  obtain ⟨z, hz, _⟩ := DataW.trod_int hu h1
  refine ⟨z, ?_⟩
  have h2 : ((cs.drop j).take 1)[0]? = some (.int .i64 z) := by rw [hz]; rfl
  simpa [List.getElem?_take, List.getElem?_drop] using h2
/-- a slice of such structs that came in -/
theorem open_numberRows {w : World} {t e : TypeId} {fs : Array Field} {v : Value} {d : DataW H} {ps : List MemPlace} {r : Reach} {b0 : Nat} (ht : P.underlying t = some (.slice e)) (he : P.underlying e = some (.struct fs)) (hC : P.cellsOf e = fs.size)
    (hf : ∀ (j : Nat) (f : Field), fs[j]? = some f → f.offset = j ∧ P.underlying f.type = some (.int .i64) ∧ P.cellsOf f.type = 1)
    (hv : Value.okWide P w r b0 t v) (h : DataW.Trod enc P w 0 (fun _ => true) true t v d ps) :
    (v = .slice none 0 0) ∨ ∃ (a : Addr) (len cap : Nat), v = .slice (some a) len cap ∧ len ≤ cap ∧ cap ≤ maxLen ∧ ∀ i j, i < len → j < fs.size → ∃ z, w.cell? (a.add (i * fs.size + j)) = some (.int .i64 z) := by
  obtain ⟨fuel, hx⟩ := h
  rcases Go.Deep.open_slice ht hx with ⟨h1, _⟩ | ⟨a, len, cap, m, n, D, Pl, h1, _, h2, h3, h4, _, h6⟩
  · left
    obtain ⟨a, n, c, rfl⟩ := okWide_slice ht hv
    simpa [Value.cells] using h1
  · right
    obtain ⟨a', n', c', rfl⟩ := okWide_slice ht hv
    simp [Value.cells] at h1
    obtain ⟨rfl, rfl, rfl⟩ := h1
    refine ⟨a, _, _, rfl, h2, h3, fun i j hi hj => ?_⟩
    simp at h4
    obtain ⟨cs', hc, hr⟩ := h6 i (by omega)
    rw [hC] at hc
    obtain ⟨z, hz⟩ := open_numbers he hC hf hr j hj
    obtain ⟨_, _, hat⟩ := World.cells?_some hc
    have := hat j hj
    rw [hz] at this
    exact ⟨z, by rw [← Go.Deep.add_add]; exact this⟩
end
end Go.Proofs.Ytnmmapjcphefpaa

-- A slice of tokens that comes in, opened: its tokens, and how long their texts are.
namespace Go.Proofs.Ytnmmapjcphefpaa.G
open Go.ChangeShapes Go.WideShapes Go.ChangeAt Go.RowKit Go.Proofs.YtnmmapjcphefpaaW.PrintWords Go.Proofs.YtnmmapjcphefpaaW.PrintLast Go.Proofs.YtnmmapjcphefpaaW.PrintMore
set_option linter.unusedVariables false
set_option linter.unusedSimpArgs false
section
variable {H : Type} {enc : TypeId × Value → H}
theorem tcells3 : Try.prog.cellsOf 3 = 1 := by kernel_rfl
theorem tcells9 : Try.prog.cellsOf 9 = 1 := by kernel_rfl
theorem tcells27 : Try.prog.cellsOf 27 = 4 := by kernel_rfl
/-- one token's cells -/
theorem tok_cells {w : World} {n : Nat} {sp : Nat → Bool} {hd : Bool} {cs : List Value} {x : DataW H × List MemPlace} (h : DataW.trod enc Try.prog w 0 sp hd n 27 cs = some x) :
    ∃ t : S27, cs = [.int .i64 t.f0, .string t.f1, .int .i64 t.f2, .int .i64 t.f3] ∧ t.f1.size ≤ maxLen ∧ ∃ y0 y2 y3, x.1 = .agg [y0, .lit (.string t.f1.data.toList), y2, y3] := by
  obtain ⟨y0, y1, y2, y3, m, hx, hl, h0, h1, h2, h3⟩ := Go.Joins.trod_struct4 Try.underlying27 h
  rw [tcells27] at hl
  obtain ⟨c0, c1, c2, c3, rfl⟩ : ∃ c0 c1 c2 c3, cs = [c0, c1, c2, c3] := by
    match cs, hl with
    | [c0, c1, c2, c3], _ => exact ⟨c0, c1, c2, c3, rfl⟩
  simp only [tcells3, tcells9, List.drop_zero, List.drop_succ_cons, List.take_succ_cons, List.take_zero] at h0 h1 h2 h3
  obtain ⟨z0, hz0, _⟩ := DataW.trod_int Try.underlying3 h0
  obtain ⟨z1, hz1, hq1, hs1⟩ := DataW.trod_string Try.underlying9 h1
  obtain ⟨z2, hz2, _⟩ := DataW.trod_int Try.underlying3 h2
  obtain ⟨z3, hz3, _⟩ := DataW.trod_int Try.underlying3 h3
  simp only [List.cons.injEq, and_true] at hz0 hz1 hz2 hz3
  refine ⟨⟨z0, z1, z2, z3⟩, by rw [hz0, hz1, hz2, hz3], hs1, y0.1, y2.1, y3.1, ?_⟩
  rw [hx, hq1]
theorem bulk_mem {d : DataW H} : ∀ {l : List (DataW H)}, d ∈ l → Rows.uptoBulk d ≤ Rows.uptoBulkAll l := by
  intro l
  induction l with
  | nil => intro h; cases h
  | cons x l ih =>
    intro h
    rw [Rows.uptoBulkAll]
    rcases List.mem_cons.1 h with rfl | h
    · omega
    · have := ih h; omega
theorem bulk_pos (d : DataW H) : 1 ≤ Rows.uptoBulk d := by
  cases d with
  | lit l => cases l <;> simp [Rows.uptoBulk]
  | _ => simp [Rows.uptoBulk]
theorem bulk_len : ∀ (l : List (DataW H)), l.length ≤ Rows.uptoBulkAll l := by
  intro l
  induction l with
  | nil => simp [Rows.uptoBulkAll]
  | cons x l ih => rw [Rows.uptoBulkAll, List.length_cons]; have := bulk_pos x; omega
/-- the argument's tokens -/
theorem open_toks {W : World} {base : Nat} {r : Reach} {v : Value} {d : DataW H} {p : List MemPlace} (hv : Value.okWide Try.prog W r base 25 v) (h : DataW.Trod enc Try.prog W 0 (fun _ => true) true 25 v d p) :
    ∃ (ao : Option Addr) (l : List S27) (c : Nat), v = .slice ao l.length c ∧ l.length ≤ c ∧ c ≤ maxLen ∧ Kd.C k27 W ao l.length l ∧ l.length ≤ Rows.uptoBulk d ∧ ∀ t ∈ l, t.f1.size ≤ Rows.uptoBulk d := by
  obtain ⟨fuel, hx⟩ := h
  obtain ⟨a', n', c', rfl⟩ := okWide_slice Try.underlying25 hv
  rcases Go.Deep.open_slice Try.underlying25 hx with ⟨h1, _⟩ | ⟨a, len, cap, m, n, D, Pl, h1, _, h2, h3, h4, h5, h6⟩
  · simp [Value.cells] at h1
    obtain ⟨rfl, rfl, rfl⟩ := h1
    exact ⟨none, [], 0, rfl, Nat.le_refl _, Nat.zero_le _, ⟨rfl, Nat.zero_le _, fun h => absurd h (Nat.lt_irrefl _)⟩, Nat.zero_le _, fun t ht => by cases ht⟩
  · simp [Value.cells] at h1
    obtain ⟨rfl, rfl, rfl⟩ := h1
    simp only [if_true] at h4
    have hel : ∀ i, i < n' → ∃ t : S27, (∃ cs', W.cells? 0 (a.add (i * 4)) 4 = some cs' ∧ cs' = [.int .i64 t.f0, .string t.f1, .int .i64 t.f2, .int .i64 t.f3]) ∧ t.f1.size ≤ Rows.uptoBulk (D i) := by
      intro i hi
      obtain ⟨cs', hc, hr⟩ := h6 i (by omega)
      rw [tcells27] at hc
      obtain ⟨t, ht, _, y0, y2, y3, hy⟩ := tok_cells hr
      refine ⟨t, ⟨cs', hc, ht⟩, ?_⟩
      have hy' : D i = .agg [y0, .lit (.string t.f1.data.toList), y2, y3] := hy
      rw [hy', Rows.uptoBulk]
      have := bulk_mem (d := (DataW.lit (.string t.f1.data.toList) : DataW H)) (l := [y0, .lit (.string t.f1.data.toList), y2, y3]) (by simp)
      rw [Rows.uptoBulk] at this
      have hsz : t.f1.data.toList.length = t.f1.size := Array.length_toList
      omega
    have hpick : ∃ f : Nat → S27, ∀ i, i < n' → (∃ cs', W.cells? 0 (a.add (i * 4)) 4 = some cs' ∧ cs' = [.int .i64 (f i).f0, .string (f i).f1, .int .i64 (f i).f2, .int .i64 (f i).f3]) ∧ (f i).f1.size ≤ Rows.uptoBulk (D i) := by
      refine ⟨fun i => if hi : i < n' then Classical.choose (hel i hi) else z27, fun i hi => ?_⟩
      simp only [dif_pos hi]
      exact Classical.choose_spec (hel i hi)
    obtain ⟨f, hf⟩ := hpick
    have hlen : ((List.range n').map f).length = n' := by simp
    have hd : d = .slice ((List.range n').map D) ((List.range (m - n')).map fun j => D (n' + j)) := congrArg Prod.fst h5
    have hb : Rows.uptoBulkAll ((List.range n').map D) + 1 ≤ Rows.uptoBulk d := by rw [hd, Rows.uptoBulk]; omega
    refine ⟨some a, (List.range n').map f, c', by rw [hlen], by rw [hlen]; exact h2, h3, ?_, ?_, ?_⟩
    · rw [hlen]
      refine ⟨hlen, by unfold maxLen at h3; omega, fun _ => ⟨a, rfl, fun j t hj => ?_⟩⟩
      have hjl : j < n' := by
        have := (List.getElem?_eq_some_iff.1 hj).1
        rwa [hlen] at this
      have ht : t = f j := by
        rw [List.getElem?_map, List.getElem?_range hjl] at hj
        simpa using hj.symm
      obtain ⟨⟨cs', hc, hcs⟩, _⟩ := hf j hjl
      rw [← ht] at hcs
      subst hcs
      refine ⟨_, rfl, k27_mk W t, fun i u hu => ?_⟩
      obtain ⟨_, _, hat⟩ := World.cells?_some hc
      have hi : i < 4 := (List.getElem?_eq_some_iff.1 hu).1
      have := hat i hi
      rw [Go.Deep.add_add] at this
      rw [← hu]; exact this
    · rw [hlen]
      have := bulk_len ((List.range n').map D)
      simp only [List.length_map, List.length_range] at this
      omega
    · intro t ht
      obtain ⟨i, hi, rfl⟩ := List.mem_map.1 ht
      have hi' := List.mem_range.1 hi
      have h7 := (hf i hi').2
      have h8 := bulk_mem (d := D i) (l := (List.range n').map D) (List.mem_map.2 ⟨i, hi, rfl⟩)
      omega
end
end Go.Proofs.Ytnmmapjcphefpaa.G

-- A slice of whole numbers that comes in, opened; what a row asks of a law that answers true, with a bound.
namespace Go.Proofs.Ytnmmapjcphefpaa.G
open Go.ChangeShapes Go.WideShapes Go.ChangeAt Go.RowKit Go.Proofs.YtnmmapjcphefpaaW.PrintWords Go.Proofs.YtnmmapjcphefpaaW.PrintLast Go.Proofs.YtnmmapjcphefpaaW.PrintMore
set_option linter.unusedVariables false
set_option linter.unusedSimpArgs false
section
variable {H : Type} {enc : TypeId × Value → H}
theorem laidOut : laidOutB Try.prog = true := by kernel_rfl
theorem open_nums {W : World} {base : Nat} {r : Reach} {v : Value} {d : DataW H} {p : List MemPlace} (hv : Value.okWide Try.prog W r base 42 v) (h : DataW.Trod enc Try.prog W 0 (fun _ => true) true 42 v d p) :
    ∃ (ao : Option Addr) (l : List Int) (c : Nat), v = .slice ao l.length c ∧ l.length ≤ c ∧ c ≤ maxLen ∧ Kd.C (Kd.int .i64) W ao l.length l := by
  obtain ⟨fuel, hx⟩ := h
  rcases open_ints Try.underlying42 Try.underlying3 tcells3 hx with ⟨h1, _⟩ | ⟨a, len, cap, zs, h1, _, h2, h3, h4, _, h5, _⟩
  · obtain ⟨a, n, c, rfl⟩ := okWide_slice Try.underlying42 hv
    simp [Value.cells] at h1
    obtain ⟨rfl, rfl, rfl⟩ := h1
    exact ⟨none, [], 0, rfl, Nat.le_refl _, Nat.zero_le _, ⟨rfl, Nat.zero_le _, fun h => absurd h (Nat.lt_irrefl _)⟩⟩
  · obtain ⟨a', n', c', rfl⟩ := okWide_slice Try.underlying42 hv
    simp [Value.cells] at h1
    obtain ⟨rfl, rfl, rfl⟩ := h1
    simp only [if_true] at h4
    have hlen : (zs.take n').length = n' := by rw [List.length_take]; omega
    refine ⟨some a, zs.take n', c', by rw [hlen], by rw [hlen]; exact h2, h3, ?_⟩
    rw [hlen]
    refine ⟨hlen, by unfold maxLen at h3; omega, fun _ => ⟨a, rfl, fun j t hj => ?_⟩⟩
    have hjl : j < n' := by
      have := (List.getElem?_eq_some_iff.1 hj).1
      rwa [hlen] at this
    have hz : zs.getD j 0 = t := by
      rw [List.getElem?_take, if_pos hjl] at hj
      rw [List.getD_eq_getElem?_getD, hj]; rfl
    refine ⟨_, rfl, rfl, fun i u hu => ?_⟩
    have hi : i < 1 := (List.getElem?_eq_some_iff.1 hu).1
    obtain rfl : i = 0 := by omega
    have := h5 j (by omega)
    rw [hz] at this
    simp at hu
    subst hu
    show W.cell? (a.add (j * 1 + 0)) = _
    rw [show j * 1 + 0 = j by omega]
    exact this
end
end Go.Proofs.Ytnmmapjcphefpaa.G

-- The walk of TokenBack: printed by wip/graft.py with the cut of the list left out, then turned by genback.py.
namespace Go.Proofs.Ytnmmapjcphefpaa.G
open Go.RowKit Go.Proofs.YtnmmapjcphefpaaW.PrintWords Go.Proofs.YtnmmapjcphefpaaW.PrintLast Go.Proofs.YtnmmapjcphefpaaW.PrintMore
attribute [local go_sem] max2_int min2_int max_two min_two max_three min_three max_four min_four
set_option linter.unusedVariables false
set_option linter.unusedSimpArgs false
mutual
def kilnlaw11_TokenBack.j0 : Nat → List (S27) → ByteArray → List (S27) → Bool → Option (Bool)
  | 0, _, _, _, _ => none
  | k + 1, x0, x3, x5, x45 => if x45 = true then (some false) else (kilnlaw11_TokenBack.l0 k x0 x3 x5 1 0)
def kilnlaw11_TokenBack.l0 : Nat → List (S27) → ByteArray → List (S27) → Int → Int → Option (Bool)
  | 0, _, _, _, _, _ => none
  | k + 1, x0, x3, x5, x9, x10 => if x10 < (x0.length : Int) then (if 0 ≤ x10 then (if ((rd_T27 x0 x10).f0) = 1 then (kilnlaw11_TokenBack.j2 k x0 x3 x5 x9 x10 ((rd_T27 x0 x10).f1) false) else (kilnlaw11_TokenBack.j2 k x0 x3 x5 x9 x10 ((rd_T27 x0 x10).f1) (((rd_T27 x0 x10).f0) != 2))) else (none)) else ((token_Print.f k x5).bind fun bt267 => (if bt267.2 = 0 then (some (bt267.1.toList == x3.toList)) else (some false)))
def kilnlaw11_TokenBack.j2 : Nat → List (S27) → ByteArray → List (S27) → Int → Int → ByteArray → Bool → Option (Bool)
  | 0, _, _, _, _, _, _, _ => none
  | k + 1, x0, x3, x5, x9, x10, x11, x70 => if x70 = true then (kilnlaw11_TokenBack.j3 k x0 x3 x5 x9 x10 (⟨#[]⟩ : ByteArray)) else (kilnlaw11_TokenBack.j3 k x0 x3 x5 x9 x10 x11)
def kilnlaw11_TokenBack.j3 : Nat → List (S27) → ByteArray → List (S27) → Int → Int → ByteArray → Option (Bool)
  | 0, _, _, _, _, _, _ => none
  | k + 1, x0, x3, x5, x9, x10, x11 => if 0 ≤ x10 then (if x10 < (x5.length : Int) then (if x10 < (x0.length : Int) then (if ((rd_T27 x5 x10).f0) = ((rd_T27 x0 x10).f0) then (if ((rd_T27 x5 x10).f1).toList = x11.toList then (kilnlaw11_TokenBack.j4 k x0 x3 x5 x9 x10 (((rd_T27 x5 x10).f2) != x9)) else (kilnlaw11_TokenBack.j4 k x0 x3 x5 x9 x10 true)) else (kilnlaw11_TokenBack.j4 k x0 x3 x5 x9 x10 true)) else (none)) else (none)) else (none)
def kilnlaw11_TokenBack.j4 : Nat → List (S27) → ByteArray → List (S27) → Int → Int → Bool → Option (Bool)
  | 0, _, _, _, _, _, _ => none
  | k + 1, x0, x3, x5, x9, x10, x99 => if x99 = true then (some false) else (if 0 ≤ x10 then (if x10 < (x0.length : Int) then (if ((rd_T27 x0 x10).f0) = 7 then (kilnlaw11_TokenBack.l0 k x0 x3 x5 (wrap64 (x9 + 1)) (wrap64 (x10 + 1))) else (kilnlaw11_TokenBack.l0 k x0 x3 x5 x9 (wrap64 (x10 + 1)))) else (none)) else (none))
end
def kilnlaw11_TokenBack.f (k : Nat) (l0 : List (S27)) : Option (Bool) := (kilnlaw11_Told.f k).bind fun t258 => (if t258 = true then ((token_Print.f k l0).bind fun bt259 => (if bt259.2 = 0 then ((token_Tokens.f k bt259.1).bind fun bt261 => (if bt261.2.1 = 0 then (kilnlaw11_TokenBack.j0 k l0 bt259.1 bt261.1 ((bt261.1.length : Int) != (l0.length : Int))) else (kilnlaw11_TokenBack.j0 k l0 bt259.1 bt261.1 true))) else (some (bt259.1.toList == ([] : List UInt8))))) else (some false))
theorem kilnlaw11_TokenBack.mono_l : ∀ k, (∀ y0 y1 y2 y3, LeO (kilnlaw11_TokenBack.j0 k y0 y1 y2 y3) (kilnlaw11_TokenBack.j0 (k + 1) y0 y1 y2 y3)) ∧ (∀ y0 y1 y2 y3 y4, LeO (kilnlaw11_TokenBack.l0 k y0 y1 y2 y3 y4) (kilnlaw11_TokenBack.l0 (k + 1) y0 y1 y2 y3 y4)) ∧ (∀ y0 y1 y2 y3 y4 y5 y6, LeO (kilnlaw11_TokenBack.j2 k y0 y1 y2 y3 y4 y5 y6) (kilnlaw11_TokenBack.j2 (k + 1) y0 y1 y2 y3 y4 y5 y6)) ∧ (∀ y0 y1 y2 y3 y4 y5, LeO (kilnlaw11_TokenBack.j3 k y0 y1 y2 y3 y4 y5) (kilnlaw11_TokenBack.j3 (k + 1) y0 y1 y2 y3 y4 y5)) ∧ (∀ y0 y1 y2 y3 y4 y5, LeO (kilnlaw11_TokenBack.j4 k y0 y1 y2 y3 y4 y5) (kilnlaw11_TokenBack.j4 (k + 1) y0 y1 y2 y3 y4 y5))
  | 0 => ⟨fun _ _ _ _ r h => by simp [kilnlaw11_TokenBack.j0] at h, fun _ _ _ _ _ r h => by simp [kilnlaw11_TokenBack.l0] at h, fun _ _ _ _ _ _ _ r h => by simp [kilnlaw11_TokenBack.j2] at h, fun _ _ _ _ _ _ r h => by simp [kilnlaw11_TokenBack.j3] at h, fun _ _ _ _ _ _ r h => by simp [kilnlaw11_TokenBack.j4] at h⟩
  | k + 1 => by
    obtain ⟨ih0, ih1, ih2, ih3, ih4⟩ := kilnlaw11_TokenBack.mono_l k
    refine ⟨?_, ?_, ?_, ?_, ?_⟩
    · intro y0 y1 y2 y3
      unfold kilnlaw11_TokenBack.j0
      repeat' first
      | (with_reducible exact ih0 _ _ _ _)
      | (with_reducible exact ih1 _ _ _ _ _)
      | (with_reducible exact ih2 _ _ _ _ _ _ _)
      | (with_reducible exact ih3 _ _ _ _ _ _)
      | (with_reducible exact ih4 _ _ _ _ _ _)
      | (with_reducible exact kilnlaw11_Told.mono _)
      | (with_reducible exact token_Print.mono _ _)
      | (with_reducible exact token_Tokens.mono _ _)
      | (with_reducible exact LeO.refl _)
      | (with_reducible exact LeO.none _)
      | (with_reducible refine LeO.ite ?_ ?_)
      | (with_reducible refine LeO.bind ?_ (fun _ => ?_))
      | exact ih0 _ _ _ _
      | exact ih1 _ _ _ _ _
      | exact ih2 _ _ _ _ _ _ _
      | exact ih3 _ _ _ _ _ _
      | exact ih4 _ _ _ _ _ _
      | exact kilnlaw11_Told.mono _
      | exact token_Print.mono _ _
      | exact token_Tokens.mono _ _
      | exact LeO.none _
      | refine LeO.ite ?_ ?_
      | refine LeO.bind ?_ (fun _ => ?_)
    · intro y0 y1 y2 y3 y4
      unfold kilnlaw11_TokenBack.l0
      repeat' first
      | (with_reducible exact ih0 _ _ _ _)
      | (with_reducible exact ih1 _ _ _ _ _)
      | (with_reducible exact ih2 _ _ _ _ _ _ _)
      | (with_reducible exact ih3 _ _ _ _ _ _)
      | (with_reducible exact ih4 _ _ _ _ _ _)
      | (with_reducible exact kilnlaw11_Told.mono _)
      | (with_reducible exact token_Print.mono _ _)
      | (with_reducible exact token_Tokens.mono _ _)
      | (with_reducible exact LeO.refl _)
      | (with_reducible exact LeO.none _)
      | (with_reducible refine LeO.ite ?_ ?_)
      | (with_reducible refine LeO.bind ?_ (fun _ => ?_))
      | exact ih0 _ _ _ _
      | exact ih1 _ _ _ _ _
      | exact ih2 _ _ _ _ _ _ _
      | exact ih3 _ _ _ _ _ _
      | exact ih4 _ _ _ _ _ _
      | exact kilnlaw11_Told.mono _
      | exact token_Print.mono _ _
      | exact token_Tokens.mono _ _
      | exact LeO.none _
      | refine LeO.ite ?_ ?_
      | refine LeO.bind ?_ (fun _ => ?_)
    · intro y0 y1 y2 y3 y4 y5 y6
      unfold kilnlaw11_TokenBack.j2
      repeat' first
      | (with_reducible exact ih0 _ _ _ _)
      | (with_reducible exact ih1 _ _ _ _ _)
      | (with_reducible exact ih2 _ _ _ _ _ _ _)
      | (with_reducible exact ih3 _ _ _ _ _ _)
      | (with_reducible exact ih4 _ _ _ _ _ _)
      | (with_reducible exact kilnlaw11_Told.mono _)
      | (with_reducible exact token_Print.mono _ _)
      | (with_reducible exact token_Tokens.mono _ _)
      | (with_reducible exact LeO.refl _)
      | (with_reducible exact LeO.none _)
      | (with_reducible refine LeO.ite ?_ ?_)
      | (with_reducible refine LeO.bind ?_ (fun _ => ?_))
      | exact ih0 _ _ _ _
      | exact ih1 _ _ _ _ _
      | exact ih2 _ _ _ _ _ _ _
      | exact ih3 _ _ _ _ _ _
      | exact ih4 _ _ _ _ _ _
      | exact kilnlaw11_Told.mono _
      | exact token_Print.mono _ _
      | exact token_Tokens.mono _ _
      | exact LeO.none _
      | refine LeO.ite ?_ ?_
      | refine LeO.bind ?_ (fun _ => ?_)
    · intro y0 y1 y2 y3 y4 y5
      unfold kilnlaw11_TokenBack.j3
      repeat' first
      | (with_reducible exact ih0 _ _ _ _)
      | (with_reducible exact ih1 _ _ _ _ _)
      | (with_reducible exact ih2 _ _ _ _ _ _ _)
      | (with_reducible exact ih3 _ _ _ _ _ _)
      | (with_reducible exact ih4 _ _ _ _ _ _)
      | (with_reducible exact kilnlaw11_Told.mono _)
      | (with_reducible exact token_Print.mono _ _)
      | (with_reducible exact token_Tokens.mono _ _)
      | (with_reducible exact LeO.refl _)
      | (with_reducible exact LeO.none _)
      | (with_reducible refine LeO.ite ?_ ?_)
      | (with_reducible refine LeO.bind ?_ (fun _ => ?_))
      | exact ih0 _ _ _ _
      | exact ih1 _ _ _ _ _
      | exact ih2 _ _ _ _ _ _ _
      | exact ih3 _ _ _ _ _ _
      | exact ih4 _ _ _ _ _ _
      | exact kilnlaw11_Told.mono _
      | exact token_Print.mono _ _
      | exact token_Tokens.mono _ _
      | exact LeO.none _
      | refine LeO.ite ?_ ?_
      | refine LeO.bind ?_ (fun _ => ?_)
    · intro y0 y1 y2 y3 y4 y5
      unfold kilnlaw11_TokenBack.j4
      repeat' first
      | (with_reducible exact ih0 _ _ _ _)
      | (with_reducible exact ih1 _ _ _ _ _)
      | (with_reducible exact ih2 _ _ _ _ _ _ _)
      | (with_reducible exact ih3 _ _ _ _ _ _)
      | (with_reducible exact ih4 _ _ _ _ _ _)
      | (with_reducible exact kilnlaw11_Told.mono _)
      | (with_reducible exact token_Print.mono _ _)
      | (with_reducible exact token_Tokens.mono _ _)
      | (with_reducible exact LeO.refl _)
      | (with_reducible exact LeO.none _)
      | (with_reducible refine LeO.ite ?_ ?_)
      | (with_reducible refine LeO.bind ?_ (fun _ => ?_))
      | exact ih0 _ _ _ _
      | exact ih1 _ _ _ _ _
      | exact ih2 _ _ _ _ _ _ _
      | exact ih3 _ _ _ _ _ _
      | exact ih4 _ _ _ _ _ _
      | exact kilnlaw11_Told.mono _
      | exact token_Print.mono _ _
      | exact token_Tokens.mono _ _
      | exact LeO.none _
      | refine LeO.ite ?_ ?_
      | refine LeO.bind ?_ (fun _ => ?_)
theorem kilnlaw11_TokenBack.mono : ∀ a0 k, LeO (kilnlaw11_TokenBack.f k a0) (kilnlaw11_TokenBack.f (k + 1) a0) := by
  intro a0 k
  obtain ⟨ih0, ih1, ih2, ih3, ih4⟩ := kilnlaw11_TokenBack.mono_l k
  unfold kilnlaw11_TokenBack.f
  repeat' first
      | (with_reducible exact ih0 _ _ _ _)
      | (with_reducible exact ih1 _ _ _ _ _)
      | (with_reducible exact ih2 _ _ _ _ _ _ _)
      | (with_reducible exact ih3 _ _ _ _ _ _)
      | (with_reducible exact ih4 _ _ _ _ _ _)
      | (with_reducible exact kilnlaw11_Told.mono _)
      | (with_reducible exact token_Print.mono _ _)
      | (with_reducible exact token_Tokens.mono _ _)
      | (with_reducible exact LeO.refl _)
      | (with_reducible exact LeO.none _)
      | (with_reducible refine LeO.ite ?_ ?_)
      | (with_reducible refine LeO.bind ?_ (fun _ => ?_))
      | exact ih0 _ _ _ _
      | exact ih1 _ _ _ _ _
      | exact ih2 _ _ _ _ _ _ _
      | exact ih3 _ _ _ _ _ _
      | exact ih4 _ _ _ _ _ _
      | exact kilnlaw11_Told.mono _
      | exact token_Print.mono _ _
      | exact token_Tokens.mono _ _
      | exact LeO.none _
      | refine LeO.ite ?_ ?_
      | refine LeO.bind ?_ (fun _ => ?_)
set_option maxHeartbeats 8000000 in
set_option maxRecDepth 100000 in
theorem kilnlaw11_TokenBack.calls_short (k : Nat) (A0 : Option Addr) (c0 : Nat) (l0 : List (S27)) (r : Bool) (w : World) (hr0 : Kd.C k27 w A0 l0.length l0) (hc0 : l0.length ≤ c0) (hs : l0.length ≤ 3000) (h : kilnlaw11_TokenBack.f k l0 = some r) :
    Calls Try.prog 6 #[.slice A0 l0.length c0] w fun e w' => e = .returned (.bool r) ∧ Below w.heap.size w w' := by
  have cs0 : decide ((l0.length : Int) > 3000) = false := decide_eq_false (by omega)
  have cs1 : decide (3000 < (l0.length : Int)) = false := cs0
  have cs2 : ((3000 : Int) < (l0.length : Int)) = False := eq_false (by omega)
  have HR0 := Aside0.mk hr0
  have HC0 := Aside0.mk hc0
  clear hr0 hc0
  have HB := Aside0.mk (Below.refl w.heap.size w)
  have H : ((kilnlaw11_Told.f k).bind fun t258 => (if t258 = true then ((token_Print.f k l0).bind fun bt259 => (if bt259.2 = 0 then ((token_Tokens.f k bt259.1).bind fun bt261 => (if bt261.2.1 = 0 then (kilnlaw11_TokenBack.j0 k l0 bt259.1 bt261.1 ((bt261.1.length : Int) != (l0.length : Int))) else (kilnlaw11_TokenBack.j0 k l0 bt259.1 bt261.1 true))) else (some (bt259.1.toList == ([] : List UInt8))))) else (some false))) = some r := h
  clear h
  replace H := Option.bind_eq_some_iff.mp H
  obtain ⟨t258, A20, H⟩ := H
  replace H : (if t258 = true then ((token_Print.f k l0).bind fun bt259 => (if bt259.2 = 0 then ((token_Tokens.f k bt259.1).bind fun bt261 => (if bt261.2.1 = 0 then (kilnlaw11_TokenBack.j0 k l0 bt259.1 bt261.1 ((bt261.1.length : Int) != (l0.length : Int))) else (kilnlaw11_TokenBack.j0 k l0 bt259.1 bt261.1 true))) else (some (bt259.1.toList == ([] : List UInt8))))) else (some false)) = some r := H
  have A2 := Aside0.mk A20
  clear A20
  by_cases c3 : t258 = true
  · subst c3
    have H1 : ((token_Print.f k l0).bind fun bt259 => (if bt259.2 = 0 then ((token_Tokens.f k bt259.1).bind fun bt261 => (if bt261.2.1 = 0 then (kilnlaw11_TokenBack.j0 k l0 bt259.1 bt261.1 ((bt261.1.length : Int) != (l0.length : Int))) else (kilnlaw11_TokenBack.j0 k l0 bt259.1 bt261.1 true))) else (some (bt259.1.toList == ([] : List UInt8))))) = some r := by rw [if_pos rfl] at H; exact H
    clear H
    have H := H1
    clear H1
    replace H := Option.bind_eq_some_iff.mp H
    obtain ⟨⟨t259, t260⟩, A40, H⟩ := H
    replace H : (if t260 = 0 then ((token_Tokens.f k t259).bind fun bt261 => (if bt261.2.1 = 0 then (kilnlaw11_TokenBack.j0 k l0 t259 bt261.1 ((bt261.1.length : Int) != (l0.length : Int))) else (kilnlaw11_TokenBack.j0 k l0 t259 bt261.1 true))) else (some (t259.toList == ([] : List UInt8)))) = some r := H
    have A4 := Aside0.mk A40
    clear A40
    by_cases c5 : t260 = 0
    · rw [if_pos c5] at H
      have c5b0 : (t260 == 0) = true := beq_iff_eq.mpr c5
      have c5b1 : (t260 != 0) = false := bne_eq_false_iff_eq.mpr c5
      clear c5
      replace H := Option.bind_eq_some_iff.mp H
      obtain ⟨⟨t261, t262, t263, t264⟩, A60, H⟩ := H
      replace H : (if t262 = 0 then (kilnlaw11_TokenBack.j0 k l0 t259 t261 ((t261.length : Int) != (l0.length : Int))) else (kilnlaw11_TokenBack.j0 k l0 t259 t261 true)) = some r := H
      have A6 := Aside0.mk A60
      clear A60
      have HC7 := Aside0.mk H
      clear H
      go_enter Try.func6, Try.ntmps6
      go_upto_region 9 with (first | (go_at_call 14; (with_reducible refine (kilnlaw11_Told.calls k  true _ A2.out).mono ?_); rintro e w8 ⟨rfl, hb⟩; have n0_ := Aside0.mk (below_step (by repeat (first | (with_reducible first | exact HB.out | apply below_alloc | apply pw_below_drewN | apply below_drew1) | exact HB.out)) hb); clear HB; have HB := n0_; clear n0_; (try clear hb); (try clear hb2); (try clear hk); (try clear hi)) | (go_at_call 21; (with_reducible refine (token_Print.calls k _ _ l0 t259 t260 _ ?side1 ?side2 A4.out).mono ?_); (case side1 => repeat (first | exact (Kd.C_below HR0.out HB.out) | (with_reducible refine Kd.C_alloc ?_ _) | (with_reducible refine Kd.C_drewN ?_ _) | (with_reducible refine Kd.C_drew ?_))); (case side2 => exact HC0.out); rintro e w9 ⟨rfl, hb⟩; have n0_ := Aside0.mk (below_step (by repeat (first | (with_reducible first | exact HB.out | apply below_alloc | apply pw_below_drewN | apply below_drew1) | exact HB.out)) hb); clear HB; have HB := n0_; clear n0_; (try clear hb); (try clear hb2); (try clear hk); (try clear hi)) | (go_at_call 22; (with_reducible refine (token_Tokens.calls k t259 t261 t262 t263 t264 _ A6.out).mono ?_); rintro e w10 ⟨v265, rfl, ho0, hb⟩; have n0_ := Aside0.mk (Kd.R_lower ho0 (below_size (by repeat (first | (with_reducible first | exact HB.out | apply below_alloc | apply pw_below_drewN | apply below_drew1) | exact HB.out)))); have n1_ := Aside0.mk (below_step (by repeat (first | (with_reducible first | exact HB.out | apply below_alloc | apply pw_below_drewN | apply below_drew1) | exact HB.out)) hb); clear HB; have HO266 := n0_; have HB := n1_; clear n0_ n1_; (try clear hb); (try clear hb2); (try clear hk); (try clear hi); (try clear ho0)))
      repeat (go_quiet (first | (go_at_call 14; (with_reducible refine (kilnlaw11_Told.calls k  true _ A2.out).mono ?_); rintro e w8 ⟨rfl, hb⟩; have n0_ := Aside0.mk (below_step (by repeat (first | (with_reducible first | exact HB.out | apply below_alloc | apply pw_below_drewN | apply below_drew1) | exact HB.out)) hb); clear HB; have HB := n0_; clear n0_; (try clear hb); (try clear hb2); (try clear hk); (try clear hi)) | (go_at_call 21; (with_reducible refine (token_Print.calls k _ _ l0 t259 t260 _ ?side1 ?side2 A4.out).mono ?_); (case side1 => repeat (first | exact (Kd.C_below HR0.out HB.out) | (with_reducible refine Kd.C_alloc ?_ _) | (with_reducible refine Kd.C_drewN ?_ _) | (with_reducible refine Kd.C_drew ?_))); (case side2 => exact HC0.out); rintro e w9 ⟨rfl, hb⟩; have n0_ := Aside0.mk (below_step (by repeat (first | (with_reducible first | exact HB.out | apply below_alloc | apply pw_below_drewN | apply below_drew1) | exact HB.out)) hb); clear HB; have HB := n0_; clear n0_; (try clear hb); (try clear hb2); (try clear hk); (try clear hi)) | (go_at_call 22; (with_reducible refine (token_Tokens.calls k t259 t261 t262 t263 t264 _ A6.out).mono ?_); rintro e w10 ⟨v265, rfl, ho0, hb⟩; have n0_ := Aside0.mk (Kd.R_lower ho0 (below_size (by repeat (first | (with_reducible first | exact HB.out | apply below_alloc | apply pw_below_drewN | apply below_drew1) | exact HB.out)))); have n1_ := Aside0.mk (below_step (by repeat (first | (with_reducible first | exact HB.out | apply below_alloc | apply pw_below_drewN | apply below_drew1) | exact HB.out)) hb); clear HB; have HO266 := n0_; have HB := n1_; clear n0_ n1_; (try clear hb); (try clear hb2); (try clear hk); (try clear hi); (try clear ho0))); go_upto_region 9 with (first | (go_at_call 14; (with_reducible refine (kilnlaw11_Told.calls k  true _ A2.out).mono ?_); rintro e w8 ⟨rfl, hb⟩; have n0_ := Aside0.mk (below_step (by repeat (first | (with_reducible first | exact HB.out | apply below_alloc | apply pw_below_drewN | apply below_drew1) | exact HB.out)) hb); clear HB; have HB := n0_; clear n0_; (try clear hb); (try clear hb2); (try clear hk); (try clear hi)) | (go_at_call 21; (with_reducible refine (token_Print.calls k _ _ l0 t259 t260 _ ?side1 ?side2 A4.out).mono ?_); (case side1 => repeat (first | exact (Kd.C_below HR0.out HB.out) | (with_reducible refine Kd.C_alloc ?_ _) | (with_reducible refine Kd.C_drewN ?_ _) | (with_reducible refine Kd.C_drew ?_))); (case side2 => exact HC0.out); rintro e w9 ⟨rfl, hb⟩; have n0_ := Aside0.mk (below_step (by repeat (first | (with_reducible first | exact HB.out | apply below_alloc | apply pw_below_drewN | apply below_drew1) | exact HB.out)) hb); clear HB; have HB := n0_; clear n0_; (try clear hb); (try clear hb2); (try clear hk); (try clear hi)) | (go_at_call 22; (with_reducible refine (token_Tokens.calls k t259 t261 t262 t263 t264 _ A6.out).mono ?_); rintro e w10 ⟨v265, rfl, ho0, hb⟩; have n0_ := Aside0.mk (Kd.R_lower ho0 (below_size (by repeat (first | (with_reducible first | exact HB.out | apply below_alloc | apply pw_below_drewN | apply below_drew1) | exact HB.out)))); have n1_ := Aside0.mk (below_step (by repeat (first | (with_reducible first | exact HB.out | apply below_alloc | apply pw_below_drewN | apply below_drew1) | exact HB.out)) hb); clear HB; have HO266 := n0_; have HB := n1_; clear n0_ n1_; (try clear hb); (try clear hb2); (try clear hk); (try clear hi); (try clear ho0))))
      (try simp only [Act.put, List.setIfInBounds_toArray, List.set_cons_zero, List.set_cons_succ])
      go_cut [45] (fun v45 wc => ∃ (kq : Nat) (x45_6 : Bool), v45 = .bool x45_6 ∧ Aside0 (kilnlaw11_TokenBack.j0 kq l0 t259 t261 x45_6 = some r) ∧ Aside0 (kq ≤ k) ∧ Aside0 (Kd.R k27 27 wc w.heap.size (fun _ => True) v265 t261) ∧ Aside0 (Below w.heap.size w wc))
      case first =>
        have H := HC7.out
        clear HC7
        by_cases c11 : t262 = 0
        · rw [if_pos c11] at H
          have c11b0 : (t262 == 0) = true := beq_iff_eq.mpr c11
          have c11b1 : (t262 != 0) = false := bne_eq_false_iff_eq.mpr c11
          clear c11
          (first | rw [c11b0] | (simp only [i64_w, i32_w]; rw [c11b0]) | skip)
          have H' := Aside0.mk H
          clear H
          obtain ⟨Ao12, co12, eo12⟩ := Kd.R_slice HO266.out
          subst eo12
          go_wp2
          repeat (go_quiet (fail); try go_wp2)
          go_meet
          case rel => exact ⟨_, (((t261.length : Int) != (l0.length : Int))), (by first | rfl | (simp; done) | (simp [*]; done)), H', ⟨by first | omega | exact Nat.le_refl _⟩, ⟨by (with_reducible repeat (first | apply Kd.R_alloc | apply Kd.R_drewN | apply Kd.R_drew)); exact HO266.out⟩, ⟨by repeat (first | (with_reducible first | exact HB.out | apply below_alloc | apply pw_below_drewN | apply below_drew1) | exact HB.out)⟩⟩
        · rw [if_neg c11] at H
          have c11b0 : (t262 == 0) = false := beq_eq_false_iff_ne.mpr c11
          have c11b1 : (t262 != 0) = true := bne_iff_ne.mpr c11
          (first | rw [c11b0] | (simp only [i64_w, i32_w]; rw [c11b0]) | skip)
          have H' := Aside0.mk H
          clear H
          go_wp2
          repeat (go_quiet (fail); try go_wp2)
          go_meet
          case rel => exact ⟨_, (true), (by first | rfl | (simp; done) | (simp [*]; done)), H', ⟨by first | omega | exact Nat.le_refl _⟩, ⟨by (with_reducible repeat (first | apply Kd.R_alloc | apply Kd.R_drewN | apply Kd.R_drew)); exact HO266.out⟩, ⟨by repeat (first | (with_reducible first | exact HB.out | apply below_alloc | apply pw_below_drewN | apply below_drew1) | exact HB.out)⟩⟩
      case rest =>
        clear HC7
        try clear c1
        try clear p2
        try clear c3
        try clear c5
        try clear c5b0
        try clear c5b1
        try clear c6
        try clear c11
        try clear c11b0
        try clear c11b1
        obtain ⟨kq, x45_6, rfl, HA, HJ6, HO_5, HB⟩ := hcut
        cases kq with
        | zero => exact absurd HA.out (by simp [kilnlaw11_TokenBack.j0])
        | succ kj6 =>
          have H := HA.out
          clear HA
          simp only [kilnlaw11_TokenBack.j0] at H
          by_cases c13 : x45_6 = true
          · subst c13
            have H1 : (some false) = some r := by rw [if_pos rfl] at H; exact H
            clear H
            have H := H1
            clear H1
            obtain rfl := Option.some.inj H
            go_wp2
            repeat (go_quiet (fail); try go_wp2)
            go_ret
            exact ⟨by first | rfl | (simp [errW_none, errW_some] <;> rfl) | (simp [*, errW_none, errW_some] <;> rfl), by repeat (first | (with_reducible first | exact HB.out | apply below_alloc | apply pw_below_drewN | apply below_drew1) | exact HB.out)⟩
          · replace c13 := Bool.eq_false_iff.mpr c13
            subst c13
            have H1 : (kilnlaw11_TokenBack.l0 kj6 l0 t259 t261 1 0) = some r := by rw [if_neg (show ¬ (false = true) by decide)] at H; exact H
            clear H
            have H := H1
            clear H1
            have H' := Aside0.mk H
            clear H
            go_wp2
            repeat (go_quiet (fail); try go_wp2)
            go_loopg [9, 10] kj6 (fun kq v9 v10 w' => ∃ (x9_2 : Int) (x10_2 : Int), v9 = .int .i64 x9_2 ∧ v10 = .int .i64 x10_2 ∧ Aside0 (kilnlaw11_TokenBack.l0 kq l0 t259 t261 x9_2 x10_2 = some r) ∧ Aside0 (kq ≤ kj6) ∧ Aside0 (Kd.R k27 27 w' w.heap.size (fun _ => True) v265 t261) ∧ Aside0 (Below w.heap.size w w'))
            case atStart => exact ⟨(1), (0), (by first | rfl | (simp; done) | (simp [*]; done)), (by first | rfl | (simp; done) | (simp [*]; done)), H', ⟨Nat.le_refl _⟩, ⟨by (with_reducible repeat (first | apply Kd.R_alloc | apply Kd.R_drewN | apply Kd.R_drew)); exact HO_5.out⟩, ⟨by repeat (first | (with_reducible first | exact HB.out | apply below_alloc | apply pw_below_drewN | apply below_drew1) | exact HB.out)⟩⟩
            case round =>
              clear H'
              try clear c1
              try clear p2
              try clear c3
              try clear c5
              try clear c5b0
              try clear c5b1
              try clear c6
              try clear c11
              try clear c11b0
              try clear c11b1
              try clear c13
              try clear p2
              obtain ⟨x9_2, x10_2, rfl, rfl, HA, HK2, HO_5, HB⟩ := hrel
              cases gk with
              | zero => exact absurd HA.out (by simp [kilnlaw11_TokenBack.l0])
              | succ k2 =>
                have H := HA.out
                clear HA
                simp only [kilnlaw11_TokenBack.l0] at H
                by_cases c14 : x10_2 < (l0.length : Int)
                · rw [if_pos c14] at H
                  have c14b0 : decide (x10_2 < (l0.length : Int)) = true := decide_eq_true c14
                  clear c14
                  by_cases c15 : 0 ≤ x10_2
                  · rw [if_pos c15] at H
                    have c15b0 : decide (0 ≤ x10_2) = true := decide_eq_true c15
                    clear c15
                    have HC16 := Aside0.mk H
                    clear H
                    have p269 : 0 ≤ (x10_2 : Int) := of_decide_eq_true (by first | (with_reducible assumption) | assumption)
                    have q269 : x10_2 < (l0.length : Int) := of_decide_eq_true (by first | (with_reducible assumption) | assumption)
                    obtain ⟨ad269, e269, hx269_0, hx269_1, hx269_2, hx269_3⟩ := at_T27 HR0.out x10_2 p269 q269
                    cases e269
                    replace hx269_0 := (HB.out.cell (World.block_lt_of_cell? w _ hx269_0)).trans hx269_0
                    replace hx269_1 := (HB.out.cell (World.block_lt_of_cell? w _ hx269_1)).trans hx269_1
                    replace hx269_2 := (HB.out.cell (World.block_lt_of_cell? w _ hx269_2)).trans hx269_2
                    replace hx269_3 := (HB.out.cell (World.block_lt_of_cell? w _ hx269_3)).trans hx269_3
                    replace p269 := eq_true p269
                    replace q269 := eq_true q269
                    go_upto_region 16 with (fail)
                    repeat (go_quiet (fail); go_upto_region 16 with (fail))
                    go_cut [70] (fun v70 wc => ∃ (kq : Nat) (x70_15 : Bool), v70 = .bool x70_15 ∧ Aside0 (kilnlaw11_TokenBack.j2 kq l0 t259 t261 x9_2 x10_2 ((rd_T27 l0 x10_2).f1) x70_15 = some r) ∧ Aside0 (kq ≤ k2) ∧ Aside0 (Kd.R k27 27 wc w.heap.size (fun _ => True) v265 t261) ∧ Aside0 (Below w.heap.size w wc))
                    case first =>
                      have H := HC16.out
                      clear HC16
                      by_cases c17 : ((rd_T27 l0 x10_2).f0) = 1
                      · rw [if_pos c17] at H
                        have c17b0 : (((rd_T27 l0 x10_2).f0) == 1) = true := beq_iff_eq.mpr c17
                        have c17b1 : (((rd_T27 l0 x10_2).f0) != 1) = false := bne_eq_false_iff_eq.mpr c17
                        clear c17
                        (first | rw [c17b0] | (simp only [i64_w, i32_w]; rw [c17b0]) | skip)
                        have H' := Aside0.mk H
                        clear H
                        have p270 : 0 ≤ (x10_2 : Int) := of_decide_eq_true (by first | (with_reducible assumption) | assumption)
                        have q270 : x10_2 < (l0.length : Int) := of_decide_eq_true (by first | (with_reducible assumption) | assumption)
                        obtain ⟨ad270, e270, hx270_0, hx270_1, hx270_2, hx270_3⟩ := at_T27 HR0.out x10_2 p270 q270
                        obtain rfl : ad269 = ad270 := (by injection e270)
                        replace hx270_0 := (HB.out.cell (World.block_lt_of_cell? w _ hx270_0)).trans hx270_0
                        replace hx270_1 := (HB.out.cell (World.block_lt_of_cell? w _ hx270_1)).trans hx270_1
                        replace hx270_2 := (HB.out.cell (World.block_lt_of_cell? w _ hx270_2)).trans hx270_2
                        replace hx270_3 := (HB.out.cell (World.block_lt_of_cell? w _ hx270_3)).trans hx270_3
                        replace p270 := eq_true p270
                        replace q270 := eq_true q270
                        go_wp2
                        repeat (go_quiet (fail); try go_wp2)
                        go_meet
                        case rel => exact ⟨_, (false), (by first | rfl | (simp; done) | (simp [*]; done)), H', ⟨by have := HJ6.out; have := HK2.out; first | omega | exact Nat.le_refl _⟩, ⟨by (with_reducible repeat (first | apply Kd.R_alloc | apply Kd.R_drewN | apply Kd.R_drew)); exact HO_5.out⟩, ⟨by repeat (first | (with_reducible first | exact HB.out | apply below_alloc | apply pw_below_drewN | apply below_drew1) | exact HB.out)⟩⟩
                      · rw [if_neg c17] at H
                        have c17b0 : (((rd_T27 l0 x10_2).f0) == 1) = false := beq_eq_false_iff_ne.mpr c17
                        have c17b1 : (((rd_T27 l0 x10_2).f0) != 1) = true := bne_iff_ne.mpr c17
                        (first | rw [c17b0] | (simp only [i64_w, i32_w]; rw [c17b0]) | skip)
                        have H' := Aside0.mk H
                        clear H
                        have p270 : 0 ≤ (x10_2 : Int) := of_decide_eq_true (by first | (with_reducible assumption) | assumption)
                        have q270 : x10_2 < (l0.length : Int) := of_decide_eq_true (by first | (with_reducible assumption) | assumption)
                        obtain ⟨ad270, e270, hx270_0, hx270_1, hx270_2, hx270_3⟩ := at_T27 HR0.out x10_2 p270 q270
                        obtain rfl : ad269 = ad270 := (by injection e270)
                        replace hx270_0 := (HB.out.cell (World.block_lt_of_cell? w _ hx270_0)).trans hx270_0
                        replace hx270_1 := (HB.out.cell (World.block_lt_of_cell? w _ hx270_1)).trans hx270_1
                        replace hx270_2 := (HB.out.cell (World.block_lt_of_cell? w _ hx270_2)).trans hx270_2
                        replace hx270_3 := (HB.out.cell (World.block_lt_of_cell? w _ hx270_3)).trans hx270_3
                        replace p270 := eq_true p270
                        replace q270 := eq_true q270
                        have p271 : 0 ≤ (x10_2 : Int) := of_decide_eq_true (by first | (with_reducible assumption) | assumption)
                        have q271 : x10_2 < (l0.length : Int) := of_decide_eq_true (by first | (with_reducible assumption) | assumption)
                        obtain ⟨ad271, e271, hx271_0, hx271_1, hx271_2, hx271_3⟩ := at_T27 HR0.out x10_2 p271 q271
                        obtain rfl : ad269 = ad271 := (by injection e271)
                        replace hx271_0 := (HB.out.cell (World.block_lt_of_cell? w _ hx271_0)).trans hx271_0
                        replace hx271_1 := (HB.out.cell (World.block_lt_of_cell? w _ hx271_1)).trans hx271_1
                        replace hx271_2 := (HB.out.cell (World.block_lt_of_cell? w _ hx271_2)).trans hx271_2
                        replace hx271_3 := (HB.out.cell (World.block_lt_of_cell? w _ hx271_3)).trans hx271_3
                        replace p271 := eq_true p271
                        replace q271 := eq_true q271
                        go_wp2
                        repeat (go_quiet (fail); try go_wp2)
                        go_meet
                        case rel => exact ⟨_, ((((rd_T27 l0 x10_2).f0) != 2)), (by first | rfl | (simp; done) | (simp [*]; done)), H', ⟨by have := HJ6.out; have := HK2.out; first | omega | exact Nat.le_refl _⟩, ⟨by (with_reducible repeat (first | apply Kd.R_alloc | apply Kd.R_drewN | apply Kd.R_drew)); exact HO_5.out⟩, ⟨by repeat (first | (with_reducible first | exact HB.out | apply below_alloc | apply pw_below_drewN | apply below_drew1) | exact HB.out)⟩⟩
                    case rest =>
                      clear HC16
                      try clear c1
                      try clear p2
                      try clear q2
                      try clear hx2
                      try clear c3
                      try clear c5
                      try clear c5b0
                      try clear c5b1
                      try clear c6
                      try clear c11
                      try clear c11b0
                      try clear c11b1
                      try clear c13
                      try clear c14
                      try clear c14b0
                      try clear c15
                      try clear c15b0
                      try clear c17
                      try clear c17b0
                      try clear c17b1
                      try clear hx269_0
                      try clear hx269_1
                      try clear hx269_2
                      try clear hx269_3
                      try clear hx270_0
                      try clear hx270_1
                      try clear hx270_2
                      try clear hx270_3
                      try clear hx271_0
                      try clear hx271_1
                      try clear hx271_2
                      try clear hx271_3
                      try clear p2
                      try clear p269
                      try clear p270
                      try clear p271
                      try clear q269
                      try clear q270
                      try clear q271
                      obtain ⟨kq, x70_15, rfl, HA, HJ15, HO_5, HB⟩ := hcut
                      cases kq with
                      | zero => exact absurd HA.out (by simp [kilnlaw11_TokenBack.j2])
                      | succ kj15 =>
                        have H := HA.out
                        clear HA
                        simp only [kilnlaw11_TokenBack.j2] at H
                        have HC18 := Aside0.mk H
                        clear H
                        go_upto_if 70 with (fail)
                        repeat (go_quiet (fail); go_upto_if 70 with (fail))
                        go_cut [11] (fun v11 wc => ∃ (kq : Nat) (x11_17 : ByteArray), v11 = .string x11_17 ∧ Aside0 (kilnlaw11_TokenBack.j3 kq l0 t259 t261 x9_2 x10_2 x11_17 = some r) ∧ Aside0 (kq ≤ kj15) ∧ Aside0 (Kd.R k27 27 wc w.heap.size (fun _ => True) v265 t261) ∧ Aside0 (Below w.heap.size w wc))
                        case first =>
                          have H := HC18.out
                          clear HC18
                          by_cases c19 : x70_15 = true
                          · subst c19
                            have H1 : (kilnlaw11_TokenBack.j3 kj15 l0 t259 t261 x9_2 x10_2 (⟨#[]⟩ : ByteArray)) = some r := by rw [if_pos rfl] at H; exact H
                            clear H
                            have H := H1
                            clear H1
                            have H' := Aside0.mk H
                            clear H
                            go_wp2
                            repeat (go_quiet (fail); try go_wp2)
                            go_meet
                            case rel => exact ⟨_, ((⟨#[]⟩ : ByteArray)), (by first | rfl | (simp; done) | (simp [*]; done)), H', ⟨by have := HJ6.out; have := HK2.out; have := HJ15.out; first | omega | exact Nat.le_refl _⟩, ⟨by (with_reducible repeat (first | apply Kd.R_alloc | apply Kd.R_drewN | apply Kd.R_drew)); exact HO_5.out⟩, ⟨by repeat (first | (with_reducible first | exact HB.out | apply below_alloc | apply pw_below_drewN | apply below_drew1) | exact HB.out)⟩⟩
                          · replace c19 := Bool.eq_false_iff.mpr c19
                            subst c19
                            have H1 : (kilnlaw11_TokenBack.j3 kj15 l0 t259 t261 x9_2 x10_2 ((rd_T27 l0 x10_2).f1)) = some r := by rw [if_neg (show ¬ (false = true) by decide)] at H; exact H
                            clear H
                            have H := H1
                            clear H1
                            have H' := Aside0.mk H
                            clear H
                            go_wp2
                            repeat (go_quiet (fail); try go_wp2)
                            go_meet
                            case rel => exact ⟨_, (((rd_T27 l0 x10_2).f1)), (by first | rfl | (simp; done) | (simp [*]; done)), H', ⟨by have := HJ6.out; have := HK2.out; have := HJ15.out; first | omega | exact Nat.le_refl _⟩, ⟨by (with_reducible repeat (first | apply Kd.R_alloc | apply Kd.R_drewN | apply Kd.R_drew)); exact HO_5.out⟩, ⟨by repeat (first | (with_reducible first | exact HB.out | apply below_alloc | apply pw_below_drewN | apply below_drew1) | exact HB.out)⟩⟩
                        case rest =>
                          clear HC18
                          try clear c1
                          try clear p2
                          try clear q2
                          try clear hx2
                          try clear c3
                          try clear c5
                          try clear c5b0
                          try clear c5b1
                          try clear c6
                          try clear c11
                          try clear c11b0
                          try clear c11b1
                          try clear c13
                          try clear c14
                          try clear c14b0
                          try clear c15
                          try clear c15b0
                          try clear c17
                          try clear c17b0
                          try clear c17b1
                          try clear c19
                          try clear hx269_0
                          try clear hx269_1
                          try clear hx269_2
                          try clear hx269_3
                          try clear hx270_0
                          try clear hx270_1
                          try clear hx270_2
                          try clear hx270_3
                          try clear hx271_0
                          try clear hx271_1
                          try clear hx271_2
                          try clear hx271_3
                          try clear p2
                          try clear p269
                          try clear p270
                          try clear p271
                          try clear q2
                          try clear q269
                          try clear q270
                          try clear q271
                          obtain ⟨kq, x11_17, rfl, HA, HJ17, HO_5, HB⟩ := hcut
                          cases kq with
                          | zero => exact absurd HA.out (by simp [kilnlaw11_TokenBack.j3])
                          | succ kj17 =>
                            have H := HA.out
                            clear HA
                            simp only [kilnlaw11_TokenBack.j3] at H
                            have HC20 := Aside0.mk H
                            clear H
                            go_upto_region 18 with (fail)
                            repeat (go_quiet (fail); go_upto_region 18 with (fail))
                            go_cut [99] (fun v99 wc => ∃ (kq : Nat) (x99_19 : Bool), v99 = .bool x99_19 ∧ Aside0 (kilnlaw11_TokenBack.j4 kq l0 t259 t261 x9_2 x10_2 x99_19 = some r) ∧ Aside0 (kq ≤ kj17) ∧ Aside0 (Kd.R k27 27 wc w.heap.size (fun _ => True) v265 t261) ∧ Aside0 (Below w.heap.size w wc))
                            case first =>
                              have H := HC20.out
                              clear HC20
                              by_cases c21 : 0 ≤ x10_2
                              · rw [if_pos c21] at H
                                have c21b0 : decide (0 ≤ x10_2) = true := decide_eq_true c21
                                clear c21
                                (first | rw [c21b0] | (simp only [i64_w, i32_w]; rw [c21b0]) | skip)
                                by_cases c22 : x10_2 < (t261.length : Int)
                                · rw [if_pos c22] at H
                                  have c22b0 : decide (x10_2 < (t261.length : Int)) = true := decide_eq_true c22
                                  clear c22
                                  by_cases c23 : x10_2 < (l0.length : Int)
                                  · rw [if_pos c23] at H
                                    have c23b0 : decide (x10_2 < (l0.length : Int)) = true := decide_eq_true c23
                                    clear c23
                                    by_cases c24 : ((rd_T27 t261 x10_2).f0) = ((rd_T27 l0 x10_2).f0)
                                    · rw [if_pos c24] at H
                                      have c24b0 : (((rd_T27 t261 x10_2).f0) == ((rd_T27 l0 x10_2).f0)) = true := beq_iff_eq.mpr c24
                                      have c24b1 : (((rd_T27 t261 x10_2).f0) != ((rd_T27 l0 x10_2).f0)) = false := bne_eq_false_iff_eq.mpr c24
                                      clear c24
                                      by_cases c25 : ((rd_T27 t261 x10_2).f1).toList = x11_17.toList
                                      · rw [if_pos c25] at H
                                        have c25b0 : (((rd_T27 t261 x10_2).f1).toList == x11_17.toList) = true := beq_iff_eq.mpr c25
                                        have c25b1 : (((rd_T27 t261 x10_2).f1).toList != x11_17.toList) = false := bne_eq_false_iff_eq.mpr c25
                                        clear c25
                                        have H' := Aside0.mk H
                                        clear H
                                        obtain ⟨Ao26, co26, eo26⟩ := Kd.R_slice HO_5.out
                                        subst eo26
                                        have p272 : 0 ≤ (x10_2 : Int) := of_decide_eq_true (by first | (with_reducible assumption) | assumption)
                                        have q272 : x10_2 < (t261.length : Int) := of_decide_eq_true (by first | (with_reducible assumption) | assumption)
                                        obtain ⟨ad272, e272, hx272_0, hx272_1, hx272_2, hx272_3⟩ := at_T27 (Kd.R_reads' HO_5.out).2.2 x10_2 p272 q272
                                        cases e272
                                        replace p272 := eq_true p272
                                        replace q272 := eq_true q272
                                        have p273 : 0 ≤ (x10_2 : Int) := of_decide_eq_true (by first | (with_reducible assumption) | assumption)
                                        have q273 : x10_2 < (l0.length : Int) := of_decide_eq_true (by first | (with_reducible assumption) | assumption)
                                        obtain ⟨ad273, e273, hx273_0, hx273_1, hx273_2, hx273_3⟩ := at_T27 HR0.out x10_2 p273 q273
                                        obtain rfl : ad269 = ad273 := (by injection e273)
                                        replace hx273_0 := (HB.out.cell (World.block_lt_of_cell? w _ hx273_0)).trans hx273_0
                                        replace hx273_1 := (HB.out.cell (World.block_lt_of_cell? w _ hx273_1)).trans hx273_1
                                        replace hx273_2 := (HB.out.cell (World.block_lt_of_cell? w _ hx273_2)).trans hx273_2
                                        replace hx273_3 := (HB.out.cell (World.block_lt_of_cell? w _ hx273_3)).trans hx273_3
                                        replace p273 := eq_true p273
                                        replace q273 := eq_true q273
                                        have p274 : 0 ≤ (x10_2 : Int) := of_decide_eq_true (by first | (with_reducible assumption) | assumption)
                                        have q274 : x10_2 < (t261.length : Int) := of_decide_eq_true (by first | (with_reducible assumption) | assumption)
                                        obtain ⟨ad274, e274, hx274_0, hx274_1, hx274_2, hx274_3⟩ := at_T27 (Kd.R_reads' HO_5.out).2.2 x10_2 p274 q274
                                        obtain rfl : ad272 = ad274 := (by injection e274)
                                        replace p274 := eq_true p274
                                        replace q274 := eq_true q274
                                        have p275 : 0 ≤ (x10_2 : Int) := of_decide_eq_true (by first | (with_reducible assumption) | assumption)
                                        have q275 : x10_2 < (t261.length : Int) := of_decide_eq_true (by first | (with_reducible assumption) | assumption)
                                        obtain ⟨ad275, e275, hx275_0, hx275_1, hx275_2, hx275_3⟩ := at_T27 (Kd.R_reads' HO_5.out).2.2 x10_2 p275 q275
                                        obtain rfl : ad272 = ad275 := (by injection e275)
                                        replace p275 := eq_true p275
                                        replace q275 := eq_true q275
                                        go_wp2
                                        repeat (go_quiet (fail); try go_wp2)
                                        go_meet
                                        case rel => exact ⟨_, ((((rd_T27 t261 x10_2).f2) != x9_2)), (by first | rfl | (simp; done) | (simp [*]; done)), H', ⟨by have := HJ6.out; have := HK2.out; have := HJ15.out; have := HJ17.out; first | omega | exact Nat.le_refl _⟩, ⟨by (with_reducible repeat (first | apply Kd.R_alloc | apply Kd.R_drewN | apply Kd.R_drew)); exact HO_5.out⟩, ⟨by repeat (first | (with_reducible first | exact HB.out | apply below_alloc | apply pw_below_drewN | apply below_drew1) | exact HB.out)⟩⟩
                                      · rw [if_neg c25] at H
                                        have c25b0 : (((rd_T27 t261 x10_2).f1).toList == x11_17.toList) = false := beq_eq_false_iff_ne.mpr c25
                                        have c25b1 : (((rd_T27 t261 x10_2).f1).toList != x11_17.toList) = true := bne_iff_ne.mpr c25
                                        have H' := Aside0.mk H
                                        clear H
                                        obtain ⟨Ao27, co27, eo27⟩ := Kd.R_slice HO_5.out
                                        subst eo27
                                        have p272 : 0 ≤ (x10_2 : Int) := of_decide_eq_true (by first | (with_reducible assumption) | assumption)
                                        have q272 : x10_2 < (t261.length : Int) := of_decide_eq_true (by first | (with_reducible assumption) | assumption)
                                        obtain ⟨ad272, e272, hx272_0, hx272_1, hx272_2, hx272_3⟩ := at_T27 (Kd.R_reads' HO_5.out).2.2 x10_2 p272 q272
                                        cases e272
                                        replace p272 := eq_true p272
                                        replace q272 := eq_true q272
                                        have p273 : 0 ≤ (x10_2 : Int) := of_decide_eq_true (by first | (with_reducible assumption) | assumption)
                                        have q273 : x10_2 < (l0.length : Int) := of_decide_eq_true (by first | (with_reducible assumption) | assumption)
                                        obtain ⟨ad273, e273, hx273_0, hx273_1, hx273_2, hx273_3⟩ := at_T27 HR0.out x10_2 p273 q273
                                        obtain rfl : ad269 = ad273 := (by injection e273)
                                        replace hx273_0 := (HB.out.cell (World.block_lt_of_cell? w _ hx273_0)).trans hx273_0
                                        replace hx273_1 := (HB.out.cell (World.block_lt_of_cell? w _ hx273_1)).trans hx273_1
                                        replace hx273_2 := (HB.out.cell (World.block_lt_of_cell? w _ hx273_2)).trans hx273_2
                                        replace hx273_3 := (HB.out.cell (World.block_lt_of_cell? w _ hx273_3)).trans hx273_3
                                        replace p273 := eq_true p273
                                        replace q273 := eq_true q273
                                        have p274 : 0 ≤ (x10_2 : Int) := of_decide_eq_true (by first | (with_reducible assumption) | assumption)
                                        have q274 : x10_2 < (t261.length : Int) := of_decide_eq_true (by first | (with_reducible assumption) | assumption)
                                        obtain ⟨ad274, e274, hx274_0, hx274_1, hx274_2, hx274_3⟩ := at_T27 (Kd.R_reads' HO_5.out).2.2 x10_2 p274 q274
                                        obtain rfl : ad272 = ad274 := (by injection e274)
                                        replace p274 := eq_true p274
                                        replace q274 := eq_true q274
                                        go_wp2
                                        repeat (go_quiet (fail); try go_wp2)
                                        go_meet
                                        case rel => exact ⟨_, (true), (by first | rfl | (simp; done) | (simp [*]; done)), H', ⟨by have := HJ6.out; have := HK2.out; have := HJ15.out; have := HJ17.out; first | omega | exact Nat.le_refl _⟩, ⟨by (with_reducible repeat (first | apply Kd.R_alloc | apply Kd.R_drewN | apply Kd.R_drew)); exact HO_5.out⟩, ⟨by repeat (first | (with_reducible first | exact HB.out | apply below_alloc | apply pw_below_drewN | apply below_drew1) | exact HB.out)⟩⟩
                                    · rw [if_neg c24] at H
                                      have c24b0 : (((rd_T27 t261 x10_2).f0) == ((rd_T27 l0 x10_2).f0)) = false := beq_eq_false_iff_ne.mpr c24
                                      have c24b1 : (((rd_T27 t261 x10_2).f0) != ((rd_T27 l0 x10_2).f0)) = true := bne_iff_ne.mpr c24
                                      have H' := Aside0.mk H
                                      clear H
                                      obtain ⟨Ao28, co28, eo28⟩ := Kd.R_slice HO_5.out
                                      subst eo28
                                      have p272 : 0 ≤ (x10_2 : Int) := of_decide_eq_true (by first | (with_reducible assumption) | assumption)
                                      have q272 : x10_2 < (t261.length : Int) := of_decide_eq_true (by first | (with_reducible assumption) | assumption)
                                      obtain ⟨ad272, e272, hx272_0, hx272_1, hx272_2, hx272_3⟩ := at_T27 (Kd.R_reads' HO_5.out).2.2 x10_2 p272 q272
                                      cases e272
                                      replace p272 := eq_true p272
                                      replace q272 := eq_true q272
                                      have p273 : 0 ≤ (x10_2 : Int) := of_decide_eq_true (by first | (with_reducible assumption) | assumption)
                                      have q273 : x10_2 < (l0.length : Int) := of_decide_eq_true (by first | (with_reducible assumption) | assumption)
                                      obtain ⟨ad273, e273, hx273_0, hx273_1, hx273_2, hx273_3⟩ := at_T27 HR0.out x10_2 p273 q273
                                      obtain rfl : ad269 = ad273 := (by injection e273)
                                      replace hx273_0 := (HB.out.cell (World.block_lt_of_cell? w _ hx273_0)).trans hx273_0
                                      replace hx273_1 := (HB.out.cell (World.block_lt_of_cell? w _ hx273_1)).trans hx273_1
                                      replace hx273_2 := (HB.out.cell (World.block_lt_of_cell? w _ hx273_2)).trans hx273_2
                                      replace hx273_3 := (HB.out.cell (World.block_lt_of_cell? w _ hx273_3)).trans hx273_3
                                      replace p273 := eq_true p273
                                      replace q273 := eq_true q273
                                      go_wp2
                                      repeat (go_quiet (fail); try go_wp2)
                                      go_meet
                                      case rel => exact ⟨_, (true), (by first | rfl | (simp; done) | (simp [*]; done)), H', ⟨by have := HJ6.out; have := HK2.out; have := HJ15.out; have := HJ17.out; first | omega | exact Nat.le_refl _⟩, ⟨by (with_reducible repeat (first | apply Kd.R_alloc | apply Kd.R_drewN | apply Kd.R_drew)); exact HO_5.out⟩, ⟨by repeat (first | (with_reducible first | exact HB.out | apply below_alloc | apply pw_below_drewN | apply below_drew1) | exact HB.out)⟩⟩
                                  · rw [if_neg c23] at H
                                    exact absurd H (by simp)
                                · rw [if_neg c22] at H
                                  exact absurd H (by simp)
                              · rw [if_neg c21] at H
                                exact absurd H (by simp)
                            case rest =>
                              clear HC20
                              try clear c1
                              try clear c2
                              try clear p2
                              try clear q2
                              try clear hx2
                              try clear c3
                              try clear c5
                              try clear c5b0
                              try clear c5b1
                              try clear c6
                              try clear c11
                              try clear c11b0
                              try clear c11b1
                              try clear c13
                              try clear c14
                              try clear c14b0
                              try clear c15
                              try clear c15b0
                              try clear c17
                              try clear c17b0
                              try clear c17b1
                              try clear c19
                              try clear c21
                              try clear c21b0
                              try clear c22
                              try clear c22b0
                              try clear c23
                              try clear c23b0
                              try clear c24
                              try clear c24b0
                              try clear c24b1
                              try clear c25
                              try clear c25b0
                              try clear c25b1
                              try clear p26
                              try clear q26
                              try clear hx26
                              try clear p27
                              try clear q27
                              try clear hx27
                              try clear hx269_0
                              try clear hx269_1
                              try clear hx269_2
                              try clear hx269_3
                              try clear hx270_0
                              try clear hx270_1
                              try clear hx270_2
                              try clear hx270_3
                              try clear hx271_0
                              try clear hx271_1
                              try clear hx271_2
                              try clear hx271_3
                              try clear hx272_0
                              try clear hx272_1
                              try clear hx272_2
                              try clear hx272_3
                              try clear hx273_0
                              try clear hx273_1
                              try clear hx273_2
                              try clear hx273_3
                              try clear hx274_0
                              try clear hx274_1
                              try clear hx274_2
                              try clear hx274_3
                              try clear hx275_0
                              try clear hx275_1
                              try clear hx275_2
                              try clear hx275_3
                              try clear p2
                              try clear p269
                              try clear p270
                              try clear p271
                              try clear p272
                              try clear p273
                              try clear p274
                              try clear p275
                              try clear q2
                              try clear q269
                              try clear q270
                              try clear q271
                              try clear q272
                              try clear q273
                              try clear q274
                              try clear q275
                              obtain ⟨kq, x99_19, rfl, HA, HJ19, HO_5, HB⟩ := hcut
                              cases kq with
                              | zero => exact absurd HA.out (by simp [kilnlaw11_TokenBack.j4])
                              | succ kj19 =>
                                have H := HA.out
                                clear HA
                                simp only [kilnlaw11_TokenBack.j4] at H
                                by_cases c29 : x99_19 = true
                                · subst c29
                                  have H1 : (some false) = some r := by rw [if_pos rfl] at H; exact H
                                  clear H
                                  have H := H1
                                  clear H1
                                  obtain rfl := Option.some.inj H
                                  go_wp2
                                  repeat (go_quiet (fail); try go_wp2)
                                  go_ret
                                  exact ⟨by first | rfl | (simp [errW_none, errW_some] <;> rfl) | (simp [*, errW_none, errW_some] <;> rfl), by repeat (first | (with_reducible first | exact HB.out | apply below_alloc | apply pw_below_drewN | apply below_drew1) | exact HB.out)⟩
                                · replace c29 := Bool.eq_false_iff.mpr c29
                                  subst c29
                                  have H1 : (if 0 ≤ x10_2 then (if x10_2 < (l0.length : Int) then (if ((rd_T27 l0 x10_2).f0) = 7 then (kilnlaw11_TokenBack.l0 kj19 l0 t259 t261 (wrap64 (x9_2 + 1)) (wrap64 (x10_2 + 1))) else (kilnlaw11_TokenBack.l0 kj19 l0 t259 t261 x9_2 (wrap64 (x10_2 + 1)))) else (none)) else (none)) = some r := by rw [if_neg (show ¬ (false = true) by decide)] at H; exact H
                                  clear H
                                  have H := H1
                                  clear H1
                                  by_cases c30 : 0 ≤ x10_2
                                  · rw [if_pos c30] at H
                                    have c30b0 : decide (0 ≤ x10_2) = true := decide_eq_true c30
                                    clear c30
                                    by_cases c31 : x10_2 < (l0.length : Int)
                                    · rw [if_pos c31] at H
                                      have c31b0 : decide (x10_2 < (l0.length : Int)) = true := decide_eq_true c31
                                      clear c31
                                      by_cases c32 : ((rd_T27 l0 x10_2).f0) = 7
                                      · rw [if_pos c32] at H
                                        have c32b0 : (((rd_T27 l0 x10_2).f0) == 7) = true := beq_iff_eq.mpr c32
                                        have c32b1 : (((rd_T27 l0 x10_2).f0) != 7) = false := bne_eq_false_iff_eq.mpr c32
                                        clear c32
                                        have H' := Aside0.mk H
                                        clear H
                                        have p276 : 0 ≤ (x10_2 : Int) := of_decide_eq_true (by first | (with_reducible assumption) | assumption)
                                        have q276 : x10_2 < (l0.length : Int) := of_decide_eq_true (by first | (with_reducible assumption) | assumption)
                                        obtain ⟨ad276, e276, hx276_0, hx276_1, hx276_2, hx276_3⟩ := at_T27 HR0.out x10_2 p276 q276
                                        obtain rfl : ad269 = ad276 := (by injection e276)
                                        replace hx276_0 := (HB.out.cell (World.block_lt_of_cell? w _ hx276_0)).trans hx276_0
                                        replace hx276_1 := (HB.out.cell (World.block_lt_of_cell? w _ hx276_1)).trans hx276_1
                                        replace hx276_2 := (HB.out.cell (World.block_lt_of_cell? w _ hx276_2)).trans hx276_2
                                        replace hx276_3 := (HB.out.cell (World.block_lt_of_cell? w _ hx276_3)).trans hx276_3
                                        replace p276 := eq_true p276
                                        replace q276 := eq_true q276
                                        go_wp2
                                        repeat (go_quiet (fail); try go_wp2)
                                        go_roundg kj19
                                        case measure => have := HJ6.out; have := HK2.out; have := HJ15.out; have := HJ17.out; have := HJ19.out; omega
                                        case rel => exact ⟨(wrap64 (x9_2 + 1)), (wrap64 (x10_2 + 1)), (by first | rfl | (simp; done) | (simp [*]; done)), (by first | rfl | (simp; done) | (simp [*]; done)), H', ⟨by have := HJ6.out; have := HK2.out; have := HJ15.out; have := HJ17.out; have := HJ19.out; omega⟩, ⟨by (with_reducible repeat (first | apply Kd.R_alloc | apply Kd.R_drewN | apply Kd.R_drew)); exact HO_5.out⟩, ⟨by repeat (first | (with_reducible first | exact HB.out | apply below_alloc | apply pw_below_drewN | apply below_drew1) | exact HB.out)⟩⟩
                                      · rw [if_neg c32] at H
                                        have c32b0 : (((rd_T27 l0 x10_2).f0) == 7) = false := beq_eq_false_iff_ne.mpr c32
                                        have c32b1 : (((rd_T27 l0 x10_2).f0) != 7) = true := bne_iff_ne.mpr c32
                                        have H' := Aside0.mk H
                                        clear H
                                        have p276 : 0 ≤ (x10_2 : Int) := of_decide_eq_true (by first | (with_reducible assumption) | assumption)
                                        have q276 : x10_2 < (l0.length : Int) := of_decide_eq_true (by first | (with_reducible assumption) | assumption)
                                        obtain ⟨ad276, e276, hx276_0, hx276_1, hx276_2, hx276_3⟩ := at_T27 HR0.out x10_2 p276 q276
                                        obtain rfl : ad269 = ad276 := (by injection e276)
                                        replace hx276_0 := (HB.out.cell (World.block_lt_of_cell? w _ hx276_0)).trans hx276_0
                                        replace hx276_1 := (HB.out.cell (World.block_lt_of_cell? w _ hx276_1)).trans hx276_1
                                        replace hx276_2 := (HB.out.cell (World.block_lt_of_cell? w _ hx276_2)).trans hx276_2
                                        replace hx276_3 := (HB.out.cell (World.block_lt_of_cell? w _ hx276_3)).trans hx276_3
                                        replace p276 := eq_true p276
                                        replace q276 := eq_true q276
                                        go_wp2
                                        repeat (go_quiet (fail); try go_wp2)
                                        go_roundg kj19
                                        case measure => have := HJ6.out; have := HK2.out; have := HJ15.out; have := HJ17.out; have := HJ19.out; omega
                                        case rel => exact ⟨(x9_2), (wrap64 (x10_2 + 1)), (by first | rfl | (simp; done) | (simp [*]; done)), (by first | rfl | (simp; done) | (simp [*]; done)), H', ⟨by have := HJ6.out; have := HK2.out; have := HJ15.out; have := HJ17.out; have := HJ19.out; omega⟩, ⟨by (with_reducible repeat (first | apply Kd.R_alloc | apply Kd.R_drewN | apply Kd.R_drew)); exact HO_5.out⟩, ⟨by repeat (first | (with_reducible first | exact HB.out | apply below_alloc | apply pw_below_drewN | apply below_drew1) | exact HB.out)⟩⟩
                                    · rw [if_neg c31] at H
                                      exact absurd H (by simp)
                                  · rw [if_neg c30] at H
                                    exact absurd H (by simp)
                  · rw [if_neg c15] at H
                    exact absurd H (by simp)
                · rw [if_neg c14] at H
                  have c14b0 : decide (x10_2 < (l0.length : Int)) = false := decide_eq_false c14
                  clear c14
                  replace H := Option.bind_eq_some_iff.mp H
                  obtain ⟨⟨t267, t268⟩, A330, H⟩ := H
                  replace H : (if t268 = 0 then (some (t267.toList == t259.toList)) else (some false)) = some r := H
                  have A33 := Aside0.mk A330
                  clear A330
                  by_cases c34 : t268 = 0
                  · rw [if_pos c34] at H
                    have c34b0 : (t268 == 0) = true := beq_iff_eq.mpr c34
                    have c34b1 : (t268 != 0) = false := bne_eq_false_iff_eq.mpr c34
                    clear c34
                    obtain rfl := Option.some.inj H
                    obtain ⟨Ao35, co35, eo35⟩ := Kd.R_slice HO_5.out
                    subst eo35
                    go_wp2_with (first | (go_at_call 21; (with_reducible refine (token_Print.calls k2 _ _ t261 t267 t268 _ ?side1 ?side2 A33.out).mono ?_); (case side1 => repeat (first | exact (Kd.R_reads' HO_5.out).2.2 | (with_reducible refine Kd.C_alloc ?_ _) | (with_reducible refine Kd.C_drewN ?_ _) | (with_reducible refine Kd.C_drew ?_))); (case side2 => exact (Kd.R_reads' HO_5.out).2.1); rintro e w36 ⟨rfl, hb⟩; have n0_ := Aside0.mk (Kd.R_below (by (with_reducible repeat (first | apply Kd.R_alloc | apply Kd.R_drewN | apply Kd.R_drew)); exact HO_5.out) hb); have n1_ := Aside0.mk (below_step (by repeat (first | (with_reducible first | exact HB.out | apply below_alloc | apply pw_below_drewN | apply below_drew1) | exact HB.out)) hb); clear HO_5; clear HB; have HO_5 := n0_; have HB := n1_; clear n0_ n1_; (try clear hb); (try clear hb2); (try clear hk); (try clear hi)))
                    repeat (go_quiet (first | (go_at_call 21; (with_reducible refine (token_Print.calls k2 _ _ t261 t267 t268 _ ?side1 ?side2 A33.out).mono ?_); (case side1 => repeat (first | exact (Kd.R_reads' HO_5.out).2.2 | (with_reducible refine Kd.C_alloc ?_ _) | (with_reducible refine Kd.C_drewN ?_ _) | (with_reducible refine Kd.C_drew ?_))); (case side2 => exact (Kd.R_reads' HO_5.out).2.1); rintro e w36 ⟨rfl, hb⟩; have n0_ := Aside0.mk (Kd.R_below (by (with_reducible repeat (first | apply Kd.R_alloc | apply Kd.R_drewN | apply Kd.R_drew)); exact HO_5.out) hb); have n1_ := Aside0.mk (below_step (by repeat (first | (with_reducible first | exact HB.out | apply below_alloc | apply pw_below_drewN | apply below_drew1) | exact HB.out)) hb); clear HO_5; clear HB; have HO_5 := n0_; have HB := n1_; clear n0_ n1_; (try clear hb); (try clear hb2); (try clear hk); (try clear hi))); try go_wp2_with (first | (go_at_call 21; (with_reducible refine (token_Print.calls k2 _ _ t261 t267 t268 _ ?side1 ?side2 A33.out).mono ?_); (case side1 => repeat (first | exact (Kd.R_reads' HO_5.out).2.2 | (with_reducible refine Kd.C_alloc ?_ _) | (with_reducible refine Kd.C_drewN ?_ _) | (with_reducible refine Kd.C_drew ?_))); (case side2 => exact (Kd.R_reads' HO_5.out).2.1); rintro e w36 ⟨rfl, hb⟩; have n0_ := Aside0.mk (Kd.R_below (by (with_reducible repeat (first | apply Kd.R_alloc | apply Kd.R_drewN | apply Kd.R_drew)); exact HO_5.out) hb); have n1_ := Aside0.mk (below_step (by repeat (first | (with_reducible first | exact HB.out | apply below_alloc | apply pw_below_drewN | apply below_drew1) | exact HB.out)) hb); clear HO_5; clear HB; have HO_5 := n0_; have HB := n1_; clear n0_ n1_; (try clear hb); (try clear hb2); (try clear hk); (try clear hi))))
                    go_ret
                    exact ⟨by first | rfl | (simp [errW_none, errW_some] <;> rfl) | (simp [*, errW_none, errW_some] <;> rfl), by repeat (first | (with_reducible first | exact HB.out | apply below_alloc | apply pw_below_drewN | apply below_drew1) | exact HB.out)⟩
                  · rw [if_neg c34] at H
                    have c34b0 : (t268 == 0) = false := beq_eq_false_iff_ne.mpr c34
                    have c34b1 : (t268 != 0) = true := bne_iff_ne.mpr c34
                    obtain rfl := Option.some.inj H
                    obtain ⟨Ao37, co37, eo37⟩ := Kd.R_slice HO_5.out
                    subst eo37
                    go_wp2_with (first | (go_at_call 21; (with_reducible refine (token_Print.calls k2 _ _ t261 t267 t268 _ ?side1 ?side2 A33.out).mono ?_); (case side1 => repeat (first | exact (Kd.R_reads' HO_5.out).2.2 | (with_reducible refine Kd.C_alloc ?_ _) | (with_reducible refine Kd.C_drewN ?_ _) | (with_reducible refine Kd.C_drew ?_))); (case side2 => exact (Kd.R_reads' HO_5.out).2.1); rintro e w38 ⟨rfl, hb⟩; have n0_ := Aside0.mk (Kd.R_below (by (with_reducible repeat (first | apply Kd.R_alloc | apply Kd.R_drewN | apply Kd.R_drew)); exact HO_5.out) hb); have n1_ := Aside0.mk (below_step (by repeat (first | (with_reducible first | exact HB.out | apply below_alloc | apply pw_below_drewN | apply below_drew1) | exact HB.out)) hb); clear HO_5; clear HB; have HO_5 := n0_; have HB := n1_; clear n0_ n1_; (try clear hb); (try clear hb2); (try clear hk); (try clear hi)))
                    repeat (go_quiet (first | (go_at_call 21; (with_reducible refine (token_Print.calls k2 _ _ t261 t267 t268 _ ?side1 ?side2 A33.out).mono ?_); (case side1 => repeat (first | exact (Kd.R_reads' HO_5.out).2.2 | (with_reducible refine Kd.C_alloc ?_ _) | (with_reducible refine Kd.C_drewN ?_ _) | (with_reducible refine Kd.C_drew ?_))); (case side2 => exact (Kd.R_reads' HO_5.out).2.1); rintro e w38 ⟨rfl, hb⟩; have n0_ := Aside0.mk (Kd.R_below (by (with_reducible repeat (first | apply Kd.R_alloc | apply Kd.R_drewN | apply Kd.R_drew)); exact HO_5.out) hb); have n1_ := Aside0.mk (below_step (by repeat (first | (with_reducible first | exact HB.out | apply below_alloc | apply pw_below_drewN | apply below_drew1) | exact HB.out)) hb); clear HO_5; clear HB; have HO_5 := n0_; have HB := n1_; clear n0_ n1_; (try clear hb); (try clear hb2); (try clear hk); (try clear hi))); try go_wp2_with (first | (go_at_call 21; (with_reducible refine (token_Print.calls k2 _ _ t261 t267 t268 _ ?side1 ?side2 A33.out).mono ?_); (case side1 => repeat (first | exact (Kd.R_reads' HO_5.out).2.2 | (with_reducible refine Kd.C_alloc ?_ _) | (with_reducible refine Kd.C_drewN ?_ _) | (with_reducible refine Kd.C_drew ?_))); (case side2 => exact (Kd.R_reads' HO_5.out).2.1); rintro e w38 ⟨rfl, hb⟩; have n0_ := Aside0.mk (Kd.R_below (by (with_reducible repeat (first | apply Kd.R_alloc | apply Kd.R_drewN | apply Kd.R_drew)); exact HO_5.out) hb); have n1_ := Aside0.mk (below_step (by repeat (first | (with_reducible first | exact HB.out | apply below_alloc | apply pw_below_drewN | apply below_drew1) | exact HB.out)) hb); clear HO_5; clear HB; have HO_5 := n0_; have HB := n1_; clear n0_ n1_; (try clear hb); (try clear hb2); (try clear hk); (try clear hi))))
                    go_ret
                    exact ⟨by first | rfl | (simp [errW_none, errW_some] <;> rfl) | (simp [*, errW_none, errW_some] <;> rfl), by repeat (first | (with_reducible first | exact HB.out | apply below_alloc | apply pw_below_drewN | apply below_drew1) | exact HB.out)⟩
    · rw [if_neg c5] at H
      have c5b0 : (t260 == 0) = false := beq_eq_false_iff_ne.mpr c5
      have c5b1 : (t260 != 0) = true := bne_iff_ne.mpr c5
      obtain rfl := Option.some.inj H
      go_enter Try.func6, Try.ntmps6
      go_wp2_with (first | (go_at_call 14; (with_reducible refine (kilnlaw11_Told.calls k  true _ A2.out).mono ?_); rintro e w39 ⟨rfl, hb⟩; have n0_ := Aside0.mk (below_step (by repeat (first | (with_reducible first | exact HB.out | apply below_alloc | apply pw_below_drewN | apply below_drew1) | exact HB.out)) hb); clear HB; have HB := n0_; clear n0_; (try clear hb); (try clear hb2); (try clear hk); (try clear hi)) | (go_at_call 21; (with_reducible refine (token_Print.calls k _ _ l0 t259 t260 _ ?side1 ?side2 A4.out).mono ?_); (case side1 => repeat (first | exact (Kd.C_below HR0.out HB.out) | (with_reducible refine Kd.C_alloc ?_ _) | (with_reducible refine Kd.C_drewN ?_ _) | (with_reducible refine Kd.C_drew ?_))); (case side2 => exact HC0.out); rintro e w40 ⟨rfl, hb⟩; have n0_ := Aside0.mk (below_step (by repeat (first | (with_reducible first | exact HB.out | apply below_alloc | apply pw_below_drewN | apply below_drew1) | exact HB.out)) hb); clear HB; have HB := n0_; clear n0_; (try clear hb); (try clear hb2); (try clear hk); (try clear hi)))
      repeat (go_quiet (first | (go_at_call 14; (with_reducible refine (kilnlaw11_Told.calls k  true _ A2.out).mono ?_); rintro e w39 ⟨rfl, hb⟩; have n0_ := Aside0.mk (below_step (by repeat (first | (with_reducible first | exact HB.out | apply below_alloc | apply pw_below_drewN | apply below_drew1) | exact HB.out)) hb); clear HB; have HB := n0_; clear n0_; (try clear hb); (try clear hb2); (try clear hk); (try clear hi)) | (go_at_call 21; (with_reducible refine (token_Print.calls k _ _ l0 t259 t260 _ ?side1 ?side2 A4.out).mono ?_); (case side1 => repeat (first | exact (Kd.C_below HR0.out HB.out) | (with_reducible refine Kd.C_alloc ?_ _) | (with_reducible refine Kd.C_drewN ?_ _) | (with_reducible refine Kd.C_drew ?_))); (case side2 => exact HC0.out); rintro e w40 ⟨rfl, hb⟩; have n0_ := Aside0.mk (below_step (by repeat (first | (with_reducible first | exact HB.out | apply below_alloc | apply pw_below_drewN | apply below_drew1) | exact HB.out)) hb); clear HB; have HB := n0_; clear n0_; (try clear hb); (try clear hb2); (try clear hk); (try clear hi))); try go_wp2_with (first | (go_at_call 14; (with_reducible refine (kilnlaw11_Told.calls k  true _ A2.out).mono ?_); rintro e w39 ⟨rfl, hb⟩; have n0_ := Aside0.mk (below_step (by repeat (first | (with_reducible first | exact HB.out | apply below_alloc | apply pw_below_drewN | apply below_drew1) | exact HB.out)) hb); clear HB; have HB := n0_; clear n0_; (try clear hb); (try clear hb2); (try clear hk); (try clear hi)) | (go_at_call 21; (with_reducible refine (token_Print.calls k _ _ l0 t259 t260 _ ?side1 ?side2 A4.out).mono ?_); (case side1 => repeat (first | exact (Kd.C_below HR0.out HB.out) | (with_reducible refine Kd.C_alloc ?_ _) | (with_reducible refine Kd.C_drewN ?_ _) | (with_reducible refine Kd.C_drew ?_))); (case side2 => exact HC0.out); rintro e w40 ⟨rfl, hb⟩; have n0_ := Aside0.mk (below_step (by repeat (first | (with_reducible first | exact HB.out | apply below_alloc | apply pw_below_drewN | apply below_drew1) | exact HB.out)) hb); clear HB; have HB := n0_; clear n0_; (try clear hb); (try clear hb2); (try clear hk); (try clear hi))))
      go_ret
      exact ⟨by first | rfl | (simp [errW_none, errW_some] <;> rfl) | (simp [*, errW_none, errW_some] <;> rfl), by repeat (first | (with_reducible first | exact HB.out | apply below_alloc | apply pw_below_drewN | apply below_drew1) | exact HB.out)⟩
  · replace c3 := Bool.eq_false_iff.mpr c3
    subst c3
    have H1 : (some false) = some r := by rw [if_neg (show ¬ (false = true) by decide)] at H; exact H
    clear H
    have H := H1
    clear H1
    obtain rfl := Option.some.inj H
    go_enter Try.func6, Try.ntmps6
    go_wp2_with (first | (go_at_call 14; (with_reducible refine (kilnlaw11_Told.calls k  false _ A2.out).mono ?_); rintro e w41 ⟨rfl, hb⟩; have n0_ := Aside0.mk (below_step (by repeat (first | (with_reducible first | exact HB.out | apply below_alloc | apply pw_below_drewN | apply below_drew1) | exact HB.out)) hb); clear HB; have HB := n0_; clear n0_; (try clear hb); (try clear hb2); (try clear hk); (try clear hi)))
    repeat (go_quiet (first | (go_at_call 14; (with_reducible refine (kilnlaw11_Told.calls k  false _ A2.out).mono ?_); rintro e w41 ⟨rfl, hb⟩; have n0_ := Aside0.mk (below_step (by repeat (first | (with_reducible first | exact HB.out | apply below_alloc | apply pw_below_drewN | apply below_drew1) | exact HB.out)) hb); clear HB; have HB := n0_; clear n0_; (try clear hb); (try clear hb2); (try clear hk); (try clear hi))); try go_wp2_with (first | (go_at_call 14; (with_reducible refine (kilnlaw11_Told.calls k  false _ A2.out).mono ?_); rintro e w41 ⟨rfl, hb⟩; have n0_ := Aside0.mk (below_step (by repeat (first | (with_reducible first | exact HB.out | apply below_alloc | apply pw_below_drewN | apply below_drew1) | exact HB.out)) hb); clear HB; have HB := n0_; clear n0_; (try clear hb); (try clear hb2); (try clear hk); (try clear hi))))
    go_ret
    exact ⟨by first | rfl | (simp [errW_none, errW_some] <;> rfl) | (simp [*, errW_none, errW_some] <;> rfl), by repeat (first | (with_reducible first | exact HB.out | apply below_alloc | apply pw_below_drewN | apply below_drew1) | exact HB.out)⟩

set_option maxHeartbeats 8000000 in
set_option maxRecDepth 100000 in
theorem kilnlaw11_TokenBack.calls_long (k : Nat) (A0 : Option Addr) (c0 : Nat) (n0 : Nat) (l0 : List (S27)) (r : Bool) (w : World) (hr0 : Kd.C k27 w A0 l0.length l0) (hc0 : l0.length ≤ c0) (hn : 3000 < n0) (hl : l0.length = 3000) (h : kilnlaw11_TokenBack.f k l0 = some r) :
    Calls Try.prog 6 #[.slice A0 n0 c0] w fun e w' => e = .returned (.bool r) ∧ Below w.heap.size w w' := by
  have cs0 : decide ((n0 : Int) > 3000) = true := decide_eq_true (by omega)
  have cs1 : decide (3000 < (n0 : Int)) = true := cs0
  have cs2 : ((3000 : Int) < (n0 : Int)) = True := eq_true (by omega)
  obtain ⟨i0, hi0, _⟩ := info_parts info27
  have hcap := cut_cap (P := Try.prog) 25 27 .i64 Try.underlying25 hi0 A0 n0 c0 (3000 : Int) (by omega) (by omega)
  have hcut : ∀ W : World, (Instr.slice 25 (.slice A0 n0 c0) none (some (.int .i64 3000)) none).run Try.prog W = .ok (.slice A0 l0.length c0) W := fun W => by rw [hcap W, hl]; rfl
  clear hi0 hcap hl
  have HR0 := Aside0.mk hr0
  have HC0 := Aside0.mk hc0
  clear hr0 hc0
  have HB := Aside0.mk (Below.refl w.heap.size w)
  have H : ((kilnlaw11_Told.f k).bind fun t258 => (if t258 = true then ((token_Print.f k l0).bind fun bt259 => (if bt259.2 = 0 then ((token_Tokens.f k bt259.1).bind fun bt261 => (if bt261.2.1 = 0 then (kilnlaw11_TokenBack.j0 k l0 bt259.1 bt261.1 ((bt261.1.length : Int) != (l0.length : Int))) else (kilnlaw11_TokenBack.j0 k l0 bt259.1 bt261.1 true))) else (some (bt259.1.toList == ([] : List UInt8))))) else (some false))) = some r := h
  clear h
  replace H := Option.bind_eq_some_iff.mp H
  obtain ⟨t258, A20, H⟩ := H
  replace H : (if t258 = true then ((token_Print.f k l0).bind fun bt259 => (if bt259.2 = 0 then ((token_Tokens.f k bt259.1).bind fun bt261 => (if bt261.2.1 = 0 then (kilnlaw11_TokenBack.j0 k l0 bt259.1 bt261.1 ((bt261.1.length : Int) != (l0.length : Int))) else (kilnlaw11_TokenBack.j0 k l0 bt259.1 bt261.1 true))) else (some (bt259.1.toList == ([] : List UInt8))))) else (some false)) = some r := H
  have A2 := Aside0.mk A20
  clear A20
  by_cases c3 : t258 = true
  · subst c3
    have H1 : ((token_Print.f k l0).bind fun bt259 => (if bt259.2 = 0 then ((token_Tokens.f k bt259.1).bind fun bt261 => (if bt261.2.1 = 0 then (kilnlaw11_TokenBack.j0 k l0 bt259.1 bt261.1 ((bt261.1.length : Int) != (l0.length : Int))) else (kilnlaw11_TokenBack.j0 k l0 bt259.1 bt261.1 true))) else (some (bt259.1.toList == ([] : List UInt8))))) = some r := by rw [if_pos rfl] at H; exact H
    clear H
    have H := H1
    clear H1
    replace H := Option.bind_eq_some_iff.mp H
    obtain ⟨⟨t259, t260⟩, A40, H⟩ := H
    replace H : (if t260 = 0 then ((token_Tokens.f k t259).bind fun bt261 => (if bt261.2.1 = 0 then (kilnlaw11_TokenBack.j0 k l0 t259 bt261.1 ((bt261.1.length : Int) != (l0.length : Int))) else (kilnlaw11_TokenBack.j0 k l0 t259 bt261.1 true))) else (some (t259.toList == ([] : List UInt8)))) = some r := H
    have A4 := Aside0.mk A40
    clear A40
    by_cases c5 : t260 = 0
    · rw [if_pos c5] at H
      have c5b0 : (t260 == 0) = true := beq_iff_eq.mpr c5
      have c5b1 : (t260 != 0) = false := bne_eq_false_iff_eq.mpr c5
      clear c5
      replace H := Option.bind_eq_some_iff.mp H
      obtain ⟨⟨t261, t262, t263, t264⟩, A60, H⟩ := H
      replace H : (if t262 = 0 then (kilnlaw11_TokenBack.j0 k l0 t259 t261 ((t261.length : Int) != (l0.length : Int))) else (kilnlaw11_TokenBack.j0 k l0 t259 t261 true)) = some r := H
      have A6 := Aside0.mk A60
      clear A60
      have HC7 := Aside0.mk H
      clear H
      go_enter Try.func6, Try.ntmps6
      go_upto_region 9 with (first | (go_at_call 14; (with_reducible refine (kilnlaw11_Told.calls k  true _ A2.out).mono ?_); rintro e w8 ⟨rfl, hb⟩; have n0_ := Aside0.mk (below_step (by repeat (first | (with_reducible first | exact HB.out | apply below_alloc | apply pw_below_drewN | apply below_drew1) | exact HB.out)) hb); clear HB; have HB := n0_; clear n0_; (try clear hb); (try clear hb2); (try clear hk); (try clear hi)) | (go_at_call 21; (with_reducible refine (token_Print.calls k _ _ l0 t259 t260 _ ?side1 ?side2 A4.out).mono ?_); (case side1 => repeat (first | exact (Kd.C_below HR0.out HB.out) | (with_reducible refine Kd.C_alloc ?_ _) | (with_reducible refine Kd.C_drewN ?_ _) | (with_reducible refine Kd.C_drew ?_))); (case side2 => exact HC0.out); rintro e w9 ⟨rfl, hb⟩; have n0_ := Aside0.mk (below_step (by repeat (first | (with_reducible first | exact HB.out | apply below_alloc | apply pw_below_drewN | apply below_drew1) | exact HB.out)) hb); clear HB; have HB := n0_; clear n0_; (try clear hb); (try clear hb2); (try clear hk); (try clear hi)) | (go_at_call 22; (with_reducible refine (token_Tokens.calls k t259 t261 t262 t263 t264 _ A6.out).mono ?_); rintro e w10 ⟨v265, rfl, ho0, hb⟩; have n0_ := Aside0.mk (Kd.R_lower ho0 (below_size (by repeat (first | (with_reducible first | exact HB.out | apply below_alloc | apply pw_below_drewN | apply below_drew1) | exact HB.out)))); have n1_ := Aside0.mk (below_step (by repeat (first | (with_reducible first | exact HB.out | apply below_alloc | apply pw_below_drewN | apply below_drew1) | exact HB.out)) hb); clear HB; have HO266 := n0_; have HB := n1_; clear n0_ n1_; (try clear hb); (try clear hb2); (try clear hk); (try clear hi); (try clear ho0)))
      repeat (go_quiet (first | (go_at_call 14; (with_reducible refine (kilnlaw11_Told.calls k  true _ A2.out).mono ?_); rintro e w8 ⟨rfl, hb⟩; have n0_ := Aside0.mk (below_step (by repeat (first | (with_reducible first | exact HB.out | apply below_alloc | apply pw_below_drewN | apply below_drew1) | exact HB.out)) hb); clear HB; have HB := n0_; clear n0_; (try clear hb); (try clear hb2); (try clear hk); (try clear hi)) | (go_at_call 21; (with_reducible refine (token_Print.calls k _ _ l0 t259 t260 _ ?side1 ?side2 A4.out).mono ?_); (case side1 => repeat (first | exact (Kd.C_below HR0.out HB.out) | (with_reducible refine Kd.C_alloc ?_ _) | (with_reducible refine Kd.C_drewN ?_ _) | (with_reducible refine Kd.C_drew ?_))); (case side2 => exact HC0.out); rintro e w9 ⟨rfl, hb⟩; have n0_ := Aside0.mk (below_step (by repeat (first | (with_reducible first | exact HB.out | apply below_alloc | apply pw_below_drewN | apply below_drew1) | exact HB.out)) hb); clear HB; have HB := n0_; clear n0_; (try clear hb); (try clear hb2); (try clear hk); (try clear hi)) | (go_at_call 22; (with_reducible refine (token_Tokens.calls k t259 t261 t262 t263 t264 _ A6.out).mono ?_); rintro e w10 ⟨v265, rfl, ho0, hb⟩; have n0_ := Aside0.mk (Kd.R_lower ho0 (below_size (by repeat (first | (with_reducible first | exact HB.out | apply below_alloc | apply pw_below_drewN | apply below_drew1) | exact HB.out)))); have n1_ := Aside0.mk (below_step (by repeat (first | (with_reducible first | exact HB.out | apply below_alloc | apply pw_below_drewN | apply below_drew1) | exact HB.out)) hb); clear HB; have HO266 := n0_; have HB := n1_; clear n0_ n1_; (try clear hb); (try clear hb2); (try clear hk); (try clear hi); (try clear ho0))); go_upto_region 9 with (first | (go_at_call 14; (with_reducible refine (kilnlaw11_Told.calls k  true _ A2.out).mono ?_); rintro e w8 ⟨rfl, hb⟩; have n0_ := Aside0.mk (below_step (by repeat (first | (with_reducible first | exact HB.out | apply below_alloc | apply pw_below_drewN | apply below_drew1) | exact HB.out)) hb); clear HB; have HB := n0_; clear n0_; (try clear hb); (try clear hb2); (try clear hk); (try clear hi)) | (go_at_call 21; (with_reducible refine (token_Print.calls k _ _ l0 t259 t260 _ ?side1 ?side2 A4.out).mono ?_); (case side1 => repeat (first | exact (Kd.C_below HR0.out HB.out) | (with_reducible refine Kd.C_alloc ?_ _) | (with_reducible refine Kd.C_drewN ?_ _) | (with_reducible refine Kd.C_drew ?_))); (case side2 => exact HC0.out); rintro e w9 ⟨rfl, hb⟩; have n0_ := Aside0.mk (below_step (by repeat (first | (with_reducible first | exact HB.out | apply below_alloc | apply pw_below_drewN | apply below_drew1) | exact HB.out)) hb); clear HB; have HB := n0_; clear n0_; (try clear hb); (try clear hb2); (try clear hk); (try clear hi)) | (go_at_call 22; (with_reducible refine (token_Tokens.calls k t259 t261 t262 t263 t264 _ A6.out).mono ?_); rintro e w10 ⟨v265, rfl, ho0, hb⟩; have n0_ := Aside0.mk (Kd.R_lower ho0 (below_size (by repeat (first | (with_reducible first | exact HB.out | apply below_alloc | apply pw_below_drewN | apply below_drew1) | exact HB.out)))); have n1_ := Aside0.mk (below_step (by repeat (first | (with_reducible first | exact HB.out | apply below_alloc | apply pw_below_drewN | apply below_drew1) | exact HB.out)) hb); clear HB; have HO266 := n0_; have HB := n1_; clear n0_ n1_; (try clear hb); (try clear hb2); (try clear hk); (try clear hi); (try clear ho0))))
      (try simp only [Act.put, List.setIfInBounds_toArray, List.set_cons_zero, List.set_cons_succ])
      go_cut [45] (fun v45 wc => ∃ (kq : Nat) (x45_6 : Bool), v45 = .bool x45_6 ∧ Aside0 (kilnlaw11_TokenBack.j0 kq l0 t259 t261 x45_6 = some r) ∧ Aside0 (kq ≤ k) ∧ Aside0 (Kd.R k27 27 wc w.heap.size (fun _ => True) v265 t261) ∧ Aside0 (Below w.heap.size w wc))
      case first =>
        have H := HC7.out
        clear HC7
        by_cases c11 : t262 = 0
        · rw [if_pos c11] at H
          have c11b0 : (t262 == 0) = true := beq_iff_eq.mpr c11
          have c11b1 : (t262 != 0) = false := bne_eq_false_iff_eq.mpr c11
          clear c11
          (first | rw [c11b0] | (simp only [i64_w, i32_w]; rw [c11b0]) | skip)
          have H' := Aside0.mk H
          clear H
          obtain ⟨Ao12, co12, eo12⟩ := Kd.R_slice HO266.out
          subst eo12
          go_wp2
          repeat (go_quiet (fail); try go_wp2)
          go_meet
          case rel => exact ⟨_, (((t261.length : Int) != (l0.length : Int))), (by first | rfl | (simp; done) | (simp [*]; done)), H', ⟨by first | omega | exact Nat.le_refl _⟩, ⟨by (with_reducible repeat (first | apply Kd.R_alloc | apply Kd.R_drewN | apply Kd.R_drew)); exact HO266.out⟩, ⟨by repeat (first | (with_reducible first | exact HB.out | apply below_alloc | apply pw_below_drewN | apply below_drew1) | exact HB.out)⟩⟩
        · rw [if_neg c11] at H
          have c11b0 : (t262 == 0) = false := beq_eq_false_iff_ne.mpr c11
          have c11b1 : (t262 != 0) = true := bne_iff_ne.mpr c11
          (first | rw [c11b0] | (simp only [i64_w, i32_w]; rw [c11b0]) | skip)
          have H' := Aside0.mk H
          clear H
          go_wp2
          repeat (go_quiet (fail); try go_wp2)
          go_meet
          case rel => exact ⟨_, (true), (by first | rfl | (simp; done) | (simp [*]; done)), H', ⟨by first | omega | exact Nat.le_refl _⟩, ⟨by (with_reducible repeat (first | apply Kd.R_alloc | apply Kd.R_drewN | apply Kd.R_drew)); exact HO266.out⟩, ⟨by repeat (first | (with_reducible first | exact HB.out | apply below_alloc | apply pw_below_drewN | apply below_drew1) | exact HB.out)⟩⟩
      case rest =>
        clear HC7
        try clear c1
        try clear p2
        try clear c3
        try clear c5
        try clear c5b0
        try clear c5b1
        try clear c6
        try clear c11
        try clear c11b0
        try clear c11b1
        obtain ⟨kq, x45_6, rfl, HA, HJ6, HO_5, HB⟩ := hcut
        cases kq with
        | zero => exact absurd HA.out (by simp [kilnlaw11_TokenBack.j0])
        | succ kj6 =>
          have H := HA.out
          clear HA
          simp only [kilnlaw11_TokenBack.j0] at H
          by_cases c13 : x45_6 = true
          · subst c13
            have H1 : (some false) = some r := by rw [if_pos rfl] at H; exact H
            clear H
            have H := H1
            clear H1
            obtain rfl := Option.some.inj H
            go_wp2
            repeat (go_quiet (fail); try go_wp2)
            go_ret
            exact ⟨by first | rfl | (simp [errW_none, errW_some] <;> rfl) | (simp [*, errW_none, errW_some] <;> rfl), by repeat (first | (with_reducible first | exact HB.out | apply below_alloc | apply pw_below_drewN | apply below_drew1) | exact HB.out)⟩
          · replace c13 := Bool.eq_false_iff.mpr c13
            subst c13
            have H1 : (kilnlaw11_TokenBack.l0 kj6 l0 t259 t261 1 0) = some r := by rw [if_neg (show ¬ (false = true) by decide)] at H; exact H
            clear H
            have H := H1
            clear H1
            have H' := Aside0.mk H
            clear H
            go_wp2
            repeat (go_quiet (fail); try go_wp2)
            go_loopg [9, 10] kj6 (fun kq v9 v10 w' => ∃ (x9_2 : Int) (x10_2 : Int), v9 = .int .i64 x9_2 ∧ v10 = .int .i64 x10_2 ∧ Aside0 (kilnlaw11_TokenBack.l0 kq l0 t259 t261 x9_2 x10_2 = some r) ∧ Aside0 (kq ≤ kj6) ∧ Aside0 (Kd.R k27 27 w' w.heap.size (fun _ => True) v265 t261) ∧ Aside0 (Below w.heap.size w w'))
            case atStart => exact ⟨(1), (0), (by first | rfl | (simp; done) | (simp [*]; done)), (by first | rfl | (simp; done) | (simp [*]; done)), H', ⟨Nat.le_refl _⟩, ⟨by (with_reducible repeat (first | apply Kd.R_alloc | apply Kd.R_drewN | apply Kd.R_drew)); exact HO_5.out⟩, ⟨by repeat (first | (with_reducible first | exact HB.out | apply below_alloc | apply pw_below_drewN | apply below_drew1) | exact HB.out)⟩⟩
            case round =>
              clear H'
              try clear c1
              try clear p2
              try clear c3
              try clear c5
              try clear c5b0
              try clear c5b1
              try clear c6
              try clear c11
              try clear c11b0
              try clear c11b1
              try clear c13
              try clear p2
              obtain ⟨x9_2, x10_2, rfl, rfl, HA, HK2, HO_5, HB⟩ := hrel
              cases gk with
              | zero => exact absurd HA.out (by simp [kilnlaw11_TokenBack.l0])
              | succ k2 =>
                have H := HA.out
                clear HA
                simp only [kilnlaw11_TokenBack.l0] at H
                by_cases c14 : x10_2 < (l0.length : Int)
                · rw [if_pos c14] at H
                  have c14b0 : decide (x10_2 < (l0.length : Int)) = true := decide_eq_true c14
                  clear c14
                  by_cases c15 : 0 ≤ x10_2
                  · rw [if_pos c15] at H
                    have c15b0 : decide (0 ≤ x10_2) = true := decide_eq_true c15
                    clear c15
                    have HC16 := Aside0.mk H
                    clear H
                    have p269 : 0 ≤ (x10_2 : Int) := of_decide_eq_true (by first | (with_reducible assumption) | assumption)
                    have q269 : x10_2 < (l0.length : Int) := of_decide_eq_true (by first | (with_reducible assumption) | assumption)
                    obtain ⟨ad269, e269, hx269_0, hx269_1, hx269_2, hx269_3⟩ := at_T27 HR0.out x10_2 p269 q269
                    cases e269
                    replace hx269_0 := (HB.out.cell (World.block_lt_of_cell? w _ hx269_0)).trans hx269_0
                    replace hx269_1 := (HB.out.cell (World.block_lt_of_cell? w _ hx269_1)).trans hx269_1
                    replace hx269_2 := (HB.out.cell (World.block_lt_of_cell? w _ hx269_2)).trans hx269_2
                    replace hx269_3 := (HB.out.cell (World.block_lt_of_cell? w _ hx269_3)).trans hx269_3
                    replace p269 := eq_true p269
                    replace q269 := eq_true q269
                    go_upto_region 16 with (fail)
                    repeat (go_quiet (fail); go_upto_region 16 with (fail))
                    go_cut [70] (fun v70 wc => ∃ (kq : Nat) (x70_15 : Bool), v70 = .bool x70_15 ∧ Aside0 (kilnlaw11_TokenBack.j2 kq l0 t259 t261 x9_2 x10_2 ((rd_T27 l0 x10_2).f1) x70_15 = some r) ∧ Aside0 (kq ≤ k2) ∧ Aside0 (Kd.R k27 27 wc w.heap.size (fun _ => True) v265 t261) ∧ Aside0 (Below w.heap.size w wc))
                    case first =>
                      have H := HC16.out
                      clear HC16
                      by_cases c17 : ((rd_T27 l0 x10_2).f0) = 1
                      · rw [if_pos c17] at H
                        have c17b0 : (((rd_T27 l0 x10_2).f0) == 1) = true := beq_iff_eq.mpr c17
                        have c17b1 : (((rd_T27 l0 x10_2).f0) != 1) = false := bne_eq_false_iff_eq.mpr c17
                        clear c17
                        (first | rw [c17b0] | (simp only [i64_w, i32_w]; rw [c17b0]) | skip)
                        have H' := Aside0.mk H
                        clear H
                        have p270 : 0 ≤ (x10_2 : Int) := of_decide_eq_true (by first | (with_reducible assumption) | assumption)
                        have q270 : x10_2 < (l0.length : Int) := of_decide_eq_true (by first | (with_reducible assumption) | assumption)
                        obtain ⟨ad270, e270, hx270_0, hx270_1, hx270_2, hx270_3⟩ := at_T27 HR0.out x10_2 p270 q270
                        obtain rfl : ad269 = ad270 := (by injection e270)
                        replace hx270_0 := (HB.out.cell (World.block_lt_of_cell? w _ hx270_0)).trans hx270_0
                        replace hx270_1 := (HB.out.cell (World.block_lt_of_cell? w _ hx270_1)).trans hx270_1
                        replace hx270_2 := (HB.out.cell (World.block_lt_of_cell? w _ hx270_2)).trans hx270_2
                        replace hx270_3 := (HB.out.cell (World.block_lt_of_cell? w _ hx270_3)).trans hx270_3
                        replace p270 := eq_true p270
                        replace q270 := eq_true q270
                        go_wp2
                        repeat (go_quiet (fail); try go_wp2)
                        go_meet
                        case rel => exact ⟨_, (false), (by first | rfl | (simp; done) | (simp [*]; done)), H', ⟨by have := HJ6.out; have := HK2.out; first | omega | exact Nat.le_refl _⟩, ⟨by (with_reducible repeat (first | apply Kd.R_alloc | apply Kd.R_drewN | apply Kd.R_drew)); exact HO_5.out⟩, ⟨by repeat (first | (with_reducible first | exact HB.out | apply below_alloc | apply pw_below_drewN | apply below_drew1) | exact HB.out)⟩⟩
                      · rw [if_neg c17] at H
                        have c17b0 : (((rd_T27 l0 x10_2).f0) == 1) = false := beq_eq_false_iff_ne.mpr c17
                        have c17b1 : (((rd_T27 l0 x10_2).f0) != 1) = true := bne_iff_ne.mpr c17
                        (first | rw [c17b0] | (simp only [i64_w, i32_w]; rw [c17b0]) | skip)
                        have H' := Aside0.mk H
                        clear H
                        have p270 : 0 ≤ (x10_2 : Int) := of_decide_eq_true (by first | (with_reducible assumption) | assumption)
                        have q270 : x10_2 < (l0.length : Int) := of_decide_eq_true (by first | (with_reducible assumption) | assumption)
                        obtain ⟨ad270, e270, hx270_0, hx270_1, hx270_2, hx270_3⟩ := at_T27 HR0.out x10_2 p270 q270
                        obtain rfl : ad269 = ad270 := (by injection e270)
                        replace hx270_0 := (HB.out.cell (World.block_lt_of_cell? w _ hx270_0)).trans hx270_0
                        replace hx270_1 := (HB.out.cell (World.block_lt_of_cell? w _ hx270_1)).trans hx270_1
                        replace hx270_2 := (HB.out.cell (World.block_lt_of_cell? w _ hx270_2)).trans hx270_2
                        replace hx270_3 := (HB.out.cell (World.block_lt_of_cell? w _ hx270_3)).trans hx270_3
                        replace p270 := eq_true p270
                        replace q270 := eq_true q270
                        have p271 : 0 ≤ (x10_2 : Int) := of_decide_eq_true (by first | (with_reducible assumption) | assumption)
                        have q271 : x10_2 < (l0.length : Int) := of_decide_eq_true (by first | (with_reducible assumption) | assumption)
                        obtain ⟨ad271, e271, hx271_0, hx271_1, hx271_2, hx271_3⟩ := at_T27 HR0.out x10_2 p271 q271
                        obtain rfl : ad269 = ad271 := (by injection e271)
                        replace hx271_0 := (HB.out.cell (World.block_lt_of_cell? w _ hx271_0)).trans hx271_0
                        replace hx271_1 := (HB.out.cell (World.block_lt_of_cell? w _ hx271_1)).trans hx271_1
                        replace hx271_2 := (HB.out.cell (World.block_lt_of_cell? w _ hx271_2)).trans hx271_2
                        replace hx271_3 := (HB.out.cell (World.block_lt_of_cell? w _ hx271_3)).trans hx271_3
                        replace p271 := eq_true p271
                        replace q271 := eq_true q271
                        go_wp2
                        repeat (go_quiet (fail); try go_wp2)
                        go_meet
                        case rel => exact ⟨_, ((((rd_T27 l0 x10_2).f0) != 2)), (by first | rfl | (simp; done) | (simp [*]; done)), H', ⟨by have := HJ6.out; have := HK2.out; first | omega | exact Nat.le_refl _⟩, ⟨by (with_reducible repeat (first | apply Kd.R_alloc | apply Kd.R_drewN | apply Kd.R_drew)); exact HO_5.out⟩, ⟨by repeat (first | (with_reducible first | exact HB.out | apply below_alloc | apply pw_below_drewN | apply below_drew1) | exact HB.out)⟩⟩
                    case rest =>
                      clear HC16
                      try clear c1
                      try clear p2
                      try clear q2
                      try clear hx2
                      try clear c3
                      try clear c5
                      try clear c5b0
                      try clear c5b1
                      try clear c6
                      try clear c11
                      try clear c11b0
                      try clear c11b1
                      try clear c13
                      try clear c14
                      try clear c14b0
                      try clear c15
                      try clear c15b0
                      try clear c17
                      try clear c17b0
                      try clear c17b1
                      try clear hx269_0
                      try clear hx269_1
                      try clear hx269_2
                      try clear hx269_3
                      try clear hx270_0
                      try clear hx270_1
                      try clear hx270_2
                      try clear hx270_3
                      try clear hx271_0
                      try clear hx271_1
                      try clear hx271_2
                      try clear hx271_3
                      try clear p2
                      try clear p269
                      try clear p270
                      try clear p271
                      try clear q269
                      try clear q270
                      try clear q271
                      obtain ⟨kq, x70_15, rfl, HA, HJ15, HO_5, HB⟩ := hcut
                      cases kq with
                      | zero => exact absurd HA.out (by simp [kilnlaw11_TokenBack.j2])
                      | succ kj15 =>
                        have H := HA.out
                        clear HA
                        simp only [kilnlaw11_TokenBack.j2] at H
                        have HC18 := Aside0.mk H
                        clear H
                        go_upto_if 70 with (fail)
                        repeat (go_quiet (fail); go_upto_if 70 with (fail))
                        go_cut [11] (fun v11 wc => ∃ (kq : Nat) (x11_17 : ByteArray), v11 = .string x11_17 ∧ Aside0 (kilnlaw11_TokenBack.j3 kq l0 t259 t261 x9_2 x10_2 x11_17 = some r) ∧ Aside0 (kq ≤ kj15) ∧ Aside0 (Kd.R k27 27 wc w.heap.size (fun _ => True) v265 t261) ∧ Aside0 (Below w.heap.size w wc))
                        case first =>
                          have H := HC18.out
                          clear HC18
                          by_cases c19 : x70_15 = true
                          · subst c19
                            have H1 : (kilnlaw11_TokenBack.j3 kj15 l0 t259 t261 x9_2 x10_2 (⟨#[]⟩ : ByteArray)) = some r := by rw [if_pos rfl] at H; exact H
                            clear H
                            have H := H1
                            clear H1
                            have H' := Aside0.mk H
                            clear H
                            go_wp2
                            repeat (go_quiet (fail); try go_wp2)
                            go_meet
                            case rel => exact ⟨_, ((⟨#[]⟩ : ByteArray)), (by first | rfl | (simp; done) | (simp [*]; done)), H', ⟨by have := HJ6.out; have := HK2.out; have := HJ15.out; first | omega | exact Nat.le_refl _⟩, ⟨by (with_reducible repeat (first | apply Kd.R_alloc | apply Kd.R_drewN | apply Kd.R_drew)); exact HO_5.out⟩, ⟨by repeat (first | (with_reducible first | exact HB.out | apply below_alloc | apply pw_below_drewN | apply below_drew1) | exact HB.out)⟩⟩
                          · replace c19 := Bool.eq_false_iff.mpr c19
                            subst c19
                            have H1 : (kilnlaw11_TokenBack.j3 kj15 l0 t259 t261 x9_2 x10_2 ((rd_T27 l0 x10_2).f1)) = some r := by rw [if_neg (show ¬ (false = true) by decide)] at H; exact H
                            clear H
                            have H := H1
                            clear H1
                            have H' := Aside0.mk H
                            clear H
                            go_wp2
                            repeat (go_quiet (fail); try go_wp2)
                            go_meet
                            case rel => exact ⟨_, (((rd_T27 l0 x10_2).f1)), (by first | rfl | (simp; done) | (simp [*]; done)), H', ⟨by have := HJ6.out; have := HK2.out; have := HJ15.out; first | omega | exact Nat.le_refl _⟩, ⟨by (with_reducible repeat (first | apply Kd.R_alloc | apply Kd.R_drewN | apply Kd.R_drew)); exact HO_5.out⟩, ⟨by repeat (first | (with_reducible first | exact HB.out | apply below_alloc | apply pw_below_drewN | apply below_drew1) | exact HB.out)⟩⟩
                        case rest =>
                          clear HC18
                          try clear c1
                          try clear p2
                          try clear q2
                          try clear hx2
                          try clear c3
                          try clear c5
                          try clear c5b0
                          try clear c5b1
                          try clear c6
                          try clear c11
                          try clear c11b0
                          try clear c11b1
                          try clear c13
                          try clear c14
                          try clear c14b0
                          try clear c15
                          try clear c15b0
                          try clear c17
                          try clear c17b0
                          try clear c17b1
                          try clear c19
                          try clear hx269_0
                          try clear hx269_1
                          try clear hx269_2
                          try clear hx269_3
                          try clear hx270_0
                          try clear hx270_1
                          try clear hx270_2
                          try clear hx270_3
                          try clear hx271_0
                          try clear hx271_1
                          try clear hx271_2
                          try clear hx271_3
                          try clear p2
                          try clear p269
                          try clear p270
                          try clear p271
                          try clear q2
                          try clear q269
                          try clear q270
                          try clear q271
                          obtain ⟨kq, x11_17, rfl, HA, HJ17, HO_5, HB⟩ := hcut
                          cases kq with
                          | zero => exact absurd HA.out (by simp [kilnlaw11_TokenBack.j3])
                          | succ kj17 =>
                            have H := HA.out
                            clear HA
                            simp only [kilnlaw11_TokenBack.j3] at H
                            have HC20 := Aside0.mk H
                            clear H
                            go_upto_region 18 with (fail)
                            repeat (go_quiet (fail); go_upto_region 18 with (fail))
                            go_cut [99] (fun v99 wc => ∃ (kq : Nat) (x99_19 : Bool), v99 = .bool x99_19 ∧ Aside0 (kilnlaw11_TokenBack.j4 kq l0 t259 t261 x9_2 x10_2 x99_19 = some r) ∧ Aside0 (kq ≤ kj17) ∧ Aside0 (Kd.R k27 27 wc w.heap.size (fun _ => True) v265 t261) ∧ Aside0 (Below w.heap.size w wc))
                            case first =>
                              have H := HC20.out
                              clear HC20
                              by_cases c21 : 0 ≤ x10_2
                              · rw [if_pos c21] at H
                                have c21b0 : decide (0 ≤ x10_2) = true := decide_eq_true c21
                                clear c21
                                (first | rw [c21b0] | (simp only [i64_w, i32_w]; rw [c21b0]) | skip)
                                by_cases c22 : x10_2 < (t261.length : Int)
                                · rw [if_pos c22] at H
                                  have c22b0 : decide (x10_2 < (t261.length : Int)) = true := decide_eq_true c22
                                  clear c22
                                  by_cases c23 : x10_2 < (l0.length : Int)
                                  · rw [if_pos c23] at H
                                    have c23b0 : decide (x10_2 < (l0.length : Int)) = true := decide_eq_true c23
                                    clear c23
                                    by_cases c24 : ((rd_T27 t261 x10_2).f0) = ((rd_T27 l0 x10_2).f0)
                                    · rw [if_pos c24] at H
                                      have c24b0 : (((rd_T27 t261 x10_2).f0) == ((rd_T27 l0 x10_2).f0)) = true := beq_iff_eq.mpr c24
                                      have c24b1 : (((rd_T27 t261 x10_2).f0) != ((rd_T27 l0 x10_2).f0)) = false := bne_eq_false_iff_eq.mpr c24
                                      clear c24
                                      by_cases c25 : ((rd_T27 t261 x10_2).f1).toList = x11_17.toList
                                      · rw [if_pos c25] at H
                                        have c25b0 : (((rd_T27 t261 x10_2).f1).toList == x11_17.toList) = true := beq_iff_eq.mpr c25
                                        have c25b1 : (((rd_T27 t261 x10_2).f1).toList != x11_17.toList) = false := bne_eq_false_iff_eq.mpr c25
                                        clear c25
                                        have H' := Aside0.mk H
                                        clear H
                                        obtain ⟨Ao26, co26, eo26⟩ := Kd.R_slice HO_5.out
                                        subst eo26
                                        have p272 : 0 ≤ (x10_2 : Int) := of_decide_eq_true (by first | (with_reducible assumption) | assumption)
                                        have q272 : x10_2 < (t261.length : Int) := of_decide_eq_true (by first | (with_reducible assumption) | assumption)
                                        obtain ⟨ad272, e272, hx272_0, hx272_1, hx272_2, hx272_3⟩ := at_T27 (Kd.R_reads' HO_5.out).2.2 x10_2 p272 q272
                                        cases e272
                                        replace p272 := eq_true p272
                                        replace q272 := eq_true q272
                                        have p273 : 0 ≤ (x10_2 : Int) := of_decide_eq_true (by first | (with_reducible assumption) | assumption)
                                        have q273 : x10_2 < (l0.length : Int) := of_decide_eq_true (by first | (with_reducible assumption) | assumption)
                                        obtain ⟨ad273, e273, hx273_0, hx273_1, hx273_2, hx273_3⟩ := at_T27 HR0.out x10_2 p273 q273
                                        obtain rfl : ad269 = ad273 := (by injection e273)
                                        replace hx273_0 := (HB.out.cell (World.block_lt_of_cell? w _ hx273_0)).trans hx273_0
                                        replace hx273_1 := (HB.out.cell (World.block_lt_of_cell? w _ hx273_1)).trans hx273_1
                                        replace hx273_2 := (HB.out.cell (World.block_lt_of_cell? w _ hx273_2)).trans hx273_2
                                        replace hx273_3 := (HB.out.cell (World.block_lt_of_cell? w _ hx273_3)).trans hx273_3
                                        replace p273 := eq_true p273
                                        replace q273 := eq_true q273
                                        have p274 : 0 ≤ (x10_2 : Int) := of_decide_eq_true (by first | (with_reducible assumption) | assumption)
                                        have q274 : x10_2 < (t261.length : Int) := of_decide_eq_true (by first | (with_reducible assumption) | assumption)
                                        obtain ⟨ad274, e274, hx274_0, hx274_1, hx274_2, hx274_3⟩ := at_T27 (Kd.R_reads' HO_5.out).2.2 x10_2 p274 q274
                                        obtain rfl : ad272 = ad274 := (by injection e274)
                                        replace p274 := eq_true p274
                                        replace q274 := eq_true q274
                                        have p275 : 0 ≤ (x10_2 : Int) := of_decide_eq_true (by first | (with_reducible assumption) | assumption)
                                        have q275 : x10_2 < (t261.length : Int) := of_decide_eq_true (by first | (with_reducible assumption) | assumption)
                                        obtain ⟨ad275, e275, hx275_0, hx275_1, hx275_2, hx275_3⟩ := at_T27 (Kd.R_reads' HO_5.out).2.2 x10_2 p275 q275
                                        obtain rfl : ad272 = ad275 := (by injection e275)
                                        replace p275 := eq_true p275
                                        replace q275 := eq_true q275
                                        go_wp2
                                        repeat (go_quiet (fail); try go_wp2)
                                        go_meet
                                        case rel => exact ⟨_, ((((rd_T27 t261 x10_2).f2) != x9_2)), (by first | rfl | (simp; done) | (simp [*]; done)), H', ⟨by have := HJ6.out; have := HK2.out; have := HJ15.out; have := HJ17.out; first | omega | exact Nat.le_refl _⟩, ⟨by (with_reducible repeat (first | apply Kd.R_alloc | apply Kd.R_drewN | apply Kd.R_drew)); exact HO_5.out⟩, ⟨by repeat (first | (with_reducible first | exact HB.out | apply below_alloc | apply pw_below_drewN | apply below_drew1) | exact HB.out)⟩⟩
                                      · rw [if_neg c25] at H
                                        have c25b0 : (((rd_T27 t261 x10_2).f1).toList == x11_17.toList) = false := beq_eq_false_iff_ne.mpr c25
                                        have c25b1 : (((rd_T27 t261 x10_2).f1).toList != x11_17.toList) = true := bne_iff_ne.mpr c25
                                        have H' := Aside0.mk H
                                        clear H
                                        obtain ⟨Ao27, co27, eo27⟩ := Kd.R_slice HO_5.out
                                        subst eo27
                                        have p272 : 0 ≤ (x10_2 : Int) := of_decide_eq_true (by first | (with_reducible assumption) | assumption)
                                        have q272 : x10_2 < (t261.length : Int) := of_decide_eq_true (by first | (with_reducible assumption) | assumption)
                                        obtain ⟨ad272, e272, hx272_0, hx272_1, hx272_2, hx272_3⟩ := at_T27 (Kd.R_reads' HO_5.out).2.2 x10_2 p272 q272
                                        cases e272
                                        replace p272 := eq_true p272
                                        replace q272 := eq_true q272
                                        have p273 : 0 ≤ (x10_2 : Int) := of_decide_eq_true (by first | (with_reducible assumption) | assumption)
                                        have q273 : x10_2 < (l0.length : Int) := of_decide_eq_true (by first | (with_reducible assumption) | assumption)
                                        obtain ⟨ad273, e273, hx273_0, hx273_1, hx273_2, hx273_3⟩ := at_T27 HR0.out x10_2 p273 q273
                                        obtain rfl : ad269 = ad273 := (by injection e273)
                                        replace hx273_0 := (HB.out.cell (World.block_lt_of_cell? w _ hx273_0)).trans hx273_0
                                        replace hx273_1 := (HB.out.cell (World.block_lt_of_cell? w _ hx273_1)).trans hx273_1
                                        replace hx273_2 := (HB.out.cell (World.block_lt_of_cell? w _ hx273_2)).trans hx273_2
                                        replace hx273_3 := (HB.out.cell (World.block_lt_of_cell? w _ hx273_3)).trans hx273_3
                                        replace p273 := eq_true p273
                                        replace q273 := eq_true q273
                                        have p274 : 0 ≤ (x10_2 : Int) := of_decide_eq_true (by first | (with_reducible assumption) | assumption)
                                        have q274 : x10_2 < (t261.length : Int) := of_decide_eq_true (by first | (with_reducible assumption) | assumption)
                                        obtain ⟨ad274, e274, hx274_0, hx274_1, hx274_2, hx274_3⟩ := at_T27 (Kd.R_reads' HO_5.out).2.2 x10_2 p274 q274
                                        obtain rfl : ad272 = ad274 := (by injection e274)
                                        replace p274 := eq_true p274
                                        replace q274 := eq_true q274
                                        go_wp2
                                        repeat (go_quiet (fail); try go_wp2)
                                        go_meet
                                        case rel => exact ⟨_, (true), (by first | rfl | (simp; done) | (simp [*]; done)), H', ⟨by have := HJ6.out; have := HK2.out; have := HJ15.out; have := HJ17.out; first | omega | exact Nat.le_refl _⟩, ⟨by (with_reducible repeat (first | apply Kd.R_alloc | apply Kd.R_drewN | apply Kd.R_drew)); exact HO_5.out⟩, ⟨by repeat (first | (with_reducible first | exact HB.out | apply below_alloc | apply pw_below_drewN | apply below_drew1) | exact HB.out)⟩⟩
                                    · rw [if_neg c24] at H
                                      have c24b0 : (((rd_T27 t261 x10_2).f0) == ((rd_T27 l0 x10_2).f0)) = false := beq_eq_false_iff_ne.mpr c24
                                      have c24b1 : (((rd_T27 t261 x10_2).f0) != ((rd_T27 l0 x10_2).f0)) = true := bne_iff_ne.mpr c24
                                      have H' := Aside0.mk H
                                      clear H
                                      obtain ⟨Ao28, co28, eo28⟩ := Kd.R_slice HO_5.out
                                      subst eo28
                                      have p272 : 0 ≤ (x10_2 : Int) := of_decide_eq_true (by first | (with_reducible assumption) | assumption)
                                      have q272 : x10_2 < (t261.length : Int) := of_decide_eq_true (by first | (with_reducible assumption) | assumption)
                                      obtain ⟨ad272, e272, hx272_0, hx272_1, hx272_2, hx272_3⟩ := at_T27 (Kd.R_reads' HO_5.out).2.2 x10_2 p272 q272
                                      cases e272
                                      replace p272 := eq_true p272
                                      replace q272 := eq_true q272
                                      have p273 : 0 ≤ (x10_2 : Int) := of_decide_eq_true (by first | (with_reducible assumption) | assumption)
                                      have q273 : x10_2 < (l0.length : Int) := of_decide_eq_true (by first | (with_reducible assumption) | assumption)
                                      obtain ⟨ad273, e273, hx273_0, hx273_1, hx273_2, hx273_3⟩ := at_T27 HR0.out x10_2 p273 q273
                                      obtain rfl : ad269 = ad273 := (by injection e273)
                                      replace hx273_0 := (HB.out.cell (World.block_lt_of_cell? w _ hx273_0)).trans hx273_0
                                      replace hx273_1 := (HB.out.cell (World.block_lt_of_cell? w _ hx273_1)).trans hx273_1
                                      replace hx273_2 := (HB.out.cell (World.block_lt_of_cell? w _ hx273_2)).trans hx273_2
                                      replace hx273_3 := (HB.out.cell (World.block_lt_of_cell? w _ hx273_3)).trans hx273_3
                                      replace p273 := eq_true p273
                                      replace q273 := eq_true q273
                                      go_wp2
                                      repeat (go_quiet (fail); try go_wp2)
                                      go_meet
                                      case rel => exact ⟨_, (true), (by first | rfl | (simp; done) | (simp [*]; done)), H', ⟨by have := HJ6.out; have := HK2.out; have := HJ15.out; have := HJ17.out; first | omega | exact Nat.le_refl _⟩, ⟨by (with_reducible repeat (first | apply Kd.R_alloc | apply Kd.R_drewN | apply Kd.R_drew)); exact HO_5.out⟩, ⟨by repeat (first | (with_reducible first | exact HB.out | apply below_alloc | apply pw_below_drewN | apply below_drew1) | exact HB.out)⟩⟩
                                  · rw [if_neg c23] at H
                                    exact absurd H (by simp)
                                · rw [if_neg c22] at H
                                  exact absurd H (by simp)
                              · rw [if_neg c21] at H
                                exact absurd H (by simp)
                            case rest =>
                              clear HC20
                              try clear c1
                              try clear c2
                              try clear p2
                              try clear q2
                              try clear hx2
                              try clear c3
                              try clear c5
                              try clear c5b0
                              try clear c5b1
                              try clear c6
                              try clear c11
                              try clear c11b0
                              try clear c11b1
                              try clear c13
                              try clear c14
                              try clear c14b0
                              try clear c15
                              try clear c15b0
                              try clear c17
                              try clear c17b0
                              try clear c17b1
                              try clear c19
                              try clear c21
                              try clear c21b0
                              try clear c22
                              try clear c22b0
                              try clear c23
                              try clear c23b0
                              try clear c24
                              try clear c24b0
                              try clear c24b1
                              try clear c25
                              try clear c25b0
                              try clear c25b1
                              try clear p26
                              try clear q26
                              try clear hx26
                              try clear p27
                              try clear q27
                              try clear hx27
                              try clear hx269_0
                              try clear hx269_1
                              try clear hx269_2
                              try clear hx269_3
                              try clear hx270_0
                              try clear hx270_1
                              try clear hx270_2
                              try clear hx270_3
                              try clear hx271_0
                              try clear hx271_1
                              try clear hx271_2
                              try clear hx271_3
                              try clear hx272_0
                              try clear hx272_1
                              try clear hx272_2
                              try clear hx272_3
                              try clear hx273_0
                              try clear hx273_1
                              try clear hx273_2
                              try clear hx273_3
                              try clear hx274_0
                              try clear hx274_1
                              try clear hx274_2
                              try clear hx274_3
                              try clear hx275_0
                              try clear hx275_1
                              try clear hx275_2
                              try clear hx275_3
                              try clear p2
                              try clear p269
                              try clear p270
                              try clear p271
                              try clear p272
                              try clear p273
                              try clear p274
                              try clear p275
                              try clear q2
                              try clear q269
                              try clear q270
                              try clear q271
                              try clear q272
                              try clear q273
                              try clear q274
                              try clear q275
                              obtain ⟨kq, x99_19, rfl, HA, HJ19, HO_5, HB⟩ := hcut
                              cases kq with
                              | zero => exact absurd HA.out (by simp [kilnlaw11_TokenBack.j4])
                              | succ kj19 =>
                                have H := HA.out
                                clear HA
                                simp only [kilnlaw11_TokenBack.j4] at H
                                by_cases c29 : x99_19 = true
                                · subst c29
                                  have H1 : (some false) = some r := by rw [if_pos rfl] at H; exact H
                                  clear H
                                  have H := H1
                                  clear H1
                                  obtain rfl := Option.some.inj H
                                  go_wp2
                                  repeat (go_quiet (fail); try go_wp2)
                                  go_ret
                                  exact ⟨by first | rfl | (simp [errW_none, errW_some] <;> rfl) | (simp [*, errW_none, errW_some] <;> rfl), by repeat (first | (with_reducible first | exact HB.out | apply below_alloc | apply pw_below_drewN | apply below_drew1) | exact HB.out)⟩
                                · replace c29 := Bool.eq_false_iff.mpr c29
                                  subst c29
                                  have H1 : (if 0 ≤ x10_2 then (if x10_2 < (l0.length : Int) then (if ((rd_T27 l0 x10_2).f0) = 7 then (kilnlaw11_TokenBack.l0 kj19 l0 t259 t261 (wrap64 (x9_2 + 1)) (wrap64 (x10_2 + 1))) else (kilnlaw11_TokenBack.l0 kj19 l0 t259 t261 x9_2 (wrap64 (x10_2 + 1)))) else (none)) else (none)) = some r := by rw [if_neg (show ¬ (false = true) by decide)] at H; exact H
                                  clear H
                                  have H := H1
                                  clear H1
                                  by_cases c30 : 0 ≤ x10_2
                                  · rw [if_pos c30] at H
                                    have c30b0 : decide (0 ≤ x10_2) = true := decide_eq_true c30
                                    clear c30
                                    by_cases c31 : x10_2 < (l0.length : Int)
                                    · rw [if_pos c31] at H
                                      have c31b0 : decide (x10_2 < (l0.length : Int)) = true := decide_eq_true c31
                                      clear c31
                                      by_cases c32 : ((rd_T27 l0 x10_2).f0) = 7
                                      · rw [if_pos c32] at H
                                        have c32b0 : (((rd_T27 l0 x10_2).f0) == 7) = true := beq_iff_eq.mpr c32
                                        have c32b1 : (((rd_T27 l0 x10_2).f0) != 7) = false := bne_eq_false_iff_eq.mpr c32
                                        clear c32
                                        have H' := Aside0.mk H
                                        clear H
                                        have p276 : 0 ≤ (x10_2 : Int) := of_decide_eq_true (by first | (with_reducible assumption) | assumption)
                                        have q276 : x10_2 < (l0.length : Int) := of_decide_eq_true (by first | (with_reducible assumption) | assumption)
                                        obtain ⟨ad276, e276, hx276_0, hx276_1, hx276_2, hx276_3⟩ := at_T27 HR0.out x10_2 p276 q276
                                        obtain rfl : ad269 = ad276 := (by injection e276)
                                        replace hx276_0 := (HB.out.cell (World.block_lt_of_cell? w _ hx276_0)).trans hx276_0
                                        replace hx276_1 := (HB.out.cell (World.block_lt_of_cell? w _ hx276_1)).trans hx276_1
                                        replace hx276_2 := (HB.out.cell (World.block_lt_of_cell? w _ hx276_2)).trans hx276_2
                                        replace hx276_3 := (HB.out.cell (World.block_lt_of_cell? w _ hx276_3)).trans hx276_3
                                        replace p276 := eq_true p276
                                        replace q276 := eq_true q276
                                        go_wp2
                                        repeat (go_quiet (fail); try go_wp2)
                                        go_roundg kj19
                                        case measure => have := HJ6.out; have := HK2.out; have := HJ15.out; have := HJ17.out; have := HJ19.out; omega
                                        case rel => exact ⟨(wrap64 (x9_2 + 1)), (wrap64 (x10_2 + 1)), (by first | rfl | (simp; done) | (simp [*]; done)), (by first | rfl | (simp; done) | (simp [*]; done)), H', ⟨by have := HJ6.out; have := HK2.out; have := HJ15.out; have := HJ17.out; have := HJ19.out; omega⟩, ⟨by (with_reducible repeat (first | apply Kd.R_alloc | apply Kd.R_drewN | apply Kd.R_drew)); exact HO_5.out⟩, ⟨by repeat (first | (with_reducible first | exact HB.out | apply below_alloc | apply pw_below_drewN | apply below_drew1) | exact HB.out)⟩⟩
                                      · rw [if_neg c32] at H
                                        have c32b0 : (((rd_T27 l0 x10_2).f0) == 7) = false := beq_eq_false_iff_ne.mpr c32
                                        have c32b1 : (((rd_T27 l0 x10_2).f0) != 7) = true := bne_iff_ne.mpr c32
                                        have H' := Aside0.mk H
                                        clear H
                                        have p276 : 0 ≤ (x10_2 : Int) := of_decide_eq_true (by first | (with_reducible assumption) | assumption)
                                        have q276 : x10_2 < (l0.length : Int) := of_decide_eq_true (by first | (with_reducible assumption) | assumption)
                                        obtain ⟨ad276, e276, hx276_0, hx276_1, hx276_2, hx276_3⟩ := at_T27 HR0.out x10_2 p276 q276
                                        obtain rfl : ad269 = ad276 := (by injection e276)
                                        replace hx276_0 := (HB.out.cell (World.block_lt_of_cell? w _ hx276_0)).trans hx276_0
                                        replace hx276_1 := (HB.out.cell (World.block_lt_of_cell? w _ hx276_1)).trans hx276_1
                                        replace hx276_2 := (HB.out.cell (World.block_lt_of_cell? w _ hx276_2)).trans hx276_2
                                        replace hx276_3 := (HB.out.cell (World.block_lt_of_cell? w _ hx276_3)).trans hx276_3
                                        replace p276 := eq_true p276
                                        replace q276 := eq_true q276
                                        go_wp2
                                        repeat (go_quiet (fail); try go_wp2)
                                        go_roundg kj19
                                        case measure => have := HJ6.out; have := HK2.out; have := HJ15.out; have := HJ17.out; have := HJ19.out; omega
                                        case rel => exact ⟨(x9_2), (wrap64 (x10_2 + 1)), (by first | rfl | (simp; done) | (simp [*]; done)), (by first | rfl | (simp; done) | (simp [*]; done)), H', ⟨by have := HJ6.out; have := HK2.out; have := HJ15.out; have := HJ17.out; have := HJ19.out; omega⟩, ⟨by (with_reducible repeat (first | apply Kd.R_alloc | apply Kd.R_drewN | apply Kd.R_drew)); exact HO_5.out⟩, ⟨by repeat (first | (with_reducible first | exact HB.out | apply below_alloc | apply pw_below_drewN | apply below_drew1) | exact HB.out)⟩⟩
                                    · rw [if_neg c31] at H
                                      exact absurd H (by simp)
                                  · rw [if_neg c30] at H
                                    exact absurd H (by simp)
                  · rw [if_neg c15] at H
                    exact absurd H (by simp)
                · rw [if_neg c14] at H
                  have c14b0 : decide (x10_2 < (l0.length : Int)) = false := decide_eq_false c14
                  clear c14
                  replace H := Option.bind_eq_some_iff.mp H
                  obtain ⟨⟨t267, t268⟩, A330, H⟩ := H
                  replace H : (if t268 = 0 then (some (t267.toList == t259.toList)) else (some false)) = some r := H
                  have A33 := Aside0.mk A330
                  clear A330
                  by_cases c34 : t268 = 0
                  · rw [if_pos c34] at H
                    have c34b0 : (t268 == 0) = true := beq_iff_eq.mpr c34
                    have c34b1 : (t268 != 0) = false := bne_eq_false_iff_eq.mpr c34
                    clear c34
                    obtain rfl := Option.some.inj H
                    obtain ⟨Ao35, co35, eo35⟩ := Kd.R_slice HO_5.out
                    subst eo35
                    go_wp2_with (first | (go_at_call 21; (with_reducible refine (token_Print.calls k2 _ _ t261 t267 t268 _ ?side1 ?side2 A33.out).mono ?_); (case side1 => repeat (first | exact (Kd.R_reads' HO_5.out).2.2 | (with_reducible refine Kd.C_alloc ?_ _) | (with_reducible refine Kd.C_drewN ?_ _) | (with_reducible refine Kd.C_drew ?_))); (case side2 => exact (Kd.R_reads' HO_5.out).2.1); rintro e w36 ⟨rfl, hb⟩; have n0_ := Aside0.mk (Kd.R_below (by (with_reducible repeat (first | apply Kd.R_alloc | apply Kd.R_drewN | apply Kd.R_drew)); exact HO_5.out) hb); have n1_ := Aside0.mk (below_step (by repeat (first | (with_reducible first | exact HB.out | apply below_alloc | apply pw_below_drewN | apply below_drew1) | exact HB.out)) hb); clear HO_5; clear HB; have HO_5 := n0_; have HB := n1_; clear n0_ n1_; (try clear hb); (try clear hb2); (try clear hk); (try clear hi)))
                    repeat (go_quiet (first | (go_at_call 21; (with_reducible refine (token_Print.calls k2 _ _ t261 t267 t268 _ ?side1 ?side2 A33.out).mono ?_); (case side1 => repeat (first | exact (Kd.R_reads' HO_5.out).2.2 | (with_reducible refine Kd.C_alloc ?_ _) | (with_reducible refine Kd.C_drewN ?_ _) | (with_reducible refine Kd.C_drew ?_))); (case side2 => exact (Kd.R_reads' HO_5.out).2.1); rintro e w36 ⟨rfl, hb⟩; have n0_ := Aside0.mk (Kd.R_below (by (with_reducible repeat (first | apply Kd.R_alloc | apply Kd.R_drewN | apply Kd.R_drew)); exact HO_5.out) hb); have n1_ := Aside0.mk (below_step (by repeat (first | (with_reducible first | exact HB.out | apply below_alloc | apply pw_below_drewN | apply below_drew1) | exact HB.out)) hb); clear HO_5; clear HB; have HO_5 := n0_; have HB := n1_; clear n0_ n1_; (try clear hb); (try clear hb2); (try clear hk); (try clear hi))); try go_wp2_with (first | (go_at_call 21; (with_reducible refine (token_Print.calls k2 _ _ t261 t267 t268 _ ?side1 ?side2 A33.out).mono ?_); (case side1 => repeat (first | exact (Kd.R_reads' HO_5.out).2.2 | (with_reducible refine Kd.C_alloc ?_ _) | (with_reducible refine Kd.C_drewN ?_ _) | (with_reducible refine Kd.C_drew ?_))); (case side2 => exact (Kd.R_reads' HO_5.out).2.1); rintro e w36 ⟨rfl, hb⟩; have n0_ := Aside0.mk (Kd.R_below (by (with_reducible repeat (first | apply Kd.R_alloc | apply Kd.R_drewN | apply Kd.R_drew)); exact HO_5.out) hb); have n1_ := Aside0.mk (below_step (by repeat (first | (with_reducible first | exact HB.out | apply below_alloc | apply pw_below_drewN | apply below_drew1) | exact HB.out)) hb); clear HO_5; clear HB; have HO_5 := n0_; have HB := n1_; clear n0_ n1_; (try clear hb); (try clear hb2); (try clear hk); (try clear hi))))
                    go_ret
                    exact ⟨by first | rfl | (simp [errW_none, errW_some] <;> rfl) | (simp [*, errW_none, errW_some] <;> rfl), by repeat (first | (with_reducible first | exact HB.out | apply below_alloc | apply pw_below_drewN | apply below_drew1) | exact HB.out)⟩
                  · rw [if_neg c34] at H
                    have c34b0 : (t268 == 0) = false := beq_eq_false_iff_ne.mpr c34
                    have c34b1 : (t268 != 0) = true := bne_iff_ne.mpr c34
                    obtain rfl := Option.some.inj H
                    obtain ⟨Ao37, co37, eo37⟩ := Kd.R_slice HO_5.out
                    subst eo37
                    go_wp2_with (first | (go_at_call 21; (with_reducible refine (token_Print.calls k2 _ _ t261 t267 t268 _ ?side1 ?side2 A33.out).mono ?_); (case side1 => repeat (first | exact (Kd.R_reads' HO_5.out).2.2 | (with_reducible refine Kd.C_alloc ?_ _) | (with_reducible refine Kd.C_drewN ?_ _) | (with_reducible refine Kd.C_drew ?_))); (case side2 => exact (Kd.R_reads' HO_5.out).2.1); rintro e w38 ⟨rfl, hb⟩; have n0_ := Aside0.mk (Kd.R_below (by (with_reducible repeat (first | apply Kd.R_alloc | apply Kd.R_drewN | apply Kd.R_drew)); exact HO_5.out) hb); have n1_ := Aside0.mk (below_step (by repeat (first | (with_reducible first | exact HB.out | apply below_alloc | apply pw_below_drewN | apply below_drew1) | exact HB.out)) hb); clear HO_5; clear HB; have HO_5 := n0_; have HB := n1_; clear n0_ n1_; (try clear hb); (try clear hb2); (try clear hk); (try clear hi)))
                    repeat (go_quiet (first | (go_at_call 21; (with_reducible refine (token_Print.calls k2 _ _ t261 t267 t268 _ ?side1 ?side2 A33.out).mono ?_); (case side1 => repeat (first | exact (Kd.R_reads' HO_5.out).2.2 | (with_reducible refine Kd.C_alloc ?_ _) | (with_reducible refine Kd.C_drewN ?_ _) | (with_reducible refine Kd.C_drew ?_))); (case side2 => exact (Kd.R_reads' HO_5.out).2.1); rintro e w38 ⟨rfl, hb⟩; have n0_ := Aside0.mk (Kd.R_below (by (with_reducible repeat (first | apply Kd.R_alloc | apply Kd.R_drewN | apply Kd.R_drew)); exact HO_5.out) hb); have n1_ := Aside0.mk (below_step (by repeat (first | (with_reducible first | exact HB.out | apply below_alloc | apply pw_below_drewN | apply below_drew1) | exact HB.out)) hb); clear HO_5; clear HB; have HO_5 := n0_; have HB := n1_; clear n0_ n1_; (try clear hb); (try clear hb2); (try clear hk); (try clear hi))); try go_wp2_with (first | (go_at_call 21; (with_reducible refine (token_Print.calls k2 _ _ t261 t267 t268 _ ?side1 ?side2 A33.out).mono ?_); (case side1 => repeat (first | exact (Kd.R_reads' HO_5.out).2.2 | (with_reducible refine Kd.C_alloc ?_ _) | (with_reducible refine Kd.C_drewN ?_ _) | (with_reducible refine Kd.C_drew ?_))); (case side2 => exact (Kd.R_reads' HO_5.out).2.1); rintro e w38 ⟨rfl, hb⟩; have n0_ := Aside0.mk (Kd.R_below (by (with_reducible repeat (first | apply Kd.R_alloc | apply Kd.R_drewN | apply Kd.R_drew)); exact HO_5.out) hb); have n1_ := Aside0.mk (below_step (by repeat (first | (with_reducible first | exact HB.out | apply below_alloc | apply pw_below_drewN | apply below_drew1) | exact HB.out)) hb); clear HO_5; clear HB; have HO_5 := n0_; have HB := n1_; clear n0_ n1_; (try clear hb); (try clear hb2); (try clear hk); (try clear hi))))
                    go_ret
                    exact ⟨by first | rfl | (simp [errW_none, errW_some] <;> rfl) | (simp [*, errW_none, errW_some] <;> rfl), by repeat (first | (with_reducible first | exact HB.out | apply below_alloc | apply pw_below_drewN | apply below_drew1) | exact HB.out)⟩
    · rw [if_neg c5] at H
      have c5b0 : (t260 == 0) = false := beq_eq_false_iff_ne.mpr c5
      have c5b1 : (t260 != 0) = true := bne_iff_ne.mpr c5
      obtain rfl := Option.some.inj H
      go_enter Try.func6, Try.ntmps6
      go_wp2_with (first | (go_at_call 14; (with_reducible refine (kilnlaw11_Told.calls k  true _ A2.out).mono ?_); rintro e w39 ⟨rfl, hb⟩; have n0_ := Aside0.mk (below_step (by repeat (first | (with_reducible first | exact HB.out | apply below_alloc | apply pw_below_drewN | apply below_drew1) | exact HB.out)) hb); clear HB; have HB := n0_; clear n0_; (try clear hb); (try clear hb2); (try clear hk); (try clear hi)) | (go_at_call 21; (with_reducible refine (token_Print.calls k _ _ l0 t259 t260 _ ?side1 ?side2 A4.out).mono ?_); (case side1 => repeat (first | exact (Kd.C_below HR0.out HB.out) | (with_reducible refine Kd.C_alloc ?_ _) | (with_reducible refine Kd.C_drewN ?_ _) | (with_reducible refine Kd.C_drew ?_))); (case side2 => exact HC0.out); rintro e w40 ⟨rfl, hb⟩; have n0_ := Aside0.mk (below_step (by repeat (first | (with_reducible first | exact HB.out | apply below_alloc | apply pw_below_drewN | apply below_drew1) | exact HB.out)) hb); clear HB; have HB := n0_; clear n0_; (try clear hb); (try clear hb2); (try clear hk); (try clear hi)))
      repeat (go_quiet (first | (go_at_call 14; (with_reducible refine (kilnlaw11_Told.calls k  true _ A2.out).mono ?_); rintro e w39 ⟨rfl, hb⟩; have n0_ := Aside0.mk (below_step (by repeat (first | (with_reducible first | exact HB.out | apply below_alloc | apply pw_below_drewN | apply below_drew1) | exact HB.out)) hb); clear HB; have HB := n0_; clear n0_; (try clear hb); (try clear hb2); (try clear hk); (try clear hi)) | (go_at_call 21; (with_reducible refine (token_Print.calls k _ _ l0 t259 t260 _ ?side1 ?side2 A4.out).mono ?_); (case side1 => repeat (first | exact (Kd.C_below HR0.out HB.out) | (with_reducible refine Kd.C_alloc ?_ _) | (with_reducible refine Kd.C_drewN ?_ _) | (with_reducible refine Kd.C_drew ?_))); (case side2 => exact HC0.out); rintro e w40 ⟨rfl, hb⟩; have n0_ := Aside0.mk (below_step (by repeat (first | (with_reducible first | exact HB.out | apply below_alloc | apply pw_below_drewN | apply below_drew1) | exact HB.out)) hb); clear HB; have HB := n0_; clear n0_; (try clear hb); (try clear hb2); (try clear hk); (try clear hi))); try go_wp2_with (first | (go_at_call 14; (with_reducible refine (kilnlaw11_Told.calls k  true _ A2.out).mono ?_); rintro e w39 ⟨rfl, hb⟩; have n0_ := Aside0.mk (below_step (by repeat (first | (with_reducible first | exact HB.out | apply below_alloc | apply pw_below_drewN | apply below_drew1) | exact HB.out)) hb); clear HB; have HB := n0_; clear n0_; (try clear hb); (try clear hb2); (try clear hk); (try clear hi)) | (go_at_call 21; (with_reducible refine (token_Print.calls k _ _ l0 t259 t260 _ ?side1 ?side2 A4.out).mono ?_); (case side1 => repeat (first | exact (Kd.C_below HR0.out HB.out) | (with_reducible refine Kd.C_alloc ?_ _) | (with_reducible refine Kd.C_drewN ?_ _) | (with_reducible refine Kd.C_drew ?_))); (case side2 => exact HC0.out); rintro e w40 ⟨rfl, hb⟩; have n0_ := Aside0.mk (below_step (by repeat (first | (with_reducible first | exact HB.out | apply below_alloc | apply pw_below_drewN | apply below_drew1) | exact HB.out)) hb); clear HB; have HB := n0_; clear n0_; (try clear hb); (try clear hb2); (try clear hk); (try clear hi))))
      go_ret
      exact ⟨by first | rfl | (simp [errW_none, errW_some] <;> rfl) | (simp [*, errW_none, errW_some] <;> rfl), by repeat (first | (with_reducible first | exact HB.out | apply below_alloc | apply pw_below_drewN | apply below_drew1) | exact HB.out)⟩
  · replace c3 := Bool.eq_false_iff.mpr c3
    subst c3
    have H1 : (some false) = some r := by rw [if_neg (show ¬ (false = true) by decide)] at H; exact H
    clear H
    have H := H1
    clear H1
    obtain rfl := Option.some.inj H
    go_enter Try.func6, Try.ntmps6
    go_wp2_with (first | (go_at_call 14; (with_reducible refine (kilnlaw11_Told.calls k  false _ A2.out).mono ?_); rintro e w41 ⟨rfl, hb⟩; have n0_ := Aside0.mk (below_step (by repeat (first | (with_reducible first | exact HB.out | apply below_alloc | apply pw_below_drewN | apply below_drew1) | exact HB.out)) hb); clear HB; have HB := n0_; clear n0_; (try clear hb); (try clear hb2); (try clear hk); (try clear hi)))
    repeat (go_quiet (first | (go_at_call 14; (with_reducible refine (kilnlaw11_Told.calls k  false _ A2.out).mono ?_); rintro e w41 ⟨rfl, hb⟩; have n0_ := Aside0.mk (below_step (by repeat (first | (with_reducible first | exact HB.out | apply below_alloc | apply pw_below_drewN | apply below_drew1) | exact HB.out)) hb); clear HB; have HB := n0_; clear n0_; (try clear hb); (try clear hb2); (try clear hk); (try clear hi))); try go_wp2_with (first | (go_at_call 14; (with_reducible refine (kilnlaw11_Told.calls k  false _ A2.out).mono ?_); rintro e w41 ⟨rfl, hb⟩; have n0_ := Aside0.mk (below_step (by repeat (first | (with_reducible first | exact HB.out | apply below_alloc | apply pw_below_drewN | apply below_drew1) | exact HB.out)) hb); clear HB; have HB := n0_; clear n0_; (try clear hb); (try clear hb2); (try clear hk); (try clear hi))))
    go_ret
    exact ⟨by first | rfl | (simp [errW_none, errW_some] <;> rfl) | (simp [*, errW_none, errW_some] <;> rfl), by repeat (first | (with_reducible first | exact HB.out | apply below_alloc | apply pw_below_drewN | apply below_drew1) | exact HB.out)⟩

/-- the list that the law looks at -/
def kilnlaw11_TokenBack.g (k : Nat) (l0 : List S27) : Option Bool := if l0.length ≤ 3000 then kilnlaw11_TokenBack.f k l0 else kilnlaw11_TokenBack.f k (l0.take 3000)
theorem kilnlaw11_TokenBack.calls (k : Nat) (A0 : Option Addr) (c0 : Nat) (l0 : List (S27)) (r : Bool) (w : World) (hr0 : Kd.C k27 w A0 l0.length l0) (hc0 : l0.length ≤ c0) (h : kilnlaw11_TokenBack.g k l0 = some r) :
    Calls Try.prog 6 #[.slice A0 l0.length c0] w fun e w' => e = .returned (.bool r) ∧ Below w.heap.size w w' := by
  unfold kilnlaw11_TokenBack.g at h
  by_cases hs : l0.length ≤ 3000
  · rw [if_pos hs] at h
    exact kilnlaw11_TokenBack.calls_short k A0 c0 l0 r w hr0 hc0 hs h
  · rw [if_neg hs] at h
    have hl : (l0.take 3000).length = 3000 := by rw [List.length_take]; omega
    have hT := Kd.C_take (m := 3000) hr0 (by omega)
    exact kilnlaw11_TokenBack.calls_long k A0 c0 l0.length (l0.take 3000) r w hT (by omega) (by omega) hl h
end Go.Proofs.Ytnmmapjcphefpaa.G

-- TokenBack: what the law's own function tells is true for every list of tokens that is none too great.
namespace Go.Proofs.Ytnmmapjcphefpaa.G
open Go.RowKit Go.Proofs.YtnmmapjcphefpaaW.PrintWords Go.Proofs.YtnmmapjcphefpaaW.PrintLast Go.Proofs.YtnmmapjcphefpaaW.PrintMore
set_option linter.unusedVariables false
set_option linter.unusedSimpArgs false

/-- a token that was read: of it the same is printed -/
theorem shown_txt (t : S27) (ln c : Int) : shownB ⟨t.f0, txt t, ln, c⟩ = shownB t := by
  unfold shownB txt
  by_cases e1 : t.f0 = 1
  · simp [e1]
  by_cases e2 : t.f0 = 2
  · simp [e1, e2]
  · simp [e1, e2]
theorem ok_txt (t : S27) (ln c : Int) (h : okT t = true) : okT ⟨t.f0, txt t, ln, c⟩ = true := by
  obtain ⟨k1, k7, kw⟩ := okT_kind t h
  unfold okT txt
  by_cases e1 : t.f0 = 1
  · simp [e1, kw e1]
  · simp [e1, k1, k7]
theorem rl_head (ln col : Int) (p : Option Int) (t : S27) (l : List S27) : ∃ c col' q, rl ln col p (t :: l) = ⟨t.f0, txt t, ln, c⟩ :: rl (if t.f0 = 7 then ln + 1 else ln) col' q l := by
  by_cases h7 : t.f0 = 7
  · refine ⟨col, 0, some 7, ?_⟩
    have htx : txt t = ⟨#[]⟩ := by unfold txt; rw [if_neg (by omega), if_neg (by omega)]
    simp only [rl, h7, if_true, htx, endT]
  · exact ⟨col + (sep p t.f0).length, col + (sep p t.f0).length + (shownB t).length, some t.f0, by simp only [rl, if_neg h7]⟩
theorem rl_length : ∀ (l : List S27) (ln col : Int) (p : Option Int), (rl ln col p l).length = l.length := by
  intro l
  induction l with
  | nil => intro _ _ _; rfl
  | cons t l ih =>
    intro ln col p
    obtain ⟨c, col', q, h⟩ := rl_head ln col p t l
    rw [h, List.length_cons, List.length_cons, ih]
theorem rl_body : ∀ (l : List S27) (ln col : Int) (p q : Option Int), body q (rl ln col p l) = body q l := by
  intro l
  induction l with
  | nil => intro _ _ _ _; rfl
  | cons t l ih =>
    intro ln col p q
    obtain ⟨c, col', q', h⟩ := rl_head ln col p t l
    rw [h, body, body, ih, shown_txt]
theorem rl_ok : ∀ (l : List S27) (ln col : Int) (p : Option Int), l.all okT = true → (rl ln col p l).all okT = true := by
  intro l
  induction l with
  | nil => intro _ _ _ _; rfl
  | cons t l ih =>
    intro ln col p h
    rw [List.all_cons, Bool.and_eq_true] at h
    obtain ⟨c, col', q', e⟩ := rl_head ln col p t l
    rw [e, List.all_cons, ok_txt t _ _ h.1, ih _ _ _ h.2]; rfl
theorem rl_last : ∀ (l : List S27) (ln col : Int) (p : Option Int), lastB (rl ln col p l) = lastB l := by
  intro l
  induction l with
  | nil => intro _ _ _; rfl
  | cons t l ih =>
    intro ln col p
    obtain ⟨c, col', q', e⟩ := rl_head ln col p t l
    rw [e]
    cases l with
    | nil => rfl
    | cons u l =>
      have := ih (if t.f0 = 7 then ln + 1 else ln) col' q'
      obtain ⟨c2, col2, q2, e2⟩ := rl_head (if t.f0 = 7 then ln + 1 else ln) col' q' u l
      rw [e2] at this ⊢
      exact this
theorem rl_print (l : List S27) (ln col : Int) (p : Option Int) (h1 : l.all okT = true) (h2 : lastB l = true) : printT (rl ln col p l) = printT l := by
  unfold printT
  rw [if_pos (rl_ok l ln col p h1), if_pos (by rw [rl_last]; exact h2), if_pos h1, if_pos h2, rl_body]
theorem rl_small (l : List S27) (n : Nat) : ∀ (ln col : Int) (p : Option Int), (∀ t ∈ l, t.f1.size ≤ n) → ∀ t ∈ rl ln col p l, t.f1.size ≤ n := by
  induction l with
  | nil => intro _ _ _ _ t ht; cases ht
  | cons u l ih =>
    intro ln col p h t ht
    obtain ⟨c, col', q', e⟩ := rl_head ln col p u l
    rw [e] at ht
    rcases List.mem_cons.1 ht with rfl | ht
    · show (txt u).size ≤ n
      unfold txt
      have := h u (by simp)
      split
      · exact this
      · split
        · exact this
        · exact Nat.zero_le _
    · exact ih _ _ _ (fun t ht => h t (List.mem_cons_of_mem _ ht)) t ht
/-- the loop: each token that was read is the one that was printed -/
theorem tback_ev (l : List S27) (h0 : l.length ≤ 3000) (s : ByteArray) (m : List S27) (hp : Ev (fun k => token_Print.f k m) (s, 0)) : ∀ (n : Nat) (i ln col : Int) (p : Option Int), n = (l.length - i).toNat → 0 ≤ i → i ≤ l.length → m.length = l.length → m.drop i.toNat = rl ln col p (l.drop i.toNat) → 0 ≤ ln → ln ≤ 1 + i →
    Ev (fun k => kilnlaw11_TokenBack.l0 k l s m ln i) true := by
  intro n
  induction n with
  | zero =>
    intro i ln col p hn hi hil hml hd hl0 hl1
    refine Ev.step (f := fun k => (token_Print.f k m).bind fun bt267 => (if bt267.2 = 0 then (some (bt267.1.toList == s.toList)) else (some false))) (fun k => ?_) ?_
    · conv => lhs; unfold kilnlaw11_TokenBack.l0
      rw [if_neg (by omega)]
    · refine Ev.bind (f := fun _ (bt267 : ByteArray × Int) => (if bt267.2 = 0 then (some (bt267.1.toList == s.toList)) else (some false))) hp ?_
      refine Ev.congr (f := fun _ => some true) (fun k => ?_) (Ev.now _)
      rw [if_pos rfl, beq_self_eq_true]
  | succ n ih =>
    intro i ln col p hn hi hil hml hd hl0 hl1
    have hx : i < (l.length : Int) := by omega
    obtain ⟨d1, _⟩ := rd_drop l i hi hx
    obtain ⟨d2, _⟩ := rd_drop m i hi (by omega)
    rw [d1, d2] at hd
    obtain ⟨c, col', q, e⟩ := rl_head ln col p (rd_T27 l i) (l.drop (i + 1).toNat)
    rw [e] at hd
    obtain ⟨hm, hrest⟩ := List.cons.inj hd
    generalize ht : rd_T27 l i = t at *
    -- behind the kinds
    have hj4 : Ev (fun k => kilnlaw11_TokenBack.j4 k l s m ln i false) true := by
      by_cases e7 : t.f0 = 7
      · rw [if_pos e7] at hrest
        refine Ev.step (f := fun k => kilnlaw11_TokenBack.l0 k l s m (ln + 1) (i + 1)) (fun k => ?_) (ih (i + 1) (ln + 1) col' q (by omega) (by omega) (by omega) hml hrest (by omega) (by omega))
        conv => lhs; unfold kilnlaw11_TokenBack.j4
        rw [if_neg (by decide), if_pos hi, if_pos hx, ht, if_pos e7, IntWalk.wrap64_in _ (by omega), IntWalk.wrap64_in _ (by omega)]
      · rw [if_neg e7] at hrest
        refine Ev.step (f := fun k => kilnlaw11_TokenBack.l0 k l s m ln (i + 1)) (fun k => ?_) (ih (i + 1) ln col' q (by omega) (by omega) (by omega) hml hrest (by omega) (by omega))
        conv => lhs; unfold kilnlaw11_TokenBack.j4
        rw [if_neg (by decide), if_pos hi, if_pos hx, ht, if_neg e7, IntWalk.wrap64_in _ (by omega)]
    have hj3 : Ev (fun k => kilnlaw11_TokenBack.j3 k l s m ln i (txt t)) true := by
      refine Ev.step (f := fun k => kilnlaw11_TokenBack.j4 k l s m ln i false) (fun k => ?_) hj4
      conv => lhs; unfold kilnlaw11_TokenBack.j3
      rw [if_pos hi, if_pos (by omega), if_pos hx, ht, hm]
      rw [if_pos rfl, if_pos rfl]
      simp
    have hj2 : ∀ b : Bool, (b = true → txt t = ⟨#[]⟩) → (b = false → txt t = t.f1) → Ev (fun k => kilnlaw11_TokenBack.j2 k l s m ln i t.f1 b) true := by
      intro b hb1 hb2
      refine Ev.step (f := fun k => kilnlaw11_TokenBack.j3 k l s m ln i (txt t)) (fun k => ?_) hj3
      conv => lhs; unfold kilnlaw11_TokenBack.j2
      cases b with
      | true => rw [if_pos rfl, hb1 rfl]
      | false => rw [if_neg (by decide), hb2 rfl]
    by_cases e1 : t.f0 = 1
    · refine Ev.step (f := fun k => kilnlaw11_TokenBack.j2 k l s m ln i t.f1 false) (fun k => ?_) (hj2 false (fun h => by cases h) (fun _ => by unfold txt; rw [if_pos e1]))
      conv => lhs; unfold kilnlaw11_TokenBack.l0
      rw [if_pos hx, if_pos hi, ht, if_pos e1]
    · refine Ev.step (f := fun k => kilnlaw11_TokenBack.j2 k l s m ln i t.f1 (t.f0 != 2)) (fun k => ?_) (hj2 _ (fun h => by unfold txt; rw [if_neg e1, if_neg (by simpa using h)]) (fun h => by unfold txt; rw [if_neg e1, if_pos (by simpa using h)]))
      conv => lhs; unfold kilnlaw11_TokenBack.l0
      rw [if_pos hx, if_pos hi, ht, if_neg e1]
theorem Back_ev (l : List S27) (h0 : l.length ≤ 3000) (hs : ∀ t ∈ l, t.f1.size ≤ 2000000) : Ev (fun k => kilnlaw11_TokenBack.f k l) true := by
  unfold kilnlaw11_TokenBack.f
  refine Ev.bind Told_ev ?_
  refine Ev.congr (fun k => if_pos rfl) ?_
  refine Ev.bind (Print_ev l (by omega) (fun t ht => by have := hs t ht; omega)) ?_
  have hbad : ∀ p : ByteArray × Int, p.2 ≠ 0 → p.1 = ⟨#[]⟩ → Ev (fun k => if p.2 = 0 then ((token_Tokens.f k p.1).bind fun bt261 => (if bt261.2.1 = 0 then (kilnlaw11_TokenBack.j0 k l p.1 bt261.1 ((bt261.1.length : Int) != (l.length : Int))) else (kilnlaw11_TokenBack.j0 k l p.1 bt261.1 true))) else (some (p.1.toList == ([] : List UInt8)))) true := by
    intro p h1 h2
    refine Ev.congr (f := fun _ => some true) (fun k => ?_) (Ev.now _)
    rw [if_neg h1, h2, toList_data]; rfl
  by_cases h1 : l.all okT = true
  case neg =>
    have e : printT l = (⟨#[]⟩, 1) := by unfold printT; rw [if_neg h1]
    rw [e]
    exact hbad (⟨#[]⟩, 1) (by decide) rfl
  by_cases h2 : lastB l = true
  case neg =>
    have e : printT l = (⟨#[]⟩, 1) := by unfold printT; rw [if_pos h1, if_neg h2]
    rw [e]
    exact hbad (⟨#[]⟩, 1) (by decide) rfl
  by_cases hb : 65536 < (body none l).length
  · have e : printT l = (⟨#[]⟩, 2) := by unfold printT outL; rw [if_pos h1, if_pos h2, if_pos hb]
    rw [e]
    exact hbad (⟨#[]⟩, 2) (by decide) rfl
  have e : printT l = (mk (body none l), 0) := by unfold printT outL; rw [if_pos h1, if_pos h2, if_neg hb]
  have hpr : Ev (fun k => token_Print.f k (rl 1 0 none l)) (mk (body none l), 0) := by
    have := Print_ev (rl 1 0 none l) (by rw [rl_length]; omega) (fun t ht => by have := rl_small l 2000000 1 0 none hs t ht; omega)
    rw [rl_print l 1 0 none h1 h2, e] at this
    exact this
  rw [e]
  refine Ev.congr (fun k => if_pos rfl) ?_
  refine Ev.bind (Tokens_ev _) ?_
  have e2 : lexT (bs (mk (body none l))) = (rl 1 0 none l, 0, 0, 0) := by
    rw [bs_mk]
    unfold lexT
    rw [if_neg (by omega)]
    exact lex_body l h1 h2
  rw [e2]
  refine Ev.congr (fun k => if_pos rfl) ?_
  have hne : (((rl 1 0 none l).length : Int) != (l.length : Int)) = false := by rw [rl_length]; simp
  rw [hne]
  refine Ev.step (f := fun k => kilnlaw11_TokenBack.l0 k l (mk (body none l)) (rl 1 0 none l) 1 0) (fun k => ?_) (tback_ev l h0 _ _ hpr l.length 0 1 0 none (by omega) (Int.le_refl _) (by omega) (rl_length ..) rfl (by decide) (by decide))
  show kilnlaw11_TokenBack.j0 (k + 1) l (mk (body none l)) (rl 1 0 none l) false = _
  rw [kilnlaw11_TokenBack.j0, if_neg (by decide)]
theorem TokenBack_ev (l : List S27) (hs : ∀ t ∈ l, t.f1.size ≤ 2000000) : Ev (fun k => kilnlaw11_TokenBack.g k l) true := by
  unfold kilnlaw11_TokenBack.g
  by_cases h : l.length ≤ 3000
  · exact Ev.congr (fun k => if_pos h) (Back_ev l h hs)
  · exact Ev.congr (fun k => if_neg h) (Back_ev (l.take 3000) (by rw [List.length_take]; omega) (fun t ht => hs t (List.mem_of_mem_take ht)))
end Go.Proofs.Ytnmmapjcphefpaa.G

/- Tokens that Print takes are read from its text, and what was read is printed as that text again: law TokenBack returns true. For all arguments that can be read and are together of bulk at most 1048576. -/
set_option linter.unusedVariables false
set_option linter.unusedSimpArgs false
namespace Go.Proofs.Ytnmmapjcphefpaa.tokenBack
open Go.ChangeShapes Go.WideShapes Go.ChangeAt Go.RowKit

theorem own : ownKnob Try.prog.godebug = none := by kernel_rfl
theorem contract (H : Type) (enc : TypeId × Value → H) (W : World) (base : Nat) (args : Array Value) (ds gs : List (DataW H)) (before : List MemPlace)
    (hval : ∀ (j : Nat) t v, Try.f6.params[j]? = some t → args[j]? = some v → Value.okWide Try.prog W .any base t v)
    (hW : DataW.Whole enc Try.prog Try.f6.params.toList Rows.tokenBackSpec.vars false W args.toList ds gs before) (hk : Rows.uptoSmall H (ds ++ gs) = true) :
    Calls Try.prog 6 args W fun e W' => ∃ v, e = .returned v ∧ Rows.tokenBackSpec.post enc Try.prog Try.f6 false true false false W args v W' := by
  have hW' := hW
  obtain ⟨p, q, hA0, hV, rfl, hfz, hnd⟩ := hW
  have hA : DataW.TrodAll enc Try.prog W 0 (fun _ => true) true Try.f6.params.toList args.toList ds p := hA0
  rw [Try.params6] at hA hval
  obtain ⟨v0, vs0, d0, ds0, p0, q0, hargs, rfl, rfl, h0, r0⟩ := trodAll_cons hA
  obtain ⟨rfl, rfl, rfl⟩ := trodAll_nil r0
  obtain rfl : args = #[v0] := by cases args; simp_all
  obtain ⟨rfl, rfl⟩ := trodVars_none hV
  have hb : Rows.uptoBulkAll ([d0] ++ ([] : List (DataW H))) ≤ 1048576 := of_decide_eq_true hk
  simp only [List.append_nil, Rows.uptoBulkAll] at hb
  obtain ⟨a0, l0, c0, rfl, o0, _, e0, b0, s0⟩ := G.open_toks (hval 0 25 v0 rfl rfl) h0
  clear hA0
  obtain ⟨k, hk'⟩ := Go.Proofs.YtnmmapjcphefpaaW.PrintWords.Ev.rounds (G.TokenBack_ev l0 (fun t ht => by have := s0 t ht; omega))
  refine (G.kilnlaw11_TokenBack.calls k a0 c0 l0 true W e0 o0 hk').mono fun e W' ⟨he, hg⟩ => ?_
  subst he
  exact ⟨_, rfl, law_post G.laidOut Try.underlying4 (by kernel_rfl) (fun t ht => by rw [Try.params6] at ht; simp at ht; rcases ht with rfl <;> exact ⟨by kernel_rfl, of_decide_eq_true (by kernel_rfl)⟩) rfl rfl hW' hg⟩

set_option maxRecDepth 100000 in
theorem lifted (os : Os) (started : os.Started) (H : Type) (enc : TypeId × Value → H) (F : Stop.Interp) :
    ReturnsInHanded {} Try.checked os 6 .any ((Rows.OpenSpec.upto Rows.tokenBackSpec).pre6 enc Try.prog Try.f6 Rows.tokenBackUptoRow.domain false) (((Rows.OpenSpec.upto Rows.tokenBackSpec).at F).post enc Try.prog Try.f6 false true false false) := by
  refine returnsInHanded_of_cond (C := Try.checked) (s := Rows.OpenSpec.upto Rows.tokenBackSpec) (k := Rows.uptoSmall) rfl own started (by kernel_rfl) Try.func6
    (OpenSpec.witness (enc := enc) (C := Try.checked) (s := Rows.OpenSpec.upto Rows.tokenBackSpec) (k := Rows.uptoSmall) rfl false ⟨#[], #[.slice none 0 0], []⟩ 8 (by kernel_rfl) (by kernel_rfl) (by kernel_rfl)
      (x := ([.nil], [], [])) (by kernel_rfl) rfl (by kernel_rfl)) ?_
  intro W base args ds gs before hval hW _ hk _
  exact contract H enc W base args ds gs before hval hW hk

theorem said : Rows.TokenBackUptoSaid :=
  OpenClaim.holds_of_cond 6 Try.f6 rfl rfl rfl rfl rfl rfl rfl ⟨rfl, rfl, rfl, rfl, rfl⟩ rfl rfl rfl rfl rfl (by kernel_rfl) Try.func6 (by kernel_rfl)
    (of_decide_eq_true (by kernel_rfl)) (by unfold Func.isWrapper; first | (rw [if_pos (by decide +kernel)]; kernel_rfl) | (rw [if_neg (by decide +kernel)]; exact ⟨rfl, rfl⟩))
    (fun os started H enc _ F => lifted os started H enc F)
end Go.Proofs.Ytnmmapjcphefpaa.tokenBack
namespace Go.Proofs.Ytnmmapjcphefpaa
/-- The row, under a short name, for the claim. -/
theorem tokenBack_holds : Rows.TokenBackUptoSaid := tokenBack.said
end Go.Proofs.Ytnmmapjcphefpaa
