/- Tokens laid behind one another with blanks between are told each at its place: law TokenParts returns true. For all arguments that can be read and are together of bulk at most 1048576. -/
import Derived.Test.YtnmmapjcphefpaaKit
import Derived.ProofKit
import Derived.OpenShut
import Derived.Carry
import Derived.Deep.Slices
import Derived.Test.YtnmmapjcphefpaaRows
import Derived.Test.YtnmmapjcphefpaaGx0
import Derived.Lib.SmallJoins
import Derived.WideShapes
import Derived.Test.YtnmmapjcphefpaaPlNorm
import Derived.Test.YtnmmapjcphefpaaGx15
import Derived.JoinedCond
/- General words for a law's row: what the row asks behind the call, where nothing below the call's own blocks has turned; arguments that are slices of structs of whole numbers. -/
set_option linter.unusedVariables false
set_option linter.unusedSimpArgs false
namespace Go.Proofs.Ytnmmapjcphefpaa
open Go.ChangeShapes Go.WideShapes Go.ChangeAt Go.RowKit

section
variable {H : Type} {enc : TypeId × Value → H} {P : Program}
theorem trodAll_stay (hl : laidOutB P = true) {W W' : World} {sp : Nat → Bool} : ∀ (ts : List TypeId) (vs : List Value) (ds : List (DataW H)) (ps : List MemPlace), (∀ t ∈ ts, P.readableRec t = true ∧ t < P.types.size) →
    DataW.TrodAll enc P W 0 (fun _ => true) true ts vs ds ps → (∀ p ∈ ps, W.sameAt W' p) → (∀ p ∈ ps, sp p.block = true) → DataW.TrodAll enc P W' 0 sp true ts vs ds ps
  | [], [], [], ps, _, h, _, _ => h
  | t :: ts, v :: vs, d :: ds, ps, hr, h, hs, hp => by
    obtain ⟨p, q, h1, h2, rfl⟩ := h
    refine ⟨p, q, ?_, trodAll_stay hl ts vs ds q (fun x hx => hr x (List.mem_cons_of_mem _ hx)) h2 (fun x hx => hs x (List.mem_append_right _ hx)) (fun x hx => hp x (List.mem_append_right _ hx)), rfl⟩
    exact WideElems.Trod_stays hl (hr t (by simp)).1 (hr t (by simp)).2 h1 (fun x hx => hs x (List.mem_append_left _ hx)) (fun x hx => hp x (List.mem_append_left _ hx))
  | [], _ :: _, _, _, _, h, _, _ => h.elim
  | [], [], _ :: _, _, _, h, _, _ => h.elim
  | _ :: _, [], _, _, _, h, _, _ => h.elim
  | _ :: _, _ :: _, [], _, _, h, _, _ => h.elim

/-- a law with no variable among what it is asked of: the arguments read as they read, the answer is true, the old blocks are as they were -/
theorem law_post (hl : laidOutB P = true) {f : Func} {s : ChangeSpec} {W W' : World} {args : Array Value} {ds : List (DataW H)} {before : List MemPlace} {T : TypeId} (hT : P.underlying T = some .bool) (hres : f.resultTypes = #[T])
    (hr : ∀ t ∈ f.params.toList, P.readableRec t = true ∧ t < P.types.size)
    (hspec : s.fn H (ds ++ []) = { results := [.lit (.bool true)], args := ds }) (hvars : s.vars = [])
    (hW : DataW.Whole enc P f.params.toList s.vars false W args.toList ds [] before)
    (hb : Below W.heap.size W W') : s.post enc P f false true false false W args (.bool true) W' := by
  have old : ∀ p ∈ before, p.block < W.heap.size := fun p hp => hW.lt p hp
  have inOld : ∀ p ∈ before, (fun b => decide (b < W.heap.size)) p.block = true := fun p hp => by simpa using old p hp
  have R : ∀ (b : Nat) (sp : Nat → Bool) (hd : Bool), DataW.TrodAll enc P W' b sp hd f.resultTypes.toList ((Value.bool true).resultList f.resultTypes.size) (s.fn H (ds ++ [])).results [] := by
    intro b sp hd
    rw [hspec, hres]
    exact trodAll_cons_mk (shut_bool hT true) trodAll_mk0
  have A : ∀ sp : Nat → Bool, (∀ p ∈ before, sp p.block = true) → DataW.TrodAll enc P W' 0 sp true f.params.toList args.toList (s.fn H (ds ++ [])).args before := by
    intro sp hsp
    rw [hspec]
    obtain ⟨p, q, h1, h2, h3, _, _⟩ := hW
    rw [hvars] at h2
    obtain rfl : q = [] := h2
    rw [List.append_nil] at h3
    subst h3
    exact trodAll_stay hl _ _ _ _ hr h1 (fun x hx => hb.same (old x hx)) hsp
  have V : ∀ sp : Nat → Bool, DataW.TrodVars enc P W' sp s.vars (s.fn H (ds ++ [])).vars [] := by
    intro sp
    rw [hspec, hvars]
    rfl
  refine ⟨ds, [], before, [], before, [], hW, R _ _ _, A _ inOld, V _, World.keptBut_mono (fun p hp => ⟨hp, .inr (by simpa using hp)⟩) (hb.frame (· ∈ before)), fun _ => ⟨fun j t r ht hr => ?_, ?_⟩⟩
  · rw [hres] at ht hr
    match j, ht, hr with
    | 0, ht, hr =>
      simp at ht
      simp [Value.resultList] at hr
      subst ht
      subst hr
      exact okWide_bool_mk hT true
  · obtain ⟨_, _, _, _, _, hz, hn⟩ := hW
    refine ⟨_, _, ([] ++ before) ++ [], ⟨[] ++ before, [], trodAll_append (A _ (fun _ _ => rfl)) (R _ _ _), V _, rfl, ?_, ?_⟩, ?_⟩
    · intro b off hp
      have hin : MemPlace.cell b off ∈ before := by simpa using hp
      exact (hb.frozen (p := ⟨b, off, none⟩) (old _ hin)).trans (hz b off hin)
    · intro ha
      simpa using hn ha
    · intro p hp _
      simpa using hp

/-- a struct of n whole numbers: its cells -/
theorem open_numbers {w : World} {base : Nat} {sp : Nat → Bool} {held : Bool} {e : TypeId} {fs : Array Field} {fuel : Nat} {cs : List Value} {x : DataW H × List MemPlace} (he : P.underlying e = some (.struct fs)) (hC : P.cellsOf e = fs.size)
    (hf : ∀ (j : Nat) (f : Field), fs[j]? = some f → f.offset = j ∧ P.underlying f.type = some (.int .i64) ∧ P.cellsOf f.type = 1) (h : DataW.trod enc P w base sp held fuel e cs = some x) : ∀ j, j < fs.size → ∃ z, cs[j]? = some (.int .i64 z) := by
  intro j hj
  obtain ⟨xs, n, _, _, hlen, hxl, hat⟩ := DataW.trod_struct he h
  obtain ⟨ho, hu, hc⟩ := hf j fs[j] (Array.getElem?_eq_getElem hj)
  have h1 := hat j fs[j] (Array.getElem?_eq_getElem hj)
  rw [ho, hc, List.getElem?_eq_getElem (show j < xs.length by omega)] at h1
  obtain ⟨z, hz, _⟩ := DataW.trod_int hu h1
  refine ⟨z, ?_⟩
  have h2 : ((cs.drop j).take 1)[0]? = some (.int .i64 z) := by rw [hz]; rfl
  simpa [List.getElem?_take, List.getElem?_drop] using h2
/-- a slice of such structs that came in -/
theorem open_numberRows {w : World} {t e : TypeId} {fs : Array Field} {v : Value} {d : DataW H} {ps : List MemPlace} {r : Reach} {b0 : Nat} (ht : P.underlying t = some (.slice e)) (he : P.underlying e = some (.struct fs)) (hC : P.cellsOf e = fs.size)
    (hf : ∀ (j : Nat) (f : Field), fs[j]? = some f → f.offset = j ∧ P.underlying f.type = some (.int .i64) ∧ P.cellsOf f.type = 1)
    (hv : Value.okWide P w r b0 t v) (h : DataW.Trod enc P w 0 (fun _ => true) true t v d ps) :
    (v = .slice none 0 0) ∨ ∃ (a : Addr) (len cap : Nat), v = .slice (some a) len cap ∧ len ≤ cap ∧ cap ≤ maxLen ∧ ∀ i j, i < len → j < fs.size → ∃ z, w.cell? (a.add (i * fs.size + j)) = some (.int .i64 z) := by
  obtain ⟨fuel, hx⟩ := h
  rcases Go.Deep.open_slice ht hx with ⟨h1, _⟩ | ⟨a, len, cap, m, n, D, Pl, h1, _, h2, h3, h4, _, h6⟩
  · left
    obtain ⟨a, n, c, rfl⟩ := okWide_slice ht hv
    simpa [Value.cells] using h1
  · right
    obtain ⟨a', n', c', rfl⟩ := okWide_slice ht hv
    simp [Value.cells] at h1
    obtain ⟨rfl, rfl, rfl⟩ := h1
    refine ⟨a, _, _, rfl, h2, h3, fun i j hi hj => ?_⟩
    simp at h4
    obtain ⟨cs', hc, hr⟩ := h6 i (by omega)
    rw [hC] at hc
    obtain ⟨z, hz⟩ := open_numbers he hC hf hr j hj
    obtain ⟨_, _, hat⟩ := World.cells?_some hc
    have := hat j hj
    rw [hz] at this
    exact ⟨z, by rw [← Go.Deep.add_add]; exact this⟩
end
end Go.Proofs.Ytnmmapjcphefpaa

-- A slice of tokens that comes in, opened: its tokens, and how long their texts are.
namespace Go.Proofs.Ytnmmapjcphefpaa.G
open Go.ChangeShapes Go.WideShapes Go.ChangeAt Go.RowKit Go.Proofs.YtnmmapjcphefpaaW.PrintWords Go.Proofs.YtnmmapjcphefpaaW.PrintLast Go.Proofs.YtnmmapjcphefpaaW.PrintMore
set_option linter.unusedVariables false
set_option linter.unusedSimpArgs false
section
variable {H : Type} {enc : TypeId × Value → H}
theorem tcells3 : Try.prog.cellsOf 3 = 1 := by kernel_rfl
theorem tcells9 : Try.prog.cellsOf 9 = 1 := by kernel_rfl
theorem tcells27 : Try.prog.cellsOf 27 = 4 := by kernel_rfl
/-- one token's cells -/
theorem tok_cells {w : World} {n : Nat} {sp : Nat → Bool} {hd : Bool} {cs : List Value} {x : DataW H × List MemPlace} (h : DataW.trod enc Try.prog w 0 sp hd n 27 cs = some x) :
    ∃ t : S27, cs = [.int .i64 t.f0, .string t.f1, .int .i64 t.f2, .int .i64 t.f3] ∧ t.f1.size ≤ maxLen ∧ ∃ y0 y2 y3, x.1 = .agg [y0, .lit (.string t.f1.data.toList), y2, y3] := by
  obtain ⟨y0, y1, y2, y3, m, hx, hl, h0, h1, h2, h3⟩ := Go.Joins.trod_struct4 Try.underlying27 h
  rw [tcells27] at hl
  obtain ⟨c0, c1, c2, c3, rfl⟩ : ∃ c0 c1 c2 c3, cs = [c0, c1, c2, c3] := by
    match cs, hl with
    | [c0, c1, c2, c3], _ => exact ⟨c0, c1, c2, c3, rfl⟩
  simp only [tcells3, tcells9, List.drop_zero, List.drop_succ_cons, List.take_succ_cons, List.take_zero] at h0 h1 h2 h3
  obtain ⟨z0, hz0, _⟩ := DataW.trod_int Try.underlying3 h0
  obtain ⟨z1, hz1, hq1, hs1⟩ := DataW.trod_string Try.underlying9 h1
  obtain ⟨z2, hz2, _⟩ := DataW.trod_int Try.underlying3 h2
  obtain ⟨z3, hz3, _⟩ := DataW.trod_int Try.underlying3 h3
  simp only [List.cons.injEq, and_true] at hz0 hz1 hz2 hz3
  refine ⟨⟨z0, z1, z2, z3⟩, by rw [hz0, hz1, hz2, hz3], hs1, y0.1, y2.1, y3.1, ?_⟩
  rw [hx, hq1]
theorem bulk_mem {d : DataW H} : ∀ {l : List (DataW H)}, d ∈ l → Rows.uptoBulk d ≤ Rows.uptoBulkAll l := by
  intro l
  induction l with
  | nil => intro h; cases h
  | cons x l ih =>
    intro h
    rw [Rows.uptoBulkAll]
    rcases List.mem_cons.1 h with rfl | h
    · omega
    · have := ih h; omega
theorem bulk_pos (d : DataW H) : 1 ≤ Rows.uptoBulk d := by
  cases d with
  | lit l => cases l <;> simp [Rows.uptoBulk]
  | _ => simp [Rows.uptoBulk]
theorem bulk_len : ∀ (l : List (DataW H)), l.length ≤ Rows.uptoBulkAll l := by
  intro l
  induction l with
  | nil => simp [Rows.uptoBulkAll]
  | cons x l ih => rw [Rows.uptoBulkAll, List.length_cons]; have := bulk_pos x; omega
/-- the argument's tokens -/
theorem open_toks {W : World} {base : Nat} {r : Reach} {v : Value} {d : DataW H} {p : List MemPlace} (hv : Value.okWide Try.prog W r base 25 v) (h : DataW.Trod enc Try.prog W 0 (fun _ => true) true 25 v d p) :
    ∃ (ao : Option Addr) (l : List S27) (c : Nat), v = .slice ao l.length c ∧ l.length ≤ c ∧ c ≤ maxLen ∧ Kd.C k27 W ao l.length l ∧ l.length ≤ Rows.uptoBulk d ∧ ∀ t ∈ l, t.f1.size ≤ Rows.uptoBulk d := by
  obtain ⟨fuel, hx⟩ := h
  obtain ⟨a', n', c', rfl⟩ := okWide_slice Try.underlying25 hv
  rcases Go.Deep.open_slice Try.underlying25 hx with ⟨h1, _⟩ | ⟨a, len, cap, m, n, D, Pl, h1, _, h2, h3, h4, h5, h6⟩
  · simp [Value.cells] at h1
    obtain ⟨rfl, rfl, rfl⟩ := h1
    exact ⟨none, [], 0, rfl, Nat.le_refl _, Nat.zero_le _, ⟨rfl, Nat.zero_le _, fun h => absurd h (Nat.lt_irrefl _)⟩, Nat.zero_le _, fun t ht => by cases ht⟩
  · simp [Value.cells] at h1
    obtain ⟨rfl, rfl, rfl⟩ := h1
    simp only [if_true] at h4
    have hel : ∀ i, i < n' → ∃ t : S27, (∃ cs', W.cells? 0 (a.add (i * 4)) 4 = some cs' ∧ cs' = [.int .i64 t.f0, .string t.f1, .int .i64 t.f2, .int .i64 t.f3]) ∧ t.f1.size ≤ Rows.uptoBulk (D i) := by
      intro i hi
      obtain ⟨cs', hc, hr⟩ := h6 i (by omega)
      rw [tcells27] at hc
      obtain ⟨t, ht, _, y0, y2, y3, hy⟩ := tok_cells hr
      refine ⟨t, ⟨cs', hc, ht⟩, ?_⟩
      have hy' : D i = .agg [y0, .lit (.string t.f1.data.toList), y2, y3] := hy
      rw [hy', Rows.uptoBulk]
      have := bulk_mem (d := (DataW.lit (.string t.f1.data.toList) : DataW H)) (l := [y0, .lit (.string t.f1.data.toList), y2, y3]) (by simp)
      rw [Rows.uptoBulk] at this
      have hsz : t.f1.data.toList.length = t.f1.size := Array.length_toList
      omega
    have hpick : ∃ f : Nat → S27, ∀ i, i < n' → (∃ cs', W.cells? 0 (a.add (i * 4)) 4 = some cs' ∧ cs' = [.int .i64 (f i).f0, .string (f i).f1, .int .i64 (f i).f2, .int .i64 (f i).f3]) ∧ (f i).f1.size ≤ Rows.uptoBulk (D i) := by
      refine ⟨fun i => if hi : i < n' then Classical.choose (hel i hi) else z27, fun i hi => ?_⟩
      simp only [dif_pos hi]
      exact Classical.choose_spec (hel i hi)
    obtain ⟨f, hf⟩ := hpick
    have hlen : ((List.range n').map f).length = n' := by simp
    have hd : d = .slice ((List.range n').map D) ((List.range (m - n')).map fun j => D (n' + j)) := congrArg Prod.fst h5
    have hb : Rows.uptoBulkAll ((List.range n').map D) + 1 ≤ Rows.uptoBulk d := by rw [hd, Rows.uptoBulk]; omega
    refine ⟨some a, (List.range n').map f, c', by rw [hlen], by rw [hlen]; exact h2, h3, ?_, ?_, ?_⟩
    · rw [hlen]
      refine ⟨hlen, by unfold maxLen at h3; omega, fun _ => ⟨a, rfl, fun j t hj => ?_⟩⟩
      have hjl : j < n' := by
        have := (List.getElem?_eq_some_iff.1 hj).1
        rwa [hlen] at this
      have ht : t = f j := by
        rw [List.getElem?_map, List.getElem?_range hjl] at hj
        simpa using hj.symm
      obtain ⟨⟨cs', hc, hcs⟩, _⟩ := hf j hjl
      rw [← ht] at hcs
      subst hcs
      refine ⟨_, rfl, k27_mk W t, fun i u hu => ?_⟩
      obtain ⟨_, _, hat⟩ := World.cells?_some hc
      have hi : i < 4 := (List.getElem?_eq_some_iff.1 hu).1
      have := hat i hi
      rw [Go.Deep.add_add] at this
      rw [← hu]; exact this
    · rw [hlen]
      have := bulk_len ((List.range n').map D)
      simp only [List.length_map, List.length_range] at this
      omega
    · intro t ht
      obtain ⟨i, hi, rfl⟩ := List.mem_map.1 ht
      have hi' := List.mem_range.1 hi
      have h7 := (hf i hi').2
      have h8 := bulk_mem (d := D i) (l := (List.range n').map D) (List.mem_map.2 ⟨i, hi, rfl⟩)
      omega
end
end Go.Proofs.Ytnmmapjcphefpaa.G

-- A slice of whole numbers that comes in, opened; what a row asks of a law that answers true, with a bound.
namespace Go.Proofs.Ytnmmapjcphefpaa.G
open Go.ChangeShapes Go.WideShapes Go.ChangeAt Go.RowKit Go.Proofs.YtnmmapjcphefpaaW.PrintWords Go.Proofs.YtnmmapjcphefpaaW.PrintLast Go.Proofs.YtnmmapjcphefpaaW.PrintMore
set_option linter.unusedVariables false
set_option linter.unusedSimpArgs false
section
variable {H : Type} {enc : TypeId × Value → H}
theorem laidOut : laidOutB Try.prog = true := by kernel_rfl
theorem open_nums {W : World} {base : Nat} {r : Reach} {v : Value} {d : DataW H} {p : List MemPlace} (hv : Value.okWide Try.prog W r base 42 v) (h : DataW.Trod enc Try.prog W 0 (fun _ => true) true 42 v d p) :
    ∃ (ao : Option Addr) (l : List Int) (c : Nat), v = .slice ao l.length c ∧ l.length ≤ c ∧ c ≤ maxLen ∧ Kd.C (Kd.int .i64) W ao l.length l := by
  obtain ⟨fuel, hx⟩ := h
  rcases open_ints Try.underlying42 Try.underlying3 tcells3 hx with ⟨h1, _⟩ | ⟨a, len, cap, zs, h1, _, h2, h3, h4, _, h5, _⟩
  · obtain ⟨a, n, c, rfl⟩ := okWide_slice Try.underlying42 hv
    simp [Value.cells] at h1
    obtain ⟨rfl, rfl, rfl⟩ := h1
    exact ⟨none, [], 0, rfl, Nat.le_refl _, Nat.zero_le _, ⟨rfl, Nat.zero_le _, fun h => absurd h (Nat.lt_irrefl _)⟩⟩
  · obtain ⟨a', n', c', rfl⟩ := okWide_slice Try.underlying42 hv
    simp [Value.cells] at h1
    obtain ⟨rfl, rfl, rfl⟩ := h1
    simp only [if_true] at h4
    have hlen : (zs.take n').length = n' := by rw [List.length_take]; omega
    refine ⟨some a, zs.take n', c', by rw [hlen], by rw [hlen]; exact h2, h3, ?_⟩
    rw [hlen]
    refine ⟨hlen, by unfold maxLen at h3; omega, fun _ => ⟨a, rfl, fun j t hj => ?_⟩⟩
    have hjl : j < n' := by
      have := (List.getElem?_eq_some_iff.1 hj).1
      rwa [hlen] at this
    have hz : zs.getD j 0 = t := by
      rw [List.getElem?_take, if_pos hjl] at hj
      rw [List.getD_eq_getElem?_getD, hj]; rfl
    refine ⟨_, rfl, rfl, fun i u hu => ?_⟩
    have hi : i < 1 := (List.getElem?_eq_some_iff.1 hu).1
    obtain rfl : i = 0 := by omega
    have := h5 j (by omega)
    rw [hz] at this
    simp at hu
    subst hu
    show W.cell? (a.add (j * 1 + 0)) = _
    rw [show j * 1 + 0 = j by omega]
    exact this
end
end Go.Proofs.Ytnmmapjcphefpaa.G

-- TokenParts: what the law's own function tells is true for every list of tokens that is none too great, and all gaps.
namespace Go.Proofs.Ytnmmapjcphefpaa.G
open Go.RowKit Go.Proofs.YtnmmapjcphefpaaW.PrintWords Go.Proofs.YtnmmapjcphefpaaW.PrintLast Go.Proofs.YtnmmapjcphefpaaW.PrintMore
set_option linter.unusedVariables false
set_option linter.unusedSimpArgs false

/-- the tokens so far, and the text that holds them -/
def Far (S : By) (W : List S27) : Prop :=
  (W = [] ∧ S = []) ∨ (W ≠ [] ∧ ∀ c r, ((rd_T27 W ((W.length : Int) - 1)).f0 = 1 → letB c = false) → run st0 (S ++ c :: r) = run ⟨W, 1, S.length, S.length, .bl⟩ (c :: r))
theorem run_blanks : ∀ (n : Nat) (tk : List S27) (ln col beh : Int) (r : By), run ⟨tk, ln, col, beh, .bl⟩ (List.replicate n 32 ++ r) = run ⟨tk, ln, col + n, beh, .bl⟩ r := by
  intro n
  induction n with
  | zero => intro tk ln col beh r; simp
  | succ n ih =>
    intro tk ln col beh r
    rw [List.replicate_succ, List.cons_append, run_cons]
    have : step ⟨tk, ln, col, beh, .bl⟩ 32 = ⟨tk, ln, col + 1, beh, .bl⟩ := rfl
    rw [this, ih, show col + 1 + (n : Int) = col + ((n + 1 : Nat) : Int) by omega]
theorem rd_last (W : List S27) (t : S27) : rd_T27 (W ++ [t]) (((W ++ [t]).length : Int) - 1) = t := by
  unfold rd_T27
  rw [List.getD_eq_getElem?_getD, List.length_append, List.length_singleton, show (((W.length + 1 : Nat) : Int) - 1).toNat = W.length by omega, List.getElem?_append_right (Nat.le_refl _), Nat.sub_self]
  rfl
/-- one token, read from a blank -/
theorem run_shown (tk : List S27) (ln col beh : Int) (t : S27) (h : okT t = true) (h7 : t.f0 ≠ 7) (c : UInt8) (r : By) (hc : t.f0 = 1 → letB c = false) :
    run ⟨tk, ln, col, beh, .bl⟩ (shownB t ++ c :: r) = run ⟨tk ++ [⟨t.f0, txt t, ln, col⟩], ln, col + (shownB t).length, col + (shownB t).length, .bl⟩ (c :: r) := by
  obtain ⟨k1, k7, kw⟩ := okT_kind t h
  by_cases e1 : t.f0 = 1
  · have hsh : shownB t = bs t.f1 := by unfold shownB; rw [if_pos e1]
    have htx : txt t = t.f1 := by unfold txt; rw [if_pos e1]
    rw [hsh, htx, e1, word_read _ _ _ _ _ _ _ (kw e1) (hc e1), mk_bs]
  by_cases e2 : t.f0 = 2
  · have hsh : shownB t = quote (bs t.f1) := by unfold shownB; rw [if_neg e1, if_pos e2]
    have htx : txt t = t.f1 := by unfold txt; rw [if_neg e1, if_pos e2]
    rw [hsh, htx, e2, run_append, run_quote, mk_bs]
  have htx : txt t = ⟨#[]⟩ := by unfold txt; rw [if_neg e1, if_neg e2]
  rw [htx]
  by_cases e3 : t.f0 = 3
  · have hsh : shownB t = [61] := by unfold shownB; rw [e3]; rfl
    rw [hsh, e3]; rfl
  by_cases e4 : t.f0 = 4
  · have hsh : shownB t = [40] := by unfold shownB; rw [e4]; rfl
    rw [hsh, e4]; rfl
  by_cases e5 : t.f0 = 5
  · have hsh : shownB t = [41] := by unfold shownB; rw [e5]; rfl
    rw [hsh, e5]; rfl
  have e6 : t.f0 = 6 := by omega
  have hsh : shownB t = [44] := by unfold shownB; rw [e6]; rfl
  rw [hsh, e6]; rfl
theorem shown_head (t : S27) (h : okT t = true) (h7 : t.f0 ≠ 7) : ∃ d r, shownB t = d :: r ∧ (t.f0 ≠ 1 → letB d = false) := by
  obtain ⟨k1, k7, kw⟩ := okT_kind t h
  obtain ⟨s1, s2, s3, s4, _⟩ := sign_bytes
  by_cases e1 : t.f0 = 1
  · have hsh : shownB t = bs t.f1 := by unfold shownB; rw [if_pos e1]
    have hw := kw e1
    rw [hsh]
    rcases hb : bs t.f1 with _ | ⟨d, r⟩
    · rw [hb] at hw; exact absurd hw (by decide)
    · exact ⟨d, r, rfl, fun h => absurd e1 h⟩
  by_cases e2 : t.f0 = 2
  · have hsh : shownB t = quote (bs t.f1) := by unfold shownB; rw [if_neg e1, if_pos e2]
    rw [hsh]; exact ⟨34, _, rfl, fun _ => let34⟩
  by_cases e3 : t.f0 = 3
  · have hsh : shownB t = [61] := by unfold shownB; rw [e3]; rfl
    rw [hsh]; exact ⟨61, _, rfl, fun _ => s1⟩
  by_cases e4 : t.f0 = 4
  · have hsh : shownB t = [40] := by unfold shownB; rw [e4]; rfl
    rw [hsh]; exact ⟨40, _, rfl, fun _ => s2⟩
  by_cases e5 : t.f0 = 5
  · have hsh : shownB t = [41] := by unfold shownB; rw [e5]; rfl
    rw [hsh]; exact ⟨41, _, rfl, fun _ => s3⟩
  have e6 : t.f0 = 6 := by omega
  have hsh : shownB t = [44] := by unfold shownB; rw [e6]; rfl
  rw [hsh]; exact ⟨44, _, rfl, fun _ => s4⟩
theorem far_push (S : By) (W : List S27) (hF : Far S W) (t : S27) (h : okT t = true) (h7 : t.f0 ≠ 7) (n : Nat) (hn : W ≠ [] → n = 0 → t.f0 = 1 → (rd_T27 W ((W.length : Int) - 1)).f0 ≠ 1) :
    Far (S ++ List.replicate n 32 ++ shownB t) (W ++ [⟨t.f0, txt t, 1, (S.length : Int) + n⟩]) := by
  refine .inr ⟨by simp, fun c r hc => ?_⟩
  rw [rd_last] at hc
  have hlen : ((S ++ List.replicate n 32 ++ shownB t).length : Int) = S.length + n + (shownB t).length := by
    simp only [List.length_append, List.length_replicate]; omega
  rw [hlen, show S ++ List.replicate n 32 ++ shownB t ++ c :: r = S ++ (List.replicate n 32 ++ (shownB t ++ c :: r)) by simp only [List.append_assoc]]
  rcases hF with ⟨rfl, rfl⟩ | ⟨hW, hF⟩
  · rw [List.nil_append]
    unfold st0
    rw [run_blanks, run_shown _ _ _ _ t h h7 c r hc]
    simp
  · have key : run st0 (S ++ (List.replicate n 32 ++ (shownB t ++ c :: r))) = run ⟨W, 1, S.length, S.length, .bl⟩ (List.replicate n 32 ++ (shownB t ++ c :: r)) := by
      cases n with
      | zero =>
        obtain ⟨d, r', hd, hlet⟩ := shown_head t h h7
        rw [List.replicate_zero, List.nil_append, hd, List.cons_append]
        exact hF d _ (fun hl => hlet (fun h1 => hn hW rfl h1 hl))
      | succ n =>
        rw [List.replicate_succ, List.cons_append]
        exact hF 32 _ (fun _ => let32)
    rw [key, run_blanks, run_shown _ _ _ _ t h h7 c r hc]
/-- the end: a blank, and a line's end -/
theorem far_end (S : By) (W : List S27) (hF : Far S W) (hS : S.length ≤ 60000) : lexT (S ++ [32, 10]) = (W ++ [endT 1 S.length], 0, 0, 0) := by
  unfold lexT
  rw [if_neg (by simp only [List.length_append, List.length_cons, List.length_nil]; omega)]
  unfold lex
  have hr : run st0 (S ++ [32, 10]) = ⟨W ++ [endT 1 S.length], 2, 0, 0, .bl⟩ := by
    rcases hF with ⟨rfl, rfl⟩ | ⟨hW, hF⟩
    · rfl
    · rw [hF 32 [10] (fun _ => let32)]; rfl
  rw [hr]; rfl
theorem and3 (a : Int) : 0 ≤ Go.bits .and .i64 a 3 ∧ Go.bits .and .i64 a 3 ≤ 3 := by
  have h2 : (BitVec.ofInt 64 (3 : Int)).toNat = 3 := by decide
  have e : Go.bits .and .i64 a 3 = IntKind.i64.wrap ((BitVec.ofInt 64 a &&& BitVec.ofInt 64 3).toNat : Int) := rfl
  rw [e, BitVec.toNat_and, h2]
  have : (BitVec.ofInt 64 a).toNat &&& 3 ≤ 3 := Nat.and_le_right
  have w : IntKind.i64.wrap (((BitVec.ofInt 64 a).toNat &&& 3 : Nat) : Int) = (((BitVec.ofInt 64 a).toNat &&& 3 : Nat) : Int) := by rw [IntKind.wrap_i64]; omega
  rw [w]; omega
theorem mk_app (a b : By) : mk a ++ mk b = mk (a ++ b) := by
  apply ByteArray.ext
  rw [ByteArray.data_append]
  exact Array.ext' (by simp [mk])
theorem cut_last (a : By) (h : a.length ≤ 1000000000) : (mk (a ++ [10])).extract 0 (wrap64 (((mk (a ++ [10])).size : Int) - 1)).toNat = mk a := by
  have e : wrap64 (((mk (a ++ [10])).size : Int) - 1) = a.length := by
    rw [mk_size, List.length_append, List.length_singleton, IntWalk.wrap64_in _ (by omega)]; omega
  rw [e]
  have := mk_sl (mk (a ++ [10])) 0 a.length
  rw [show (0 : Int).toNat = 0 from rfl, Int.toNat_natCast] at *
  rw [← this]
  unfold sl bs
  rw [ByteArray.data_extract, Array.toList_extract, List.extract_eq_take_drop]
  simp [mk]
theorem last_wrap (a : By) (h : a.length ≤ 1000000000) : wrap64 (((mk (a ++ [10])).size : Int) - 1) = a.length := by
  rw [mk_size, List.length_append, List.length_singleton, IntWalk.wrap64_in _ (by omega)]; omega
/-- behind the blanks -/
theorem parts_tail (x0 : List S27) (x1 : List Int) (S : By) (W : List S27) (i : Int) (t : S27) (n j : Int) (hj : n ≤ j) (hS : S.length ≤ 10000000) (hW : W.length ≤ 100) (hl : (shownB t).length ≤ 70000) (hi : 0 ≤ i ∧ i < 60) {r : Bool}
    (H : Ev (fun k => kilnlaw11_TokenParts.l0 k x0 x1 (mk (S ++ shownB t)) (W ++ [⟨t.f0, txt t, 1, (S.length : Int)⟩]) (i + 1)) r) :
    Ev (fun k => kilnlaw11_TokenParts.l1 k x0 x1 (mk S) W i (mk (shownB t ++ [10])) n j t.f0 t.f1 t.f2 t.f3) r := by
  refine Ev.step (f := fun k => kilnlaw11_TokenParts.l0 k x0 x1 (mk (S ++ shownB t)) (W ++ [⟨t.f0, txt t, 1, (S.length : Int)⟩]) (i + 1)) (fun k => ?_) H
  have hc := cut_last (shownB t) (by omega)
  have hw := last_wrap (shownB t) (by omega)
  have hsz : (mk (shownB t ++ [10])).size = (shownB t).length + 1 := by rw [mk_size, List.length_append, List.length_singleton]
  conv => lhs; unfold kilnlaw11_TokenParts.l1
  rw [if_neg (by omega)]
  simp only [hc]
  rw [hw, mk_app, IntWalk.wrap64_in (i + 1) (by omega)]
  have c1 : W.length < 3518437208883 := by omega
  have c2 : (0 : Int) ≤ ((shownB t).length : Int) := by omega
  have c3 : ((shownB t).length : Int) ≤ ((mk (shownB t ++ [10])).size : Int) := by rw [hsz]; omega
  have c4 : (mk S).size + (mk (shownB t)).size ≤ 9223372036854775807 := by rw [mk_size, mk_size]; omega
  have c5 : ((mk S).size : Int) = S.length := by rw [mk_size]
  rw [if_pos c1, if_pos c2, if_pos c3, if_pos c4, c5]
  unfold txt
  by_cases e1 : t.f0 = 1
  · rw [if_pos e1, if_pos e1]
  by_cases e2 : t.f0 = 2
  · rw [if_neg e1, if_pos e2, if_neg e1, if_pos e2]
  · rw [if_neg e1, if_neg e2, if_neg e1, if_neg e2, if_pos c1, if_pos c2, if_pos c3, if_pos c4]
theorem parts_l1 (x0 : List S27) (x1 : List Int) (W : List S27) (i : Int) (t : S27) (n : Int) (hn : n ≤ 3) (hW : W.length ≤ 100) (hl : (shownB t).length ≤ 70000) (hi : 0 ≤ i ∧ i < 60) {r : Bool} : ∀ (m : Nat) (S : By) (j : Int), m = (n - j).toNat → 0 ≤ j → S.length + m ≤ 10000000 →
    Ev (fun k => kilnlaw11_TokenParts.l0 k x0 x1 (mk (S ++ List.replicate m 32 ++ shownB t)) (W ++ [⟨t.f0, txt t, 1, (S.length : Int) + m⟩]) (i + 1)) r →
    Ev (fun k => kilnlaw11_TokenParts.l1 k x0 x1 (mk S) W i (mk (shownB t ++ [10])) n j t.f0 t.f1 t.f2 t.f3) r := by
  intro m
  induction m with
  | zero =>
    intro S j hm h0 hS H
    refine parts_tail x0 x1 S W i t n j (by omega) (by omega) hW hl hi ?_
    simpa using H
  | succ m ih =>
    intro S j hm h0 hS H
    refine Ev.step (f := fun k => kilnlaw11_TokenParts.l1 k x0 x1 (mk (S ++ [32])) W i (mk (shownB t ++ [10])) n (j + 1) t.f0 t.f1 t.f2 t.f3) (fun k => ?_) (ih (S ++ [32]) (j + 1) (by omega) (by omega) (by rw [List.length_append, List.length_singleton]; omega) ?_)
    · conv => lhs; unfold kilnlaw11_TokenParts.l1
      rw [if_pos (by omega), if_pos (by rw [mk_size]; omega), IntWalk.wrap64_in _ (by omega)]
      rw [show (⟨#[32]⟩ : ByteArray) = mk [32] from rfl, mk_app]
    · rw [List.replicate_succ] at H
      rw [List.length_append, List.length_singleton]
      have e1 : S ++ [32] ++ List.replicate m 32 ++ shownB t = S ++ 32 :: List.replicate m 32 ++ shownB t := by simp
      have e2 : ((S.length + 1 : Nat) : Int) + (m : Int) = (S.length : Int) + ((m + 1 : Nat) : Int) := by omega
      rw [e1, e2]
      exact H
theorem print_pair (t : S27) : (okT t = true → t.f0 ≠ 7 → printT [t, ⟨7, ⟨#[]⟩, 0, 0⟩] = outL (shownB t ++ [10])) ∧ (okT t ≠ true → (printT [t, ⟨7, ⟨#[]⟩, 0, 0⟩]).2 = 1) := by
  have hend : okT ⟨7, ⟨#[]⟩, 0, 0⟩ = true := rfl
  constructor
  · intro h h7
    unfold printT
    rw [List.all_cons, List.all_cons, h, hend, List.all_nil, if_pos (by decide), if_pos (show lastB [t, ⟨7, ⟨#[]⟩, 0, 0⟩] = true from rfl)]
    have hb : body none [t, ⟨7, ⟨#[]⟩, 0, 0⟩] = shownB t ++ [10] := by
      have hs : sep (some t.f0) 7 = [] := by unfold sep; simp [tightB]
      have hsh : shownB ⟨7, ⟨#[]⟩, 0, 0⟩ = [10] := rfl
      have hs0 : sep none t.f0 = [] := rfl
      simp only [body, hs0, hs, hsh, List.nil_append, List.append_nil]
    rw [hb]
  · intro h
    unfold printT
    have h := Bool.eq_false_iff.2 h
    rw [List.all_cons, h, Bool.false_and, if_neg (by decide)]
/-- the loop over the tokens, from any place on -/
theorem parts_ev (x0 : List S27) (x1 : List Int) (h0 : x0.length ≤ 10000000) (hs : ∀ t ∈ x0, t.f1.size ≤ 10000000) : ∀ (m : Nat) (i : Int) (S : By) (W : List S27), m = (60 - i).toNat → 0 ≤ i → i ≤ 60 → Far S W → S.length ≤ i * 70000 → W.length ≤ i →
    Ev (fun k => kilnlaw11_TokenParts.l0 k x0 x1 (mk S) W i) true := by
  have hend : ∀ (i : Int) (S : By) (W : List S27), 0 ≤ i → i ≤ 60 → Far S W → S.length ≤ i * 70000 → W.length ≤ i → Ev (fun k => kilnlaw11_TokenParts.j1 k x0 x1 (mk S) W i false) true := by
    intro i S W hi hi6 hF hS hW
    let f : Nat → Option Bool := fun k => (if W.length < 3518437208883 then ((some (W ++ [(⟨7, (⟨#[]⟩ : ByteArray), 1, ((mk S).size : Int)⟩ : S27)] : List (S27))).bind fun y372 => (if (mk S).size + 2 ≤ 9223372036854775807 then ((token_Tokens.f k ((mk S) ++ (⟨#[32, 10]⟩ : ByteArray))).bind fun bt375 => (if ((mk S).size : Int) > 60000 then (some true) else (if (y372.length : Int) = 1 then (if 0 < (y372.length : Int) then (if bt375.2.1 = 0 then ((kilnref11_Same.f k bt375.1 (y372.set (0 : Int).toNat (⟨(rd_T27 y372 0).f0, (rd_T27 y372 0).f1, (rd_T27 y372 0).f2, 0⟩ : S27))).bind fun t382 => (some t382)) else (some false)) else (none)) else (if bt375.2.1 = 0 then ((kilnref11_Same.f k bt375.1 y372).bind fun t383 => (some t383)) else (some false))))) else (none))) else (none))
    refine Ev.step (f := f) (fun k => ?_) ?_
    · conv => lhs; unfold kilnlaw11_TokenParts.j1
      rw [if_neg (by decide)]
    · show Ev f true
      refine Ev.congr (fun k => if_pos (by omega)) ?_
      refine Ev.bind (Ev.now _) ?_
      refine Ev.congr (fun k => if_pos (by rw [mk_size]; omega)) ?_
      have e : mk S ++ (⟨#[32, 10]⟩ : ByteArray) = mk (S ++ [32, 10]) := mk_app S [32, 10]
      rw [e, mk_size]
      refine Ev.bind (Tokens_ev _) ?_
      by_cases h6 : (S.length : Int) > 60000
      · exact Ev.congr (fun k => if_pos h6) (Ev.now _)
      refine Ev.congr (fun k => if_neg h6) ?_
      rw [bs_mk, far_end S W hF (by omega)]
      have hlW : ((W ++ [(⟨7, (⟨#[]⟩ : ByteArray), 1, (S.length : Int)⟩ : S27)]).length : Int) = W.length + 1 := by simp
      rw [hlW]
      by_cases h1 : (W.length : Int) + 1 = 1
      · have hWn : W = [] := List.eq_nil_of_length_eq_zero (by omega)
        have hSn : S = [] := by
          rcases hF with ⟨_, h⟩ | ⟨h, _⟩
          · exact h
          · exact absurd hWn h
        subst hWn hSn
        refine Ev.congr (fun k => if_pos h1) ?_
        refine Ev.congr (fun k => if_pos (by decide)) ?_
        refine Ev.congr (fun k => if_pos rfl) ?_
        exact Ev.bind (f := fun _ t => some t) (Same_ev [endT 1 0] (by decide)) (Ev.now _)
      · refine Ev.congr (fun k => if_neg h1) ?_
        refine Ev.congr (fun k => if_pos rfl) ?_
        exact Ev.bind (f := fun _ t => some t) (Same_ev (W ++ [endT 1 S.length]) (by rw [List.length_append, List.length_singleton]; omega)) (Ev.now _)
  intro m
  induction m with
  | zero =>
    intro i S W hm hi hi6 hF hS hW
    refine Ev.step (f := fun k => kilnlaw11_TokenParts.j1 k x0 x1 (mk S) W i false) (fun k => ?_) (hend i S W hi hi6 hF hS hW)
    conv => lhs; unfold kilnlaw11_TokenParts.l0
    have : decide (i < 60) = false := decide_eq_false (by omega)
    rw [this]
    exact ite_self _
  | succ m ih =>
    intro i S W hm hi hi6 hF hS hW
    by_cases hx : i < (x0.length : Int)
    case neg =>
      refine Ev.step (f := fun k => kilnlaw11_TokenParts.j1 k x0 x1 (mk S) W i false) (fun k => ?_) (hend i S W hi hi6 hF hS hW)
      conv => lhs; unfold kilnlaw11_TokenParts.l0
      rw [if_neg hx]
    refine Ev.step (f := fun k => kilnlaw11_TokenParts.j1 k x0 x1 (mk S) W i true) (fun k => ?_) ?_
    · conv => lhs; unfold kilnlaw11_TokenParts.l0
      have : decide (i < 60) = true := decide_eq_true (by omega)
      rw [if_pos hx, this]
    obtain ⟨_, hmem⟩ := rd_drop x0 i hi hx
    have htsz := hs _ hmem
    generalize ht : rd_T27 x0 i = t at *
    have hskip : ∀ (b : ByteArray), Ev (fun k => kilnlaw11_TokenParts.j2 k x0 x1 (mk S) W i b true t.f0 t.f1 t.f2 t.f3) true := by
      intro b
      refine Ev.step (f := fun k => kilnlaw11_TokenParts.l0 k x0 x1 (mk S) W (i + 1)) (fun k => ?_) (ih (i + 1) S W (by omega) (by omega) (by omega) hF (by omega) (by omega))
      conv => lhs; unfold kilnlaw11_TokenParts.j2
      rw [if_pos rfl, IntWalk.wrap64_in _ (by omega)]
    let f : Nat → Option Bool := fun k => (token_Print.f k (([(⟨t.f0, t.f1, t.f2, t.f3⟩ : S27), (⟨7, (⟨#[]⟩ : ByteArray), 0, 0⟩ : S27)] : List (S27)))).bind fun bt359 => (if bt359.2 = 0 then (kilnlaw11_TokenParts.j2 k x0 x1 (mk S) W i bt359.1 (t.f0 == 7) t.f0 t.f1 t.f2 t.f3) else (kilnlaw11_TokenParts.j2 k x0 x1 (mk S) W i bt359.1 true t.f0 t.f1 t.f2 t.f3))
    refine Ev.step (f := f) (fun k => ?_) ?_
    · conv => lhs; unfold kilnlaw11_TokenParts.j1
      rw [if_pos rfl, if_pos hi, if_pos hx, ht]
    show Ev f true
    refine Ev.bind (Print_ev _ (by show 2 ≤ _; decide) (fun u hu => ?_)) ?_
    · rcases List.mem_cons.1 hu with rfl | hu
      · show t.f1.size ≤ _; omega
      · rcases List.mem_cons.1 hu with rfl | hu
        · decide
        · cases hu
    obtain ⟨p1, p2⟩ := print_pair t
    have eta : (⟨t.f0, t.f1, t.f2, t.f3⟩ : S27) = t := rfl
    rw [eta]
    by_cases h7 : t.f0 = 7
    · rw [h7]
      have : ((7 : Int) == 7) = true := rfl
      rw [this]
      have hsk := hskip (printT [t, ⟨7, ⟨#[]⟩, 0, 0⟩]).1
      rw [h7] at hsk
      exact Ev.congr (fun k => ite_self _) hsk
    by_cases hok : okT t = true
    case neg =>
      refine Ev.congr (fun k => if_neg (by rw [p2 hok]; decide)) ?_
      exact hskip _
    rw [p1 hok h7]
    unfold outL
    by_cases hbig : 65536 < (shownB t ++ [10]).length
    · rw [if_pos hbig]
      exact Ev.congr (fun k => if_neg (show ¬ (2 : Int) = 0 by decide)) (hskip _)
    rw [if_neg hbig]
    have hlen : (shownB t).length ≤ 65535 := by rw [List.length_append, List.length_singleton] at hbig; omega
    refine Ev.congr (fun k => if_pos rfl) ?_
    have hb7 : (t.f0 == 7) = false := beq_false_of_ne h7
    rw [hb7]
    -- the number of blanks
    have hj5 : ∀ n : Int, 0 ≤ n → n ≤ 3 → (W ≠ [] → n = 0 → t.f0 = 1 → (rd_T27 W ((W.length : Int) - 1)).f0 ≠ 1) → Ev (fun k => kilnlaw11_TokenParts.j5 k x0 x1 (mk S) W i (mk (shownB t ++ [10])) n t.f0 t.f1 t.f2 t.f3) true := by
      intro n hn0 hn3 hn
      refine Ev.step (f := fun k => kilnlaw11_TokenParts.l1 k x0 x1 (mk S) W i (mk (shownB t ++ [10])) n 0 t.f0 t.f1 t.f2 t.f3) (fun k => ?_) ?_
      · conv => lhs; unfold kilnlaw11_TokenParts.j5
      refine parts_l1 x0 x1 W i t n hn3 (by omega) (by omega) (by omega) n.toNat S 0 (by rw [Int.sub_zero]) (Int.le_refl _) (by omega) ?_
      refine ih (i + 1) _ _ (by omega) (by omega) (by omega) (far_push S W hF t hok h7 n.toNat (fun a b c => hn a (by omega) c)) ?_ ?_
      · simp only [List.length_append, List.length_replicate]; omega
      · rw [List.length_append, List.length_singleton]; omega
    have hj3 : ∀ n : Int, 0 ≤ n → n ≤ 3 → Ev (fun k => kilnlaw11_TokenParts.j3 k x0 x1 (mk S) W i (mk (shownB t ++ [10])) n t.f0 t.f1 t.f2 t.f3) true := by
      intro n hn0 hn3
      have hj4 : ∀ b : Bool, (b = false → W ≠ [] → n = 0 → t.f0 = 1 → (rd_T27 W ((W.length : Int) - 1)).f0 ≠ 1) → Ev (fun k => kilnlaw11_TokenParts.j4 k x0 x1 (mk S) W i (mk (shownB t ++ [10])) n b t.f0 t.f1 t.f2 t.f3) true := by
        intro b hb
        cases b with
        | true =>
          refine Ev.step (f := fun k => kilnlaw11_TokenParts.j5 k x0 x1 (mk S) W i (mk (shownB t ++ [10])) 1 t.f0 t.f1 t.f2 t.f3) (fun k => ?_) (hj5 1 (by decide) (by decide) (fun _ h => absurd h (by decide)))
          conv => lhs; unfold kilnlaw11_TokenParts.j4
          rw [if_pos rfl]
        | false =>
          refine Ev.step (f := fun k => kilnlaw11_TokenParts.j5 k x0 x1 (mk S) W i (mk (shownB t ++ [10])) n t.f0 t.f1 t.f2 t.f3) (fun k => ?_) (hj5 n hn0 hn3 (hb rfl))
          conv => lhs; unfold kilnlaw11_TokenParts.j4
          rw [if_neg (by decide)]
      by_cases hc1 : (W.length : Int) > 0
      case neg =>
        refine Ev.step (f := fun k => kilnlaw11_TokenParts.j4 k x0 x1 (mk S) W i (mk (shownB t ++ [10])) n false t.f0 t.f1 t.f2 t.f3) (fun k => ?_) (hj4 false (fun _ hne => absurd (List.length_pos_iff.2 hne) (by omega)))
        conv => lhs; unfold kilnlaw11_TokenParts.j3
        rw [if_neg hc1]
      by_cases hc2 : n = 0
      case neg =>
        refine Ev.step (f := fun k => kilnlaw11_TokenParts.j4 k x0 x1 (mk S) W i (mk (shownB t ++ [10])) n false t.f0 t.f1 t.f2 t.f3) (fun k => ?_) (hj4 false (fun _ _ h => absurd h hc2))
        conv => lhs; unfold kilnlaw11_TokenParts.j3
        rw [if_pos hc1, if_neg hc2]
      by_cases hc3 : t.f0 = 1
      case neg =>
        refine Ev.step (f := fun k => kilnlaw11_TokenParts.j4 k x0 x1 (mk S) W i (mk (shownB t ++ [10])) n false t.f0 t.f1 t.f2 t.f3) (fun k => ?_) (hj4 false (fun _ _ _ h => absurd h hc3))
        conv => lhs; unfold kilnlaw11_TokenParts.j3
        rw [if_pos hc1, if_pos hc2, if_neg hc3]
      have hwr : wrap64 ((W.length : Int) - 1) = (W.length : Int) - 1 := IntWalk.wrap64_in _ (by omega)
      refine Ev.step (f := fun k => kilnlaw11_TokenParts.j4 k x0 x1 (mk S) W i (mk (shownB t ++ [10])) n ((rd_T27 W ((W.length : Int) - 1)).f0 == 1) t.f0 t.f1 t.f2 t.f3) (fun k => ?_) (hj4 _ (fun h _ _ _ => by simpa using h))
      conv => lhs; unfold kilnlaw11_TokenParts.j3
      rw [if_pos hc1, if_pos hc2, if_pos hc3, hwr, if_pos (by omega), if_pos (by omega)]
    have hne : ¬ (((mk (shownB t ++ [10])).size : Int) = 0) := by
      rw [mk_size, List.length_append, List.length_singleton]; omega
    by_cases hg : i < (x1.length : Int)
    · refine Ev.step (f := fun k => kilnlaw11_TokenParts.j3 k x0 x1 (mk S) W i (mk (shownB t ++ [10])) (Go.bits .and .i64 (rd x1 i) 3) t.f0 t.f1 t.f2 t.f3) (fun k => ?_) (hj3 _ (and3 _).1 (and3 _).2)
      conv => lhs; unfold kilnlaw11_TokenParts.j2
      rw [if_neg (by decide), if_neg hne, if_pos hg, if_pos hi]
    · refine Ev.step (f := fun k => kilnlaw11_TokenParts.j3 k x0 x1 (mk S) W i (mk (shownB t ++ [10])) 1 t.f0 t.f1 t.f2 t.f3) (fun k => ?_) (hj3 1 (by decide) (by decide))
      conv => lhs; unfold kilnlaw11_TokenParts.j2
      rw [if_neg (by decide), if_neg hne, if_neg hg]
theorem Parts_ev (x0 : List S27) (x1 : List Int) (h0 : x0.length ≤ 10000000) (hs : ∀ t ∈ x0, t.f1.size ≤ 10000000) : Ev (fun k => kilnlaw11_TokenParts.f k x0 x1) true := by
  unfold kilnlaw11_TokenParts.f
  refine Ev.bind Told_ev ?_
  refine Ev.congr (fun k => if_pos rfl) ?_
  exact parts_ev x0 x1 h0 hs 60 0 [] [] rfl (Int.le_refl _) (by decide) (.inl ⟨rfl, rfl⟩) (by decide) (by decide)
end Go.Proofs.Ytnmmapjcphefpaa.G

/- Tokens laid behind one another with blanks between are told each at its place: law TokenParts returns true. For all arguments that can be read and are together of bulk at most 1048576. -/
set_option linter.unusedVariables false
set_option linter.unusedSimpArgs false
namespace Go.Proofs.Ytnmmapjcphefpaa.tokenParts
open Go.ChangeShapes Go.WideShapes Go.ChangeAt Go.RowKit

theorem own : ownKnob Try.prog.godebug = none := by kernel_rfl
theorem contract (H : Type) (enc : TypeId × Value → H) (W : World) (base : Nat) (args : Array Value) (ds gs : List (DataW H)) (before : List MemPlace)
    (hval : ∀ (j : Nat) t v, Try.f9.params[j]? = some t → args[j]? = some v → Value.okWide Try.prog W .any base t v)
    (hW : DataW.Whole enc Try.prog Try.f9.params.toList Rows.tokenPartsSpec.vars false W args.toList ds gs before) (hk : Rows.uptoSmall H (ds ++ gs) = true) :
    Calls Try.prog 9 args W fun e W' => ∃ v, e = .returned v ∧ Rows.tokenPartsSpec.post enc Try.prog Try.f9 false true false false W args v W' := by
  have hW' := hW
  obtain ⟨p, q, hA0, hV, rfl, hfz, hnd⟩ := hW
  have hA : DataW.TrodAll enc Try.prog W 0 (fun _ => true) true Try.f9.params.toList args.toList ds p := hA0
  rw [Try.params9] at hA hval
  obtain ⟨v0, vs0, d0, ds0, p0, q0, hargs, rfl, rfl, h0, r0⟩ := trodAll_cons hA
  obtain ⟨v1, vs1, d1, ds1, p1, q1, rfl, rfl, rfl, h1, r1⟩ := trodAll_cons r0
  obtain ⟨rfl, rfl, rfl⟩ := trodAll_nil r1
  obtain rfl : args = #[v0, v1] := by cases args; simp_all
  obtain ⟨rfl, rfl⟩ := trodVars_none hV
  have hb : Rows.uptoBulkAll ([d0, d1] ++ ([] : List (DataW H))) ≤ 1048576 := of_decide_eq_true hk
  simp only [List.append_nil, Rows.uptoBulkAll] at hb
  obtain ⟨a0, l0, c0, rfl, o1, _, o2, o3, o4⟩ := G.open_toks (hval 0 25 v0 rfl rfl) h0
  obtain ⟨a1, l1, c1, rfl, n1, _, n2⟩ := G.open_nums (hval 1 42 v1 rfl rfl) h1
  clear hA0
  obtain ⟨k, hk'⟩ := Go.Proofs.YtnmmapjcphefpaaW.PrintWords.Ev.rounds (G.Parts_ev l0 l1 (by omega) (fun t ht => by have := o4 t ht; omega))
  refine (G.kilnlaw11_TokenParts.calls k a0 c0 l0 a1 c1 l1 true W o2 o1 n2 n1 hk').mono fun e W' ⟨he, hg⟩ => ?_
  subst he
  exact ⟨_, rfl, law_post G.laidOut Try.underlying4 (by kernel_rfl) (fun t ht => by rw [Try.params9] at ht; simp at ht; rcases ht with rfl | rfl <;> exact ⟨by kernel_rfl, of_decide_eq_true (by kernel_rfl)⟩) rfl rfl hW' hg⟩

set_option maxRecDepth 100000 in
theorem lifted (os : Os) (started : os.Started) (H : Type) (enc : TypeId × Value → H) (F : Stop.Interp) :
    ReturnsInHanded {} Try.checked os 9 .any ((Rows.OpenSpec.upto Rows.tokenPartsSpec).pre6 enc Try.prog Try.f9 Rows.tokenPartsUptoRow.domain false) (((Rows.OpenSpec.upto Rows.tokenPartsSpec).at F).post enc Try.prog Try.f9 false true false false) := by
  refine returnsInHanded_of_cond (C := Try.checked) (s := Rows.OpenSpec.upto Rows.tokenPartsSpec) (k := Rows.uptoSmall) rfl own started (by kernel_rfl) Try.func9
    (OpenSpec.witness (enc := enc) (C := Try.checked) (s := Rows.OpenSpec.upto Rows.tokenPartsSpec) (k := Rows.uptoSmall) rfl false ⟨#[], #[.slice none 0 0, .slice none 0 0], []⟩ 8 (by kernel_rfl) (by kernel_rfl) (by kernel_rfl)
      (x := ([.nil, .nil], [], [])) (by kernel_rfl) rfl (by kernel_rfl)) ?_
  intro W base args ds gs before hval hW _ hk _
  exact contract H enc W base args ds gs before hval hW hk

theorem said : Rows.TokenPartsUptoSaid :=
  OpenClaim.holds_of_cond 9 Try.f9 rfl rfl rfl rfl rfl rfl rfl ⟨rfl, rfl, rfl, rfl, rfl⟩ rfl rfl rfl rfl rfl (by kernel_rfl) Try.func9 (by kernel_rfl)
    (of_decide_eq_true (by kernel_rfl)) (by unfold Func.isWrapper; first | (rw [if_pos (by decide +kernel)]; kernel_rfl) | (rw [if_neg (by decide +kernel)]; exact ⟨rfl, rfl⟩))
    (fun os started H enc _ F => lifted os started H enc F)
end Go.Proofs.Ytnmmapjcphefpaa.tokenParts
namespace Go.Proofs.Ytnmmapjcphefpaa
/-- The row, under a short name, for the claim. -/
theorem tokenParts_holds : Rows.TokenPartsUptoSaid := tokenParts.said
end Go.Proofs.Ytnmmapjcphefpaa
