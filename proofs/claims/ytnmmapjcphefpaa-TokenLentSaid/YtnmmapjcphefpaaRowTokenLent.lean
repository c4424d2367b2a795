/- The lists of tokens that Tokens tells are their caller's own: law TokenLent returns true. For all arguments that can be read. -/
import Derived.Test.YtnmmapjcphefpaaKit
import Derived.ProofKit
import Derived.OpenShut
import Derived.Carry
import Derived.Deep.Slices
import Derived.Test.YtnmmapjcphefpaaRows
import Derived.Test.YtnmmapjcphefpaaGx0
import Derived.Lib.SmallJoins
import Derived.WideShapes
import Derived.Test.YtnmmapjcphefpaaPlNorm
import Derived.Test.YtnmmapjcphefpaaGx11
import Derived.Test.YtnmmapjcphefpaaGxhkilnlaw11prints
import Derived.Test.YtnmmapjcphefpaaKit3
import Derived.Deep.RegionHeld3
import Derived.WalkKit
import Derived.ChangeOld
import Derived.Below
import Derived.SizedLaws
/- General words for a law's row: what the row asks behind the call, where nothing below the call's own blocks has turned; arguments that are slices of structs of whole numbers. -/
set_option linter.unusedVariables false
set_option linter.unusedSimpArgs false
namespace Go.Proofs.Ytnmmapjcphefpaa
open Go.ChangeShapes Go.WideShapes Go.ChangeAt Go.RowKit

section
variable {H : Type} {enc : TypeId × Value → H} {P : Program}
theorem trodAll_stay (hl : laidOutB P = true) {W W' : World} {sp : Nat → Bool} : ∀ (ts : List TypeId) (vs : List Value) (ds : List (DataW H)) (ps : List MemPlace), (∀ t ∈ ts, P.readableRec t = true ∧ t < P.types.size) →
    DataW.TrodAll enc P W 0 (fun _ => true) true ts vs ds ps → (∀ p ∈ ps, W.sameAt W' p) → (∀ p ∈ ps, sp p.block = true) → DataW.TrodAll enc P W' 0 sp true ts vs ds ps
  | [], [], [], ps, _, h, _, _ => h
  | t :: ts, v :: vs, d :: ds, ps, hr, h, hs, hp => by
    obtain ⟨p, q, h1, h2, rfl⟩ := h
    refine ⟨p, q, ?_, trodAll_stay hl ts vs ds q (fun x hx => hr x (List.mem_cons_of_mem _ hx)) h2 (fun x hx => hs x (List.mem_append_right _ hx)) (fun x hx => hp x (List.mem_append_right _ hx)), rfl⟩
    exact WideElems.Trod_stays hl (hr t (by simp)).1 (hr t (by simp)).2 h1 (fun x hx => hs x (List.mem_append_left _ hx)) (fun x hx => hp x (List.mem_append_left _ hx))
  | [], _ :: _, _, _, _, h, _, _ => h.elim
  | [], [], _ :: _, _, _, h, _, _ => h.elim
  | _ :: _, [], _, _, _, h, _, _ => h.elim
  | _ :: _, _ :: _, [], _, _, h, _, _ => h.elim

/-- a law with no variable among what it is asked of: the arguments read as they read, the answer is true, the old blocks are as they were -/
theorem law_post (hl : laidOutB P = true) {f : Func} {s : ChangeSpec} {W W' : World} {args : Array Value} {ds : List (DataW H)} {before : List MemPlace} {T : TypeId} (hT : P.underlying T = some .bool) (hres : f.resultTypes = #[T])
    (hr : ∀ t ∈ f.params.toList, P.readableRec t = true ∧ t < P.types.size)
    (hspec : s.fn H (ds ++ []) = { results := [.lit (.bool true)], args := ds }) (hvars : s.vars = [])
    (hW : DataW.Whole enc P f.params.toList s.vars false W args.toList ds [] before)
    (hb : Below W.heap.size W W') : s.post enc P f false true false false W args (.bool true) W' := by
  have old : ∀ p ∈ before, p.block < W.heap.size := fun p hp => hW.lt p hp
  have inOld : ∀ p ∈ before, (fun b => decide (b < W.heap.size)) p.block = true := fun p hp => by simpa using old p hp
  have R : ∀ (b : Nat) (sp : Nat → Bool) (hd : Bool), DataW.TrodAll enc P W' b sp hd f.resultTypes.toList ((Value.bool true).resultList f.resultTypes.size) (s.fn H (ds ++ [])).results [] := by
    intro b sp hd
    rw [hspec, hres]
    exact trodAll_cons_mk (shut_bool hT true) trodAll_mk0
  have A : ∀ sp : Nat → Bool, (∀ p ∈ before, sp p.block = true) → DataW.TrodAll enc P W' 0 sp true f.params.toList args.toList (s.fn H (ds ++ [])).args before := by
    intro sp hsp
    rw [hspec]
    obtain ⟨p, q, h1, h2, h3, _, _⟩ := hW
    rw [hvars] at h2
    obtain rfl : q = [] := h2
    rw [List.append_nil] at h3
    subst h3
    exact trodAll_stay hl _ _ _ _ hr h1 (fun x hx => hb.same (old x hx)) hsp
  have V : ∀ sp : Nat → Bool, DataW.TrodVars enc P W' sp s.vars (s.fn H (ds ++ [])).vars [] := by
    intro sp
    rw [hspec, hvars]
    rfl
  refine ⟨ds, [], before, [], before, [], hW, R _ _ _, A _ inOld, V _, World.keptBut_mono (fun p hp => ⟨hp, .inr (by simpa using hp)⟩) (hb.frame (· ∈ before)), fun _ => ⟨fun j t r ht hr => ?_, ?_⟩⟩
  · rw [hres] at ht hr
    match j, ht, hr with
    | 0, ht, hr =>
      simp at ht
      simp [Value.resultList] at hr
      subst ht
      subst hr
      exact okWide_bool_mk hT true
  · obtain ⟨_, _, _, _, _, hz, hn⟩ := hW
    refine ⟨_, _, ([] ++ before) ++ [], ⟨[] ++ before, [], trodAll_append (A _ (fun _ _ => rfl)) (R _ _ _), V _, rfl, ?_, ?_⟩, ?_⟩
    · intro b off hp
      have hin : MemPlace.cell b off ∈ before := by simpa using hp
      exact (hb.frozen (p := ⟨b, off, none⟩) (old _ hin)).trans (hz b off hin)
    · intro ha
      simpa using hn ha
    · intro p hp _
      simpa using hp

/-- a struct of n whole numbers: its cells -/
theorem open_numbers {w : World} {base : Nat} {sp : Nat → Bool} {held : Bool} {e : TypeId} {fs : Array Field} {fuel : Nat} {cs : List Value} {x : DataW H × List MemPlace} (he : P.underlying e = some (.struct fs)) (hC : P.cellsOf e = fs.size)
    (hf : ∀ (j : Nat) (f : Field), fs[j]? = some f → f.offset = j ∧ P.underlying f.type = some (.int .i64) ∧ P.cellsOf f.type = 1) (h : DataW.trod enc P w base sp held fuel e cs = some x) : ∀ j, j < fs.size → ∃ z, cs[j]? = some (.int .i64 z) := by
  intro j hj
  obtain ⟨xs, n, _, _, hlen, hxl, hat⟩ := DataW.trod_struct he h
  obtain ⟨ho, hu, hc⟩ := hf j fs[j] (Array.getElem?_eq_getElem hj)
  have h1 := hat j fs[j] (Array.getElem?_eq_getElem hj)
  rw [ho, hc, List.getElem?_eq_getElem (show j < xs.length by omega)] at h1
  obtain ⟨z, hz, _⟩ := DataW.trod_int hu h1
  refine ⟨z, ?_⟩
  have h2 : ((cs.drop j).take 1)[0]? = some (.int .i64 z) := by rw [hz]; rfl
  simpa [List.getElem?_take, List.getElem?_drop] using h2
/-- a slice of such structs that came in -/
theorem open_numberRows {w : World} {t e : TypeId} {fs : Array Field} {v : Value} {d : DataW H} {ps : List MemPlace} {r : Reach} {b0 : Nat} (ht : P.underlying t = some (.slice e)) (he : P.underlying e = some (.struct fs)) (hC : P.cellsOf e = fs.size)
    (hf : ∀ (j : Nat) (f : Field), fs[j]? = some f → f.offset = j ∧ P.underlying f.type = some (.int .i64) ∧ P.cellsOf f.type = 1)
    (hv : Value.okWide P w r b0 t v) (h : DataW.Trod enc P w 0 (fun _ => true) true t v d ps) :
    (v = .slice none 0 0) ∨ ∃ (a : Addr) (len cap : Nat), v = .slice (some a) len cap ∧ len ≤ cap ∧ cap ≤ maxLen ∧ ∀ i j, i < len → j < fs.size → ∃ z, w.cell? (a.add (i * fs.size + j)) = some (.int .i64 z) := by
  obtain ⟨fuel, hx⟩ := h
  rcases Go.Deep.open_slice ht hx with ⟨h1, _⟩ | ⟨a, len, cap, m, n, D, Pl, h1, _, h2, h3, h4, _, h6⟩
  · left
    obtain ⟨a, n, c, rfl⟩ := okWide_slice ht hv
    simpa [Value.cells] using h1
  · right
    obtain ⟨a', n', c', rfl⟩ := okWide_slice ht hv
    simp [Value.cells] at h1
    obtain ⟨rfl, rfl, rfl⟩ := h1
    refine ⟨a, _, _, rfl, h2, h3, fun i j hi hj => ?_⟩
    simp at h4
    obtain ⟨cs', hc, hr⟩ := h6 i (by omega)
    rw [hC] at hc
    obtain ⟨z, hz⟩ := open_numbers he hC hf hr j hj
    obtain ⟨_, _, hat⟩ := World.cells?_some hc
    have := hat j hj
    rw [hz] at this
    exact ⟨z, by rw [← Go.Deep.add_add]; exact this⟩
end
end Go.Proofs.Ytnmmapjcphefpaa

-- A slice of texts that comes in, opened.
namespace Go.Proofs.Ytnmmapjcphefpaa.G
open Go.ChangeShapes Go.WideShapes Go.ChangeAt Go.RowKit Go.Proofs.YtnmmapjcphefpaaW.PrintWords Go.Proofs.YtnmmapjcphefpaaW.PrintLast Go.Proofs.YtnmmapjcphefpaaW.PrintMore
set_option linter.unusedVariables false
set_option linter.unusedSimpArgs false
section
variable {H : Type} {enc : TypeId × Value → H}
theorem scells9 : Try.prog.cellsOf 9 = 1 := by kernel_rfl
theorem open_strs {W : World} {base : Nat} {r : Reach} {v : Value} {d : DataW H} {p : List MemPlace} (hv : Value.okWide Try.prog W r base 38 v) (h : DataW.Trod enc Try.prog W 0 (fun _ => true) true 38 v d p) :
    ∃ (ao : Option Addr) (l : List ByteArray) (c : Nat), v = .slice ao l.length c ∧ l.length ≤ c ∧ c ≤ maxLen ∧ Kd.C Kd.string W ao l.length l := by
  obtain ⟨fuel, hx⟩ := h
  obtain ⟨a', n', c', rfl⟩ := okWide_slice Try.underlying38 hv
  rcases Go.Deep.open_slice Try.underlying38 hx with ⟨h1, _⟩ | ⟨a, len, cap, m, n, D, Pl, h1, _, h2, h3, h4, h5, h6⟩
  · simp [Value.cells] at h1
    obtain ⟨rfl, rfl, rfl⟩ := h1
    exact ⟨none, [], 0, rfl, Nat.le_refl _, Nat.zero_le _, ⟨rfl, Nat.zero_le _, fun h => absurd h (Nat.lt_irrefl _)⟩⟩
  · simp [Value.cells] at h1
    obtain ⟨rfl, rfl, rfl⟩ := h1
    simp only [if_true] at h4
    have hel : ∀ i, i < n' → ∃ t : ByteArray, W.cell? (a.add i) = some (.string t) := by
      intro i hi
      obtain ⟨cs', hc, hr⟩ := h6 i (by omega)
      rw [scells9] at hc
      obtain ⟨t, ht, _⟩ := DataW.trod_string Try.underlying9 hr
      subst ht
      obtain ⟨_, _, hat⟩ := World.cells?_some hc
      have := hat 0 (by decide)
      refine ⟨t, ?_⟩
      have e : a.add i = (a.add (i * 1)).add 0 := by rw [Go.Deep.add_add, Nat.mul_one, Nat.add_zero]
      rw [e]
      exact this
    have hpick : ∃ f : Nat → ByteArray, ∀ i, i < n' → W.cell? (a.add i) = some (.string (f i)) := by
      refine ⟨fun i => if hi : i < n' then Classical.choose (hel i hi) else ByteArray.empty, fun i hi => ?_⟩
      simp only [dif_pos hi]
      exact Classical.choose_spec (hel i hi)
    obtain ⟨f, hf⟩ := hpick
    have hlen : ((List.range n').map f).length = n' := by simp
    refine ⟨some a, (List.range n').map f, c', by rw [hlen], by rw [hlen]; exact h2, h3, ?_⟩
    rw [hlen]
    refine ⟨hlen, by unfold maxLen at h3; omega, fun _ => ⟨a, rfl, fun j t hj => ?_⟩⟩
    have hjl : j < n' := by
      have := (List.getElem?_eq_some_iff.1 hj).1
      rwa [hlen] at this
    have ht : t = f j := by
      rw [List.getElem?_map, List.getElem?_range hjl] at hj
      simpa using hj.symm
    refine ⟨_, rfl, rfl, fun i u hu => ?_⟩
    have hi : i < 1 := (List.getElem?_eq_some_iff.1 hu).1
    obtain rfl : i = 0 := by omega
    simp at hu
    subst hu
    show W.cell? (a.add (j * 1 + 0)) = _
    rw [show j * 1 + 0 = j by omega, ht]
    exact hf j hjl
end
end Go.Proofs.Ytnmmapjcphefpaa.G

-- TokenAgain: the walk; what it looks at is true at every turn.
namespace Go.Proofs.Ytnmmapjcphefpaa.G
open Go.RowKit Go.Proofs.YtnmmapjcphefpaaW.PrintWords Go.Proofs.YtnmmapjcphefpaaW.PrintLast Go.Proofs.YtnmmapjcphefpaaW.PrintMore
attribute [local go_sem] max2_int min2_int max_two min_two max_three min_three max_four min_four
set_option linter.unusedVariables false
set_option linter.unusedSimpArgs false
theorem print_rounds (xs : List S27) (h : xs.length ≤ 1000) (hs : ∀ t ∈ xs, t.f1.size ≤ 2000000) : ∃ k t e, token_Print.f k xs = some (t, e) ∧ kilnref11_Print.f k xs = some (t, e) := by
  obtain ⟨K1, g1⟩ := Print_ev xs (by omega) (fun t ht => by have := hs t ht; omega)
  obtain ⟨K2, g2⟩ := PrintR_ev xs (by omega) hs
  exact ⟨max K1 K2, (printT xs).1, (printT xs).2, g1 _ (by omega), g2 _ (by omega)⟩
theorem tcells_get (l : List S27) (j : Nat) (t : S27) (h : l[j]? = some t) : (tcells l)[j * 4]? = some (.int .i64 t.f0) ∧ (tcells l)[j * 4 + 1]? = some (.string t.f1) ∧ (tcells l)[j * 4 + 2]? = some (.int .i64 t.f2) ∧ (tcells l)[j * 4 + 3]? = some (.int .i64 t.f3) := by
  induction l generalizing j with
  | nil => simp at h
  | cons u l ih =>
    have e : tcells (u :: l) = [.int .i64 u.f0, .string u.f1, .int .i64 u.f2, .int .i64 u.f3] ++ tcells l := by simp [tcells]
    rw [e]
    cases j with
    | zero => simp at h; subst h; exact ⟨rfl, rfl, rfl, rfl⟩
    | succ j =>
      have := ih j (by simpa using h)
      rw [show (j + 1) * 4 = j * 4 + 4 by omega]
      rw [List.getElem?_append_right (by simp), List.getElem?_append_right (by simp), List.getElem?_append_right (by simp), List.getElem?_append_right (by simp)]
      simp only [List.length_cons, List.length_nil]
      rw [show j * 4 + 4 - (0 + 1 + 1 + 1 + 1) = j * 4 by omega, show j * 4 + 4 + 1 - (0 + 1 + 1 + 1 + 1) = j * 4 + 1 by omega, show j * 4 + 4 + 2 - (0 + 1 + 1 + 1 + 1) = j * 4 + 2 by omega, show j * 4 + 4 + 3 - (0 + 1 + 1 + 1 + 1) = j * 4 + 3 by omega]
      exact this
theorem tcells_len (l : List S27) : (tcells l).length = l.length * 4 := by
  induction l with
  | nil => rfl
  | cons u l ih =>
    have e : tcells (u :: l) = [.int .i64 u.f0, .string u.f1, .int .i64 u.f2, .int .i64 u.f3] ++ tcells l := by simp [tcells]
    rw [e, List.length_append, ih]; simp; omega
theorem tcells_set (l : List S27) (j : Nat) (hj : j < l.length) (t : S27) : ((((tcells l).set (j * 4) (.int .i64 t.f0)).set (j * 4 + 1) (.string t.f1)).set (j * 4 + 2) (.int .i64 t.f2)).set (j * 4 + 3) (.int .i64 t.f3) = tcells (l.set j t) := by
  induction l generalizing j with
  | nil => simp at hj
  | cons u l ih =>
    have e : ∀ (v : S27) (m : List S27), tcells (v :: m) = .int .i64 v.f0 :: .string v.f1 :: .int .i64 v.f2 :: .int .i64 v.f3 :: tcells m := fun v m => by simp [tcells]
    rw [e]
    cases j with
    | zero =>
      show _ = tcells (t :: l)
      rw [e]; rfl
    | succ j =>
      rw [List.set_cons_succ, e, ← ih j (by simpa using hj)]
      rw [show (j + 1) * 4 = j * 4 + 4 by omega, show j * 4 + 4 + 1 = (j * 4 + 1) + 4 by omega, show j * 4 + 4 + 2 = (j * 4 + 2) + 4 by omega, show j * 4 + 4 + 3 = (j * 4 + 3) + 4 by omega]
      rfl
theorem row_C {W : World} {g cap : Nat} {l : List S27} (h : RowAt W g 27 4 l.length cap (tcells l)) (hl : l.length ≤ 1000000000) : Kd.C k27 W (some ⟨g, 0, none⟩) l.length l := by
  refine ⟨rfl, by omega, fun _ => ⟨_, rfl, fun j t hj => ⟨_, rfl, k27_mk W t, fun i u hu => ?_⟩⟩⟩
  have hjl := (List.getElem?_eq_some_iff.1 hj).1
  have hi : i < 4 := (List.getElem?_eq_some_iff.1 hu).1
  have ea : (⟨g, 0, none⟩ : Addr).add (j * k27.sz + i) = ⟨g, j * 4 + i, none⟩ := by
    have e1 : j * k27.sz + i = j * 4 + i := rfl
    rw [e1]; unfold Addr.add; split <;> simp_all
  rw [ea, RowAt.cell h (j * 4 + i) (by omega)]
  obtain ⟨g0, g1, g2, g3⟩ := tcells_get l j t hj
  have h4 : i = 0 ∨ i = 1 ∨ i = 2 ∨ i = 3 := by omega
  rcases h4 with rfl | rfl | rfl | rfl
  · rw [← hu]; exact g0
  · rw [← hu]; exact g1
  · rw [← hu]; exact g2
  · rw [← hu]; exact g3
theorem R_row {w : World} {B : Nat} {g cap n : Nat} {l : List S27} (hl : l.length = n) (h : Kd.R k27 27 w B (fun _ => True) (.slice (some ⟨g, 0, none⟩) n cap) l) (hB : B ≤ w.heap.size) : RowAt w g 27 4 n cap (tcells l) := by
  have h1 := (R_has h hB).get 0 rfl
  subst hl
  exact h1
theorem at_num {w : World} {A : Option Addr} {n : Nat} {xs : List Int} (h : (Kd.int .i64).C w A n xs) (i : Int) (h0 : 0 ≤ i) (h1 : i < n) : ∃ ad, A = some ad ∧ w.cell? (ad.add i.toNat) = some (.int .i64 (rd xs i)) := by
  obtain ⟨ad, c, e, hs, hr, hc⟩ := ReadsRow.get_ h 0 i h0 h1
  refine ⟨ad, e, ?_⟩
  have hr' : c = [.int .i64 (xs.getD i.toNat 0)] := hr
  have := hc 0 (.int .i64 (xs.getD i.toNat 0)) (by rw [hr']; rfl)
  have e1 : i.toNat * (Kd.int .i64).sz + 0 = i.toNat := Nat.mul_one _
  rw [e1] at this
  exact this
/-- what stands at each turn -/
def AgInv (B g cap n : Nat) (xs : List S27) (w w' : World) : Prop :=
  xs.length = n ∧ RowAt w' g 27 4 (n + 3) cap (tcells (xs ++ marks3)) ∧ Below B w w' ∧ B ≤ g ∧ ∀ t ∈ xs, t.f1.size ≤ 2000000
theorem AgInv.base {B g cap n m : Nat} {xs : List S27} {w w' : World} (h : AgInv B g cap n xs w (w'.drewN m)) : AgInv B g cap n xs w w' := ⟨h.1, h.2.1, ⟨h.2.2.1.os, h.2.2.1.tape, h.2.2.1.output, h.2.2.1.size, h.2.2.1.block⟩, h.2.2.2⟩
theorem tcells_text (l : List S27) (j : Nat) (t : S27) (h : l[j]? = some t) (s : ByteArray) : (tcells l).set (j * 4 + 1) (.string s) = tcells (l.set j ⟨t.f0, s, t.f2, t.f3⟩) := by
  induction l generalizing j with
  | nil => simp at h
  | cons u l ih =>
    have e : ∀ (v : S27) (m : List S27), tcells (v :: m) = .int .i64 v.f0 :: .string v.f1 :: .int .i64 v.f2 :: .int .i64 v.f3 :: tcells m := fun v m => by simp [tcells]
    cases j with
    | zero =>
      simp at h
      subst h
      show _ = tcells (⟨u.f0, s, u.f2, u.f3⟩ :: l)
      rw [e, e]; rfl
    | succ j =>
      rw [List.set_cons_succ, e, e, ← ih j (by simpa using h)]
      rw [show (j + 1) * 4 + 1 = (j * 4 + 1) + 4 by omega]
      rfl
theorem ag_store {B g cap n m J : Nat} {xs : List S27} {w w' : World} (h : AgInv B g cap n xs w w') (hJ : J < n) (t : S27) (ht : t.f1.size ≤ 2000000) (hB : B ≤ w.heap.size) :
    AgInv B g cap n (xs.set J t) w (((((w'.drewN m).setCell ⟨g, J * 4, none⟩ (.int .i64 t.f0)).setCell ⟨g, J * 4 + 1, none⟩ (.string t.f1)).setCell ⟨g, J * 4 + 2, none⟩ (.int .i64 t.f2)).setCell ⟨g, J * 4 + 3, none⟩ (.int .i64 t.f3)) := by
  obtain ⟨h1, h2, h3, h4, h5⟩ := h
  refine ⟨by rw [List.length_set]; exact h1, ?_, ?_, h4, fun u hu => ?_⟩
  · have := RowAt.set (RowAt.set (RowAt.set (RowAt.set (h2.drewN m) (J * 4) (.int .i64 t.f0)) (J * 4 + 1) (.string t.f1)) (J * 4 + 2) (.int .i64 t.f2)) (J * 4 + 3) (.int .i64 t.f3)
    rw [tcells_set (xs ++ marks3) J (by rw [List.length_append]; omega) t, List.set_append_left _ _ (by omega)] at this
    exact this
  · exact (below_dn h3).trans (keeps_below (((((Keeps.refl [g] (w'.drewN m)).setCell (by simp) _).setCell (by simp) _).setCell (by simp) _).setCell (by simp) _) (by simpa using h4) (Nat.le_trans hB h3.size))
  · rcases List.mem_or_eq_of_mem_set hu with hu | rfl
    · exact h5 u hu
    · exact ht
theorem ag_text {B g cap n m J : Nat} {xs : List S27} {w w' : World} (h : AgInv B g cap n xs w w') (t : S27) (hJ : xs[J]? = some t) (s : ByteArray) (hs : s.size ≤ 2000000) (hB : B ≤ w.heap.size) :
    AgInv B g cap n (xs.set J ⟨t.f0, s, t.f2, t.f3⟩) w ((w'.drewN m).setCell ⟨g, J * 4 + 1, none⟩ (.string s)) := by
  obtain ⟨h1, h2, h3, h4, h5⟩ := h
  have hJl := (List.getElem?_eq_some_iff.1 hJ).1
  refine ⟨by rw [List.length_set]; exact h1, ?_, ?_, h4, fun u hu => ?_⟩
  · have := RowAt.set (h2.drewN m) (J * 4 + 1) (.string s)
    rw [tcells_text (xs ++ marks3) J t (by rw [List.getElem?_append_left hJl]; exact hJ) s, List.set_append_left _ _ hJl] at this
    exact this
  · exact (below_dn h3).trans (keeps_below ((Keeps.refl [g] (w'.drewN m)).setCell (by simp) _) (by simpa using h4) (Nat.le_trans hB h3.size))
  · rcases List.mem_or_eq_of_mem_set hu with hu | rfl
    · exact h5 u hu
    · exact hs
def AgPost (w : World) (e : Ending) (w' : World) : Prop := e = .returned (.bool true) ∧ Below w.heap.size w w'
set_option maxHeartbeats 8000000 in
set_option maxRecDepth 100000 in
theorem again_short (A0 : Option Addr) (c0 : Nat) (l0 : List S27) (A1 : Option Addr) (c1 : Nat) (l1 : List Int) (A2 : Option Addr) (c2 : Nat) (l2 : List S27) (w : World)
    (hr0 : Kd.C k27 w A0 l0.length l0) (hc0 : l0.length ≤ c0) (hr1 : Kd.C (Kd.int .i64) w A1 l1.length l1) (hc1 : l1.length ≤ c1) (hr2 : Kd.C k27 w A2 l2.length l2) (hc2 : l2.length ≤ c2)
    (ht0 : ∀ t ∈ l0, t.f1.size ≤ 2000000) (ht2 : ∀ t ∈ l2, t.f1.size ≤ 2000000) (hs : l0.length ≤ 100) :
    Calls Try.prog 12 #[.slice A0 l0.length c0, .slice A1 l1.length c1, .slice A2 l2.length c2] w (AgPost w) := by
  obtain ⟨kt, hT⟩ := Ev.rounds Told_ev
  have hnl : l0.length ≤ 100 := hs
  have cs0 : decide ((l0.length : Int) > 100) = false := decide_eq_false (by omega)
  have cs1 : decide (100 < (l0.length : Int)) = false := cs0
  have cs2 : ((100 : Int) < (l0.length : Int)) = False := eq_false (by omega)
  clear hs
  have HT := Lib.hid hT
  have H0 := Lib.hid hr0
  have C0 := Lib.hid hc0
  have H1 := Lib.hid hr1
  have C1 := Lib.hid hc1
  have H2 := Lib.hid hr2
  have C2 := Lib.hid hc2
  have HL := Lib.hid hnl
  have T0 := Lib.hid ht0
  have T2 := Lib.hid ht2
  clear hT hr0 hc0 hr1 hc1 hr2 hc2 hnl ht0 ht2
  go_enter Try.func12, Try.ntmps12
  go_wp2_with fail
  refine (kilnlaw11_Told.calls kt true w HT.out).mono ?_
  rintro e w1 ⟨rfl, hb1⟩
  have B1 := Lib.hid hb1
  clear hb1
  go_wp2_with fail
  refine (laid_calls A0 c0 l0 w1 (Kd.C_below H0.out B1.out) (by have := HL.out; omega)).mono ?_
  rintro e w3 ⟨A', cap, hcap, rfl, hR, hb3⟩
  have hml : (l0 ++ marks3).length = l0.length + 3 := by rw [List.length_append]; rfl
  have hown := (R_has hR hb3.size).get 0 rfl
  obtain ⟨g, cap', hv, _⟩ := own_some (show w3.ownsRow 0 27 4 (.slice A' (l0.length + 3) cap) (l0 ++ marks3).length (tcells (l0 ++ marks3)) from hown) (by rw [hml]; omega)
  have hg : w1.heap.size ≤ g := (R_has hR hb3.size).ge g (by rw [hml] at hv; simp [fps, tkT, rowT, hv, Value.ownBlock])
  obtain ⟨rfl, rfl⟩ : A' = some ⟨g, 0, none⟩ ∧ cap = cap' := by
    simp only [Value.slice.injEq] at hv
    exact ⟨hv.1, hv.2.2⟩
  have hrow := R_row hml hR hb3.size
  have INV := Lib.hid (show AgInv w.heap.size g cap l0.length l0 w w3 from ⟨rfl, hrow, B1.out.trans (hb3.mono B1.out.size), Nat.le_trans B1.out.size hg, T0.out⟩)
  have HCAP := Lib.hid hcap
  obtain ⟨n, hn⟩ : ∃ n, n = l0.length := ⟨_, rfl⟩
  rw [← hn] at INV HL HCAP
  clear hR hb3 hv hg hrow hcap hml hown
  rw [← hn]
  clear hn
  go_wp2_with fail
  go_loopg [8] 22 (fun q s8 wr => ∃ (i : Nat) (xs : List S27), s8 = .int .i64 (i : Int) ∧ Hid (q + i = 22) ∧ Hid (AgInv w.heap.size g cap n xs w wr))
  case atStart => exact ⟨0, l0, rfl, Lib.hid rfl, INV⟩
  case round =>
    clear INV
    obtain ⟨i, xs, rfl, HQ, INV⟩ := hrel
    have hn := INV.out.1
    subst hn
    by_cases hi : i ≤ l1.length ∧ i ≤ 20
    · cases gk with
      | zero => exact absurd HQ.out (by omega)
      | succ k1 =>
      have HI := Lib.hid hi
      have d1 : decide ((i : Int) ≤ (l1.length : Int)) = true := decide_eq_true (by omega)
      have d1b : decide (i ≤ l1.length) = true := decide_eq_true hi.1
      have d2 : decide ((i : Int) ≤ 20) = true := decide_eq_true (by omega)
      obtain ⟨kx, t, er, hx1, hx2⟩ := print_rounds xs (by have := HL.out; omega) INV.out.2.2.2.2
      have X1 := Lib.hid hx1
      have X2 := Lib.hid hx2
      have hml : (xs ++ marks3).length = xs.length + 3 := by rw [List.length_append]; rfl
      have hCx := row_C (l := xs ++ marks3) (by have := INV.out.2.1; rw [hml]; exact this) (by rw [hml]; have := HL.out; omega)
      have CX := Lib.hid hCx
      have hT := Kd.C_take (m := xs.length) hCx (by simp)
      rw [List.take_left] at hT
      have CT := Lib.hid hT
      clear hx1 hx2 hCx hT hml hi
      go_wp2_with (at_builtin; refine Kd.R_append_rows k27 (w0 := wr) wr.heap.size rfl (.const (.slice none 0 0)) (.tmp 34) 25 27 (.agg #[(.int .i64 0), (.string ⟨#[]⟩), (.int .i64 0), (.int .i64 0)]) 40 rfl Try.underlying25 info27 rfl (by decide) (by omega) (.slice none 0 0) ([] : List S27) xs _ _ _ (fun _ => True) (fun _ => False) rfl rfl (Kd.R_nil _ _ _ _ (fun _ => True)) CT.out (fun _ _ h => h) (fun _ h => h.elim) (fun _ _ => trivial) (Below.refl _ _) (Nat.le_refl _) (by have := HL.out; simp; omega) ?_)
      intro v4 w4 ho hb4 hg4 hat
      have ho : Kd.R k27 27 w4 wr.heap.size (fun _ => True) v4 xs := ho
      have hown := (R_has ho hb4.size).get 0 rfl
      obtain ⟨A9, c9, rfl, hl9, hC9⟩ : ∃ A c, v4 = .slice A xs.length c ∧ xs.length ≤ c ∧ Kd.C k27 w4 A xs.length xs := Kd.R_reads ho
      have L9 := Lib.hid hl9
      have C9 := Lib.hid hC9
      have B4 := Lib.hid hb4
      clear ho hb4 hg4 hat hl9 hC9 hown
      go_wp2_with fail
      refine (token_Print.calls kx (some ⟨g, 0, none⟩) cap xs t er w4 (Kd.C_below CT.out B4.out) (by have := HCAP.out; omega) X1.out).mono ?_
      rintro e w5 ⟨rfl, hb5⟩
      have B5 := Lib.hid (B4.out.trans (hb5.mono B4.out.size))
      have C9b := Lib.hid (Kd.C_below C9.out hb5)
      clear hb5 C9
      go_wp2_with fail
      refine (kilnref11_Print.calls kx A9 c9 xs t er w5 C9b.out L9.out X2.out).mono ?_
      rintro e w6 ⟨rfl, hb6⟩
      have B6 := Lib.hid (B5.out.trans (hb6.mono B5.out.size))
      have C9c := Lib.hid (Kd.C_below C9b.out hb6)
      clear hb6 C9b
      go_wp2_with fail
      refine (intact_calls ⟨g, 0, none⟩ cap A9 c9 xs w6 HCAP.out (Kd.C_below CX.out B6.out) C9c.out (by have := HL.out; omega) L9.out).mono ?_
      rintro e w7 ⟨rfl, ⟨⟨m7, rfl⟩⟩⟩
      have I7 := Lib.hid (show AgInv w.heap.size g cap xs.length xs w (w6.drewN m7) from ⟨rfl, (RowAt.keeps INV.out.2.1 (Keeps.of_below B6.out) (by simp)).drewN _, below_dn (INV.out.2.2.1.trans (B6.out.mono INV.out.2.2.1.size)), INV.out.2.2.2⟩)
      by_cases hu : i < l1.length ∧ i < l2.length ∧ 0 < xs.length
      · obtain ⟨u1, u2, u3⟩ := hu
        have f1 : decide ((i : Int) < (l1.length : Int)) = true := decide_eq_true (by omega)
        have f1b : decide (i < l1.length) = true := decide_eq_true u1
        have f2 : decide ((i : Int) < (l2.length : Int)) = true := decide_eq_true (by omega)
        have f2b : decide (i < l2.length) = true := decide_eq_true u2
        have f3 : decide (0 < (xs.length : Int)) = true := decide_eq_true (by omega)
        have f3b : decide (0 < xs.length) = true := decide_eq_true u3
        have f4 : ((xs.length : Int) == 0) = false := beq_false_of_ne (by omega)
        have p0 : (0 ≤ (i : Int)) = True := eq_true (Int.natCast_nonneg _)
        have q1 : ((i : Int) < (l1.length : Int)) = True := eq_true (by omega)
        have q2 : ((i : Int) < (l2.length : Int)) = True := eq_true (by omega)
        obtain ⟨ad1, e1, x1⟩ := at_num (Kd.C_below H1.out I7.out.2.2.1) (i : Int) (Int.natCast_nonneg _) (by omega)
        obtain ⟨ad2, e2, y0, y1, y2, y3⟩ := at_T27 (Kd.C_below H2.out I7.out.2.2.1) (i : Int) (Int.natCast_nonneg _) (by omega)
        have hby := T2.out _ (rd_drop l2 (i : Int) (Int.natCast_nonneg _) (by omega)).2
        generalize rd_T27 l2 (i : Int) = tb at y0 y1 y2 y3 hby
        cases e1
        cases e2
        simp only [Int.toNat_natCast] at x1 y0 y1 y2 y3
        obtain ⟨m, hm⟩ : ∃ m : Int, Int.tmod (rd l1 (i : Int)) (xs.length : Int) = m := ⟨_, rfl⟩
        have hm1 : m < (xs.length : Int) := by rw [← hm]; exact Int.tmod_lt_of_pos _ (by omega)
        have hm2 : -(xs.length : Int) < m := by
          have := Int.tmod_lt_of_pos (-(rd l1 (i : Int))) (show 0 < (xs.length : Int) by omega)
          rw [Int.neg_tmod, hm] at this
          omega
        have HM := Lib.hid (And.intro hm1 hm2)
        have HBY := Lib.hid hby
        clear hm1 hm2 u1 u2 hby
        by_cases hneg : m < 0
        · have g1 : decide (m < 0) = true := decide_eq_true hneg
          obtain ⟨J, hJ1, hJ2⟩ : ∃ J : Nat, m + (xs.length : Int) = (J : Int) ∧ J < xs.length := ⟨(m + (xs.length : Int)).toNat, by have := HM.out; omega, by have := HM.out; omega⟩
          have hw : wrap64 (m + (xs.length : Int)) = (J : Int) := by rw [IntWalk.wrap64_in _ (by have := HL.out; omega)]; exact hJ1
          have hw2 : IntKind.i64.wrap (m + (xs.length : Int)) = (J : Int) := (i64_w _).trans hw
          clear hneg hJ1
          have pJ : (0 ≤ (J : Int)) = True := eq_true (Int.natCast_nonneg _)
          have qJ : ((J : Int) < (xs.length : Int)) = True := eq_true (by omega)
          obtain ⟨z0, z1, z2, z3⟩ := tcells_get (xs ++ marks3) J (xs[J]) (by rw [List.getElem?_append_left hJ2, List.getElem?_eq_getElem hJ2])
          have r0 : w6.cell? ⟨g, J * 4, none⟩ = _ := (RowAt.cell I7.out.2.1 (J * 4) (by omega)).trans z0
          have r1 : w6.cell? ⟨g, J * 4 + 1, none⟩ = _ := (RowAt.cell I7.out.2.1 (J * 4 + 1) (by omega)).trans z1
          have r2 : w6.cell? ⟨g, J * 4 + 2, none⟩ = _ := (RowAt.cell I7.out.2.1 (J * 4 + 2) (by omega)).trans z2
          have r3 : w6.cell? ⟨g, J * 4 + 3, none⟩ = _ := (RowAt.cell I7.out.2.1 (J * 4 + 3) (by omega)).trans z3
          have s0 : w6.frozen? ⟨g, J * 4, none⟩ = false := RowAt.frozen I7.out.2.1 _
          have s1 : w6.frozen? ⟨g, J * 4 + 1, none⟩ = false := RowAt.frozen I7.out.2.1 _
          have s2 : w6.frozen? ⟨g, J * 4 + 2, none⟩ = false := RowAt.frozen I7.out.2.1 _
          have s3 : w6.frozen? ⟨g, J * 4 + 3, none⟩ = false := RowAt.frozen I7.out.2.1 _
          clear z0 z1 z2 z3
          go_wp2_with fail
          have I8 := ag_store (m := m7) (AgInv.base I7.out) hJ2 tb HBY.out (Nat.le_refl _)
          generalize hW4 : World.setCell (World.setCell (World.setCell (World.setCell (w6.drewN m7) _ _) _ _) _ _) _ _ = W4 at I8 ⊢
          have I8 := Lib.hid I8
          clear hW4 r0 r1 r2 r3 s0 s1 s2 s3
          refine (kilnlaw11_cut.calls _ 300 _ _ (cut_is tb.f1 300 (by decide))).mono ?_
          rintro e w8 ⟨rfl, ⟨⟨m8, rfl⟩⟩⟩
          have hget : (xs.set J tb)[J]? = some tb := by rw [List.getElem?_set_self hJ2]
          obtain ⟨_, z1, _, _⟩ := tcells_get (xs.set J tb ++ marks3) J tb (by rw [List.getElem?_append_left (by rw [List.length_set]; exact hJ2)]; exact hget)
          have r1 : W4.cell? ⟨g, J * 4 + 1, none⟩ = _ := (RowAt.cell I8.out.2.1 (J * 4 + 1) (by omega)).trans z1
          have s1 : W4.frozen? ⟨g, J * 4 + 1, none⟩ = false := RowAt.frozen I8.out.2.1 _
          have hcs : (mk ((bs tb.f1).take (300 : Int).toNat)).size ≤ 2000000 := by
            rw [mk_size, List.length_take]
            have : (300 : Int).toNat = 300 := rfl
            omega
          have I9 := Lib.hid (ag_text (m := m8) I8.out tb hget _ hcs (Nat.le_refl _))
          clear z1 hget hcs
          go_wp2_with fail
          have hwi : wrap64 ((i : Int) + 1) = ((i + 1 : Nat) : Int) := by rw [IntWalk.wrap64_in _ (by have := HI.out; omega)]; omega
          go_roundg k1
          case rel => exact ⟨i + 1, _, by rw [hwi], Lib.hid (by have := HQ.out; omega), I9⟩
          case measure => exact Nat.lt_succ_self _
        · have g1 : decide (m < 0) = false := decide_eq_false hneg
          obtain ⟨J, hJ1, hJ2⟩ : ∃ J : Nat, m = (J : Int) ∧ J < xs.length := ⟨m.toNat, by omega, by have := HM.out; omega⟩
          subst hJ1
          clear hneg
          have pJ : (0 ≤ (J : Int)) = True := eq_true (Int.natCast_nonneg _)
          have qJ : ((J : Int) < (xs.length : Int)) = True := eq_true (by omega)
          obtain ⟨z0, z1, z2, z3⟩ := tcells_get (xs ++ marks3) J (xs[J]) (by rw [List.getElem?_append_left hJ2, List.getElem?_eq_getElem hJ2])
          have r0 : w6.cell? ⟨g, J * 4, none⟩ = _ := (RowAt.cell I7.out.2.1 (J * 4) (by omega)).trans z0
          have r1 : w6.cell? ⟨g, J * 4 + 1, none⟩ = _ := (RowAt.cell I7.out.2.1 (J * 4 + 1) (by omega)).trans z1
          have r2 : w6.cell? ⟨g, J * 4 + 2, none⟩ = _ := (RowAt.cell I7.out.2.1 (J * 4 + 2) (by omega)).trans z2
          have r3 : w6.cell? ⟨g, J * 4 + 3, none⟩ = _ := (RowAt.cell I7.out.2.1 (J * 4 + 3) (by omega)).trans z3
          have s0 : w6.frozen? ⟨g, J * 4, none⟩ = false := RowAt.frozen I7.out.2.1 _
          have s1 : w6.frozen? ⟨g, J * 4 + 1, none⟩ = false := RowAt.frozen I7.out.2.1 _
          have s2 : w6.frozen? ⟨g, J * 4 + 2, none⟩ = false := RowAt.frozen I7.out.2.1 _
          have s3 : w6.frozen? ⟨g, J * 4 + 3, none⟩ = false := RowAt.frozen I7.out.2.1 _
          clear z0 z1 z2 z3
          go_wp2_with fail
          have I8 := ag_store (m := m7) (AgInv.base I7.out) hJ2 tb HBY.out (Nat.le_refl _)
          generalize hW4 : World.setCell (World.setCell (World.setCell (World.setCell (w6.drewN m7) _ _) _ _) _ _) _ _ = W4 at I8 ⊢
          have I8 := Lib.hid I8
          clear hW4 r0 r1 r2 r3 s0 s1 s2 s3
          refine (kilnlaw11_cut.calls _ 300 _ _ (cut_is tb.f1 300 (by decide))).mono ?_
          rintro e w8 ⟨rfl, ⟨⟨m8, rfl⟩⟩⟩
          have hget : (xs.set J tb)[J]? = some tb := by rw [List.getElem?_set_self hJ2]
          obtain ⟨_, z1, _, _⟩ := tcells_get (xs.set J tb ++ marks3) J tb (by rw [List.getElem?_append_left (by rw [List.length_set]; exact hJ2)]; exact hget)
          have r1 : W4.cell? ⟨g, J * 4 + 1, none⟩ = _ := (RowAt.cell I8.out.2.1 (J * 4 + 1) (by omega)).trans z1
          have s1 : W4.frozen? ⟨g, J * 4 + 1, none⟩ = false := RowAt.frozen I8.out.2.1 _
          have hcs : (mk ((bs tb.f1).take (300 : Int).toNat)).size ≤ 2000000 := by
            rw [mk_size, List.length_take]
            have : (300 : Int).toNat = 300 := rfl
            omega
          have I9 := Lib.hid (ag_text (m := m8) I8.out tb hget _ hcs (Nat.le_refl _))
          clear z1 hget hcs
          go_wp2_with fail
          have hwi : wrap64 ((i : Int) + 1) = ((i + 1 : Nat) : Int) := by rw [IntWalk.wrap64_in _ (by have := HI.out; omega)]; omega
          go_roundg k1
          case rel => exact ⟨i + 1, _, by rw [hwi], Lib.hid (by have := HQ.out; omega), I9⟩
          case measure => exact Nat.lt_succ_self _
      · have hwi : wrap64 ((i : Int) + 1) = ((i + 1 : Nat) : Int) := by rw [IntWalk.wrap64_in _ (by have := HI.out; omega)]; omega
        have HF := Lib.hid (show ∃ (i' : Nat) (xs' : List S27), (Value.int .i64 (wrap64 ((i : Int) + 1))) = .int .i64 (i' : Int) ∧ Hid (k1 + i' = 22) ∧ Hid (AgInv w.heap.size g cap xs.length xs' w (w6.drewN m7)) from ⟨i + 1, xs, by rw [hwi], Lib.hid (by have := HQ.out; omega), I7⟩)
        by_cases u1 : i < l1.length
        · have f1 : decide ((i : Int) < (l1.length : Int)) = true := decide_eq_true (by omega)
          have f1b : decide (i < l1.length) = true := decide_eq_true u1
          by_cases u2 : i < l2.length
          · have f2 : decide ((i : Int) < (l2.length : Int)) = true := decide_eq_true (by omega)
            have f2b : decide (i < l2.length) = true := decide_eq_true u2
            have u3 : ¬ 0 < xs.length := fun h => hu ⟨u1, u2, h⟩
            have f3 : decide (0 < (xs.length : Int)) = false := decide_eq_false (by omega)
            have f3b : decide (0 < xs.length) = false := decide_eq_false u3
            clear u1 u2 u3 hu
            go_wp2_with fail
            go_roundg k1
            case rel => exact HF.out
            case measure => exact Nat.lt_succ_self _
          · have f2 : decide ((i : Int) < (l2.length : Int)) = false := decide_eq_false (by omega)
            have f2b : decide (i < l2.length) = false := decide_eq_false u2
            clear u1 u2 hu
            go_wp2_with fail
            go_roundg k1
            case rel => exact HF.out
            case measure => exact Nat.lt_succ_self _
        · have f1 : decide ((i : Int) < (l1.length : Int)) = false := decide_eq_false (by omega)
          have f1b : decide (i < l1.length) = false := decide_eq_false u1
          clear u1 hu
          go_wp2_with fail
          go_roundg k1
          case rel => exact HF.out
          case measure => exact Nat.lt_succ_self _
    · have HF := Lib.hid (show AgPost w (.returned (.bool true)) wr from ⟨rfl, INV.out.2.2.1⟩)
      by_cases u1 : i ≤ l1.length
      · have u2 : ¬ i ≤ 20 := fun h => hi ⟨u1, h⟩
        have f1 : decide ((i : Int) ≤ (l1.length : Int)) = true := decide_eq_true (by omega)
        have f1b : decide (i ≤ l1.length) = true := decide_eq_true u1
        have f2 : decide ((i : Int) ≤ 20) = false := decide_eq_false (by omega)
        clear u1 u2 hi
        go_wp2
        go_ret
        exact HF.out
      · have f1 : decide ((i : Int) ≤ (l1.length : Int)) = false := decide_eq_false (by omega)
        have f1b : decide (i ≤ l1.length) = false := decide_eq_false u1
        clear u1 hi
        go_wp2
        go_ret
        exact HF.out
set_option maxHeartbeats 8000000 in
set_option maxRecDepth 100000 in
theorem again_long (A0 : Option Addr) (c0 : Nat) (n0 : Nat) (l0 : List S27) (A1 : Option Addr) (c1 : Nat) (l1 : List Int) (A2 : Option Addr) (c2 : Nat) (l2 : List S27) (w : World)
    (hr0 : Kd.C k27 w A0 l0.length l0) (hc0 : l0.length ≤ c0) (hr1 : Kd.C (Kd.int .i64) w A1 l1.length l1) (hc1 : l1.length ≤ c1) (hr2 : Kd.C k27 w A2 l2.length l2) (hc2 : l2.length ≤ c2)
    (ht0 : ∀ t ∈ l0, t.f1.size ≤ 2000000) (ht2 : ∀ t ∈ l2, t.f1.size ≤ 2000000) (hn0 : 100 < n0) (hl : l0.length = 100) :
    Calls Try.prog 12 #[.slice A0 n0 c0, .slice A1 l1.length c1, .slice A2 l2.length c2] w (AgPost w) := by
  obtain ⟨kt, hT⟩ := Ev.rounds Told_ev
  have hnl : l0.length ≤ 100 := by omega
  have cs0 : decide ((n0 : Int) > 100) = true := decide_eq_true (by omega)
  have cs1 : decide (100 < (n0 : Int)) = true := cs0
  have cs2 : ((100 : Int) < (n0 : Int)) = True := eq_true (by omega)
  obtain ⟨i0, hi0, _⟩ := info_parts info27
  have hcap0 := cut_cap (P := Try.prog) 25 27 .i64 Try.underlying25 hi0 A0 n0 c0 (100 : Int) (by omega) (by omega)
  have hcut : ∀ W : World, (Instr.slice 25 (.slice A0 n0 c0) none (some (.int .i64 100)) none).run Try.prog W = .ok (.slice A0 l0.length c0) W := fun W => by rw [hcap0 W, hl]; rfl
  clear hi0 hcap0 hl hn0
  have HT := Lib.hid hT
  have H0 := Lib.hid hr0
  have C0 := Lib.hid hc0
  have H1 := Lib.hid hr1
  have C1 := Lib.hid hc1
  have H2 := Lib.hid hr2
  have C2 := Lib.hid hc2
  have HL := Lib.hid hnl
  have T0 := Lib.hid ht0
  have T2 := Lib.hid ht2
  clear hT hr0 hc0 hr1 hc1 hr2 hc2 hnl ht0 ht2
  go_enter Try.func12, Try.ntmps12
  go_wp2_with fail
  refine (kilnlaw11_Told.calls kt true w HT.out).mono ?_
  rintro e w1 ⟨rfl, hb1⟩
  have B1 := Lib.hid hb1
  clear hb1
  go_wp2_with fail
  refine (laid_calls A0 c0 l0 w1 (Kd.C_below H0.out B1.out) (by have := HL.out; omega)).mono ?_
  rintro e w3 ⟨A', cap, hcap, rfl, hR, hb3⟩
  have hml : (l0 ++ marks3).length = l0.length + 3 := by rw [List.length_append]; rfl
  have hown := (R_has hR hb3.size).get 0 rfl
  obtain ⟨g, cap', hv, _⟩ := own_some (show w3.ownsRow 0 27 4 (.slice A' (l0.length + 3) cap) (l0 ++ marks3).length (tcells (l0 ++ marks3)) from hown) (by rw [hml]; omega)
  have hg : w1.heap.size ≤ g := (R_has hR hb3.size).ge g (by rw [hml] at hv; simp [fps, tkT, rowT, hv, Value.ownBlock])
  obtain ⟨rfl, rfl⟩ : A' = some ⟨g, 0, none⟩ ∧ cap = cap' := by
    simp only [Value.slice.injEq] at hv
    exact ⟨hv.1, hv.2.2⟩
  have hrow := R_row hml hR hb3.size
  have INV := Lib.hid (show AgInv w.heap.size g cap l0.length l0 w w3 from ⟨rfl, hrow, B1.out.trans (hb3.mono B1.out.size), Nat.le_trans B1.out.size hg, T0.out⟩)
  have HCAP := Lib.hid hcap
  obtain ⟨n, hn⟩ : ∃ n, n = l0.length := ⟨_, rfl⟩
  rw [← hn] at INV HL HCAP
  clear hR hb3 hv hg hrow hcap hml hown
  rw [← hn]
  clear hn
  go_wp2_with fail
  go_loopg [8] 22 (fun q s8 wr => ∃ (i : Nat) (xs : List S27), s8 = .int .i64 (i : Int) ∧ Hid (q + i = 22) ∧ Hid (AgInv w.heap.size g cap n xs w wr))
  case atStart => exact ⟨0, l0, rfl, Lib.hid rfl, INV⟩
  case round =>
    clear INV
    obtain ⟨i, xs, rfl, HQ, INV⟩ := hrel
    have hn := INV.out.1
    subst hn
    by_cases hi : i ≤ l1.length ∧ i ≤ 20
    · cases gk with
      | zero => exact absurd HQ.out (by omega)
      | succ k1 =>
      have HI := Lib.hid hi
      have d1 : decide ((i : Int) ≤ (l1.length : Int)) = true := decide_eq_true (by omega)
      have d1b : decide (i ≤ l1.length) = true := decide_eq_true hi.1
      have d2 : decide ((i : Int) ≤ 20) = true := decide_eq_true (by omega)
      obtain ⟨kx, t, er, hx1, hx2⟩ := print_rounds xs (by have := HL.out; omega) INV.out.2.2.2.2
      have X1 := Lib.hid hx1
      have X2 := Lib.hid hx2
      have hml : (xs ++ marks3).length = xs.length + 3 := by rw [List.length_append]; rfl
      have hCx := row_C (l := xs ++ marks3) (by have := INV.out.2.1; rw [hml]; exact this) (by rw [hml]; have := HL.out; omega)
      have CX := Lib.hid hCx
      have hT := Kd.C_take (m := xs.length) hCx (by simp)
      rw [List.take_left] at hT
      have CT := Lib.hid hT
      clear hx1 hx2 hCx hT hml hi
      go_wp2_with (at_builtin; refine Kd.R_append_rows k27 (w0 := wr) wr.heap.size rfl (.const (.slice none 0 0)) (.tmp 34) 25 27 (.agg #[(.int .i64 0), (.string ⟨#[]⟩), (.int .i64 0), (.int .i64 0)]) 40 rfl Try.underlying25 info27 rfl (by decide) (by omega) (.slice none 0 0) ([] : List S27) xs _ _ _ (fun _ => True) (fun _ => False) rfl rfl (Kd.R_nil _ _ _ _ (fun _ => True)) CT.out (fun _ _ h => h) (fun _ h => h.elim) (fun _ _ => trivial) (Below.refl _ _) (Nat.le_refl _) (by have := HL.out; simp; omega) ?_)
      intro v4 w4 ho hb4 hg4 hat
      have ho : Kd.R k27 27 w4 wr.heap.size (fun _ => True) v4 xs := ho
      have hown := (R_has ho hb4.size).get 0 rfl
      obtain ⟨A9, c9, rfl, hl9, hC9⟩ : ∃ A c, v4 = .slice A xs.length c ∧ xs.length ≤ c ∧ Kd.C k27 w4 A xs.length xs := Kd.R_reads ho
      have L9 := Lib.hid hl9
      have C9 := Lib.hid hC9
      have B4 := Lib.hid hb4
      clear ho hb4 hg4 hat hl9 hC9 hown
      go_wp2_with fail
      refine (token_Print.calls kx (some ⟨g, 0, none⟩) cap xs t er w4 (Kd.C_below CT.out B4.out) (by have := HCAP.out; omega) X1.out).mono ?_
      rintro e w5 ⟨rfl, hb5⟩
      have B5 := Lib.hid (B4.out.trans (hb5.mono B4.out.size))
      have C9b := Lib.hid (Kd.C_below C9.out hb5)
      clear hb5 C9
      go_wp2_with fail
      refine (kilnref11_Print.calls kx A9 c9 xs t er w5 C9b.out L9.out X2.out).mono ?_
      rintro e w6 ⟨rfl, hb6⟩
      have B6 := Lib.hid (B5.out.trans (hb6.mono B5.out.size))
      have C9c := Lib.hid (Kd.C_below C9b.out hb6)
      clear hb6 C9b
      go_wp2_with fail
      refine (intact_calls ⟨g, 0, none⟩ cap A9 c9 xs w6 HCAP.out (Kd.C_below CX.out B6.out) C9c.out (by have := HL.out; omega) L9.out).mono ?_
      rintro e w7 ⟨rfl, ⟨⟨m7, rfl⟩⟩⟩
      have I7 := Lib.hid (show AgInv w.heap.size g cap xs.length xs w (w6.drewN m7) from ⟨rfl, (RowAt.keeps INV.out.2.1 (Keeps.of_below B6.out) (by simp)).drewN _, below_dn (INV.out.2.2.1.trans (B6.out.mono INV.out.2.2.1.size)), INV.out.2.2.2⟩)
      by_cases hu : i < l1.length ∧ i < l2.length ∧ 0 < xs.length
      · obtain ⟨u1, u2, u3⟩ := hu
        have f1 : decide ((i : Int) < (l1.length : Int)) = true := decide_eq_true (by omega)
        have f1b : decide (i < l1.length) = true := decide_eq_true u1
        have f2 : decide ((i : Int) < (l2.length : Int)) = true := decide_eq_true (by omega)
        have f2b : decide (i < l2.length) = true := decide_eq_true u2
        have f3 : decide (0 < (xs.length : Int)) = true := decide_eq_true (by omega)
        have f3b : decide (0 < xs.length) = true := decide_eq_true u3
        have f4 : ((xs.length : Int) == 0) = false := beq_false_of_ne (by omega)
        have p0 : (0 ≤ (i : Int)) = True := eq_true (Int.natCast_nonneg _)
        have q1 : ((i : Int) < (l1.length : Int)) = True := eq_true (by omega)
        have q2 : ((i : Int) < (l2.length : Int)) = True := eq_true (by omega)
        obtain ⟨ad1, e1, x1⟩ := at_num (Kd.C_below H1.out I7.out.2.2.1) (i : Int) (Int.natCast_nonneg _) (by omega)
        obtain ⟨ad2, e2, y0, y1, y2, y3⟩ := at_T27 (Kd.C_below H2.out I7.out.2.2.1) (i : Int) (Int.natCast_nonneg _) (by omega)
        have hby := T2.out _ (rd_drop l2 (i : Int) (Int.natCast_nonneg _) (by omega)).2
        generalize rd_T27 l2 (i : Int) = tb at y0 y1 y2 y3 hby
        cases e1
        cases e2
        simp only [Int.toNat_natCast] at x1 y0 y1 y2 y3
        obtain ⟨m, hm⟩ : ∃ m : Int, Int.tmod (rd l1 (i : Int)) (xs.length : Int) = m := ⟨_, rfl⟩
        have hm1 : m < (xs.length : Int) := by rw [← hm]; exact Int.tmod_lt_of_pos _ (by omega)
        have hm2 : -(xs.length : Int) < m := by
          have := Int.tmod_lt_of_pos (-(rd l1 (i : Int))) (show 0 < (xs.length : Int) by omega)
          rw [Int.neg_tmod, hm] at this
          omega
        have HM := Lib.hid (And.intro hm1 hm2)
        have HBY := Lib.hid hby
        clear hm1 hm2 u1 u2 hby
        by_cases hneg : m < 0
        · have g1 : decide (m < 0) = true := decide_eq_true hneg
          obtain ⟨J, hJ1, hJ2⟩ : ∃ J : Nat, m + (xs.length : Int) = (J : Int) ∧ J < xs.length := ⟨(m + (xs.length : Int)).toNat, by have := HM.out; omega, by have := HM.out; omega⟩
          have hw : wrap64 (m + (xs.length : Int)) = (J : Int) := by rw [IntWalk.wrap64_in _ (by have := HL.out; omega)]; exact hJ1
          have hw2 : IntKind.i64.wrap (m + (xs.length : Int)) = (J : Int) := (i64_w _).trans hw
          clear hneg hJ1
          have pJ : (0 ≤ (J : Int)) = True := eq_true (Int.natCast_nonneg _)
          have qJ : ((J : Int) < (xs.length : Int)) = True := eq_true (by omega)
          obtain ⟨z0, z1, z2, z3⟩ := tcells_get (xs ++ marks3) J (xs[J]) (by rw [List.getElem?_append_left hJ2, List.getElem?_eq_getElem hJ2])
          have r0 : w6.cell? ⟨g, J * 4, none⟩ = _ := (RowAt.cell I7.out.2.1 (J * 4) (by omega)).trans z0
          have r1 : w6.cell? ⟨g, J * 4 + 1, none⟩ = _ := (RowAt.cell I7.out.2.1 (J * 4 + 1) (by omega)).trans z1
          have r2 : w6.cell? ⟨g, J * 4 + 2, none⟩ = _ := (RowAt.cell I7.out.2.1 (J * 4 + 2) (by omega)).trans z2
          have r3 : w6.cell? ⟨g, J * 4 + 3, none⟩ = _ := (RowAt.cell I7.out.2.1 (J * 4 + 3) (by omega)).trans z3
          have s0 : w6.frozen? ⟨g, J * 4, none⟩ = false := RowAt.frozen I7.out.2.1 _
          have s1 : w6.frozen? ⟨g, J * 4 + 1, none⟩ = false := RowAt.frozen I7.out.2.1 _
          have s2 : w6.frozen? ⟨g, J * 4 + 2, none⟩ = false := RowAt.frozen I7.out.2.1 _
          have s3 : w6.frozen? ⟨g, J * 4 + 3, none⟩ = false := RowAt.frozen I7.out.2.1 _
          clear z0 z1 z2 z3
          go_wp2_with fail
          have I8 := ag_store (m := m7) (AgInv.base I7.out) hJ2 tb HBY.out (Nat.le_refl _)
          generalize hW4 : World.setCell (World.setCell (World.setCell (World.setCell (w6.drewN m7) _ _) _ _) _ _) _ _ = W4 at I8 ⊢
          have I8 := Lib.hid I8
          clear hW4 r0 r1 r2 r3 s0 s1 s2 s3
          refine (kilnlaw11_cut.calls _ 300 _ _ (cut_is tb.f1 300 (by decide))).mono ?_
          rintro e w8 ⟨rfl, ⟨⟨m8, rfl⟩⟩⟩
          have hget : (xs.set J tb)[J]? = some tb := by rw [List.getElem?_set_self hJ2]
          obtain ⟨_, z1, _, _⟩ := tcells_get (xs.set J tb ++ marks3) J tb (by rw [List.getElem?_append_left (by rw [List.length_set]; exact hJ2)]; exact hget)
          have r1 : W4.cell? ⟨g, J * 4 + 1, none⟩ = _ := (RowAt.cell I8.out.2.1 (J * 4 + 1) (by omega)).trans z1
          have s1 : W4.frozen? ⟨g, J * 4 + 1, none⟩ = false := RowAt.frozen I8.out.2.1 _
          have hcs : (mk ((bs tb.f1).take (300 : Int).toNat)).size ≤ 2000000 := by
            rw [mk_size, List.length_take]
            have : (300 : Int).toNat = 300 := rfl
            omega
          have I9 := Lib.hid (ag_text (m := m8) I8.out tb hget _ hcs (Nat.le_refl _))
          clear z1 hget hcs
          go_wp2_with fail
          have hwi : wrap64 ((i : Int) + 1) = ((i + 1 : Nat) : Int) := by rw [IntWalk.wrap64_in _ (by have := HI.out; omega)]; omega
          go_roundg k1
          case rel => exact ⟨i + 1, _, by rw [hwi], Lib.hid (by have := HQ.out; omega), I9⟩
          case measure => exact Nat.lt_succ_self _
        · have g1 : decide (m < 0) = false := decide_eq_false hneg
          obtain ⟨J, hJ1, hJ2⟩ : ∃ J : Nat, m = (J : Int) ∧ J < xs.length := ⟨m.toNat, by omega, by have := HM.out; omega⟩
          subst hJ1
          clear hneg
          have pJ : (0 ≤ (J : Int)) = True := eq_true (Int.natCast_nonneg _)
          have qJ : ((J : Int) < (xs.length : Int)) = True := eq_true (by omega)
          obtain ⟨z0, z1, z2, z3⟩ := tcells_get (xs ++ marks3) J (xs[J]) (by rw [List.getElem?_append_left hJ2, List.getElem?_eq_getElem hJ2])
          have r0 : w6.cell? ⟨g, J * 4, none⟩ = _ := (RowAt.cell I7.out.2.1 (J * 4) (by omega)).trans z0
          have r1 : w6.cell? ⟨g, J * 4 + 1, none⟩ = _ := (RowAt.cell I7.out.2.1 (J * 4 + 1) (by omega)).trans z1
          have r2 : w6.cell? ⟨g, J * 4 + 2, none⟩ = _ := (RowAt.cell I7.out.2.1 (J * 4 + 2) (by omega)).trans z2
          have r3 : w6.cell? ⟨g, J * 4 + 3, none⟩ = _ := (RowAt.cell I7.out.2.1 (J * 4 + 3) (by omega)).trans z3
          have s0 : w6.frozen? ⟨g, J * 4, none⟩ = false := RowAt.frozen I7.out.2.1 _
          have s1 : w6.frozen? ⟨g, J * 4 + 1, none⟩ = false := RowAt.frozen I7.out.2.1 _
          have s2 : w6.frozen? ⟨g, J * 4 + 2, none⟩ = false := RowAt.frozen I7.out.2.1 _
          have s3 : w6.frozen? ⟨g, J * 4 + 3, none⟩ = false := RowAt.frozen I7.out.2.1 _
          clear z0 z1 z2 z3
          go_wp2_with fail
          have I8 := ag_store (m := m7) (AgInv.base I7.out) hJ2 tb HBY.out (Nat.le_refl _)
          generalize hW4 : World.setCell (World.setCell (World.setCell (World.setCell (w6.drewN m7) _ _) _ _) _ _) _ _ = W4 at I8 ⊢
          have I8 := Lib.hid I8
          clear hW4 r0 r1 r2 r3 s0 s1 s2 s3
          refine (kilnlaw11_cut.calls _ 300 _ _ (cut_is tb.f1 300 (by decide))).mono ?_
          rintro e w8 ⟨rfl, ⟨⟨m8, rfl⟩⟩⟩
          have hget : (xs.set J tb)[J]? = some tb := by rw [List.getElem?_set_self hJ2]
          obtain ⟨_, z1, _, _⟩ := tcells_get (xs.set J tb ++ marks3) J tb (by rw [List.getElem?_append_left (by rw [List.length_set]; exact hJ2)]; exact hget)
          have r1 : W4.cell? ⟨g, J * 4 + 1, none⟩ = _ := (RowAt.cell I8.out.2.1 (J * 4 + 1) (by omega)).trans z1
          have s1 : W4.frozen? ⟨g, J * 4 + 1, none⟩ = false := RowAt.frozen I8.out.2.1 _
          have hcs : (mk ((bs tb.f1).take (300 : Int).toNat)).size ≤ 2000000 := by
            rw [mk_size, List.length_take]
            have : (300 : Int).toNat = 300 := rfl
            omega
          have I9 := Lib.hid (ag_text (m := m8) I8.out tb hget _ hcs (Nat.le_refl _))
          clear z1 hget hcs
          go_wp2_with fail
          have hwi : wrap64 ((i : Int) + 1) = ((i + 1 : Nat) : Int) := by rw [IntWalk.wrap64_in _ (by have := HI.out; omega)]; omega
          go_roundg k1
          case rel => exact ⟨i + 1, _, by rw [hwi], Lib.hid (by have := HQ.out; omega), I9⟩
          case measure => exact Nat.lt_succ_self _
      · have hwi : wrap64 ((i : Int) + 1) = ((i + 1 : Nat) : Int) := by rw [IntWalk.wrap64_in _ (by have := HI.out; omega)]; omega
        have HF := Lib.hid (show ∃ (i' : Nat) (xs' : List S27), (Value.int .i64 (wrap64 ((i : Int) + 1))) = .int .i64 (i' : Int) ∧ Hid (k1 + i' = 22) ∧ Hid (AgInv w.heap.size g cap xs.length xs' w (w6.drewN m7)) from ⟨i + 1, xs, by rw [hwi], Lib.hid (by have := HQ.out; omega), I7⟩)
        by_cases u1 : i < l1.length
        · have f1 : decide ((i : Int) < (l1.length : Int)) = true := decide_eq_true (by omega)
          have f1b : decide (i < l1.length) = true := decide_eq_true u1
          by_cases u2 : i < l2.length
          · have f2 : decide ((i : Int) < (l2.length : Int)) = true := decide_eq_true (by omega)
            have f2b : decide (i < l2.length) = true := decide_eq_true u2
            have u3 : ¬ 0 < xs.length := fun h => hu ⟨u1, u2, h⟩
            have f3 : decide (0 < (xs.length : Int)) = false := decide_eq_false (by omega)
            have f3b : decide (0 < xs.length) = false := decide_eq_false u3
            clear u1 u2 u3 hu
            go_wp2_with fail
            go_roundg k1
            case rel => exact HF.out
            case measure => exact Nat.lt_succ_self _
          · have f2 : decide ((i : Int) < (l2.length : Int)) = false := decide_eq_false (by omega)
            have f2b : decide (i < l2.length) = false := decide_eq_false u2
            clear u1 u2 hu
            go_wp2_with fail
            go_roundg k1
            case rel => exact HF.out
            case measure => exact Nat.lt_succ_self _
        · have f1 : decide ((i : Int) < (l1.length : Int)) = false := decide_eq_false (by omega)
          have f1b : decide (i < l1.length) = false := decide_eq_false u1
          clear u1 hu
          go_wp2_with fail
          go_roundg k1
          case rel => exact HF.out
          case measure => exact Nat.lt_succ_self _
    · have HF := Lib.hid (show AgPost w (.returned (.bool true)) wr from ⟨rfl, INV.out.2.2.1⟩)
      by_cases u1 : i ≤ l1.length
      · have u2 : ¬ i ≤ 20 := fun h => hi ⟨u1, h⟩
        have f1 : decide ((i : Int) ≤ (l1.length : Int)) = true := decide_eq_true (by omega)
        have f1b : decide (i ≤ l1.length) = true := decide_eq_true u1
        have f2 : decide ((i : Int) ≤ 20) = false := decide_eq_false (by omega)
        clear u1 u2 hi
        go_wp2
        go_ret
        exact HF.out
      · have f1 : decide ((i : Int) ≤ (l1.length : Int)) = false := decide_eq_false (by omega)
        have f1b : decide (i ≤ l1.length) = false := decide_eq_false u1
        clear u1 hi
        go_wp2
        go_ret
        exact HF.out
theorem again_calls (A0 : Option Addr) (c0 : Nat) (l0 : List S27) (A1 : Option Addr) (c1 : Nat) (l1 : List Int) (A2 : Option Addr) (c2 : Nat) (l2 : List S27) (w : World)
    (hr0 : Kd.C k27 w A0 l0.length l0) (hc0 : l0.length ≤ c0) (hr1 : Kd.C (Kd.int .i64) w A1 l1.length l1) (hc1 : l1.length ≤ c1) (hr2 : Kd.C k27 w A2 l2.length l2) (hc2 : l2.length ≤ c2)
    (ht0 : ∀ t ∈ l0, t.f1.size ≤ 2000000) (ht2 : ∀ t ∈ l2, t.f1.size ≤ 2000000) :
    Calls Try.prog 12 #[.slice A0 l0.length c0, .slice A1 l1.length c1, .slice A2 l2.length c2] w (AgPost w) := by
  by_cases hs : l0.length ≤ 100
  · exact again_short A0 c0 l0 A1 c1 l1 A2 c2 l2 w hr0 hc0 hr1 hc1 hr2 hc2 ht0 ht2 hs
  · have hl : (l0.take 100).length = 100 := by rw [List.length_take]; omega
    exact again_long A0 c0 l0.length (l0.take 100) A1 c1 l1 A2 c2 l2 w (Kd.C_take (m := 100) hr0 (by omega)) (by omega) hr1 hc1 hr2 hc2 (fun t ht => ht0 t (List.mem_of_mem_take ht)) ht2 (by omega) hl
theorem kilnlaw11_TokenAgain.calls (k : Nat) (A0 : Option Addr) (c0 : Nat) (l0 : List S27) (A1 : Option Addr) (c1 : Nat) (l1 : List Int) (A2 : Option Addr) (c2 : Nat) (l2 : List S27) (r : Bool) (w : World)
    (hr0 : Kd.C k27 w A0 l0.length l0) (hc0 : l0.length ≤ c0) (hr1 : Kd.C (Kd.int .i64) w A1 l1.length l1) (hc1 : l1.length ≤ c1) (hr2 : Kd.C k27 w A2 l2.length l2) (hc2 : l2.length ≤ c2)
    (h : r = true ∧ (∀ t ∈ l0, t.f1.size ≤ 2000000) ∧ (∀ t ∈ l2, t.f1.size ≤ 2000000)) :
    Calls Try.prog 12 #[.slice A0 l0.length c0, .slice A1 l1.length c1, .slice A2 l2.length c2] w fun e w' => e = .returned (.bool r) ∧ Below w.heap.size w w' := by
  obtain ⟨rfl, h0, h2⟩ := h
  exact again_calls A0 c0 l0 A1 c1 l1 A2 c2 l2 w hr0 hc0 hr1 hc1 hr2 hc2 h0 h2
end Go.Proofs.Ytnmmapjcphefpaa.G

/- Lists that are written full with marks and lengthened: a list and what it has been lengthened to (a thing), for elements of any size. -/
set_option linter.unusedVariables false
set_option linter.unusedSimpArgs false
namespace Go.Proofs.Ytnmmapjcphefpaa
open Go.RowKit
set_option maxRecDepth 10000

theorem Has.drops {B : Nat} {w : World} {L : List Thing} : ∀ D : List Thing, Has B w (D ++ L) → Has B w L
  | [], h => h
  | _ :: D, h => Has.drops D h.tail
theorem own_len {w : World} {base : Nat} {e : TypeId} {size n : Nat} {v : Value} {xs : List Value} (h : w.ownsRow base e size v n xs) : ∃ ao cap, v = .slice ao n cap := by
  rcases own_form h with ⟨rfl, rfl, _⟩ | ⟨g, cap, rfl, _⟩
  · exact ⟨none, 0, rfl⟩
  · exact ⟨_, _, rfl⟩
/-- a list v of n elements x, and what it has been lengthened to: g, of m elements x -/
structure PI where
  v : Value
  g : Value
  n : Nat
  m : Nat
  x : List Value
def same (n : Nat) (x : List Value) : List Value := (List.replicate n x).flatten
theorem same_succ (n : Nat) (x : List Value) : same n x ++ x = same (n + 1) x := by
  unfold same
  rw [List.replicate_succ', List.flatten_append]
  simp
theorem same_len (n sz : Nat) (x : List Value) (h : x.length = sz) : (same n x).length = n * sz := by
  unfold same
  rw [List.length_flatten]
  simp [h]
theorem same_take (n m sz : Nat) (x : List Value) (h : x.length = sz) (hn : n ≤ m) : (same m x).take (n * sz) = same n x := by
  have e : same m x = same n x ++ same (m - n) x := by
    unfold same
    rw [← List.flatten_append, ← List.replicate_append_replicate.symm] <;> simp [hn]
  rw [e]
  exact List.take_left' (same_len n sz x h)
def pT (e : TypeId) (sz : Nat) (p : PI) : Thing where
  fp := p.v.ownBlock.toList ++ (if p.g.ownBlock = p.v.ownBlock then [] else p.g.ownBlock.toList)
  P := fun w => w.ownsRow 0 e sz p.v p.n (same p.n p.x) ∧ w.ownsRow 0 e sz p.g p.m (same p.m p.x) ∧ (p.g.ownBlock = p.v.ownBlock → ∃ ao cap, p.v = .slice ao p.n cap ∧ p.g = .slice ao p.m cap ∧ p.n ≤ p.m)
  loc := fun h hk => by
    refine ⟨ownsRow_local h.1 fun k e => hk k (by simp [e]), ownsRow_local h.2.1 fun k e => hk k ?_, h.2.2⟩
    by_cases hs : p.g.ownBlock = p.v.ownBlock
    · rw [e] at hs; simp [← hs]
    · have hs' := hs
      rw [e] at hs'
      simp [hs, e]
      exact .inr hs'
  lt := fun h k hk => by
    rcases List.mem_append.1 hk with h1 | h1
    · exact (World.ownsRow.lt h.1 k (by simpa using h1)).2
    · split at h1
      · simp at h1
      · exact (World.ownsRow.lt h.2.1 k (by simpa using h1)).2
theorem pT_start {B : Nat} {w : World} {L : List Thing} {v : Value} {e : TypeId} {sz n : Nat} {x : List Value} (h : Has B w (rowT v e sz n (same n x) :: L)) : Has B w (pT e sz ⟨v, v, n, n, x⟩ :: L) := by
  have hr := h.get 0 rfl
  refine (h.head (t' := pT e sz ⟨v, v, n, n, x⟩) (Keeps.refl _ _) ⟨hr, hr, fun _ => ?_⟩ ?_ ?_).1
  · obtain ⟨ao, cap, rfl⟩ := own_len hr
    exact ⟨ao, cap, rfl, rfl, Nat.le_refl _⟩
  · simp only [pT, if_pos, List.append_nil]; cases v.ownBlock <;> simp
  · intro k hk; left; simpa [pT, rowT] using hk

section
variable {P : Program} {ops : Array Oper} {rest : List Oper} {o : Oper} {a : Act} {Q : Exit → Act → World → Prop}

/-- append of one element: in place, or elsewhere with all else left as it was -/
theorem wp_push_where {W : World} (hgd : o.guard = none) (s x : Operand) (t e : TypeId) (z : Value) (size bytes : Nat)
    (ho : o.op = .call { callee := .builtin .append, args := #[s, x], argTypes := #[t, t] })
    (ht : P.underlying t = some (.slice e)) (hinfo : (P.info? e).map (fun i => (i.zero, i.size, i.bytes)) = some (some z, size, bytes)) (hz : z.cells.size = size) (hs0 : 0 < size) (hb0 : 0 < bytes)
    (v : Value) (n : Nat) (xs : List Value) (cs : Array Value) (hs : a.eval s = v) {H : Nat} (hx : a.eval x = .slice (some ⟨H, 0, none⟩) 1 1) (hH : W.heap.size = H) (hcs : cs.size = size) (h1 : ∀ u ∈ cs.toList, u.oneCell' = true)
    (HO : W.ownsRow 0 e size v n xs) (hl : (n + 1) * bytes ≤ 140737488355328)
    (hfit : ∀ g cap w1, v = .slice (some ⟨g, 0, none⟩) n cap → RowAt w1 g e size (n + 1) cap (xs ++ cs.toList) → Keeps [g] W w1 → wpList P ops Q rest (a.put o.dst (.slice (some ⟨g, 0, none⟩) (n + 1) cap)) w1)
    (hgrow : ∀ v1 w1, w1.ownsRow 0 e size v1 (n + 1) (xs ++ cs.toList) → Keeps [] W w1 → (∀ k, v1.ownBlock = some k → W.heap.size ≤ k) → wpList P ops Q rest (a.put o.dst v1) w1) :
    wpList P ops Q (o :: rest) a (W.alloc (.cells cs e)) := by
  have hc : ∀ j u, cs.toList[j]? = some u → (W.alloc (.cells cs e)).cell? ((⟨H, 0, none⟩ : Addr).add j) = some u := by
    intro j u hj
    have e2 : (⟨H, 0, none⟩ : Addr).add j = ⟨H, j, none⟩ := by unfold Addr.add; split <;> simp_all
    rw [e2, ← hH, (StrAt.new W cs e).cell j]
    simpa using hj
  have hlen : n + 1 ≤ 140737488355328 := Nat.le_trans (Nat.le_mul_of_pos_right _ hb0) hl
  have grows : ∀ (ao : Option Addr) (cap : Nat), v = .slice ao n cap → (ao = none → n = 0 ∧ cap = 0) → cap < n + 1 → (∀ b, ao = some b → ∀ j u, xs[j]? = some u → (W.alloc (.cells cs e)).cell? (b.add j) = some u) → wpList P ops Q (o :: rest) a (W.alloc (.cells cs e)) := by
    intro ao cap hv hnone hcap hcells
    obtain ⟨i0, hi, hzz⟩ := Option.map_eq_some_iff.1 hinfo
    simp only [Prod.mk.injEq] at hzz
    obtain ⟨hz0, hz1, hz2⟩ := hzz
    refine wpList_append_grows (W.alloc (.cells cs e)) hgd s x t ho e i0 z size bytes ht hi hz0 hz1 hz2 hz hs0 ao n cap xs (hs.trans hv) hnone HO.1 hcells ⟨H, 0, none⟩ 1 1 cs.toList hx (by simp [hcs]) hc h1 hcap (by simp only [maxLen]; omega) hl ?_
    intro v' w' hown hg
    have hk : Keeps [] W w' := ((Keeps.refl [] W).alloc _).trans (Keeps.of_grownBy hg) (by simp)
    refine hgrow v' w' ⟨hown.1, ?_⟩ hk ?_
    · rcases hown.2 with h1 | ⟨g, cap, cur, h1, h2, h3⟩
      · exact .inl h1
      · exact .inr ⟨g, cap, cur, h1, Nat.zero_le _, h3⟩
    · intro k e
      have := (World.ownsRow.lt hown k e).1
      simp at this
      omega
  rcases own_form HO with ⟨rfl, rfl, rfl⟩ | ⟨g, cap, rfl, hr⟩
  · exact grows none 0 rfl (fun _ => ⟨rfl, rfl⟩) (by omega) (fun b hb => by cases hb)
  · by_cases hc1 : n + 1 ≤ cap
    · refine wp_push_fits hgd s x t e z size bytes ho ht hinfo g n cap xs cs hs hx hH hcs h1 hr hc1 fun w1 hr1 hk => hfit g cap w1 rfl hr1 hk
    · refine grows (some ⟨g, 0, none⟩) cap rfl (fun h => by cases h) (by omega) (fun b hb j u hj => ?_)
      cases hb
      exact World.ownsRow.cells (hr.alloc _) (g := g) rfl j u hj

/-- the same, of a list and what it has been lengthened to -/
theorem wp_push_pair {B : Nat} {W : World} {e : TypeId} {sz bytes : Nat} {z : Value} {p : PI} {L : List Thing} (HO : Has B W (pT e sz p :: L)) (hgd : o.guard = none) (s x : Operand) (t : TypeId)
    (ho : o.op = .call { callee := .builtin .append, args := #[s, x], argTypes := #[t, t] })
    (ht : P.underlying t = some (.slice e)) (hinfo : (P.info? e).map (fun i => (i.zero, i.size, i.bytes)) = some (some z, sz, bytes)) (hz : z.cells.size = sz) (hs0 : 0 < sz) (hb0 : 0 < bytes)
    (cs : Array Value) (hcs : cs.toList = p.x) (hsz : cs.size = sz) (h1c : ∀ u ∈ cs.toList, u.oneCell' = true)
    (hs : a.eval s = p.g) {H : Nat} (hx : a.eval x = .slice (some ⟨H, 0, none⟩) 1 1) (hH : W.heap.size = H) (hl : (p.m + 1) * bytes ≤ 140737488355328)
    (h : ∀ g1 w1, Has B w1 (pT e sz ⟨p.v, g1, p.n, p.m + 1, p.x⟩ :: L) → Below B W w1 → wpList P ops Q rest (a.put o.dst g1) w1) :
    wpList P ops Q (o :: rest) a (W.alloc (.cells cs e)) := by
  obtain ⟨h1, h2, h3⟩ : (pT e sz p).P W := HO.get 0 rfl
  obtain ⟨v, g, n, m, y⟩ := p
  simp only at *
  have hyl : y.length = sz := by rw [← hcs]; simpa using hsz
  have hsame : same m y ++ cs.toList = same (m + 1) y := by rw [hcs]; exact same_succ m y
  refine wp_push_where hgd s x t e z sz bytes ho ht hinfo hz hs0 hb0 g m (same m y) cs hs hx hH hsz h1c h2 hl ?_ ?_
  · rintro b cap w1 rfl hr hk
    simp only [hsame] at hr
    refine (fun hh => h _ _ hh.1 hh.2) (HO.head (w' := w1) (t' := pT e sz ⟨v, .slice (some ⟨b, 0, none⟩) (m + 1) cap, n, m + 1, y⟩) (hk.mono fun k hk => .inl ?_) ⟨?_, hr, ?_⟩ ?_ ?_)
    · simp at hk; subst hk
      by_cases he : Value.ownBlock (.slice (some ⟨k, 0, none⟩) m cap) = v.ownBlock
      · show k ∈ v.ownBlock.toList ++ _
        exact List.mem_append_left _ (by rw [← he]; simp [Value.ownBlock])
      · show k ∈ v.ownBlock.toList ++ (if _ then _ else _)
        rw [if_neg he]
        exact List.mem_append_right _ (by simp [Value.ownBlock])
    · by_cases hv : Value.ownBlock (.slice (some ⟨b, 0, none⟩) m cap) = v.ownBlock
      · obtain ⟨ao, cap', rfl, e, hle⟩ := h3 hv
        cases e
        have := hr.take n (by omega)
        rw [same_take n (m + 1) sz y hyl (by omega)] at this
        exact this
      · exact ownsRow_keeps h1 hk fun k e hm => hv (by simp at hm; subst hm; rw [e]; rfl)
    · intro hv
      obtain ⟨ao, cap', rfl, e, hle⟩ := h3 hv
      cases e
      exact ⟨_, _, rfl, rfl, by show n ≤ m + 1; omega⟩
    · have := List.nodup_append.1 HO.apart
      exact this.1
    · intro k hk
      exact .inl hk
  · intro g1 w1 hr hk hf
    simp only [hsame] at hr
    obtain ⟨b, cap, rfl, hr1⟩ := own_some hr (by omega)
    have hb := hf b rfl
    have hv1 : ∀ k, v.ownBlock = some k → k < W.heap.size := fun k e => (World.ownsRow.lt h1 k e).2
    have hne : ¬ Value.ownBlock (.slice (some ⟨b, 0, none⟩) (m + 1) cap) = v.ownBlock := fun e => by have := hv1 b e.symm; omega
    refine (fun hh => h _ _ hh.1 hh.2) (HO.head (w' := w1) (t' := pT e sz ⟨v, .slice (some ⟨b, 0, none⟩) (m + 1) cap, n, m + 1, y⟩) (hk.mono (by simp)) ⟨ownsRow_keeps h1 hk (by simp), hr, fun e => absurd e hne⟩ ?_ ?_)
    · simp only [pT, if_neg hne]
      refine List.nodup_append.2 ⟨by cases v.ownBlock <;> simp, by simp [Value.ownBlock], fun k hk k' hk' e => ?_⟩
      subst e
      simp [Value.ownBlock] at hk'
      subst hk'
      have := hv1 k (by simpa using hk)
      omega
    · intro k hk
      simp only [pT, if_neg hne] at hk
      rcases List.mem_append.1 hk with h4 | h4
      · left; simp only [pT]; exact List.mem_append_left _ h4
      · right; simp [Value.ownBlock] at h4; subst h4; exact hb
end
theorem perm_pair {α : Type} (Lr M p : α) (P E F : List α) : (p :: Lr :: M :: (P ++ (E ++ F))).Perm (Lr :: M :: ((P ++ [p]) ++ (E ++ F))) := by
  classical
  rw [List.perm_iff_count]
  intro a
  simp only [List.count_append, List.count_cons, List.count_nil]
  omega
theorem perm_take {α : Type} (Lr M p : α) (P E F : List α) : (Lr :: M :: (P ++ ((p :: E) ++ F))).Perm (p :: Lr :: M :: (P ++ (E ++ F))) := by
  classical
  rw [List.perm_iff_count]
  intro a
  simp only [List.count_append, List.count_cons, List.count_nil]
  omega
end Go.Proofs.Ytnmmapjcphefpaa

-- marked: lists of tokens that stand apart are written full, lengthened, looked at: true.
namespace Go.Proofs.Ytnmmapjcphefpaa.G
open Go.RowKit Go.Proofs.YtnmmapjcphefpaaW.PrintWords Go.Proofs.YtnmmapjcphefpaaW.PrintLast Go.Proofs.YtnmmapjcphefpaaW.PrintMore
attribute [local go_sem] max2_int min2_int max_two min_two max_three min_three max_four min_four
set_option linter.unusedVariables false
set_option linter.unusedSimpArgs false
set_option maxRecDepth 10000
theorem drew_keepsM (w : World) : Keeps [] w w.drew := (Keeps.refl [] w).drew
theorem fifth {a b c d e : Prop} (h : a ∧ b ∧ c ∧ d ∧ e) : e := h.2.2.2.2
theorem fourth {a b c d : Prop} (h : a ∧ b ∧ c ∧ d) : d := h.2.2.2
theorem info25 : (Try.prog.info? 25).map (fun i => (i.zero, i.size, i.bytes)) = some (some (.slice none 0 0), 1, 24) := by kernel_rfl
def intOf : Value → Int
  | .int _ x => x
  | _ => 0
/-- a list that was handed out: its value, what it holds -/
structure EL where
  v : Value
  l : List S27
  le : l.length ≤ 1000000000
/-- the token that the list k is written full with -/
def markS (k : Nat) : S27 := ⟨-1 - (k : Int), ⟨#[]⟩, 0, 0⟩
def mC (k : Nat) : List Value := [.int .i64 (-1 - (k : Int)), .string ⟨#[]⟩, .int .i64 0, .int .i64 0]
def sT (v : Value) (l : List S27) : Thing := rowT v 27 4 l.length (tcells l)
def ML (Lv : Value) (vs : List Value) (es : List EL) (F : List Thing) : List Thing := rowT Lv 25 1 vs.length vs :: (es.map (fun e => sT e.v e.l) ++ F)
theorem ML_set (Lv : Value) (vs : List Value) (es : List EL) (F : List Thing) (k : Nat) (hk : k < es.length) (e : EL) : (ML Lv vs es F).set (1 + k) (sT e.v e.l) = ML Lv vs (es.set k e) F := by
  unfold ML
  rw [show 1 + k = k + 1 by omega, List.set_cons_succ, List.set_append_left _ _ (by simpa using hk), List.map_set]
theorem ML_get (Lv : Value) (vs : List Value) (es : List EL) (F : List Thing) (k : Nat) (e : EL) (he : es[k]? = some e) : (ML Lv vs es F)[1 + k]? = some (sT e.v e.l) := by
  have hk := (List.getElem?_eq_some_iff.1 he).1
  unfold ML
  rw [show 1 + k = k + 1 by omega, List.getElem?_cons_succ, List.getElem?_append_left (by simpa using hk)]
  simp [he]
/-- the lists below the k-th hold their marks -/
def MarkedS (k : Nat) (es : List EL) : Prop := ∀ (j : Nat) (e : EL), j < k → es[j]? = some e → ∀ x ∈ e.l, x = markS j
def MRel (w : World) (B : Nat) (Lv : Value) (vs : List Value) (F : List Thing) (k : Nat) (es : List EL) (wr : World) : Prop :=
  es.map EL.v = vs ∧ MarkedS k es ∧ Has B wr (ML Lv vs es F) ∧ Below B w wr
theorem MRel.below {w : World} {B : Nat} {Lv : Value} {vs : List Value} {F : List Thing} {k : Nat} {es : List EL} {wr w1 : World} (h : MRel w B Lv vs F k es wr) (hb : Below wr.heap.size wr w1) : MRel w B Lv vs F k es w1 :=
  ⟨h.1, h.2.1, h.2.2.1.keeps0 (Keeps.of_below hb), h.2.2.2.trans (hb.mono h.2.2.1.le)⟩
/-- one element of the k-th list is marked -/
theorem MRel.store {w : World} {B : Nat} {Lv : Value} {vs : List Value} {F : List Thing} {k : Nat} {es : List EL} {wr : World} (h : MRel w B Lv vs F k es wr)
    {e : EL} (he : es[k]? = some e) {g cap : Nat} (hv : e.v = .slice (some ⟨g, 0, none⟩) e.l.length cap) (q : Nat) (hq : q < e.l.length) (x : S27) :
    MRel w B Lv vs F k (es.set k ⟨e.v, e.l.set q x, by simpa using e.le⟩) ((((wr.setCell ⟨g, q * 4, none⟩ (.int .i64 x.f0)).setCell ⟨g, q * 4 + 1, none⟩ (.string x.f1)).setCell ⟨g, q * 4 + 2, none⟩ (.int .i64 x.f2)).setCell ⟨g, q * 4 + 3, none⟩ (.int .i64 x.f3)) := by
  obtain ⟨h1, h2, h3, h4⟩ := h
  have hk := (List.getElem?_eq_some_iff.1 he).1
  have ht : (ML Lv vs es F)[1 + k]? = some (rowT (.slice (some ⟨g, 0, none⟩) e.l.length cap) 27 4 e.l.length (tcells e.l)) := by rw [ML_get _ _ _ _ _ _ he, hv]; rfl
  obtain ⟨H1, hB1⟩ := h3.storeRow (1 + k) ht (q * 4) (.int .i64 x.f0)
  have hkl := (List.getElem?_eq_some_iff.1 ht).1
  obtain ⟨H2, hB2⟩ := H1.storeRow (1 + k) (List.getElem?_set_self hkl) (q * 4 + 1) (.string x.f1)
  rw [List.set_set] at H2
  obtain ⟨H3, hB3⟩ := H2.storeRow (1 + k) (List.getElem?_set_self hkl) (q * 4 + 2) (.int .i64 x.f2)
  rw [List.set_set] at H3
  obtain ⟨H4, hB4⟩ := H3.storeRow (1 + k) (List.getElem?_set_self hkl) (q * 4 + 3) (.int .i64 x.f3)
  rw [List.set_set, tcells_set e.l q hq x] at H4
  refine ⟨?_, ?_, ?_, h4.trans (hB1.trans (hB2.trans (hB3.trans hB4)))⟩
  · rw [List.map_set]
    refine Eq.trans ?_ h1
    refine List.ext_getElem? fun i => ?_
    by_cases e1 : i = k
    · subst e1; simp [hk]; rw [(List.getElem?_eq_some_iff.1 he).2]
    · rw [List.getElem?_set_ne (by omega)]
  · intro j e' hj he'
    rw [List.getElem?_set_ne (by omega)] at he'
    exact h2 j e' hj he'
  · rw [← ML_set _ _ _ _ _ hk]
    have e2 : sT e.v (e.l.set q x) = rowT (.slice (some ⟨g, 0, none⟩) e.l.length cap) 27 4 e.l.length (tcells (e.l.set q x)) := by
      rw [hv]
      simp [sT]
    show Has B _ ((ML Lv vs es F).set (1 + k) (sT e.v (e.l.set q x)))
    rw [e2]
    exact H4
/-- the rounds within the k-th list -/
def InRel (w : World) (B : Nat) (Lv : Value) (vs : List Value) (F : List Thing) (k N : Nat) (c : Value) (wr : World) : Prop :=
  ∃ (q : Nat) (es : List EL) (e : EL), q ≤ N ∧ e.l.length = N ∧ c = .int .i64 (q : Int) ∧ es[k]? = some e ∧ (∀ j, j < q → e.l[j]? = some (markS k)) ∧ MRel w B Lv vs F k es wr
/-- the rounds over the lists -/
def OutRel (w : World) (B : Nat) (Lv : Value) (vs : List Value) (F : List Thing) (i : Value) (wr : World) : Prop :=
  ∃ (k : Nat) (es : List EL), k ≤ vs.length ∧ i = .int .i64 (k : Int) ∧ MRel w B Lv vs F k es wr
/-- the lists that have been lengthened -/
def PL (Lv mv : Value) (vs : List Value) (ps : List PI) (es : List EL) (F : List Thing) : List Thing :=
  rowT Lv 25 1 vs.length vs :: rowT mv 25 1 ps.length (ps.map PI.g) :: (ps.map (pT 27 4) ++ (es.map (fun e => sT e.v e.l) ++ F))
def Paired (vs : List Value) (ps : List PI) : Prop := ∀ (j : Nat) (p : PI), ps[j]? = some p → vs[j]? = some p.v ∧ p.x = mC j ∧ p.m ≤ 1000000270
def PRel (w : World) (B : Nat) (Lv : Value) (vs : List Value) (es : List EL) (F : List Thing) (mv i : Value) (wr : World) : Prop :=
  ∃ (k : Nat) (ps : List PI), k ≤ vs.length ∧ ps.length = k ∧ i = .int .i64 (k : Int) ∧ Paired vs ps ∧ Has B wr (PL Lv mv vs ps (es.drop k) F) ∧ Below B w wr
def QRel (w : World) (B : Nat) (Lv mv : Value) (vs : List Value) (ps : List PI) (es : List EL) (F : List Thing) (v : Value) (n : Nat) (x : List Value) (g c : Value) (wr : World) : Prop :=
  ∃ (m r : Nat), m + 70 ≤ 1000000270 + r ∧ r ≤ 70 ∧ c = .int .i64 (r : Int) ∧ Has B wr (pT 27 4 ⟨v, g, n, m, x⟩ :: PL Lv mv vs ps es F) ∧ Below B w wr
theorem same_four (n : Nat) (a b c d : Value) (q : Nat) (hq : q < n) : (same n [a, b, c, d])[q * 4]? = some a ∧ (same n [a, b, c, d])[q * 4 + 1]? = some b ∧ (same n [a, b, c, d])[q * 4 + 2]? = some c ∧ (same n [a, b, c, d])[q * 4 + 3]? = some d := by
  induction n generalizing q with
  | zero => omega
  | succ n ih =>
    have e : same (n + 1) [a, b, c, d] = [a, b, c, d] ++ same n [a, b, c, d] := by
      unfold same
      rw [List.replicate_succ, List.flatten_cons]
    rw [e]
    cases q with
    | zero => exact ⟨rfl, rfl, rfl, rfl⟩
    | succ q =>
      have := ih q (by omega)
      rw [show (q + 1) * 4 = q * 4 + 4 by omega]
      rw [List.getElem?_append_right (by simp), List.getElem?_append_right (by simp), List.getElem?_append_right (by simp), List.getElem?_append_right (by simp)]
      simp only [List.length_cons, List.length_nil]
      rw [show q * 4 + 4 - (0 + 1 + 1 + 1 + 1) = q * 4 by omega, show q * 4 + 4 + 1 - (0 + 1 + 1 + 1 + 1) = q * 4 + 1 by omega, show q * 4 + 4 + 2 - (0 + 1 + 1 + 1 + 1) = q * 4 + 2 by omega, show q * 4 + 4 + 3 - (0 + 1 + 1 + 1 + 1) = q * 4 + 3 by omega]
      exact this
theorem same_cells (l : List S27) (j : Nat) (h : ∀ y ∈ l, y = markS j) : tcells l = same l.length (mC j) := by
  induction l with
  | nil => rfl
  | cons y l ih =>
    have e1 : tcells (y :: l) = [.int .i64 y.f0, .string y.f1, .int .i64 y.f2, .int .i64 y.f3] ++ tcells l := by simp [tcells]
    rw [e1, ih (fun z hz => h z (List.mem_cons_of_mem _ hz)), h y (by simp)]
    unfold same
    rw [List.length_cons, List.replicate_succ, List.flatten_cons]; rfl
def MkPost (B : Nat) (w : World) (e : Ending) (w' : World) : Prop := e = .returned (.bool true) ∧ Below B w w'

set_option maxHeartbeats 8000000 in
theorem marked_calls {B : Nat} {w : World} {Lv : Value} {es : List EL} {F : List Thing} (h : Has B w (ML Lv (es.map EL.v) es F)) (hes : es.length ≤ 1000) :
    ∀ (aL : Option Addr) (cL : Nat), Lv = .slice aL es.length cL → Calls Try.prog 30 #[Lv] w (MkPost B w) := by
  rintro aL cL rfl
  obtain ⟨vs, hvs⟩ : ∃ vs, vs = es.map EL.v := ⟨_, rfl⟩
  have hN : vs.length = es.length := by simp [hvs]
  rw [← hvs] at h
  have HV := Lib.hid hvs
  clear hvs
  rw [← hN] at h ⊢
  have HS := Lib.hid (show OutRel w B (.slice aL vs.length cL) vs F (.int .i64 0) w from ⟨0, es, by omega, rfl, HV.out.symm, fun j e hj => by omega, h, Below.refl _ _⟩)
  clear h HV
  have hes' : vs.length ≤ 1000 := by omega
  clear hN hes
  go_enter Try.func30, Try.ntmps30
  go_wp2
  go_loopw [3] (fun i wr => OutRel w B (.slice aL vs.length cL) vs F i wr) (fun i _ => vs.length - (intOf i).toNat)
  case atStart => exact HS.out
  case round =>
    obtain ⟨k, es, hk, rfl, hM⟩ := hrel
    have H := hM.2.2.1
    by_cases hlt : k < vs.length
    · have hlt' : (k : Int) < (vs.length : Int) := by omega
      have hl : es.length = vs.length := by rw [← hM.1]; simp
      have he : es[k]? = some es[k] := List.getElem?_eq_getElem (by omega)
      generalize es[k] = e at he
      have HR := Lib.hid (show InRel w B (.slice aL vs.length cL) vs F k e.l.length (.int .i64 0) wr from ⟨0, es, e, by omega, rfl, rfl, he, fun j hj => by omega, hM⟩)
      have hle := e.le
      generalize e.l.length = N at HR hle
      clear hM H he hl
      go_wp2
      go_loopw [4] (fun c wr => InRel w B (.slice aL vs.length cL) vs F k N c wr) (fun c _ => N - (intOf c).toNat)
      case atStart => exact HR.out
      case round =>
        obtain ⟨q, es, e, hq, hN, rfl, he, hpre, hM⟩ := hrel
        have H := hM.2.2.1
        obtain ⟨gL, c9, hL, rL⟩ := own_some (H.get 0 rfl) (by omega)
        cases hL
        have hvk : vs[k]? = some e.v := by rw [← hM.1]; simp [he]
        have cv := (rL.cell k (by omega)).trans hvk
        have hr := H.get (1 + k) (ML_get _ _ _ _ _ _ he)
        by_cases hlq : q < N
        · have hlq' : (q : Int) < (N : Int) := by omega
          obtain ⟨g, cap, hv, hrow⟩ := own_some hr (by omega)
          have hr : RowAt wr g 27 4 e.l.length cap (tcells e.l) := by rw [hv] at hr; exact hr
          obtain ⟨z0, z1, z2, z3⟩ := tcells_get e.l q (e.l[q]'(by omega)) (List.getElem?_eq_getElem (by omega))
          have r0 : wr.cell? ⟨g, q * 4, none⟩ = _ := (RowAt.cell hr (q * 4) (by omega)).trans z0
          have r1 : wr.cell? ⟨g, q * 4 + 1, none⟩ = _ := (RowAt.cell hr (q * 4 + 1) (by omega)).trans z1
          have r2 : wr.cell? ⟨g, q * 4 + 2, none⟩ = _ := (RowAt.cell hr (q * 4 + 2) (by omega)).trans z2
          have r3 : wr.cell? ⟨g, q * 4 + 3, none⟩ = _ := (RowAt.cell hr (q * 4 + 3) (by omega)).trans z3
          have s0 : wr.frozen? ⟨g, q * 4, none⟩ = false := RowAt.frozen hr _
          have s1 : wr.frozen? ⟨g, q * 4 + 1, none⟩ = false := RowAt.frozen hr _
          have s2 : wr.frozen? ⟨g, q * 4 + 2, none⟩ = false := RowAt.frozen hr _
          have s3 : wr.frozen? ⟨g, q * 4 + 3, none⟩ = false := RowAt.frozen hr _
          have hM2 := hM.store he hv q (by omega) (markS k)
          have HR2 := Lib.hid (show ∀ W, W = _ → InRel w B (.slice (some ⟨gL, 0, none⟩) vs.length cL) vs F k N (.int .i64 ((q + 1 : Nat) : Int)) W from fun W hW => ⟨q + 1, es.set k ⟨e.v, e.l.set q (markS k), by simpa using e.le⟩, ⟨e.v, e.l.set q (markS k), by simpa using e.le⟩, by omega, by simpa using hN, rfl, by rw [List.getElem?_set_self (List.getElem?_eq_some_iff.1 he).1], by
            intro j hj
            by_cases e1 : j = q
            · subst e1; simp only; rw [List.getElem?_set_self (by omega)]
            · simp only; rw [List.getElem?_set_ne (by omega)]; exact hpre j (by omega), by rw [hW]; exact hM2⟩)
          generalize e.l[q]'(by omega) = y at *
          rw [hv, hN] at cv
          clear hM2 hM H hrow hr hpre rL z0 z1 z2 z3 hv he hvk
          go_wp2
          go_roundw
          case rel => exact HR2.out _ rfl
          case measure => simp [intOf]; omega
        · have hlq' : ¬ (q : Int) < (N : Int) := by omega
          obtain ⟨ao, cap, hv⟩ := own_len hr
          rw [hv, hN] at cv
          have HO := Lib.hid (show OutRel w B (.slice (some ⟨gL, 0, none⟩) vs.length cL) vs F (.int .i64 ((k + 1 : Nat) : Int)) wr from ⟨k + 1, es, by omega, rfl, hM.1, by
            intro j e' hj he' x hx
            by_cases e1 : j = k
            · subst e1
              rw [he] at he'
              cases he'
              obtain ⟨i, hi, rfl⟩ := List.getElem_of_mem hx
              have := hpre i (by omega)
              rw [List.getElem?_eq_getElem hi] at this
              simpa using this
            · exact hM.2.1 j e' (by omega) he' x hx, hM.2.2⟩)
          clear hM H hr hpre rL hv he hvk
          go_wp2
          go_roundw
          case rel => exact HO.out
          case measure => simp [intOf]; omega
    · have hlt' : ¬ (k : Int) < (vs.length : Int) := by omega
      obtain rfl : k = vs.length := by omega
      have hm := hM.2.1
      have hB := hM.2.2.2
      have hev := hM.1
      have hP0 := Lib.hid (show PRel w B (.slice aL vs.length cL) vs es F (.slice none 0 0) (.int .i64 0) wr from by
        obtain ⟨G, hG⟩ := H.cons (t' := rowT (.slice none 0 0) 25 1 0 []) (Keeps.refl _ _) (World.ownsRow_nil _ _ _ _) (rowT_nodup ..) (fun k hk => by simp [rowT, Value.ownBlock] at hk)
        refine ⟨0, [], by omega, rfl, rfl, fun j p hp => by simp at hp, ?_, hB⟩
        refine G.perm ?_
        unfold PL ML
        simp only [List.map_nil, List.nil_append, List.drop_zero, List.length_nil]
        exact List.Perm.swap _ _ _)
      clear hM H hB
      have hl : es.length = vs.length := by rw [← hev]; simp
      have HM := Lib.hid hm
      have HE := Lib.hid hev
      clear hm hev
      go_wp2
      go_loopw [5, 6] (fun mv i wr => PRel w B (.slice aL vs.length cL) vs es F mv i wr) (fun _ i _ => vs.length - (intOf i).toNat)
      case atStart => exact hP0.out
      case round =>
        obtain ⟨k, ps, hk, hpl, rfl, hP, H, hB⟩ := hrel
        by_cases hlt : k < vs.length
        · have hlt' : (k : Int) < (vs.length : Int) := by omega
          obtain ⟨gL, c9, hL, rL⟩ := own_some (H.get 0 rfl) (by omega)
          cases hL
          have hkes : k < es.length := by omega
          have he : es[k]? = some es[k] := List.getElem?_eq_getElem hkes
          have hd : es.drop k = es[k] :: es.drop (k + 1) := List.drop_eq_getElem_cons hkes
          rw [hd] at H
          generalize es[k] = e at he H
          clear hd
          have hvk : vs[k]? = some e.v := by rw [← HE.out]; simp [he]
          have cv := (rL.cell k (by omega)).trans hvk
          have H2 : Has B wr (rowT e.v 27 4 e.l.length (same e.l.length (mC k)) :: PL (.slice (some ⟨gL, 0, none⟩) vs.length cL) u5 vs ps (es.drop (k + 1)) F) := by
            rw [← same_cells e.l k (HM.out k e hlt he)]
            exact H.perm (perm_take _ _ (sT e.v e.l) _ _ _)
          have hle := e.le
          obtain ⟨av, cv', hv⟩ := own_len (H2.get 0 rfl)
          rw [hv] at cv
          have HQ : QRel w B (.slice (some ⟨gL, 0, none⟩) vs.length cL) u5 vs ps (es.drop (k + 1)) F e.v e.l.length (mC k) e.v (.int .i64 0) wr := ⟨e.l.length, 0, by omega, by omega, rfl, pT_start H2, hB⟩
          rw [hv] at HQ
          have HV := Lib.hid (show vs[k]? = some (.slice av e.l.length cv') by rw [hvk, hv])
          clear hv hvk H2 H he rL hB
          generalize e.l.length = n at *
          have HQ := Lib.hid HQ
          go_wp2
          clear cv
          go_loopw [7, 8] (fun g c wr => QRel w B (.slice (some ⟨gL, 0, none⟩) vs.length cL) u5 vs ps (es.drop (k + 1)) F (.slice av n cv') n (mC k) g c wr) (fun _ c _ => 70 - (intOf c).toNat)
          case atStart => exact HQ.out
          case round =>
            obtain ⟨m, r, hmr, hr70, rfl, H, hB⟩ := hrel
            by_cases hr : r < 70
            · have hr' : (r : Int) < 70 := by omega
              go_wp2_with (refine wp_push_pair H rfl _ _ 25 rfl Try.underlying25 info27 rfl (by omega) (by omega) #[.int .i64 (-1 - (k : Int)), .string ⟨#[]⟩, .int .i64 0, .int .i64 0] rfl rfl ?c0 rfl rfl rfl ?c1 ?_)
              case c0 => simp [Value.oneCell']
              case c1 => show (m + 1) * _ ≤ _; omega
              intro g1 w2 H1 hB1
              have HR2 := Lib.hid (show QRel w B (.slice (some ⟨gL, 0, none⟩) vs.length cL) u5 vs ps (es.drop (k + 1)) F (.slice av n cv') n (mC k) g1 (.int .i64 ((r + 1 : Nat) : Int)) w2 from ⟨m + 1, r + 1, by omega, by omega, rfl, H1, hB.trans hB1⟩)
              clear H1 hB1 H hB
              go_wp2
              go_roundw
              case rel => exact HR2.out
              case measure => simp [intOf]; omega
            · have hr' : ¬ (r : Int) < 70 := by omega
              obtain rfl : r = 70 := by omega
              obtain ⟨ag, cg, hg⟩ := own_len (H.get 0 rfl).2.1
              simp only at hg
              subst hg
              go_wp2_with (refine wp_push rfl _ _ 49 25 (.slice none 0 0) 1 24 rfl Try.underlying49 info25 rfl (by omega) (by omega) u5 ps.length (ps.map PI.g) #[.slice ag m cg] rfl rfl (by simp) rfl ?d1 (H.get 2 rfl) ?d2 ?_)
              case d1 => simp [Value.oneCell']
              case d2 => omega
              intro vL w2 hown hkL hfL
              obtain ⟨H2, hB2⟩ := H.row 2 rfl hown hkL hfL
              have HR := Lib.hid (show PRel w B (.slice (some ⟨gL, 0, none⟩) vs.length cL) vs es F vL (.int .i64 ((k + 1 : Nat) : Int)) w2 from by
                refine ⟨k + 1, ps ++ [⟨.slice av n cv', .slice ag m cg, n, m, mC k⟩], by omega, by simp [hpl], rfl, fun j p hp => ?_, ?_, hB.trans hB2⟩
                · by_cases hj : j < ps.length
                  · rw [List.getElem?_append_left hj] at hp
                    exact hP j p hp
                  · have hj2 : j = k := by have := (List.getElem?_eq_some_iff.1 hp).1; simp at this; omega
                    subst hj2
                    rw [List.getElem?_append_right (by omega), hpl] at hp
                    simp at hp
                    subst hp
                    exact ⟨HV.out, rfl, by show m ≤ _; omega⟩
                · have := H2.perm (perm_pair _ _ _ _ _ _)
                  unfold PL
                  simp only [List.map_append, List.map_cons, List.map_nil, List.length_append, List.length_cons, List.length_nil, hpl, Nat.zero_add]
                  exact this)
              clear H2 hB2 hown hkL hfL H hB
              go_wp2
              go_roundw
              case rel => exact HR.out
              case measure => simp [intOf]; omega
        · have hlt' : ¬ (k : Int) < (vs.length : Int) := by omega
          obtain rfl : k = vs.length := by omega
          obtain ⟨am, cm, hmv⟩ := own_len (H.get 1 rfl)
          subst hmv
          obtain ⟨w3, hw3⟩ : ∃ w3, w3 = wr := ⟨_, rfl⟩
          have hk3 : Keeps [] w3 wr := by rw [hw3]; exact Keeps.refl _ _
          rw [← hw3] at H hB
          clear hw3
          have HF : Hid (B ≤ w3.heap.size ∧ Below B w w3) := Lib.hid ⟨H.le, hB⟩
          have HP := Lib.hid hP
          have HK := Lib.hid hk3
          clear hP hk3 hB
          rw [hpl]
          go_wp2
          go_loopw [9] (fun i wr => ∃ j : Nat, j ≤ vs.length ∧ i = .int .i64 (j : Int) ∧ Keeps [] w3 wr) (fun i _ => vs.length - (intOf i).toNat)
          case atStart => exact ⟨0, by omega, rfl, HK.out⟩
          case round =>
            obtain ⟨j, hj, rfl, hk⟩ := hrel
            by_cases hlj : j < vs.length
            · have hlj' : (j : Int) < (vs.length : Int) := by omega
              have hp : ps[j]? = some (ps[j]'(by omega)) := List.getElem?_eq_getElem (by omega)
              generalize ps[j]'(by omega) = p at hp
              obtain ⟨hvj, hx, hm9⟩ := HP.out j p hp
              have hpt : (pT 27 4 p).P w3 := H.all (pT 27 4 p) (by simp only [PL, List.mem_cons, List.mem_append, List.mem_map]; exact .inr (.inr (.inl ⟨p, List.mem_of_getElem? hp, rfl⟩)))
              obtain ⟨o1, o2, _⟩ := hpt
              obtain ⟨gL, c9, hL, rL⟩ := own_some (H.get 0 rfl) (by omega)
              cases hL
              obtain ⟨gM, c9, hM9, rM⟩ := own_some (H.get 1 rfl) (by omega)
              cases hM9
              have kL := (rL.cell j (by omega)).trans hvj
              have kM := (rM.cell j (by omega)).trans (show (ps.map PI.g)[j]? = some p.g by simp [hp])
              obtain ⟨v, g, n, m, x⟩ := p
              simp only at hvj hx hm9 o1 o2 kL kM
              subst hx
              obtain ⟨av, cv, hv⟩ := own_len o1
              subst hv
              obtain ⟨ag, cg, hg⟩ := own_len o2
              subst hg
              clear rL rM hvj hp
              have C3 := Lib.hid (And.intro kL kM)
              have cM := hk.cell kM (by simp)
              clear kL kM
              have HK := Lib.hid hk
              clear hk
              have hj9 : ¬ ((j : Int) < 0) := by omega
              go_wp2
              clear cM
              have k5 := HK.out.alloc (.cells #[.int .i64 (-1 - (j : Int)), .string ⟨#[]⟩, .int .i64 0, .int .i64 0] 27)
              have m5 := StrAt.new wr #[.int .i64 (-1 - (j : Int)), .string ⟨#[]⟩, .int .i64 0, .int .i64 0] 27
              generalize World.alloc wr _ = W5 at k5 m5 ⊢
              generalize wr.heap.size = MB at m5 ⊢
              have K5 := Lib.hid k5
              have m0 := m5.cell 0
              have m1 := m5.cell 1
              have m2 := m5.cell 2
              have m3 := m5.cell 3
              simp at m0 m1 m2 m3
              have M5 := Lib.hid (And.intro m0 (And.intro m1 (And.intro m2 m3)))
              clear k5 m5 m0 m1 m2 m3
              go_loopw [11] (fun c wr => ∃ q : Nat, q ≤ m ∧ c = .int .i64 (q : Int) ∧ Keeps [] W5 wr) (fun c _ => m - (intOf c).toNat)
              case atStart => exact ⟨0, by omega, rfl, Keeps.refl _ _⟩
              case round =>
                obtain ⟨q, hq, rfl, hk5⟩ := hrel
                have hk : Keeps [] w3 wr := K5.out.trans' hk5
                have cL1 := hk.cell C3.out.1 (by simp)
                have cM := hk.cell C3.out.2 (by simp)
                by_cases hqm : q < m
                · have hqm' : (q : Int) < (m : Int) := by omega
                  have n0 := hk5.cell M5.out.1 (by simp)
                  have n1 := hk5.cell M5.out.2.1 (by simp)
                  have n2 := hk5.cell M5.out.2.2.1 (by simp)
                  have n3 := hk5.cell M5.out.2.2.2 (by simp)
                  obtain ⟨b, c9, hb, rb⟩ := own_some o2 (by omega)
                  cases hb
                  obtain ⟨z0, z1, z2, z3⟩ := same_four m (.int .i64 (-1 - (j : Int))) (.string ⟨#[]⟩) (.int .i64 0) (.int .i64 0) q hqm
                  have kg0 := hk.cell ((rb.cell (q * 4) (by omega)).trans z0) (by simp)
                  have kg1 := hk.cell ((rb.cell (q * 4 + 1) (by omega)).trans z1) (by simp)
                  have kg2 := hk.cell ((rb.cell (q * 4 + 2) (by omega)).trans z2) (by simp)
                  have kg3 := hk.cell ((rb.cell (q * 4 + 3) (by omega)).trans z3) (by simp)
                  have HK5 := Lib.hid hk5
                  clear hk5 z0 z1 z2 z3
                  by_cases hqn : q < n
                  · have hqn' : (q : Int) < (n : Int) := by omega
                    obtain ⟨b', c9, hb, rb'⟩ := own_some o1 (by omega)
                    cases hb
                    obtain ⟨z0, z1, z2, z3⟩ := same_four n (.int .i64 (-1 - (j : Int))) (.string ⟨#[]⟩) (.int .i64 0) (.int .i64 0) q hqn
                    have kv0 := hk.cell ((rb'.cell (q * 4) (by omega)).trans z0) (by simp)
                    have kv1 := hk.cell ((rb'.cell (q * 4 + 1) (by omega)).trans z1) (by simp)
                    have kv2 := hk.cell ((rb'.cell (q * 4 + 2) (by omega)).trans z2) (by simp)
                    have kv3 := hk.cell ((rb'.cell (q * 4 + 3) (by omega)).trans z3) (by simp)
                    clear rb rb' hk z0 z1 z2 z3
                    have hS : ∀ W, Keeps [] wr W → _ ∧ _ ∧ _ ∧ _ ∧ _ ∧ _ ∧ _ ∧ _ ∧ _ ∧ _ ∧ _ ∧ _ ∧ _ ∧ _ := fun W h9 => ⟨h9.cell cL1 (by simp), h9.cell cM (by simp), h9.cell n0 (by simp), h9.cell n1 (by simp), h9.cell n2 (by simp), h9.cell n3 (by simp), h9.cell kg0 (by simp), h9.cell kg1 (by simp), h9.cell kg2 (by simp), h9.cell kg3 (by simp), h9.cell kv0 (by simp), h9.cell kv1 (by simp), h9.cell kv2 (by simp), h9.cell kv3 (by simp)⟩
                    have HS9 := Lib.hid hS
                    clear hS n0 n1 n2 n3 kg0 kg1 kg2 kg3 kv0 kv1 kv2 kv3
                    have hD : Keeps [] wr wr.drew := (Keeps.refl [] wr).drew
                    go_wp2_with fail
                    clear cL1 cM
                    refine wp_region_held_drew (S := fun W => Keeps [] wr W) (by kernel_rfl) ?_ (fun hHeld => ?_)
                    · exact hD
                    refine wpAnyH_take (i := 0) (oi := { dst := some 78, op := Op.move (Operand.tmp 5), type := 49, pos := "again.go:57", after := #[], guard := none }) (v := ?_) rfl (by kernel_rfl) (by kernel_rfl) (by kernel_rfl) (fun _ _ _ h => h) (Or.inl ⟨by rfl, ?_⟩) (by assumption) ?_
                    rotate_left
                    · (intro W hSw; obtain ⟨x1, x2, x3, x4, x5, x6, x7, x8, x9, xa, xb, xc, xd, xe⟩ := HS9.out W hSw; go_simp; try with_reducible rfl)
                    try simp only [Act.put, List.setIfInBounds_toArray, List.set_cons_zero, List.set_cons_succ]
                    refine wpAnyH_take (i := 1) (oi := { dst := some 79, op := Op.move (Operand.tmp 9), type := 3, pos := "again.go:57", after := #[], guard := none }) (v := ?_) rfl (by kernel_rfl) (by kernel_rfl) (by kernel_rfl) (fun _ _ _ h => h) (Or.inl ⟨by rfl, ?_⟩) (by assumption) ?_
                    rotate_left
                    · (intro W hSw; obtain ⟨x1, x2, x3, x4, x5, x6, x7, x8, x9, xa, xb, xc, xd, xe⟩ := HS9.out W hSw; go_simp; try with_reducible rfl)
                    try simp only [Act.put, List.setIfInBounds_toArray, List.set_cons_zero, List.set_cons_succ]
                    refine wpAnyH_take (i := 2) (oi := { dst := some 80, op := Op.indexAddr 49 (Operand.tmp 78) (Operand.tmp 79), type := 0, pos := "again.go:57", after := #[{ on := 0, ground := Ground.data }, { on := 1, ground := Ground.data }], guard := none }) (v := ?_) rfl (by kernel_rfl) (by kernel_rfl) (by kernel_rfl) (fun _ _ _ h => h) (Or.inl ⟨by rfl, ?_⟩) (by assumption) ?_
                    rotate_left
                    · (intro W hSw; obtain ⟨x1, x2, x3, x4, x5, x6, x7, x8, x9, xa, xb, xc, xd, xe⟩ := HS9.out W hSw; go_simp; try with_reducible rfl)
                    try simp only [Act.put, List.setIfInBounds_toArray, List.set_cons_zero, List.set_cons_succ]
                    refine wpAnyH_take (i := 3) (oi := { dst := some 81, op := Op.load 25 (Operand.tmp 80), type := 25, pos := "again.go:57", after := #[{ on := 2, ground := Ground.data }], guard := none }) (v := ?_) rfl (by kernel_rfl) (by kernel_rfl) (by kernel_rfl) (fun _ _ _ h => h) (Or.inl ⟨by rfl, ?_⟩) (by assumption) ?_
                    rotate_left
                    · (intro W hSw; obtain ⟨x1, x2, x3, x4, x5, x6, x7, x8, x9, xa, xb, xc, xd, xe⟩ := HS9.out W hSw; go_simp; try with_reducible rfl)
                    try simp only [Act.put, List.setIfInBounds_toArray, List.set_cons_zero, List.set_cons_succ]
                    refine wpAnyH_take (i := 4) (oi := { dst := some 82, op := Op.move (Operand.tmp 11), type := 3, pos := "again.go:57", after := #[], guard := none }) (v := ?_) rfl (by kernel_rfl) (by kernel_rfl) (by kernel_rfl) (fun _ _ _ h => h) (Or.inl ⟨by rfl, ?_⟩) (by assumption) ?_
                    rotate_left
                    · (intro W hSw; obtain ⟨x1, x2, x3, x4, x5, x6, x7, x8, x9, xa, xb, xc, xd, xe⟩ := HS9.out W hSw; go_simp; try with_reducible rfl)
                    try simp only [Act.put, List.setIfInBounds_toArray, List.set_cons_zero, List.set_cons_succ]
                    refine wpAnyH_take (i := 5) (oi := { dst := some 83, op := Op.indexAddr 25 (Operand.tmp 81) (Operand.tmp 82), type := 0, pos := "again.go:57", after := #[{ on := 3, ground := Ground.data }, { on := 4, ground := Ground.data }], guard := none }) (v := ?_) rfl (by kernel_rfl) (by kernel_rfl) (by kernel_rfl) (fun _ _ _ h => h) (Or.inl ⟨by rfl, ?_⟩) (by assumption) ?_
                    rotate_left
                    · (intro W hSw; obtain ⟨x1, x2, x3, x4, x5, x6, x7, x8, x9, xa, xb, xc, xd, xe⟩ := HS9.out W hSw; go_simp; try with_reducible rfl)
                    try simp only [Act.put, List.setIfInBounds_toArray, List.set_cons_zero, List.set_cons_succ]
                    refine wpAnyH_take (i := 6) (oi := { dst := some 84, op := Op.load 27 (Operand.tmp 83), type := 27, pos := "again.go:57", after := #[{ on := 5, ground := Ground.data }], guard := none }) (v := ?_) rfl (by kernel_rfl) (by kernel_rfl) (by kernel_rfl) (fun _ _ _ h => h) (Or.inl ⟨by rfl, ?_⟩) (by assumption) ?_
                    rotate_left
                    · (intro W hSw; obtain ⟨x1, x2, x3, x4, x5, x6, x7, x8, x9, xa, xb, xc, xd, xe⟩ := HS9.out W hSw; go_simp; try with_reducible rfl)
                    try simp only [Act.put, List.setIfInBounds_toArray, List.set_cons_zero, List.set_cons_succ]
                    refine wpAnyH_take (i := 7) (oi := { dst := some 85, op := Op.load 27 (Operand.tmp 10), type := 27, pos := "again.go:57", after := #[], guard := none }) (v := ?_) rfl (by kernel_rfl) (by kernel_rfl) (by kernel_rfl) (fun _ _ _ h => h) (Or.inl ⟨by rfl, ?_⟩) (by assumption) ?_
                    rotate_left
                    · (intro W hSw; obtain ⟨x1, x2, x3, x4, x5, x6, x7, x8, x9, xa, xb, xc, xd, xe⟩ := HS9.out W hSw; go_simp; try with_reducible rfl)
                    try simp only [Act.put, List.setIfInBounds_toArray, List.set_cons_zero, List.set_cons_succ]
                    refine wpAnyH_take (i := 8) (oi := { dst := some 86, op := Op.binOp BinOp.neq 27 (Operand.tmp 84) (Operand.tmp 85) 27, type := 4, pos := "again.go:57", after := #[{ on := 6, ground := Ground.data }, { on := 7, ground := Ground.data }], guard := none }) (v := ?_) rfl (by kernel_rfl) (by kernel_rfl) (by kernel_rfl) (fun _ _ _ h => h) (Or.inl ⟨by rfl, ?_⟩) (by assumption) ?_
                    rotate_left
                    · (intro W hSw; obtain ⟨x1, x2, x3, x4, x5, x6, x7, x8, x9, xa, xb, xc, xd, xe⟩ := HS9.out W hSw; go_simp; try with_reducible rfl)
                    try simp only [Act.put, List.setIfInBounds_toArray, List.set_cons_zero, List.set_cons_succ]
                    refine wpAnyH_take (i := 9) (oi := { dst := some 87, op := Op.move (Operand.tmp 86), type := 4, pos := "again.go:57", after := #[{ on := 8, ground := Ground.data }], guard := none }) (v := ?_) rfl (by kernel_rfl) (by kernel_rfl) (by kernel_rfl) (fun _ _ _ h => h) (Or.inl ⟨by rfl, ?_⟩) (by assumption) ?_
                    rotate_left
                    · (intro W hSw; obtain ⟨x1, x2, x3, x4, x5, x6, x7, x8, x9, xa, xb, xc, xd, xe⟩ := HS9.out W hSw; go_simp; try with_reducible rfl)
                    try simp only [Act.put, List.setIfInBounds_toArray, List.set_cons_zero, List.set_cons_succ]
                    refine wpAnyH_take (i := 10) (oi := { dst := some 88, op := Op.move (Operand.tmp 11), type := 3, pos := "again.go:57", after := #[{ on := 9, ground := Ground.guard }], guard := some (9, false) }) (v := ?_) rfl (by kernel_rfl) (by kernel_rfl) (by kernel_rfl) (fun _ _ _ h => h) (Or.inl ⟨by rfl, ?_⟩) (by assumption) ?_
                    rotate_left
                    · (intro W hSw; obtain ⟨x1, x2, x3, x4, x5, x6, x7, x8, x9, xa, xb, xc, xd, xe⟩ := HS9.out W hSw; go_simp; try with_reducible rfl)
                    try simp only [Act.put, List.setIfInBounds_toArray, List.set_cons_zero, List.set_cons_succ]
                    refine wpAnyH_take (i := 11) (oi := { dst := some 89, op := Op.move (Operand.tmp 0), type := 49, pos := "again.go:57", after := #[{ on := 9, ground := Ground.guard }], guard := some (9, false) }) (v := ?_) rfl (by kernel_rfl) (by kernel_rfl) (by kernel_rfl) (fun _ _ _ h => h) (Or.inl ⟨by rfl, ?_⟩) (by assumption) ?_
                    rotate_left
                    · (intro W hSw; obtain ⟨x1, x2, x3, x4, x5, x6, x7, x8, x9, xa, xb, xc, xd, xe⟩ := HS9.out W hSw; go_simp; try with_reducible rfl)
                    try simp only [Act.put, List.setIfInBounds_toArray, List.set_cons_zero, List.set_cons_succ]
                    refine wpAnyH_take (i := 12) (oi := { dst := some 90, op := Op.move (Operand.tmp 9), type := 3, pos := "again.go:57", after := #[{ on := 9, ground := Ground.guard }], guard := some (9, false) }) (v := ?_) rfl (by kernel_rfl) (by kernel_rfl) (by kernel_rfl) (fun _ _ _ h => h) (Or.inl ⟨by rfl, ?_⟩) (by assumption) ?_
                    rotate_left
                    · (intro W hSw; obtain ⟨x1, x2, x3, x4, x5, x6, x7, x8, x9, xa, xb, xc, xd, xe⟩ := HS9.out W hSw; go_simp; try with_reducible rfl)
                    try simp only [Act.put, List.setIfInBounds_toArray, List.set_cons_zero, List.set_cons_succ]
                    refine wpAnyH_take (i := 13) (oi := { dst := some 91, op := Op.indexAddr 49 (Operand.tmp 89) (Operand.tmp 90), type := 0, pos := "again.go:57", after := #[{ on := 11, ground := Ground.data }, { on := 12, ground := Ground.data }, { on := 9, ground := Ground.guard }], guard := some (9, false) }) (v := ?_) rfl (by kernel_rfl) (by kernel_rfl) (by kernel_rfl) (fun _ _ _ h => h) (Or.inl ⟨by rfl, ?_⟩) (by assumption) ?_
                    rotate_left
                    · (intro W hSw; obtain ⟨x1, x2, x3, x4, x5, x6, x7, x8, x9, xa, xb, xc, xd, xe⟩ := HS9.out W hSw; go_simp; try with_reducible rfl)
                    try simp only [Act.put, List.setIfInBounds_toArray, List.set_cons_zero, List.set_cons_succ]
                    refine wpAnyH_take (i := 14) (oi := { dst := some 92, op := Op.load 25 (Operand.tmp 91), type := 25, pos := "again.go:57", after := #[{ on := 13, ground := Ground.data }, { on := 9, ground := Ground.guard }], guard := some (9, false) }) (v := ?_) rfl (by kernel_rfl) (by kernel_rfl) (by kernel_rfl) (fun _ _ _ h => h) (Or.inl ⟨by rfl, ?_⟩) (by assumption) ?_
                    rotate_left
                    · (intro W hSw; obtain ⟨x1, x2, x3, x4, x5, x6, x7, x8, x9, xa, xb, xc, xd, xe⟩ := HS9.out W hSw; go_simp; try with_reducible rfl)
                    try simp only [Act.put, List.setIfInBounds_toArray, List.set_cons_zero, List.set_cons_succ]
                    refine wpAnyH_take (i := 15) (oi := { dst := some 93, op := Op.call { callee := Callee.builtin Builtin.len, args := #[Operand.tmp 92], argTypes := #[25] }, type := 3, pos := "again.go:57", after := #[{ on := 14, ground := Ground.data }, { on := 9, ground := Ground.guard }], guard := some (9, false) }) (v := ?_) rfl (by kernel_rfl) (by kernel_rfl) (by kernel_rfl) (fun _ _ _ h => h) (Or.inl ⟨by rfl, ?_⟩) (by assumption) ?_
                    rotate_left
                    · (intro W hSw; obtain ⟨x1, x2, x3, x4, x5, x6, x7, x8, x9, xa, xb, xc, xd, xe⟩ := HS9.out W hSw; go_simp; try with_reducible rfl)
                    try simp only [Act.put, List.setIfInBounds_toArray, List.set_cons_zero, List.set_cons_succ]
                    refine wpAnyH_take (i := 16) (oi := { dst := some 94, op := Op.binOp BinOp.lss 3 (Operand.tmp 88) (Operand.tmp 93) 3, type := 4, pos := "again.go:57", after := #[{ on := 10, ground := Ground.data }, { on := 15, ground := Ground.data }, { on := 9, ground := Ground.guard }], guard := some (9, false) }) (v := ?_) rfl (by kernel_rfl) (by kernel_rfl) (by kernel_rfl) (fun _ _ _ h => h) (Or.inl ⟨by rfl, ?_⟩) (by assumption) ?_
                    rotate_left
                    · (intro W hSw; obtain ⟨x1, x2, x3, x4, x5, x6, x7, x8, x9, xa, xb, xc, xd, xe⟩ := HS9.out W hSw; go_simp; try with_reducible rfl)
                    try simp only [Act.put, List.setIfInBounds_toArray, List.set_cons_zero, List.set_cons_succ]
                    refine wpAnyH_take (i := 17) (oi := { dst := some 95, op := Op.move (Operand.tmp 94), type := 4, pos := "again.go:57", after := #[{ on := 16, ground := Ground.data }, { on := 9, ground := Ground.chain }, { on := 9, ground := Ground.guard }], guard := some (9, false) }) (v := ?_) rfl (by kernel_rfl) (by kernel_rfl) (by kernel_rfl) (fun _ _ _ h => h) (Or.inl ⟨by rfl, ?_⟩) (by assumption) ?_
                    rotate_left
                    · (intro W hSw; obtain ⟨x1, x2, x3, x4, x5, x6, x7, x8, x9, xa, xb, xc, xd, xe⟩ := HS9.out W hSw; go_simp; try with_reducible rfl)
                    try simp only [Act.put, List.setIfInBounds_toArray, List.set_cons_zero, List.set_cons_succ]
                    refine wpAnyH_take (i := 18) (oi := { dst := some 96, op := Op.move (Operand.tmp 0), type := 49, pos := "again.go:57", after := #[{ on := 17, ground := Ground.guard }], guard := some (17, true) }) (v := ?_) rfl (by kernel_rfl) (by kernel_rfl) (by kernel_rfl) (fun _ _ _ h => h) (Or.inl ⟨by rfl, ?_⟩) (by assumption) ?_
                    rotate_left
                    · (intro W hSw; obtain ⟨x1, x2, x3, x4, x5, x6, x7, x8, x9, xa, xb, xc, xd, xe⟩ := HS9.out W hSw; go_simp; try with_reducible rfl)
                    try simp only [Act.put, List.setIfInBounds_toArray, List.set_cons_zero, List.set_cons_succ]
                    refine wpAnyH_take (i := 19) (oi := { dst := some 97, op := Op.move (Operand.tmp 9), type := 3, pos := "again.go:57", after := #[{ on := 17, ground := Ground.guard }], guard := some (17, true) }) (v := ?_) rfl (by kernel_rfl) (by kernel_rfl) (by kernel_rfl) (fun _ _ _ h => h) (Or.inl ⟨by rfl, ?_⟩) (by assumption) ?_
                    rotate_left
                    · (intro W hSw; obtain ⟨x1, x2, x3, x4, x5, x6, x7, x8, x9, xa, xb, xc, xd, xe⟩ := HS9.out W hSw; go_simp; try with_reducible rfl)
                    try simp only [Act.put, List.setIfInBounds_toArray, List.set_cons_zero, List.set_cons_succ]
                    refine wpAnyH_take (i := 20) (oi := { dst := some 98, op := Op.indexAddr 49 (Operand.tmp 96) (Operand.tmp 97), type := 0, pos := "again.go:57", after := #[{ on := 18, ground := Ground.data }, { on := 19, ground := Ground.data }, { on := 17, ground := Ground.guard }], guard := some (17, true) }) (v := ?_) rfl (by kernel_rfl) (by kernel_rfl) (by kernel_rfl) (fun _ _ _ h => h) (Or.inl ⟨by rfl, ?_⟩) (by assumption) ?_
                    rotate_left
                    · (intro W hSw; obtain ⟨x1, x2, x3, x4, x5, x6, x7, x8, x9, xa, xb, xc, xd, xe⟩ := HS9.out W hSw; go_simp; try with_reducible rfl)
                    try simp only [Act.put, List.setIfInBounds_toArray, List.set_cons_zero, List.set_cons_succ]
                    refine wpAnyH_take (i := 21) (oi := { dst := some 99, op := Op.load 25 (Operand.tmp 98), type := 25, pos := "again.go:57", after := #[{ on := 20, ground := Ground.data }, { on := 17, ground := Ground.guard }], guard := some (17, true) }) (v := ?_) rfl (by kernel_rfl) (by kernel_rfl) (by kernel_rfl) (fun _ _ _ h => h) (Or.inl ⟨by rfl, ?_⟩) (by assumption) ?_
                    rotate_left
                    · (intro W hSw; obtain ⟨x1, x2, x3, x4, x5, x6, x7, x8, x9, xa, xb, xc, xd, xe⟩ := HS9.out W hSw; go_simp; try with_reducible rfl)
                    try simp only [Act.put, List.setIfInBounds_toArray, List.set_cons_zero, List.set_cons_succ]
                    refine wpAnyH_take (i := 22) (oi := { dst := some 100, op := Op.move (Operand.tmp 11), type := 3, pos := "again.go:57", after := #[{ on := 17, ground := Ground.guard }], guard := some (17, true) }) (v := ?_) rfl (by kernel_rfl) (by kernel_rfl) (by kernel_rfl) (fun _ _ _ h => h) (Or.inl ⟨by rfl, ?_⟩) (by assumption) ?_
                    rotate_left
                    · (intro W hSw; obtain ⟨x1, x2, x3, x4, x5, x6, x7, x8, x9, xa, xb, xc, xd, xe⟩ := HS9.out W hSw; go_simp; try with_reducible rfl)
                    try simp only [Act.put, List.setIfInBounds_toArray, List.set_cons_zero, List.set_cons_succ]
                    refine wpAnyH_take (i := 23) (oi := { dst := some 101, op := Op.indexAddr 25 (Operand.tmp 99) (Operand.tmp 100), type := 0, pos := "again.go:57", after := #[{ on := 21, ground := Ground.data }, { on := 22, ground := Ground.data }, { on := 17, ground := Ground.guard }], guard := some (17, true) }) (v := ?_) rfl (by kernel_rfl) (by kernel_rfl) (by kernel_rfl) (fun _ _ _ h => h) (Or.inl ⟨by rfl, ?_⟩) (by assumption) ?_
                    rotate_left
                    · (intro W hSw; obtain ⟨x1, x2, x3, x4, x5, x6, x7, x8, x9, xa, xb, xc, xd, xe⟩ := HS9.out W hSw; go_simp; try with_reducible rfl)
                    try simp only [Act.put, List.setIfInBounds_toArray, List.set_cons_zero, List.set_cons_succ]
                    refine wpAnyH_take (i := 24) (oi := { dst := some 102, op := Op.load 27 (Operand.tmp 101), type := 27, pos := "again.go:57", after := #[{ on := 23, ground := Ground.data }, { on := 17, ground := Ground.guard }], guard := some (17, true) }) (v := ?_) rfl (by kernel_rfl) (by kernel_rfl) (by kernel_rfl) (fun _ _ _ h => h) (Or.inl ⟨by rfl, ?_⟩) (by assumption) ?_
                    rotate_left
                    · (intro W hSw; obtain ⟨x1, x2, x3, x4, x5, x6, x7, x8, x9, xa, xb, xc, xd, xe⟩ := HS9.out W hSw; go_simp; try with_reducible rfl)
                    try simp only [Act.put, List.setIfInBounds_toArray, List.set_cons_zero, List.set_cons_succ]
                    refine wpAnyH_take (i := 25) (oi := { dst := some 103, op := Op.load 27 (Operand.tmp 10), type := 27, pos := "again.go:57", after := #[{ on := 17, ground := Ground.guard }], guard := some (17, true) }) (v := ?_) rfl (by kernel_rfl) (by kernel_rfl) (by kernel_rfl) (fun _ _ _ h => h) (Or.inl ⟨by rfl, ?_⟩) (by assumption) ?_
                    rotate_left
                    · (intro W hSw; obtain ⟨x1, x2, x3, x4, x5, x6, x7, x8, x9, xa, xb, xc, xd, xe⟩ := HS9.out W hSw; go_simp; try with_reducible rfl)
                    try simp only [Act.put, List.setIfInBounds_toArray, List.set_cons_zero, List.set_cons_succ]
                    refine wpAnyH_take (i := 26) (oi := { dst := some 104, op := Op.binOp BinOp.neq 27 (Operand.tmp 102) (Operand.tmp 103) 27, type := 4, pos := "again.go:57", after := #[{ on := 24, ground := Ground.data }, { on := 25, ground := Ground.data }, { on := 17, ground := Ground.guard }], guard := some (17, true) }) (v := ?_) rfl (by kernel_rfl) (by kernel_rfl) (by kernel_rfl) (fun _ _ _ h => h) (Or.inl ⟨by rfl, ?_⟩) (by assumption) ?_
                    rotate_left
                    · (intro W hSw; obtain ⟨x1, x2, x3, x4, x5, x6, x7, x8, x9, xa, xb, xc, xd, xe⟩ := HS9.out W hSw; go_simp; try with_reducible rfl)
                    try simp only [Act.put, List.setIfInBounds_toArray, List.set_cons_zero, List.set_cons_succ]
                    refine wpAnyH_take (i := 27) (oi := { dst := some 105, op := Op.pick (Operand.tmp 95) (Operand.tmp 104) (Operand.const (Value.bool false)), type := 4, pos := "again.go:57", after := #[{ on := 17, ground := Ground.data }, { on := 26, ground := Ground.data }, { on := 9, ground := Ground.guard }], guard := some (9, false) }) (v := ?_) rfl (by kernel_rfl) (by kernel_rfl) (by kernel_rfl) (fun _ _ _ h => h) (Or.inl ⟨by rfl, ?_⟩) (by assumption) ?_
                    rotate_left
                    · (intro W hSw; obtain ⟨x1, x2, x3, x4, x5, x6, x7, x8, x9, xa, xb, xc, xd, xe⟩ := HS9.out W hSw; go_simp; try with_reducible rfl)
                    try simp only [Act.put, List.setIfInBounds_toArray, List.set_cons_zero, List.set_cons_succ]
                    refine wpAnyH_take (i := 28) (oi := { dst := some 106, op := Op.pick (Operand.tmp 87) (Operand.const (Value.bool true)) (Operand.tmp 105), type := 4, pos := "again.go:57", after := #[{ on := 9, ground := Ground.data }, { on := 27, ground := Ground.data }], guard := none }) (v := ?_) rfl (by kernel_rfl) (by kernel_rfl) (by kernel_rfl) (fun _ _ _ h => h) (Or.inl ⟨by rfl, ?_⟩) (by assumption) ?_
                    rotate_left
                    · (intro W hSw; obtain ⟨x1, x2, x3, x4, x5, x6, x7, x8, x9, xa, xb, xc, xd, xe⟩ := HS9.out W hSw; go_simp; try with_reducible rfl)
                    try simp only [Act.put, List.setIfInBounds_toArray, List.set_cons_zero, List.set_cons_succ]
                    refine wpAnyH_done (by kernel_rfl) ?_ _
                    have HK6 := Lib.hid (HK5.out.trans' hD)
                    clear hD hHeld
                    go_wp2
                    go_roundw
                    case rel => exact ⟨q + 1, by omega, by go_num, HK6.out⟩
                    case measure => simp [intOf]; omega
                  · have hqn' : ¬ (q : Int) < (n : Int) := by omega
                    clear rb hk
                    have hqd : decide ((q : Int) < (n : Int)) = false := by simp; omega
                    have hqe : ((q : Int) < (n : Int)) = False := by simp; omega
                    have hS : ∀ W, Keeps [] wr W → _ ∧ _ ∧ _ ∧ _ ∧ _ ∧ _ ∧ _ ∧ _ ∧ _ ∧ _ := fun W h9 => ⟨h9.cell cL1 (by simp), h9.cell cM (by simp), h9.cell n0 (by simp), h9.cell n1 (by simp), h9.cell n2 (by simp), h9.cell n3 (by simp), h9.cell kg0 (by simp), h9.cell kg1 (by simp), h9.cell kg2 (by simp), h9.cell kg3 (by simp)⟩
                    have HS9 := Lib.hid hS
                    clear hS n0 n1 n2 n3 kg0 kg1 kg2 kg3
                    have hD : Keeps [] wr wr.drew := (Keeps.refl [] wr).drew
                    go_wp2_with fail
                    clear cL1 cM
                    refine wp_region_held_drew (S := fun W => Keeps [] wr W) (by kernel_rfl) ?_ (fun hHeld => ?_)
                    · exact hD
                    refine wpAnyH_take (i := 0) (oi := { dst := some 78, op := Op.move (Operand.tmp 5), type := 49, pos := "again.go:57", after := #[], guard := none }) (v := ?_) rfl (by kernel_rfl) (by kernel_rfl) (by kernel_rfl) (fun _ _ _ h => h) (Or.inl ⟨by rfl, ?_⟩) (by assumption) ?_
                    rotate_left
                    · (intro W hSw; obtain ⟨x1, x2, x3, x4, x5, x6, x7, x8, x9, xa⟩ := HS9.out W hSw; go_simp; try with_reducible rfl)
                    try simp only [Act.put, List.setIfInBounds_toArray, List.set_cons_zero, List.set_cons_succ]
                    refine wpAnyH_take (i := 1) (oi := { dst := some 79, op := Op.move (Operand.tmp 9), type := 3, pos := "again.go:57", after := #[], guard := none }) (v := ?_) rfl (by kernel_rfl) (by kernel_rfl) (by kernel_rfl) (fun _ _ _ h => h) (Or.inl ⟨by rfl, ?_⟩) (by assumption) ?_
                    rotate_left
                    · (intro W hSw; obtain ⟨x1, x2, x3, x4, x5, x6, x7, x8, x9, xa⟩ := HS9.out W hSw; go_simp; try with_reducible rfl)
                    try simp only [Act.put, List.setIfInBounds_toArray, List.set_cons_zero, List.set_cons_succ]
                    refine wpAnyH_take (i := 2) (oi := { dst := some 80, op := Op.indexAddr 49 (Operand.tmp 78) (Operand.tmp 79), type := 0, pos := "again.go:57", after := #[{ on := 0, ground := Ground.data }, { on := 1, ground := Ground.data }], guard := none }) (v := ?_) rfl (by kernel_rfl) (by kernel_rfl) (by kernel_rfl) (fun _ _ _ h => h) (Or.inl ⟨by rfl, ?_⟩) (by assumption) ?_
                    rotate_left
                    · (intro W hSw; obtain ⟨x1, x2, x3, x4, x5, x6, x7, x8, x9, xa⟩ := HS9.out W hSw; go_simp; try with_reducible rfl)
                    try simp only [Act.put, List.setIfInBounds_toArray, List.set_cons_zero, List.set_cons_succ]
                    refine wpAnyH_take (i := 3) (oi := { dst := some 81, op := Op.load 25 (Operand.tmp 80), type := 25, pos := "again.go:57", after := #[{ on := 2, ground := Ground.data }], guard := none }) (v := ?_) rfl (by kernel_rfl) (by kernel_rfl) (by kernel_rfl) (fun _ _ _ h => h) (Or.inl ⟨by rfl, ?_⟩) (by assumption) ?_
                    rotate_left
                    · (intro W hSw; obtain ⟨x1, x2, x3, x4, x5, x6, x7, x8, x9, xa⟩ := HS9.out W hSw; go_simp; try with_reducible rfl)
                    try simp only [Act.put, List.setIfInBounds_toArray, List.set_cons_zero, List.set_cons_succ]
                    refine wpAnyH_take (i := 4) (oi := { dst := some 82, op := Op.move (Operand.tmp 11), type := 3, pos := "again.go:57", after := #[], guard := none }) (v := ?_) rfl (by kernel_rfl) (by kernel_rfl) (by kernel_rfl) (fun _ _ _ h => h) (Or.inl ⟨by rfl, ?_⟩) (by assumption) ?_
                    rotate_left
                    · (intro W hSw; obtain ⟨x1, x2, x3, x4, x5, x6, x7, x8, x9, xa⟩ := HS9.out W hSw; go_simp; try with_reducible rfl)
                    try simp only [Act.put, List.setIfInBounds_toArray, List.set_cons_zero, List.set_cons_succ]
                    refine wpAnyH_take (i := 5) (oi := { dst := some 83, op := Op.indexAddr 25 (Operand.tmp 81) (Operand.tmp 82), type := 0, pos := "again.go:57", after := #[{ on := 3, ground := Ground.data }, { on := 4, ground := Ground.data }], guard := none }) (v := ?_) rfl (by kernel_rfl) (by kernel_rfl) (by kernel_rfl) (fun _ _ _ h => h) (Or.inl ⟨by rfl, ?_⟩) (by assumption) ?_
                    rotate_left
                    · (intro W hSw; obtain ⟨x1, x2, x3, x4, x5, x6, x7, x8, x9, xa⟩ := HS9.out W hSw; go_simp; try with_reducible rfl)
                    try simp only [Act.put, List.setIfInBounds_toArray, List.set_cons_zero, List.set_cons_succ]
                    refine wpAnyH_take (i := 6) (oi := { dst := some 84, op := Op.load 27 (Operand.tmp 83), type := 27, pos := "again.go:57", after := #[{ on := 5, ground := Ground.data }], guard := none }) (v := ?_) rfl (by kernel_rfl) (by kernel_rfl) (by kernel_rfl) (fun _ _ _ h => h) (Or.inl ⟨by rfl, ?_⟩) (by assumption) ?_
                    rotate_left
                    · (intro W hSw; obtain ⟨x1, x2, x3, x4, x5, x6, x7, x8, x9, xa⟩ := HS9.out W hSw; go_simp; try with_reducible rfl)
                    try simp only [Act.put, List.setIfInBounds_toArray, List.set_cons_zero, List.set_cons_succ]
                    refine wpAnyH_take (i := 7) (oi := { dst := some 85, op := Op.load 27 (Operand.tmp 10), type := 27, pos := "again.go:57", after := #[], guard := none }) (v := ?_) rfl (by kernel_rfl) (by kernel_rfl) (by kernel_rfl) (fun _ _ _ h => h) (Or.inl ⟨by rfl, ?_⟩) (by assumption) ?_
                    rotate_left
                    · (intro W hSw; obtain ⟨x1, x2, x3, x4, x5, x6, x7, x8, x9, xa⟩ := HS9.out W hSw; go_simp; try with_reducible rfl)
                    try simp only [Act.put, List.setIfInBounds_toArray, List.set_cons_zero, List.set_cons_succ]
                    refine wpAnyH_take (i := 8) (oi := { dst := some 86, op := Op.binOp BinOp.neq 27 (Operand.tmp 84) (Operand.tmp 85) 27, type := 4, pos := "again.go:57", after := #[{ on := 6, ground := Ground.data }, { on := 7, ground := Ground.data }], guard := none }) (v := ?_) rfl (by kernel_rfl) (by kernel_rfl) (by kernel_rfl) (fun _ _ _ h => h) (Or.inl ⟨by rfl, ?_⟩) (by assumption) ?_
                    rotate_left
                    · (intro W hSw; obtain ⟨x1, x2, x3, x4, x5, x6, x7, x8, x9, xa⟩ := HS9.out W hSw; go_simp; try with_reducible rfl)
                    try simp only [Act.put, List.setIfInBounds_toArray, List.set_cons_zero, List.set_cons_succ]
                    refine wpAnyH_take (i := 9) (oi := { dst := some 87, op := Op.move (Operand.tmp 86), type := 4, pos := "again.go:57", after := #[{ on := 8, ground := Ground.data }], guard := none }) (v := ?_) rfl (by kernel_rfl) (by kernel_rfl) (by kernel_rfl) (fun _ _ _ h => h) (Or.inl ⟨by rfl, ?_⟩) (by assumption) ?_
                    rotate_left
                    · (intro W hSw; obtain ⟨x1, x2, x3, x4, x5, x6, x7, x8, x9, xa⟩ := HS9.out W hSw; go_simp; try with_reducible rfl)
                    try simp only [Act.put, List.setIfInBounds_toArray, List.set_cons_zero, List.set_cons_succ]
                    refine wpAnyH_take (i := 10) (oi := { dst := some 88, op := Op.move (Operand.tmp 11), type := 3, pos := "again.go:57", after := #[{ on := 9, ground := Ground.guard }], guard := some (9, false) }) (v := ?_) rfl (by kernel_rfl) (by kernel_rfl) (by kernel_rfl) (fun _ _ _ h => h) (Or.inl ⟨by rfl, ?_⟩) (by assumption) ?_
                    rotate_left
                    · (intro W hSw; obtain ⟨x1, x2, x3, x4, x5, x6, x7, x8, x9, xa⟩ := HS9.out W hSw; go_simp; try with_reducible rfl)
                    try simp only [Act.put, List.setIfInBounds_toArray, List.set_cons_zero, List.set_cons_succ]
                    refine wpAnyH_take (i := 11) (oi := { dst := some 89, op := Op.move (Operand.tmp 0), type := 49, pos := "again.go:57", after := #[{ on := 9, ground := Ground.guard }], guard := some (9, false) }) (v := ?_) rfl (by kernel_rfl) (by kernel_rfl) (by kernel_rfl) (fun _ _ _ h => h) (Or.inl ⟨by rfl, ?_⟩) (by assumption) ?_
                    rotate_left
                    · (intro W hSw; obtain ⟨x1, x2, x3, x4, x5, x6, x7, x8, x9, xa⟩ := HS9.out W hSw; go_simp; try with_reducible rfl)
                    try simp only [Act.put, List.setIfInBounds_toArray, List.set_cons_zero, List.set_cons_succ]
                    refine wpAnyH_take (i := 12) (oi := { dst := some 90, op := Op.move (Operand.tmp 9), type := 3, pos := "again.go:57", after := #[{ on := 9, ground := Ground.guard }], guard := some (9, false) }) (v := ?_) rfl (by kernel_rfl) (by kernel_rfl) (by kernel_rfl) (fun _ _ _ h => h) (Or.inl ⟨by rfl, ?_⟩) (by assumption) ?_
                    rotate_left
                    · (intro W hSw; obtain ⟨x1, x2, x3, x4, x5, x6, x7, x8, x9, xa⟩ := HS9.out W hSw; go_simp; try with_reducible rfl)
                    try simp only [Act.put, List.setIfInBounds_toArray, List.set_cons_zero, List.set_cons_succ]
                    refine wpAnyH_take (i := 13) (oi := { dst := some 91, op := Op.indexAddr 49 (Operand.tmp 89) (Operand.tmp 90), type := 0, pos := "again.go:57", after := #[{ on := 11, ground := Ground.data }, { on := 12, ground := Ground.data }, { on := 9, ground := Ground.guard }], guard := some (9, false) }) (v := ?_) rfl (by kernel_rfl) (by kernel_rfl) (by kernel_rfl) (fun _ _ _ h => h) (Or.inl ⟨by rfl, ?_⟩) (by assumption) ?_
                    rotate_left
                    · (intro W hSw; obtain ⟨x1, x2, x3, x4, x5, x6, x7, x8, x9, xa⟩ := HS9.out W hSw; go_simp; try with_reducible rfl)
                    try simp only [Act.put, List.setIfInBounds_toArray, List.set_cons_zero, List.set_cons_succ]
                    refine wpAnyH_take (i := 14) (oi := { dst := some 92, op := Op.load 25 (Operand.tmp 91), type := 25, pos := "again.go:57", after := #[{ on := 13, ground := Ground.data }, { on := 9, ground := Ground.guard }], guard := some (9, false) }) (v := ?_) rfl (by kernel_rfl) (by kernel_rfl) (by kernel_rfl) (fun _ _ _ h => h) (Or.inl ⟨by rfl, ?_⟩) (by assumption) ?_
                    rotate_left
                    · (intro W hSw; obtain ⟨x1, x2, x3, x4, x5, x6, x7, x8, x9, xa⟩ := HS9.out W hSw; go_simp; try with_reducible rfl)
                    try simp only [Act.put, List.setIfInBounds_toArray, List.set_cons_zero, List.set_cons_succ]
                    refine wpAnyH_take (i := 15) (oi := { dst := some 93, op := Op.call { callee := Callee.builtin Builtin.len, args := #[Operand.tmp 92], argTypes := #[25] }, type := 3, pos := "again.go:57", after := #[{ on := 14, ground := Ground.data }, { on := 9, ground := Ground.guard }], guard := some (9, false) }) (v := ?_) rfl (by kernel_rfl) (by kernel_rfl) (by kernel_rfl) (fun _ _ _ h => h) (Or.inl ⟨by rfl, ?_⟩) (by assumption) ?_
                    rotate_left
                    · (intro W hSw; obtain ⟨x1, x2, x3, x4, x5, x6, x7, x8, x9, xa⟩ := HS9.out W hSw; go_simp; try with_reducible rfl)
                    try simp only [Act.put, List.setIfInBounds_toArray, List.set_cons_zero, List.set_cons_succ]
                    refine wpAnyH_take (i := 16) (oi := { dst := some 94, op := Op.binOp BinOp.lss 3 (Operand.tmp 88) (Operand.tmp 93) 3, type := 4, pos := "again.go:57", after := #[{ on := 10, ground := Ground.data }, { on := 15, ground := Ground.data }, { on := 9, ground := Ground.guard }], guard := some (9, false) }) (v := ?_) rfl (by kernel_rfl) (by kernel_rfl) (by kernel_rfl) (fun _ _ _ h => h) (Or.inl ⟨by rfl, ?_⟩) (by assumption) ?_
                    rotate_left
                    · (intro W hSw; obtain ⟨x1, x2, x3, x4, x5, x6, x7, x8, x9, xa⟩ := HS9.out W hSw; go_simp; try with_reducible rfl)
                    try simp only [Act.put, List.setIfInBounds_toArray, List.set_cons_zero, List.set_cons_succ]
                    refine wpAnyH_take (i := 17) (oi := { dst := some 95, op := Op.move (Operand.tmp 94), type := 4, pos := "again.go:57", after := #[{ on := 16, ground := Ground.data }, { on := 9, ground := Ground.chain }, { on := 9, ground := Ground.guard }], guard := some (9, false) }) (v := ?_) rfl (by kernel_rfl) (by kernel_rfl) (by kernel_rfl) (fun _ _ _ h => h) (Or.inl ⟨by rfl, ?_⟩) (by assumption) ?_
                    rotate_left
                    · (intro W hSw; obtain ⟨x1, x2, x3, x4, x5, x6, x7, x8, x9, xa⟩ := HS9.out W hSw; go_simp; try with_reducible rfl)
                    try simp only [Act.put, List.setIfInBounds_toArray, List.set_cons_zero, List.set_cons_succ]
                    refine wpAnyH_take (i := 18) (oi := { dst := some 96, op := Op.move (Operand.tmp 0), type := 49, pos := "again.go:57", after := #[{ on := 17, ground := Ground.guard }], guard := some (17, true) }) (v := undef) rfl (by kernel_rfl) (by kernel_rfl) (by kernel_rfl) (fun _ _ _ h => h) (Or.inr ⟨by rfl, rfl⟩) (by assumption) ?_
                    try simp only [Act.put, List.setIfInBounds_toArray, List.set_cons_zero, List.set_cons_succ]
                    refine wpAnyH_take (i := 19) (oi := { dst := some 97, op := Op.move (Operand.tmp 9), type := 3, pos := "again.go:57", after := #[{ on := 17, ground := Ground.guard }], guard := some (17, true) }) (v := undef) rfl (by kernel_rfl) (by kernel_rfl) (by kernel_rfl) (fun _ _ _ h => h) (Or.inr ⟨by rfl, rfl⟩) (by assumption) ?_
                    try simp only [Act.put, List.setIfInBounds_toArray, List.set_cons_zero, List.set_cons_succ]
                    refine wpAnyH_take (i := 20) (oi := { dst := some 98, op := Op.indexAddr 49 (Operand.tmp 96) (Operand.tmp 97), type := 0, pos := "again.go:57", after := #[{ on := 18, ground := Ground.data }, { on := 19, ground := Ground.data }, { on := 17, ground := Ground.guard }], guard := some (17, true) }) (v := undef) rfl (by kernel_rfl) (by kernel_rfl) (by kernel_rfl) (fun _ _ _ h => h) (Or.inr ⟨by rfl, rfl⟩) (by assumption) ?_
                    try simp only [Act.put, List.setIfInBounds_toArray, List.set_cons_zero, List.set_cons_succ]
                    refine wpAnyH_take (i := 21) (oi := { dst := some 99, op := Op.load 25 (Operand.tmp 98), type := 25, pos := "again.go:57", after := #[{ on := 20, ground := Ground.data }, { on := 17, ground := Ground.guard }], guard := some (17, true) }) (v := undef) rfl (by kernel_rfl) (by kernel_rfl) (by kernel_rfl) (fun _ _ _ h => h) (Or.inr ⟨by rfl, rfl⟩) (by assumption) ?_
                    try simp only [Act.put, List.setIfInBounds_toArray, List.set_cons_zero, List.set_cons_succ]
                    refine wpAnyH_take (i := 22) (oi := { dst := some 100, op := Op.move (Operand.tmp 11), type := 3, pos := "again.go:57", after := #[{ on := 17, ground := Ground.guard }], guard := some (17, true) }) (v := undef) rfl (by kernel_rfl) (by kernel_rfl) (by kernel_rfl) (fun _ _ _ h => h) (Or.inr ⟨by rfl, rfl⟩) (by assumption) ?_
                    try simp only [Act.put, List.setIfInBounds_toArray, List.set_cons_zero, List.set_cons_succ]
                    refine wpAnyH_take (i := 23) (oi := { dst := some 101, op := Op.indexAddr 25 (Operand.tmp 99) (Operand.tmp 100), type := 0, pos := "again.go:57", after := #[{ on := 21, ground := Ground.data }, { on := 22, ground := Ground.data }, { on := 17, ground := Ground.guard }], guard := some (17, true) }) (v := undef) rfl (by kernel_rfl) (by kernel_rfl) (by kernel_rfl) (fun _ _ _ h => h) (Or.inr ⟨by rfl, rfl⟩) (by assumption) ?_
                    try simp only [Act.put, List.setIfInBounds_toArray, List.set_cons_zero, List.set_cons_succ]
                    refine wpAnyH_take (i := 24) (oi := { dst := some 102, op := Op.load 27 (Operand.tmp 101), type := 27, pos := "again.go:57", after := #[{ on := 23, ground := Ground.data }, { on := 17, ground := Ground.guard }], guard := some (17, true) }) (v := undef) rfl (by kernel_rfl) (by kernel_rfl) (by kernel_rfl) (fun _ _ _ h => h) (Or.inr ⟨by rfl, rfl⟩) (by assumption) ?_
                    try simp only [Act.put, List.setIfInBounds_toArray, List.set_cons_zero, List.set_cons_succ]
                    refine wpAnyH_take (i := 25) (oi := { dst := some 103, op := Op.load 27 (Operand.tmp 10), type := 27, pos := "again.go:57", after := #[{ on := 17, ground := Ground.guard }], guard := some (17, true) }) (v := undef) rfl (by kernel_rfl) (by kernel_rfl) (by kernel_rfl) (fun _ _ _ h => h) (Or.inr ⟨by rfl, rfl⟩) (by assumption) ?_
                    try simp only [Act.put, List.setIfInBounds_toArray, List.set_cons_zero, List.set_cons_succ]
                    refine wpAnyH_take (i := 26) (oi := { dst := some 104, op := Op.binOp BinOp.neq 27 (Operand.tmp 102) (Operand.tmp 103) 27, type := 4, pos := "again.go:57", after := #[{ on := 24, ground := Ground.data }, { on := 25, ground := Ground.data }, { on := 17, ground := Ground.guard }], guard := some (17, true) }) (v := undef) rfl (by kernel_rfl) (by kernel_rfl) (by kernel_rfl) (fun _ _ _ h => h) (Or.inr ⟨by rfl, rfl⟩) (by assumption) ?_
                    try simp only [Act.put, List.setIfInBounds_toArray, List.set_cons_zero, List.set_cons_succ]
                    refine wpAnyH_take (i := 27) (oi := { dst := some 105, op := Op.pick (Operand.tmp 95) (Operand.tmp 104) (Operand.const (Value.bool false)), type := 4, pos := "again.go:57", after := #[{ on := 17, ground := Ground.data }, { on := 26, ground := Ground.data }, { on := 9, ground := Ground.guard }], guard := some (9, false) }) (v := ?_) rfl (by kernel_rfl) (by kernel_rfl) (by kernel_rfl) (fun _ _ _ h => h) (Or.inl ⟨by rfl, ?_⟩) (by assumption) ?_
                    rotate_left
                    · (intro W hSw; obtain ⟨x1, x2, x3, x4, x5, x6, x7, x8, x9, xa⟩ := HS9.out W hSw; go_simp; try with_reducible rfl)
                    try simp only [Act.put, List.setIfInBounds_toArray, List.set_cons_zero, List.set_cons_succ]
                    refine wpAnyH_take (i := 28) (oi := { dst := some 106, op := Op.pick (Operand.tmp 87) (Operand.const (Value.bool true)) (Operand.tmp 105), type := 4, pos := "again.go:57", after := #[{ on := 9, ground := Ground.data }, { on := 27, ground := Ground.data }], guard := none }) (v := ?_) rfl (by kernel_rfl) (by kernel_rfl) (by kernel_rfl) (fun _ _ _ h => h) (Or.inl ⟨by rfl, ?_⟩) (by assumption) ?_
                    rotate_left
                    · (intro W hSw; obtain ⟨x1, x2, x3, x4, x5, x6, x7, x8, x9, xa⟩ := HS9.out W hSw; go_simp; try with_reducible rfl)
                    try simp only [Act.put, List.setIfInBounds_toArray, List.set_cons_zero, List.set_cons_succ]
                    refine wpAnyH_done (by kernel_rfl) ?_ _
                    have HK6 := Lib.hid (HK5.out.trans' hD)
                    clear hD hHeld
                    go_wp2
                    go_roundw
                    case rel => exact ⟨q + 1, by omega, by go_num, HK6.out⟩
                    case measure => simp [intOf]; omega
                · have hqm' : ¬ (q : Int) < (m : Int) := by omega
                  go_wp2
                  go_roundw
                  case rel => exact ⟨j + 1, by omega, by go_num, hk⟩
                  case measure => simp [intOf]; omega
            · have hlj' : ¬ (j : Int) < (vs.length : Int) := by omega
              go_wp2
              go_ret
              exact ⟨rfl, HF.out.2.trans (keeps_below hk (by simp) HF.out.1)⟩
end Go.Proofs.Ytnmmapjcphefpaa.G

-- TokenLent: the walk.
namespace Go.Proofs.Ytnmmapjcphefpaa.G
open Go.RowKit Go.Proofs.YtnmmapjcphefpaaW.PrintWords Go.Proofs.YtnmmapjcphefpaaW.PrintLast Go.Proofs.YtnmmapjcphefpaaW.PrintMore
attribute [local go_sem] max2_int min2_int max_two min_two max_three min_three max_four min_four
set_option linter.unusedVariables false
set_option linter.unusedSimpArgs false
/-- the tokens of a text -/
def nm (s : ByteArray) : List S27 := (lexT (bs s)).1
theorem nm_len (s : ByteArray) : (nm s).length ≤ 1000000 := by
  have := lexT_len (bs s)
  unfold nm; omega
theorem nm_rounds (s : ByteArray) : ∃ k r2 r3 r4, token_Tokens.f k s = some (nm s, r2, r3, r4) ∧ kilnref11_Tokens.f k s = some (nm s, r2, r3, r4) := by
  obtain ⟨k1, h1⟩ := Tokens_ev s
  obtain ⟨k2, h2⟩ := TokensR_ev s
  exact ⟨max k1 k2, (lexT (bs s)).2.1, (lexT (bs s)).2.2.1, (lexT (bs s)).2.2.2, h1 (max k1 k2) (by omega), h2 (max k1 k2) (by omega)⟩
def LL (lv wv : Value) (es : List EL) (ws : List Value) (Ws : List EL) : List Thing :=
  rowT lv 25 1 es.length (es.map EL.v) :: rowT wv 25 1 es.length ws :: (es.map (fun e => sT e.v e.l) ++ Ws.map (fun e => sT e.v e.l))
/-- each list of want's holds what the list of the same number holds -/
def Cov (es : List EL) (ws : List Value) (Ws : List EL) : Prop := ws.length = es.length ∧ ∀ (j : Nat) (e : EL), es[j]? = some e → ∃ u ∈ Ws, ws[j]? = some u.v ∧ u.l = e.l
def LInv (w : World) (N : Nat) (lv wv : Value) (wr : World) : Prop :=
  ∃ (es : List EL) (ws : List Value) (Ws : List EL), es.length ≤ N ∧ Cov es ws Ws ∧ Has w.heap.size wr (LL lv wv es ws Ws) ∧ Below w.heap.size w wr
def KInv (w : World) (N : Nat) (lv wv wval : Value) (names : List S27) (wr : World) : Prop :=
  ∃ (es : List EL) (ws : List Value) (Ws : List EL), es.length ≤ N ∧ Cov es ws Ws ∧ (∃ u ∈ Ws, u.v = wval ∧ u.l = names) ∧ Has w.heap.size wr (LL lv wv es ws Ws) ∧ Below w.heap.size w wr
theorem LInv.start (w wr : World) (hb : Below w.heap.size w wr) : LInv w 0 (.slice none 0 0) (.slice none 0 0) wr := by
  refine ⟨[], [], [], by simp, ⟨rfl, fun j e h => by simp at h⟩, ?_, hb⟩
  obtain ⟨H1, _⟩ := (Has.nil w.heap.size wr hb.size).cons (t' := rowT (.slice none 0 0) 25 1 0 []) (Keeps.refl _ _) (World.ownsRow_nil _ _ _ _) (rowT_nodup ..) (fun k hk => by simp [rowT, Value.ownBlock] at hk)
  obtain ⟨H2, _⟩ := H1.cons (t' := rowT (.slice none 0 0) 25 1 0 []) (Keeps.refl _ _) (World.ownsRow_nil _ _ _ _) (rowT_nodup ..) (fun k hk => by simp [rowT, Value.ownBlock] at hk)
  exact H2
theorem LInv.below {w wr w1 : World} {N : Nat} {lv wv : Value} (h : LInv w N lv wv wr) (hb : Below wr.heap.size wr w1) : LInv w N lv wv w1 := by
  obtain ⟨es, ws, Ws, h1, h2, h3, h4⟩ := h
  exact ⟨es, ws, Ws, h1, h2, h3.keeps0 (Keeps.of_below hb), h4.trans (hb.mono h4.size)⟩
theorem LInv.mono {w wr : World} {N M : Nat} {lv wv : Value} (h : LInv w N lv wv wr) (hm : N ≤ M) : LInv w M lv wv wr := by
  obtain ⟨es, ws, Ws, h1, h2⟩ := h
  exact ⟨es, ws, Ws, by omega, h2⟩
theorem LInv.low {w wr : World} {N : Nat} {lv wv : Value} (h : LInv w N lv wv wr) : Below w.heap.size w wr := by
  obtain ⟨es, ws, Ws, h1, h2, h3, h4⟩ := h
  exact h4
theorem KInv.below {w wr w1 : World} {N : Nat} {lv wv u : Value} {l : List S27} (h : KInv w N lv wv u l wr) (hb : Below wr.heap.size wr w1) : KInv w N lv wv u l w1 := by
  obtain ⟨es, ws, Ws, h1, h2, h5, h3, h4⟩ := h
  exact ⟨es, ws, Ws, h1, h2, h5, h3.keeps0 (Keeps.of_below hb), h4.trans (hb.mono h4.size)⟩
theorem KInv.out {w wr : World} {N M : Nat} {lv wv u : Value} {l : List S27} (h : KInv w N lv wv u l wr) (hm : N ≤ M) : LInv w M lv wv wr := by
  obtain ⟨es, ws, Ws, h1, h2, h5, h3, h4⟩ := h
  exact ⟨es, ws, Ws, by omega, h2, h3, h4⟩
/-- a thing of a row that a call has told -/
theorem R_thing {B : Nat} {W w1 : World} {L : List Thing} {v : Value} {l : List S27} (h : Has B W L) (hR : Kd.R k27 27 w1 W.heap.size (fun _ => True) v l) (hb : Below W.heap.size W w1) : Has B w1 (sT v l :: L) ∧ Below B W w1 :=
  h.cons (t' := sT v l) (Keeps.of_below hb) ((R_has hR hb.size).get 0 rfl) (rowT_nodup ..) fun k hk => Kd.R_base hR k (by simpa [sT, rowT] using hk)
theorem LInv.want {w wr w1 : World} {N : Nat} {lv wv v : Value} {l : List S27} (h : LInv w N lv wv wr) (hR : Kd.R k27 27 w1 wr.heap.size (fun _ => True) v l) (hb : Below wr.heap.size wr w1) (hl : l.length ≤ 1000000) : KInv w N lv wv v l w1 := by
  obtain ⟨es, ws, Ws, h1, h2, h3, h4⟩ := h
  obtain ⟨H, hB⟩ := R_thing h3 hR hb
  refine ⟨es, ws, Ws ++ [⟨v, l, by omega⟩], h1, ⟨h2.1, fun j e he => ?_⟩, ⟨⟨v, l, by omega⟩, by simp, rfl, rfl⟩, H.perm ?_, h4.trans (hb.mono h4.size)⟩
  · obtain ⟨u, hu, hx⟩ := h2.2 j e he
    exact ⟨u, List.mem_append_left _ hu, hx⟩
  · unfold LL
    rw [List.map_append]
    classical
    rw [List.perm_iff_count]
    intro a
    simp only [List.count_append, List.count_cons, List.count_nil, List.map_cons, List.map_nil]
    omega
theorem own_C {W : World} {v : Value} {l : List S27} (h : W.ownsRow 0 27 4 v l.length (tcells l)) (hl : l.length ≤ 1000000000) : ∃ A c, v = .slice A l.length c ∧ Kd.C k27 W A l.length l ∧ l.length ≤ c := by
  rcases own_form h with ⟨rfl, h1, h2⟩ | ⟨g, cap, rfl, hr⟩
  · have hle : l = [] := List.length_eq_zero_iff.1 h1
    subst hle
    obtain ⟨A, c, e, _, hC⟩ := Kd.R_reads (Kd.R_nil k27 27 W 0 (fun _ => True))
    cases e
    exact ⟨none, 0, rfl, hC, Nat.le_refl _⟩
  · refine ⟨_, _, rfl, row_C hr hl, ?_⟩
    rcases hr.2 with ⟨e, _⟩ | ⟨g', cap', cur, e, _, _, h3, _⟩
    · cases e
    · cases e; exact h3
def LePost (w : World) (e : Ending) (w' : World) : Prop := e = .returned (.bool true) ∧ Below w.heap.size w w'
theorem cuts_rounds (x : ByteArray) : ∃ k, kilnlaw11_cuts.f k x = some true := Ev.rounds (cuts_ev x)
theorem LL_ML {B : Nat} {wr : World} {lv wv : Value} {es : List EL} {ws : List Value} {Ws : List EL} (h : Has B wr (LL lv wv es ws Ws)) : Has B wr (ML lv (es.map EL.v) es (rowT wv 25 1 es.length ws :: Ws.map (fun e => sT e.v e.l))) := by
  unfold ML
  rw [List.length_map]
  refine h.perm ?_
  unfold LL
  classical
  rw [List.perm_iff_count]
  intro a
  simp only [List.count_append, List.count_cons]
  omega
set_option maxHeartbeats 8000000 in
set_option maxRecDepth 100000 in
theorem lent_calls (A0 : Option Addr) (c0 : Nat) (l0 : List ByteArray) (w : World)
    (hr0 : Kd.C Kd.string w A0 l0.length l0) (hc0 : l0.length ≤ c0) :
    Calls Try.prog 13 #[.slice A0 l0.length c0] w (LePost w) := by
  obtain ⟨kt, hT⟩ := Ev.rounds Told_ev
  have HT := Lib.hid hT
  have H0 := Lib.hid hr0
  have C0 := Lib.hid hc0
  clear hT hr0 hc0
  go_enter Try.func13, Try.ntmps13
  go_wp2_with fail
  refine (kilnlaw11_Told.calls kt true w HT.out).mono ?_
  rintro e w1 ⟨rfl, hb1⟩
  have B1 := Lib.hid (LInv.start w w1 hb1)
  clear hb1
  go_wp2_with fail
  go_loopw [3, 4, 5] (fun lv wv s5 wr => ∃ t : Nat, t ≤ 2 ∧ s5 = .int .i64 (t : Int) ∧ Hid (LInv w (24 * t) lv wv wr)) (fun _ _ s5 _ => 2 - (intOf s5).toNat)
  case atStart => exact ⟨0, by omega, rfl, B1⟩
  case round =>
    clear B1
    obtain ⟨t, ht, rfl, HI⟩ := hrel
    by_cases ht2 : t < 2
    · have ht3 : (t : Int) < 2 := by omega
      go_wp2_with fail
      go_loopw [3, 4, 6] (fun lv wv s6 wr => ∃ i : Nat, i ≤ l0.length ∧ i ≤ 12 ∧ s6 = .int .i64 (i : Int) ∧ Hid (LInv w (24 * t + 2 * i) lv wv wr)) (fun _ _ s6 _ => 12 - (intOf s6).toNat)
      case atStart => exact ⟨0, by omega, by omega, rfl, HI⟩
      case round =>
        clear HI
        obtain ⟨i, hi, hi20, rfl, HI⟩ := hrel
        by_cases hin : i < l0.length ∧ i < 12
        · obtain ⟨hin1, hin2⟩ := hin
          have d1 : decide ((i : Int) < (l0.length : Int)) = true := decide_eq_true (by omega)
          have d2 : decide ((i : Int) < 12) = true := decide_eq_true (by omega)
          have p0 : (0 ≤ (i : Int)) = True := eq_true (Int.natCast_nonneg _)
          have p1 : ((i : Int) < (l0.length : Int)) = True := eq_true (by omega)
          have p2 : ((i : Int) < 12) = True := eq_true (by omega)
          obtain ⟨ad0, e0, x0⟩ := Kd.at_string (Kd.C_below H0.out HI.out.low) (i : Int) (Int.natCast_nonneg _) (by omega)
          cases e0
          simp only [Int.toNat_natCast] at x0
          go_wp2_with fail
          refine (kilnlaw11_cut.calls _ 1500 _ _ (cut_is (rdOf ByteArray.empty l0 (i : Int)) 1500 (by decide))).mono ?_
          rintro e w2 ⟨rfl, ⟨⟨m2, rfl⟩⟩⟩
          generalize mk ((bs (rdOf ByteArray.empty l0 (i : Int))).take (1500 : Int).toNat) = x
          obtain ⟨kx, r2, r3, r4, hx1, hx2⟩ := nm_rounds x
          have hnl := nm_len x
          have HX1 := Lib.hid hx1
          have HX2 := Lib.hid hx2
          clear hx1 hx2
          have HI2 := Lib.hid (HI.out.below (pw_below_drewN (Below.refl wr.heap.size wr) m2))
          go_wp2_with fail
          refine (kilnref11_Tokens.calls kx x (nm x) r2 r3 r4 _ HX2.out).mono ?_
          rintro e w3 ⟨v0, rfl, hR, hb3⟩
          have HK := Lib.hid (HI2.out.want hR hb3 hnl)
          clear hR hb3
          go_wp2_with fail
          go_loopw [3, 4, 12] (fun lv wv s10 wr => ∃ k : Nat, k + t ≤ 2 ∧ s10 = .int .i64 (k : Int) ∧ Hid (KInv w (24 * t + 2 * i + k) lv wv v0 (nm x) wr)) (fun _ _ s10 _ => 2 - (intOf s10).toNat)
          case atStart => exact ⟨0, by omega, rfl, HK⟩
          case round =>
            clear HI HI2 HK
            obtain ⟨k, hk, rfl, HK⟩ := hrel
            have hwt : wrap64 (2 - (t : Int)) = 2 - (t : Int) := IntWalk.wrap64_in _ (by omega)
            have hwt2 : IntKind.i64.wrap (2 - (t : Int)) = 2 - (t : Int) := (i64_w _).trans hwt
            by_cases hkt : k + t < 2
            · have q1 : ((k : Int) < 2 - (t : Int)) = True := eq_true (by omega)
              have q2 : decide ((k : Int) < 2 - (t : Int)) = true := decide_eq_true (by omega)
              go_wp2_with fail
              refine (token_Tokens.calls kx x (nm x) r2 r3 r4 _ HX1.out).mono ?_
              rintro e w4 ⟨v1, rfl, hR, hb4⟩
              obtain ⟨A9, c9, hv1, hl9, _⟩ := Kd.R_reads hR
              obtain ⟨es, ws, Ws, hlen, hcov, hmem, hHas, hlow⟩ := HK.out
              obtain ⟨H1, hB1⟩ := R_thing hHas hR hb4
              have hv0 : ∃ A8 n8 c8, v0 = .slice A8 n8 c8 := by
                obtain ⟨u, hu, rfl, _⟩ := hmem
                have := hHas.all (sT u.v u.l) (by unfold LL; simp only [List.mem_cons, List.mem_append, List.mem_map]; exact .inr (.inr (.inr ⟨u, hu, rfl⟩)))
                obtain ⟨A8, c8, e8⟩ := own_len this
                exact ⟨_, _, _, e8⟩
              have HLOW := Lib.hid (hlow.trans hB1)
              have HCOV := Lib.hid hcov
              have HMEM := Lib.hid hmem
              clear hHas hlow hB1 hR hb4 hl9 hcov hmem HK
              subst hv1
              go_wp2_with (refine wp_push rfl _ _ 49 25 (.slice none 0 0) 1 24 rfl Try.underlying49 info25 rfl (by omega) (by omega) u3 es.length (es.map EL.v) #[.slice A9 (nm x).length c9] rfl rfl (by simp) rfl ?d1 (H1.get 1 rfl) ?d2 ?_)
              case d1 => simp [Value.oneCell']
              case d2 => omega
              intro vL w5 hown hkL hfL
              obtain ⟨H2, hB2⟩ := H1.row 1 rfl hown hkL hfL
              have HLOW2 := Lib.hid (HLOW.out.trans hB2)
              clear hown hkL hfL H1 hB2 HLOW
              obtain ⟨A8, n8, c8, rfl⟩ := hv0
              go_wp2_with (refine wp_push rfl _ _ 49 25 (.slice none 0 0) 1 24 rfl Try.underlying49 info25 rfl (by omega) (by omega) u4 es.length ws #[.slice A8 n8 c8] rfl rfl (by simp) rfl ?d1 (H2.get 2 rfl) ?d2 ?_)
              case d1 => simp [Value.oneCell']
              case d2 => omega
              intro vW w6 hown hkL hfL
              obtain ⟨H3, hB3⟩ := H2.row 2 rfl hown hkL hfL
              have HK2 := Lib.hid (show KInv w (24 * t + 2 * i + (k + 1)) vL vW (.slice A8 n8 c8) (nm x) w6 from by
                refine ⟨es ++ [⟨.slice A9 (nm x).length c9, nm x, by omega⟩], ws ++ [.slice A8 n8 c8], Ws, by simp; omega, ⟨by simp [HCOV.out.1], fun j e he => ?_⟩, HMEM.out, ?_, HLOW2.out.trans hB3⟩
                · have hwl := HCOV.out.1
                  by_cases hj : j < es.length
                  · rw [List.getElem?_append_left hj] at he
                    obtain ⟨u, hu, h8, h9⟩ := HCOV.out.2 j e he
                    exact ⟨u, hu, by rw [List.getElem?_append_left (by omega)]; exact h8, h9⟩
                  · have hj2 : j = es.length := by have := (List.getElem?_eq_some_iff.1 he).1; simp at this; omega
                    subst hj2
                    rw [List.getElem?_append_right (by omega)] at he
                    simp at he
                    subst he
                    obtain ⟨u, hu, h8, h9⟩ := HMEM.out
                    refine ⟨u, hu, ?_, h9⟩
                    rw [List.getElem?_append_right (by omega), hwl, h8]
                    simp
                · refine H3.perm ?_
                  unfold LL
                  simp only [List.map_append, List.map_cons, List.map_nil, List.length_append, List.length_cons, List.length_nil, Nat.zero_add]
                  show (sT _ _ :: rowT vL 25 1 (es.length + 1) (es.map EL.v ++ [Value.slice A9 (nm x).length c9]) :: rowT vW 25 1 (es.length + 1) (ws ++ [Value.slice A8 n8 c8]) :: _).Perm _
                  classical
                  rw [List.perm_iff_count]
                  intro a
                  simp only [List.count_append, List.count_cons, List.count_nil]
                  omega)
              clear hown hkL hfL H2 hB3 H3 HLOW2 HMEM HCOV
              go_wp2
              go_roundw
              case rel => exact ⟨k + 1, by omega, by go_num, HK2⟩
              case measure => simp [intOf]; omega
            · have q1 : ((k : Int) < 2 - (t : Int)) = False := eq_false (by omega)
              have q2 : decide ((k : Int) < 2 - (t : Int)) = false := decide_eq_false (by omega)
              have HI3 := Lib.hid (HK.out.out (M := 24 * t + 2 * (i + 1)) (by omega))
              clear HK
              go_wp2
              go_roundw
              case rel => exact ⟨i + 1, by omega, by omega, by go_num, HI3⟩
              case measure => simp [intOf]; omega
        · have HI3 := Lib.hid (HI.out.mono (M := 24 * (t + 1)) (by omega))
          by_cases u1 : i < l0.length
          · have u2 : ¬ i < 12 := fun h => hin ⟨u1, h⟩
            have f1 : decide ((i : Int) < (l0.length : Int)) = true := decide_eq_true (by omega)
            have p1 : ((i : Int) < (l0.length : Int)) = True := eq_true (by omega)
            have f2 : decide ((i : Int) < 12) = false := decide_eq_false (by omega)
            have p2 : ((i : Int) < 12) = False := eq_false (by omega)
            clear u1 u2 hin
            go_wp2
            go_roundw
            case rel => exact ⟨t + 1, by omega, by go_num, HI3⟩
            case measure => simp [intOf]; omega
          · have f1 : decide ((i : Int) < (l0.length : Int)) = false := decide_eq_false (by omega)
            have p1 : ((i : Int) < (l0.length : Int)) = False := eq_false (by omega)
            clear u1 hin
            go_wp2
            go_roundw
            case rel => exact ⟨t + 1, by omega, by go_num, HI3⟩
            case measure => simp [intOf]; omega
    · have ht3 : ((t : Int) < 2) = False := eq_false (by omega)
      have ht4 : decide ((t : Int) < 2) = false := decide_eq_false (by omega)
      obtain ⟨es, ws, Ws, hlen, hcov, hHas, hlow⟩ := HI.out
      obtain ⟨aL, cL, hlv⟩ := own_len (hHas.get 0 rfl)
      obtain ⟨aW, cW, hwv⟩ := own_len (hHas.get 1 rfl)
      subst hlv
      subst hwv
      have HS := Lib.hid (And.intro hHas hlow)
      have HCOV := Lib.hid hcov
      clear hHas hlow hcov HI
      go_wp2_with fail
      go_loopw [17] (fun s14 wr => ∃ j : Nat, j ≤ es.length ∧ s14 = .int .i64 (j : Int) ∧ Hid (Has w.heap.size wr (LL (.slice aL es.length cL) (.slice aW es.length cW) es ws Ws) ∧ Below w.heap.size w wr)) (fun s14 _ => es.length - (intOf s14).toNat)
      case atStart => exact ⟨0, by omega, rfl, HS⟩
      case round =>
        clear HS
        obtain ⟨j, hj, rfl, HS⟩ := hrel
        by_cases hjl : j < es.length
        · have p0 : (0 ≤ (j : Int)) = True := eq_true (Int.natCast_nonneg _)
          have p1 : ((j : Int) < (es.length : Int)) = True := eq_true (by omega)
          have d1 : decide ((j : Int) < (es.length : Int)) = true := decide_eq_true (by omega)
          obtain ⟨gL, c9, hL, rL⟩ := own_some (HS.out.1.get 0 rfl) (by omega)
          cases hL
          obtain ⟨gW, c9, hW, rW⟩ := own_some (HS.out.1.get 1 rfl) (by omega)
          cases hW
          have he : es[j]? = some (es[j]'hjl) := List.getElem?_eq_getElem hjl
          generalize es[j]'hjl = e at he
          obtain ⟨u, hu, hwu, hul⟩ := HCOV.out.2 j e he
          have cL := (rL.cell j (by omega)).trans (show (es.map EL.v)[j]? = some e.v by simp [he])
          have cW := (rW.cell j (by omega)).trans hwu
          have o1 := HS.out.1.all (sT e.v e.l) (by unfold LL; simp only [List.mem_cons, List.mem_append, List.mem_map]; exact .inr (.inr (.inl ⟨e, List.mem_of_getElem? he, rfl⟩)))
          have o2 := HS.out.1.all (sT u.v u.l) (by unfold LL; simp only [List.mem_cons, List.mem_append, List.mem_map]; exact .inr (.inr (.inr ⟨u, hu, rfl⟩)))
          obtain ⟨A1, c1, e1, hC1, hc1⟩ := own_C o1 e.le
          obtain ⟨A2, c2, e2, hC2, hc2⟩ := own_C o2 u.le
          rw [hul] at hC2 e2 hc2
          rw [e1] at cL
          rw [e2] at cW
          obtain ⟨ks, hks⟩ := Ev.rounds (Same_ev e.l (by have := e.le; omega))
          have HC1 := Lib.hid hC1
          have HC2 := Lib.hid hC2
          have HKS := Lib.hid hks
          have hc1 := Lib.hid hc1
          have hc2 := Lib.hid hc2
          clear o1 o2 hC1 hC2 hks hwu he e1 e2 rL rW hu hul
          have kD : Below wr.heap.size wr wr.drew := keeps_below (drew_keepsM wr) (by simp) (Nat.le_refl _)
          have hS : ∀ W, Keeps [] wr W → W.cell? ⟨gL, j, none⟩ = some (.slice A1 e.l.length c1) ∧ W.cell? ⟨gW, j, none⟩ = some (.slice A2 e.l.length c2) ∧ Keeps [] wr W := fun W hk => ⟨hk.cell cL (by simp), hk.cell cW (by simp), hk⟩
          have hD := hS _ (drew_keepsM wr)
          have HS9 := Lib.hid hS
          clear hS cL cW
          have HB9 : Hid (Calls Try.prog 25 #[.slice A1 e.l.length c1, .slice A2 e.l.length c2] wr.drew fun e' w' => e' = .returned (.bool true) ∧ Keeps [] wr w') := by
            refine Lib.hid ((kilnref11_Same.calls ks A1 c1 e.l A2 c2 e.l true wr.drew (Kd.C_below HC1.out kD) hc1.out (Kd.C_below HC2.out kD) hc2.out HKS.out).mono ?_)
            rintro e' w' ⟨h1, ⟨⟨m9, rfl⟩⟩⟩
            exact ⟨h1, (drew_keepsM wr).trans' (Keeps.of_below (pw_below_drewN (Below.refl wr.drew.heap.size wr.drew) m9))⟩
          go_wp2_with fail
          go_region_held3 (fun W => W.cell? ⟨gL, j, none⟩ = some (.slice A1 e.l.length c1) ∧ W.cell? ⟨gW, j, none⟩ = some (.slice A2 e.l.length c2) ∧ Keeps [] wr W) (first | exact hD | assumption | exact HS9.out _ (by assumption)) (first | (go_at_call 25; refine HB9.out.mono ?_; rintro e9 w9 ⟨rfl, hk9⟩) | fail)
          all_goals
            have HS2 := Lib.hid (And.intro (HS.out.1.keeps0 hk9) (HS.out.2.trans (keeps_below hk9 (by simp) HS.out.1.le)))
            clear HS hk9 hD
            go_wp2
            go_roundw
            case rel => exact ⟨j + 1, by omega, by go_num, HS2⟩
            case measure => simp [intOf]; omega
        · have p1 : ((j : Int) < (es.length : Int)) = False := eq_false (by omega)
          have d1 : decide ((j : Int) < (es.length : Int)) = false := decide_eq_false (by omega)
          have HM := Lib.hid (marked_calls (LL_ML HS.out.1) (by omega) aL cL rfl)
          have HLOW := Lib.hid HS.out.2
          clear HS
          go_wp2_with fail
          refine HM.out.mono ?_
          rintro e9 w9 ⟨rfl, hb9⟩
          have HLOW2 := Lib.hid (HLOW.out.trans hb9)
          clear HM HLOW hb9
          go_wp2_with fail
          go_loopw [18] (fun s15 wr => ∃ i : Nat, i ≤ l0.length ∧ i ≤ 12 ∧ s15 = .int .i64 (i : Int) ∧ Hid (Below w.heap.size w wr)) (fun s15 _ => 12 - (intOf s15).toNat)
          case atStart => exact ⟨0, by omega, by omega, rfl, HLOW2⟩
          case round =>
            clear HLOW2
            obtain ⟨i, hi, hi20, rfl, HL⟩ := hrel
            by_cases hin : i < l0.length ∧ i < 12
            · obtain ⟨hin1, hin2⟩ := hin
              have d1 : decide ((i : Int) < (l0.length : Int)) = true := decide_eq_true (by omega)
              have d2 : decide ((i : Int) < 12) = true := decide_eq_true (by omega)
              have p0 : (0 ≤ (i : Int)) = True := eq_true (Int.natCast_nonneg _)
              have p1 : ((i : Int) < (l0.length : Int)) = True := eq_true (by omega)
              have p2 : ((i : Int) < 12) = True := eq_true (by omega)
              obtain ⟨ad0, e0, x0⟩ := Kd.at_string (Kd.C_below H0.out HL.out) (i : Int) (Int.natCast_nonneg _) (by omega)
              cases e0
              simp only [Int.toNat_natCast] at x0
              go_wp2_with fail
              refine (kilnlaw11_cut.calls _ 1500 _ _ (cut_is (rdOf ByteArray.empty l0 (i : Int)) 1500 (by decide))).mono ?_
              rintro e w2 ⟨rfl, ⟨⟨m2, rfl⟩⟩⟩
              generalize mk ((bs (rdOf ByteArray.empty l0 (i : Int))).take (1500 : Int).toNat) = x
              obtain ⟨kx, hx⟩ := cuts_rounds x
              have HX := Lib.hid hx
              clear hx
              have HL2 := Lib.hid (pw_below_drewN HL.out m2)
              go_wp2_with fail
              refine (kilnlaw11_cuts.calls kx x true _ HX.out).mono ?_
              rintro e w3 ⟨rfl, hb3⟩
              have HL3 := Lib.hid (HL2.out.trans (hb3.mono HL2.out.size))
              clear HL HL2 hb3
              go_wp2
              go_roundw
              case rel => exact ⟨i + 1, by omega, by omega, by go_num, HL3⟩
              case measure => simp [intOf]; omega
            · by_cases u1 : i < l0.length
              · have u2 : ¬ i < 12 := fun h => hin ⟨u1, h⟩
                have f1 : decide ((i : Int) < (l0.length : Int)) = true := decide_eq_true (by omega)
                have p1 : ((i : Int) < (l0.length : Int)) = True := eq_true (by omega)
                have f2 : decide ((i : Int) < 12) = false := decide_eq_false (by omega)
                have p2 : ((i : Int) < 12) = False := eq_false (by omega)
                clear u1 u2 hin
                go_wp2
                go_ret
                exact ⟨rfl, HL.out⟩
              · have f1 : decide ((i : Int) < (l0.length : Int)) = false := decide_eq_false (by omega)
                have p1 : ((i : Int) < (l0.length : Int)) = False := eq_false (by omega)
                clear u1 hin
                go_wp2
                go_ret
                exact ⟨rfl, HL.out⟩
theorem kilnlaw11_TokenLent.calls (k : Nat) (A0 : Option Addr) (c0 : Nat) (l0 : List ByteArray) (r : Bool) (w : World)
    (hr0 : Kd.C Kd.string w A0 l0.length l0) (hc0 : l0.length ≤ c0) (h : r = true) :
    Calls Try.prog 13 #[.slice A0 l0.length c0] w fun e w' => e = .returned (.bool r) ∧ Below w.heap.size w w' := by
  subst h
  exact lent_calls A0 c0 l0 w hr0 hc0
theorem TokenLent_true : ∃ k : Nat, true = true := ⟨0, rfl⟩
end Go.Proofs.Ytnmmapjcphefpaa.G

/- The lists of tokens that Tokens tells are their caller's own: law TokenLent returns true. For all arguments that can be read. -/
set_option linter.unusedVariables false
set_option linter.unusedSimpArgs false
namespace Go.Proofs.Ytnmmapjcphefpaa.tokenLent
open Go.ChangeShapes Go.WideShapes Go.ChangeAt Go.RowKit
theorem own : ownKnob Try.prog.godebug = none := by kernel_rfl
theorem laidOut : laidOutB Try.prog = true := by kernel_rfl
set_option maxRecDepth 100000 in
theorem lifted (os : Os) (started : os.Started) (H : Type) (enc : TypeId × Value → H) :
    ReturnsInHanded {} Try.checked os 13 .any (Rows.tokenLentSpec.pre6 enc Try.prog Try.f13 Rows.tokenLentRow.domain false) (Rows.tokenLentSpec.post enc Try.prog Try.f13 false true false false) := by
  refine returnsInHanded_of_change_sized (C := Try.checked) own started (by kernel_rfl) Try.func13
    (ChangeSpec.witness6 (enc := enc) (C := Try.checked) false ⟨#[], #[.slice none 0 0], []⟩ 8 (by kernel_rfl) (by kernel_rfl) (by kernel_rfl) (by kernel_rfl)) ?_
  intro W base args ds gs before hval0 hW hcnd hsz0 _
  have hval : ∀ (j : Nat) t v, Try.f13.params[j]? = some t → args[j]? = some v → Value.okWide Try.prog W .any base t v := hval0
  have hW' := hW
  obtain ⟨p, q, hA0, hV, rfl, hfz, hnd⟩ := hW
  have hA : DataW.TrodAll enc Try.prog W 0 (fun _ => true) true Try.f13.params.toList args.toList ds p := hA0
  rw [Try.params13] at hA hval
  obtain ⟨v0, vs0, d0, ds0, p0, q0, hargs, rfl, rfl, h0, r0⟩ := trodAll_cons hA
  obtain ⟨rfl, rfl, rfl⟩ := trodAll_nil r0
  obtain rfl : args = #[v0] := by cases args; simp_all
  obtain ⟨rfl, rfl⟩ := trodVars_none hV
  obtain ⟨o0, l0, c0, rfl, n0, _, e0⟩ := G.open_strs (hval 0 38 v0 rfl rfl) h0
  clear hA0 hval0 hsz0
  refine (G.lent_calls o0 c0 l0 W e0 n0).mono fun e W' ⟨he, hg⟩ => ?_
  subst he
  exact ⟨_, rfl, law_post laidOut Try.underlying4 (by kernel_rfl) (fun t ht => by rw [Try.params13] at ht; simp at ht; subst ht; exact ⟨by kernel_rfl, of_decide_eq_true (by kernel_rfl)⟩) rfl rfl hW' hg⟩
theorem over : Rows.tokenLentRow.holds Try.pinned (OpenSpec.ofChange Rows.tokenLentSpec) :=
  OpenClaim.holds_of_wide 13 Try.f13 rfl rfl rfl rfl rfl rfl rfl ⟨rfl, rfl, rfl, rfl, rfl⟩ rfl rfl rfl rfl rfl (by kernel_rfl) Try.func13 (by kernel_rfl)
    (of_decide_eq_true (by kernel_rfl)) (by unfold Func.isWrapper; first | (rw [if_pos (by decide +kernel)]; kernel_rfl) | (rw [if_neg (by decide +kernel)]; exact ⟨rfl, rfl⟩))
    (fun os started H enc _ => lifted os started H enc)
theorem proved : Rows.TokenLentSaid := over
#print axioms proved
end Go.Proofs.Ytnmmapjcphefpaa.tokenLent
namespace Go.Proofs.Ytnmmapjcphefpaa
/-- The row, under a short name, for the claim. -/
theorem tokenLent_holds : Rows.TokenLentSaid := tokenLent.proved
end Go.Proofs.Ytnmmapjcphefpaa
