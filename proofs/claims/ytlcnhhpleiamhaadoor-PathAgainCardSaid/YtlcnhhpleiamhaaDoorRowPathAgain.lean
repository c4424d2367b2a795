/- Of one list of names, changed in place between two calls, Text tells each time what it holds then: law PathAgain returns true. For all arguments that can be read; the library's tables unicode/utf8.acceptRanges and unicode/utf8.first are as their texts lay them. -/
import Derived.Test.YtlcnhhpleiamhaaDoorKit
import Derived.ProofKit
import Derived.OpenShut
import Derived.Carry
import Derived.Deep.Slices
import Derived.Test.YtlcnhhpleiamhaaDoorRows
import Derived.Test.YtlcnhhpleiamhaaDoorGx0
import Derived.Lib.SmallJoins
import Derived.WideShapes
import Derived.Test.YtlcnhhpleiamhaaDoorPl
import Derived.Test.YtlcnhhpleiamhaaDoorGx8
import Derived.Test.YtlcnhhpleiamhaaDoorKit3
import Derived.Test.YtlcnhhpleiamhaaDoorCards
import Derived.Test.YtlcnhhpleiamhaaDoorTie
import Derived.Deep.DeepHandedRow
import Derived.Lib.LaidTab
/- General words for a law's row: what the row asks behind the call, where nothing below the call's own blocks has turned; arguments that are slices of structs of whole numbers. -/
set_option linter.unusedVariables false
set_option linter.unusedSimpArgs false
namespace Go.Proofs.YtlcnhhpleiamhaaDoor
open Go.ChangeShapes Go.WideShapes Go.ChangeAt Go.RowKit

section
variable {H : Type} {enc : TypeId × Value → H} {P : Program}
theorem trodAll_stay (hl : laidOutB P = true) {W W' : World} {sp : Nat → Bool} : ∀ (ts : List TypeId) (vs : List Value) (ds : List (DataW H)) (ps : List MemPlace), (∀ t ∈ ts, P.readableRec t = true ∧ t < P.types.size) →
    DataW.TrodAll enc P W 0 (fun _ => true) true ts vs ds ps → (∀ p ∈ ps, W.sameAt W' p) → (∀ p ∈ ps, sp p.block = true) → DataW.TrodAll enc P W' 0 sp true ts vs ds ps
  | [], [], [], ps, _, h, _, _ => h
  | t :: ts, v :: vs, d :: ds, ps, hr, h, hs, hp => by
    obtain ⟨p, q, h1, h2, rfl⟩ := h
    refine ⟨p, q, ?_, trodAll_stay hl ts vs ds q (fun x hx => hr x (List.mem_cons_of_mem _ hx)) h2 (fun x hx => hs x (List.mem_append_right _ hx)) (fun x hx => hp x (List.mem_append_right _ hx)), rfl⟩
    exact WideElems.Trod_stays hl (hr t (by simp)).1 (hr t (by simp)).2 h1 (fun x hx => hs x (List.mem_append_left _ hx)) (fun x hx => hp x (List.mem_append_left _ hx))
  | [], _ :: _, _, _, _, h, _, _ => h.elim
  | [], [], _ :: _, _, _, h, _, _ => h.elim
  | _ :: _, [], _, _, _, h, _, _ => h.elim
  | _ :: _, _ :: _, [], _, _, h, _, _ => h.elim

/-- a law with no variable among what it is asked of: the arguments read as they read, the answer is true, the old blocks are as they were -/
theorem law_post (hl : laidOutB P = true) {f : Func} {s : ChangeSpec} {W W' : World} {args : Array Value} {ds : List (DataW H)} {before : List MemPlace} {T : TypeId} (hT : P.underlying T = some .bool) (hres : f.resultTypes = #[T])
    (hr : ∀ t ∈ f.params.toList, P.readableRec t = true ∧ t < P.types.size)
    (hspec : s.fn H (ds ++ []) = { results := [.lit (.bool true)], args := ds }) (hvars : s.vars = [])
    (hW : DataW.Whole enc P f.params.toList s.vars false W args.toList ds [] before)
    (hb : Below W.heap.size W W') : s.post enc P f false true false false W args (.bool true) W' := by
  have old : ∀ p ∈ before, p.block < W.heap.size := fun p hp => hW.lt p hp
  have inOld : ∀ p ∈ before, (fun b => decide (b < W.heap.size)) p.block = true := fun p hp => by simpa using old p hp
  have R : ∀ (b : Nat) (sp : Nat → Bool) (hd : Bool), DataW.TrodAll enc P W' b sp hd f.resultTypes.toList ((Value.bool true).resultList f.resultTypes.size) (s.fn H (ds ++ [])).results [] := by
    intro b sp hd
    rw [hspec, hres]
    exact trodAll_cons_mk (shut_bool hT true) trodAll_mk0
  have A : ∀ sp : Nat → Bool, (∀ p ∈ before, sp p.block = true) → DataW.TrodAll enc P W' 0 sp true f.params.toList args.toList (s.fn H (ds ++ [])).args before := by
    intro sp hsp
    rw [hspec]
    obtain ⟨p, q, h1, h2, h3, _, _⟩ := hW
    rw [hvars] at h2
    obtain rfl : q = [] := h2
    rw [List.append_nil] at h3
    subst h3
    exact trodAll_stay hl _ _ _ _ hr h1 (fun x hx => hb.same (old x hx)) hsp
  have V : ∀ sp : Nat → Bool, DataW.TrodVars enc P W' sp s.vars (s.fn H (ds ++ [])).vars [] := by
    intro sp
    rw [hspec, hvars]
    rfl
  refine ⟨ds, [], before, [], before, [], hW, R _ _ _, A _ inOld, V _, World.keptBut_mono (fun p hp => ⟨hp, .inr (by simpa using hp)⟩) (hb.frame (· ∈ before)), fun _ => ⟨fun j t r ht hr => ?_, ?_⟩⟩
  · rw [hres] at ht hr
    match j, ht, hr with
    | 0, ht, hr =>
      simp at ht
      simp [Value.resultList] at hr
      subst ht
      subst hr
      exact okWide_bool_mk hT true
  · obtain ⟨_, _, _, _, _, hz, hn⟩ := hW
    refine ⟨_, _, ([] ++ before) ++ [], ⟨[] ++ before, [], trodAll_append (A _ (fun _ _ => rfl)) (R _ _ _), V _, rfl, ?_, ?_⟩, ?_⟩
    · intro b off hp
      have hin : MemPlace.cell b off ∈ before := by simpa using hp
      exact (hb.frozen (p := ⟨b, off, none⟩) (old _ hin)).trans (hz b off hin)
    · intro ha
      simpa using hn ha
    · intro p hp _
      simpa using hp

/-- a struct of n whole numbers: its cells -/
theorem open_numbers {w : World} {base : Nat} {sp : Nat → Bool} {held : Bool} {e : TypeId} {fs : Array Field} {fuel : Nat} {cs : List Value} {x : DataW H × List MemPlace} (he : P.underlying e = some (.struct fs)) (hC : P.cellsOf e = fs.size)
    (hf : ∀ (j : Nat) (f : Field), fs[j]? = some f → f.offset = j ∧ P.underlying f.type = some (.int .i64) ∧ P.cellsOf f.type = 1) (h : DataW.trod enc P w base sp held fuel e cs = some x) : ∀ j, j < fs.size → ∃ z, cs[j]? = some (.int .i64 z) := by
  intro j hj
  obtain ⟨xs, n, _, _, hlen, hxl, hat⟩ := DataW.trod_struct he h
  obtain ⟨ho, hu, hc⟩ := hf j fs[j] (Array.getElem?_eq_getElem hj)
  have h1 := hat j fs[j] (Array.getElem?_eq_getElem hj)
  rw [ho, hc, List.getElem?_eq_getElem (show j < xs.length by omega)] at h1
  obtain ⟨z, hz, _⟩ := DataW.trod_int hu h1
  refine ⟨z, ?_⟩
  have h2 : ((cs.drop j).take 1)[0]? = some (.int .i64 z) := by rw [hz]; rfl
  simpa [List.getElem?_take, List.getElem?_drop] using h2
/-- a slice of such structs that came in -/
theorem open_numberRows {w : World} {t e : TypeId} {fs : Array Field} {v : Value} {d : DataW H} {ps : List MemPlace} {r : Reach} {b0 : Nat} (ht : P.underlying t = some (.slice e)) (he : P.underlying e = some (.struct fs)) (hC : P.cellsOf e = fs.size)
    (hf : ∀ (j : Nat) (f : Field), fs[j]? = some f → f.offset = j ∧ P.underlying f.type = some (.int .i64) ∧ P.cellsOf f.type = 1)
    (hv : Value.okWide P w r b0 t v) (h : DataW.Trod enc P w 0 (fun _ => true) true t v d ps) :
    (v = .slice none 0 0) ∨ ∃ (a : Addr) (len cap : Nat), v = .slice (some a) len cap ∧ len ≤ cap ∧ cap ≤ maxLen ∧ ∀ i j, i < len → j < fs.size → ∃ z, w.cell? (a.add (i * fs.size + j)) = some (.int .i64 z) := by
  obtain ⟨fuel, hx⟩ := h
  rcases Go.Deep.open_slice ht hx with ⟨h1, _⟩ | ⟨a, len, cap, m, n, D, Pl, h1, _, h2, h3, h4, _, h6⟩
  · left
    obtain ⟨a, n, c, rfl⟩ := okWide_slice ht hv
    simpa [Value.cells] using h1
  · right
    obtain ⟨a', n', c', rfl⟩ := okWide_slice ht hv
    simp [Value.cells] at h1
    obtain ⟨rfl, rfl, rfl⟩ := h1
    refine ⟨a, _, _, rfl, h2, h3, fun i j hi hj => ?_⟩
    simp at h4
    obtain ⟨cs', hc, hr⟩ := h6 i (by omega)
    rw [hC] at hc
    obtain ⟨z, hz⟩ := open_numbers he hC hf hr j hj
    obtain ⟨_, _, hat⟩ := World.cells?_some hc
    have := hat j hj
    rw [hz] at this
    exact ⟨z, by rw [← Go.Deep.add_add]; exact this⟩
end
end Go.Proofs.YtlcnhhpleiamhaaDoor

-- A slice of texts, and one of whole numbers, that comes in, opened.
namespace Go.Proofs.YtlcnhhpleiamhaaDoor.G
open Go.ChangeShapes Go.WideShapes Go.ChangeAt Go.RowKit Go.Proofs.YtlcnhhpleiamhaaDoorW.PrintWords Go.Proofs.YtlcnhhpleiamhaaDoorW.PrintLast Go.Proofs.YtlcnhhpleiamhaaDoorW.PrintMore
set_option linter.unusedVariables false
set_option linter.unusedSimpArgs false
section
variable {H : Type} {enc : TypeId × Value → H}
theorem scells9 : Tryd.prog.cellsOf 9 = 1 := by kernel_rfl
theorem scells3 : Tryd.prog.cellsOf 3 = 1 := by kernel_rfl
theorem open_strs {W : World} {base : Nat} {r : Reach} {v : Value} {d : DataW H} {p : List MemPlace} (hv : Value.okWide Tryd.prog W r base 25 v) (h : DataW.Trod enc Tryd.prog W 0 (fun _ => true) true 25 v d p) :
    ∃ (ao : Option Addr) (l : List ByteArray) (c : Nat), v = .slice ao l.length c ∧ l.length ≤ c ∧ c ≤ maxLen ∧ Kd.C Kd.string W ao l.length l := by
  obtain ⟨fuel, hx⟩ := h
  obtain ⟨a', n', c', rfl⟩ := okWide_slice Tryd.underlying25 hv
  rcases Go.Deep.open_slice Tryd.underlying25 hx with ⟨h1, _⟩ | ⟨a, len, cap, m, n, D, Pl, h1, _, h2, h3, h4, h5, h6⟩
  · simp [Value.cells] at h1
    obtain ⟨rfl, rfl, rfl⟩ := h1
    exact ⟨none, [], 0, rfl, Nat.le_refl _, Nat.zero_le _, ⟨rfl, Nat.zero_le _, fun h => absurd h (Nat.lt_irrefl _)⟩⟩
  · simp [Value.cells] at h1
    obtain ⟨rfl, rfl, rfl⟩ := h1
    simp only [if_true] at h4
    have hel : ∀ i, i < n' → ∃ t : ByteArray, W.cell? (a.add i) = some (.string t) := by
      intro i hi
      obtain ⟨cs', hc, hr⟩ := h6 i (by omega)
      rw [scells9] at hc
      obtain ⟨t, ht, _⟩ := DataW.trod_string Tryd.underlying9 hr
      subst ht
      obtain ⟨_, _, hat⟩ := World.cells?_some hc
      have := hat 0 (by decide)
      refine ⟨t, ?_⟩
      have e : a.add i = (a.add (i * 1)).add 0 := by rw [Go.Deep.add_add, Nat.mul_one, Nat.add_zero]
      rw [e]
      exact this
    have hpick : ∃ f : Nat → ByteArray, ∀ i, i < n' → W.cell? (a.add i) = some (.string (f i)) := by
      refine ⟨fun i => if hi : i < n' then Classical.choose (hel i hi) else ByteArray.empty, fun i hi => ?_⟩
      simp only [dif_pos hi]
      exact Classical.choose_spec (hel i hi)
    obtain ⟨f, hf⟩ := hpick
    have hlen : ((List.range n').map f).length = n' := by simp
    refine ⟨some a, (List.range n').map f, c', by rw [hlen], by rw [hlen]; exact h2, h3, ?_⟩
    rw [hlen]
    refine ⟨hlen, by unfold maxLen at h3; omega, fun _ => ⟨a, rfl, fun j t hj => ?_⟩⟩
    have hjl : j < n' := by
      have := (List.getElem?_eq_some_iff.1 hj).1
      rwa [hlen] at this
    have ht : t = f j := by
      rw [List.getElem?_map, List.getElem?_range hjl] at hj
      simpa using hj.symm
    refine ⟨_, rfl, rfl, fun i u hu => ?_⟩
    have hi : i < 1 := (List.getElem?_eq_some_iff.1 hu).1
    obtain rfl : i = 0 := by omega
    simp at hu
    subst hu
    show W.cell? (a.add (j * 1 + 0)) = _
    rw [show j * 1 + 0 = j by omega, ht]
    exact hf j hjl
theorem open_nums {W : World} {base : Nat} {r : Reach} {v : Value} {d : DataW H} {p : List MemPlace} (hv : Value.okWide Tryd.prog W r base 42 v) (h : DataW.Trod enc Tryd.prog W 0 (fun _ => true) true 42 v d p) :
    ∃ (ao : Option Addr) (l : List Int) (c : Nat), v = .slice ao l.length c ∧ l.length ≤ c ∧ c ≤ maxLen ∧ Kd.C (Kd.int .i64) W ao l.length l := by
  obtain ⟨fuel, hx⟩ := h
  rcases open_ints Tryd.underlying42 Tryd.underlying3 scells3 hx with ⟨h1, _⟩ | ⟨a, len, cap, zs, h1, _, h2, h3, h4, _, h5, _⟩
  · obtain ⟨a, n, c, rfl⟩ := okWide_slice Tryd.underlying42 hv
    simp [Value.cells] at h1
    obtain ⟨rfl, rfl, rfl⟩ := h1
    exact ⟨none, [], 0, rfl, Nat.le_refl _, Nat.zero_le _, ⟨rfl, Nat.zero_le _, fun h => absurd h (Nat.lt_irrefl _)⟩⟩
  · obtain ⟨a', n', c', rfl⟩ := okWide_slice Tryd.underlying42 hv
    simp [Value.cells] at h1
    obtain ⟨rfl, rfl, rfl⟩ := h1
    simp only [if_true] at h4
    have hlen : (zs.take n').length = n' := by rw [List.length_take]; omega
    refine ⟨some a, zs.take n', c', by rw [hlen], by rw [hlen]; exact h2, h3, ?_⟩
    rw [hlen]
    refine ⟨hlen, by unfold maxLen at h3; omega, fun _ => ⟨a, rfl, fun j t hj => ?_⟩⟩
    have hjl : j < n' := by
      have := (List.getElem?_eq_some_iff.1 hj).1
      rwa [hlen] at this
    have hz : zs.getD j 0 = t := by
      rw [List.getElem?_take, if_pos hjl] at hj
      rw [List.getD_eq_getElem?_getD, hj]; rfl
    refine ⟨_, rfl, rfl, fun i u hu => ?_⟩
    have hi : i < 1 := (List.getElem?_eq_some_iff.1 hu).1
    obtain rfl : i = 0 := by omega
    have := h5 j (by omega)
    rw [hz] at this
    simp at hu
    subst hu
    show W.cell? (a.add (j * 1 + 0)) = _
    rw [show j * 1 + 0 = j by omega]
    exact this
end
end Go.Proofs.YtlcnhhpleiamhaaDoor.G

-- PathTexts: what the law's own function tells is true for every list of texts.
namespace Go.Proofs.YtlcnhhpleiamhaaDoor.G
open Go.RowKit Go.Proofs.YtlcnhhpleiamhaaDoorW.PrintWords Go.Proofs.YtlcnhhpleiamhaaDoorW.PrintLast Go.Proofs.YtlcnhhpleiamhaaDoorW.PrintMore
set_option linter.unusedVariables false
set_option linter.unusedSimpArgs false
def cutN (L : List By) : List By := (L.take 40).map (·.take 2000)
theorem cutN_len (L : List By) : (cutN L).length ≤ 40 := by unfold cutN; rw [List.length_map, List.length_take]; omega
theorem map_mk (l : List ByteArray) : l = (l.map bs).map mk := by
  rw [List.map_map]
  exact ((List.map_congr_left (fun x _ => rfl)).trans (List.map_id l)).symm
theorem cutNames_ev (L : List By) (hL : L.length ≤ 9223372036854775807) : ∀ (n i : Nat) (out : List ByteArray), n = min L.length 40 - i → i ≤ L.length → i ≤ 40 → out.length = i →
    Ev (fun k => kilnlaw5_cutNames.l0 k (L.map mk) out (i : Int)) (out ++ (((L.take 40).drop i).map (·.take 2000)).map mk) := by
  intro n
  induction n with
  | zero =>
    intro i out hn hi h40 ho
    have hd : (L.take 40).drop i = [] := List.drop_eq_nil_of_le (by rw [List.length_take]; omega)
    rw [hd, List.map_nil, List.map_nil, List.append_nil]
    refine Ev.step (f := fun _ => some out) (fun k => ?_) (Ev.now _)
    rw [kilnlaw5_cutNames.l0]
    by_cases h : (i : Int) < ((L.map mk).length : Int)
    · rw [if_pos h, if_neg (by rw [List.length_map] at h; omega)]
    · rw [if_neg h]
  | succ n ih =>
    intro i out hn hi h40 ho
    have hlt : i < L.length := by omega
    have hlt2 : i < (L.take 40).length := by rw [List.length_take]; omega
    have hd : (L.take 40).drop i = L[i] :: (L.take 40).drop (i + 1) := by
      rw [List.drop_eq_getElem_cons hlt2, List.getElem_take]
    have hr : rdOf ByteArray.empty (L.map mk) (i : Int) = mk L[i] := by
      unfold rdOf
      rw [Int.toNat_natCast, List.getD_eq_getElem?_getD, List.getElem?_map, List.getElem?_eq_getElem hlt]; rfl
    have := ih (i + 1) (out ++ [mk (L[i].take 2000)]) (by omega) (by omega) (by omega) (by rw [List.length_append, ho]; rfl)
    rw [hd, List.map_cons, List.map_cons, ← List.singleton_append, ← List.append_assoc]
    have hw : wrap64 ((i : Int) + 1) = ((i + 1 : Nat) : Int) := w_add i 1 (by omega)
    refine Ev.step (fun k => ?_) this
    rw [kilnlaw5_cutNames.l0, if_pos (by rw [List.length_map]; omega), if_pos (by omega), if_pos (Int.natCast_nonneg _), hr, cut_is, bs_mk, Option.bind_some, if_pos (by omega), hw]
theorem CutNames_ev (L : List By) (hL : L.length ≤ 9223372036854775807) : Ev (fun k => kilnlaw5_cutNames.f k (L.map mk)) ((cutN L).map mk) := by
  have := cutNames_ev L hL _ 0 [] rfl (by omega) (by omega) rfl
  rw [List.nil_append, List.drop_zero] at this
  exact this
theorem pathtexts_ev (L : List By) (hL : L.length ≤ 1000) : ∀ (X : List By) (i : Nat), L.drop i = X → i ≤ L.length → Ev (fun k => kilnlaw5_PathTexts.l0 k (L.map mk) (i : Int)) true := by
  intro X
  induction X with
  | nil =>
    intro i hX hi
    have hl := (drop_len L i hi).1 hX
    let f : Nat → Option Bool := fun k => (kilnlaw5_Told.f k).bind fun t168 => (if t168 = true then ((kilnlaw5_texts.f k (L.map mk)).bind fun t169 => (some t169)) else (some false))
    refine Ev.step (f := f) (fun k => ?_) ?_
    · rw [kilnlaw5_PathTexts.l0, if_neg (by rw [List.length_map]; omega)]
    refine Ev.bind Told_ev ?_
    refine Ev.congr (fun k => if_pos rfl) ?_
    exact Ev.bind (f := fun _ t => some t) (texts_ev L (by omega)) (Ev.now _)
  | cons p X ih =>
    intro i hX hi
    obtain ⟨hr, hlt, hX2⟩ := rd_at L i p X hX
    have hw : wrap64 ((i : Int) + 1) = ((i + 1 : Nat) : Int) := w_add i 1 (by omega)
    let f : Nat → Option Bool := fun k => (path_Name.f k (mk p)).bind fun t171 => ((kilnref5_Name.f k (mk p)).bind fun t173 => (if (t171 != t173) = true then (some false) else (kilnlaw5_PathTexts.l0 k (L.map mk) ((i + 1 : Nat) : Int))))
    refine Ev.step (f := f) (fun k => ?_) ?_
    · rw [kilnlaw5_PathTexts.l0, if_pos (by rw [List.length_map]; omega), if_pos (Int.natCast_nonneg _), hr, hw]
    refine Ev.bind (Name_ev _) ?_
    refine Ev.bind (NameR_ev _) ?_
    exact Ev.congr (fun k => if_neg (by rw [bne_self_eq_false]; decide)) (ih (i + 1) hX2 (by omega))
theorem PathTexts_true (l : List ByteArray) (hl : l.length ≤ 9223372036854775807) : ∃ k, kilnlaw5_PathTexts.f k l = some true := by
  refine Ev.rounds ?_
  rw [map_mk l]
  have hL : (l.map bs).length ≤ 9223372036854775807 := by rw [List.length_map]; exact hl
  generalize l.map bs = L at *
  unfold kilnlaw5_PathTexts.f
  refine Ev.bind (CutNames_ev L hL) ?_
  exact pathtexts_ev (cutN L) (by have := cutN_len L; omega) _ 0 rfl (by omega)
end Go.Proofs.YtlcnhhpleiamhaaDoor.G

-- PathAgain: the walk; what it looks at is true at every turn.
namespace Go.Proofs.YtlcnhhpleiamhaaDoor.G
open Go.RowKit Go.Proofs.YtlcnhhpleiamhaaDoorW.PrintWords Go.Proofs.YtlcnhhpleiamhaaDoorW.PrintLast Go.Proofs.YtlcnhhpleiamhaaDoorW.PrintMore
attribute [local go_sem] max2_int min2_int max_two min_two max_three min_three max_four min_four
set_option linter.unusedVariables false
set_option linter.unusedSimpArgs false
theorem text_rounds (xs : List ByteArray) (h : xs.length ≤ 1000000000) : ∃ k t e ok, path_Text.f k xs = some (t, e) ∧ kilnref5_Text.f k xs = some (t, ok) ∧ (e == 0) = ok := by
  have h1 := Text_ev (xs.map bs) (by rw [List.length_map]; exact h)
  have h2 := TextR_ev (xs.map bs) (by rw [List.length_map]; exact h)
  rw [← map_mk] at h1 h2
  obtain ⟨K1, g1⟩ := h1
  obtain ⟨K2, g2⟩ := h2
  obtain ⟨b1, b2⟩ := text_both (xs.map bs)
  refine ⟨max K1 K2, (textV (xs.map bs)).1, (textV (xs.map bs)).2, (textR (xs.map bs)).2, g1 _ (by omega), ?_, ?_⟩
  · rw [b1]; exact g2 _ (by omega)
  · rcases b2 with ⟨b2, b3⟩ | ⟨b2, b3⟩
    · rw [b2, b3]; rfl
    · rw [b2, b3]; rfl
theorem row_C {W : World} {g cap : Nat} {l : List ByteArray} (h : RowAt W g 9 1 l.length cap (encs Value.string l)) (hl : l.length ≤ 1000000000) : Kd.C Kd.string W (some ⟨g, 0, none⟩) l.length l := by
  refine ⟨rfl, by omega, fun _ => ⟨_, rfl, fun j t hj => ⟨_, rfl, rfl, fun i u hu => ?_⟩⟩⟩
  have hjl := (List.getElem?_eq_some_iff.1 hj).1
  have hi : i < 1 := (List.getElem?_eq_some_iff.1 hu).1
  obtain rfl : i = 0 := by omega
  simp at hu
  subst hu
  have ea : (⟨g, 0, none⟩ : Addr).add (j * (Kd.string).sz + 0) = ⟨g, j, none⟩ := by
    have e1 : j * (Kd.string).sz + 0 = j := Nat.mul_one j
    rw [e1]; unfold Addr.add; split <;> simp_all
  rw [ea, RowAt.cell h j (by omega)]
  unfold encs
  rw [List.getElem?_map, hj]; rfl
theorem R_row {w : World} {B : Nat} {g cap n : Nat} {l : List ByteArray} (hl : l.length = n) (h : Kd.R Kd.string 9 w B (fun _ => True) (.slice (some ⟨g, 0, none⟩) n cap) l) : RowAt w g 9 1 n cap (encs Value.string l) := by
  have h1 := Kd.own_of_R h
  subst hl
  refine ⟨h1.1, ?_⟩
  rcases h1.2 with h2 | ⟨g', cap', cur, e, _, h3⟩
  · exact .inl h2
  · exact .inr ⟨g', cap', cur, e, Nat.zero_le _, h3⟩
theorem at_num {w : World} {A : Option Addr} {n : Nat} {xs : List Int} (h : (Kd.int .i64).C w A n xs) (i : Int) (h0 : 0 ≤ i) (h1 : i < n) : ∃ ad, A = some ad ∧ w.cell? (ad.add i.toNat) = some (.int .i64 (rd xs i)) := by
  obtain ⟨ad, c, e, hs, hr, hc⟩ := ReadsRow.get_ h 0 i h0 h1
  refine ⟨ad, e, ?_⟩
  have hr' : c = [.int .i64 (xs.getD i.toNat 0)] := hr
  have := hc 0 (.int .i64 (xs.getD i.toNat 0)) (by rw [hr']; rfl)
  have e1 : i.toNat * (Kd.int .i64).sz + 0 = i.toNat := Nat.mul_one _
  rw [e1] at this
  exact this
/-- what stands at each turn -/
def AgInv (B g cap n : Nat) (xs : List ByteArray) (w w' : World) : Prop :=
  xs.length = n ∧ RowAt w' g 9 1 (n + 3) cap (encs Value.string (xs ++ marks3)) ∧ Below B w w' ∧ B ≤ g
theorem encs_set (xs : List ByteArray) (J : Nat) (t : ByteArray) (hJ : J < xs.length) : (encs Value.string (xs ++ marks3)).set J (.string t) = encs Value.string (xs.set J t ++ marks3) := by
  unfold encs
  rw [← List.map_set, List.set_append_left _ _ hJ]
theorem ag_store {B g cap n m J : Nat} {xs : List ByteArray} {w w' : World} (h : AgInv B g cap n xs w w') (hJ : J < n) (t : ByteArray) (hB : B ≤ w.heap.size) : AgInv B g cap n (xs.set J t) w ((w'.drewN m).setCell ⟨g, J, none⟩ (.string t)) := by
  obtain ⟨h1, h2, h3, h4⟩ := h
  refine ⟨by rw [List.length_set]; exact h1, ?_, ?_, h4⟩
  · have := RowAt.set (h2.drewN m) J (.string t)
    rw [encs_set xs J t (by omega)] at this
    exact this
  · exact (pw_below_drewN h3 m).trans (keeps_below ((Keeps.refl [g] _).setCell (by simp) _) (by simpa using h4) (Nat.le_trans hB h3.size))
theorem ag_drew {B g cap n m : Nat} {xs : List ByteArray} {w w' : World} (h : AgInv B g cap n xs w w') : AgInv B g cap n xs w (w'.drewN m) :=
  ⟨h.1, h.2.1.drewN m, pw_below_drewN h.2.2.1 m, h.2.2.2⟩
def AgPost (w : World) (e : Ending) (w' : World) : Prop := e = .returned (.bool true) ∧ Below w.heap.size w w'
set_option maxHeartbeats 8000000 in
set_option maxRecDepth 100000 in
theorem again_calls (A0 : Option Addr) (c0 : Nat) (l0 : List ByteArray) (A1 : Option Addr) (c1 : Nat) (l1 : List Int) (A2 : Option Addr) (c2 : Nat) (l2 : List ByteArray) (w : World)
    (hr0 : Kd.C Kd.string w A0 l0.length l0) (hc0 : l0.length ≤ c0) (hr1 : Kd.C (Kd.int .i64) w A1 l1.length l1) (hc1 : l1.length ≤ c1) (hr2 : Kd.C Kd.string w A2 l2.length l2) (hc2 : l2.length ≤ c2) :
    Calls Tryd.prog 11 #[.slice A0 l0.length c0, .slice A1 l1.length c1, .slice A2 l2.length c2] w (AgPost w) := by
  obtain ⟨kt, hT⟩ := Ev.rounds Told_ev
  obtain ⟨kc, hN⟩ := Ev.rounds (CutNames_ev (l0.map bs) (by rw [List.length_map]; exact hr0.2.1))
  rw [← map_mk l0] at hN
  have hnl : ((cutN (l0.map bs)).map mk).length ≤ 40 := by rw [List.length_map]; exact cutN_len _
  generalize (cutN (l0.map bs)).map mk = names at hN hnl
  have HN := Lib.hid hN
  have HT := Lib.hid hT
  have H0 := Lib.hid hr0
  have C0 := Lib.hid hc0
  have H1 := Lib.hid hr1
  have C1 := Lib.hid hc1
  have H2 := Lib.hid hr2
  have C2 := Lib.hid hc2
  have HL := Lib.hid hnl
  clear hN hT hr0 hc0 hr1 hc1 hr2 hc2 hnl
  go_enter Tryd.func11, Tryd.ntmps11
  go_wp2_with fail
  refine (kilnlaw5_Told.calls kt true w HT.out).mono ?_
  rintro e w1 ⟨rfl, hb1⟩
  have B1 := Lib.hid hb1
  clear hb1
  go_wp2_with fail
  refine (kilnlaw5_cutNames.calls kc A0 c0 l0 names w1 (Kd.C_below H0.out B1.out) C0.out HN.out).mono ?_
  rintro e w2 ⟨v0, rfl, hR, hb2⟩
  obtain ⟨A, c, rfl, hlc, hC⟩ := Kd.R_reads hR
  have HC := Lib.hid hC
  have HLC := Lib.hid hlc
  have B2 := Lib.hid (B1.out.trans (hb2.mono B1.out.size))
  clear hR hlc hC hb2
  go_wp2_with fail
  refine (laid_calls A c names names w2 HC.out HLC.out (laid_is names (by have := HL.out; omega))).mono ?_
  rintro e w3 ⟨A', cap, hcap, rfl, hR, hb3⟩
  have hml : (names ++ marks3).length = names.length + 3 := by rw [List.length_append]; rfl
  obtain ⟨g, cap', hv, _⟩ := own_some (Kd.own_of_R hR) (by rw [hml]; omega)
  have hg : w2.heap.size ≤ g := Kd.R_base hR g (by rw [hml] at hv; rw [hv]; rfl)
  obtain ⟨rfl, rfl⟩ : A' = some ⟨g, 0, none⟩ ∧ cap = cap' := by
    simp only [Value.slice.injEq] at hv
    exact ⟨hv.1, hv.2.2⟩
  have hrow := R_row hml hR
  have INV := Lib.hid (show AgInv w.heap.size g cap names.length names w w3 from ⟨rfl, hrow, B2.out.trans (hb3.mono B2.out.size), Nat.le_trans B2.out.size hg⟩)
  have HCAP := Lib.hid hcap
  obtain ⟨n, hn⟩ : ∃ n, n = names.length := ⟨_, rfl⟩
  rw [← hn] at INV HL HCAP
  clear hR hb3 hv hg hrow hcap hml
  rw [← hn]
  clear hn HN HC HLC
  go_wp2_with fail
  go_loopg [8] 22 (fun q s8 wr => ∃ (i : Nat) (xs : List ByteArray), s8 = .int .i64 (i : Int) ∧ Hid (q + i = 22) ∧ Hid (AgInv w.heap.size g cap n xs w wr))
  case atStart => exact ⟨0, names, rfl, Lib.hid rfl, INV⟩
  case round =>
    clear INV
    obtain ⟨i, xs, rfl, HQ, INV⟩ := hrel
    have hn := INV.out.1
    subst hn
    by_cases hi : i ≤ l1.length ∧ i ≤ 20
    · cases gk with
      | zero => exact absurd HQ.out (by omega)
      | succ k1 =>
      have HI := Lib.hid hi
      have d1 : decide ((i : Int) ≤ (l1.length : Int)) = true := decide_eq_true (by omega)
      have d1b : decide (i ≤ l1.length) = true := decide_eq_true hi.1
      have d2 : decide ((i : Int) ≤ 20) = true := decide_eq_true (by omega)
      obtain ⟨kx, t, er, ok, hx1, hx2, hok⟩ := text_rounds xs (by have := HL.out; omega)
      subst hok
      have X1 := Lib.hid hx1
      have X2 := Lib.hid hx2
      have hml : (xs ++ marks3).length = xs.length + 3 := by rw [List.length_append]; rfl
      have hCx := row_C (l := xs ++ marks3) (by have := INV.out.2.1; rw [hml]; exact this) (by rw [hml]; have := HL.out; omega)
      have CX := Lib.hid hCx
      have hT := Kd.C_take (m := xs.length) hCx (by simp)
      rw [List.take_left] at hT
      have CT := Lib.hid hT
      clear hx1 hx2 hCx hT hml hi
      go_wp2_with (at_builtin; refine Kd.R_append_rows Kd.string (w0 := wr) wr.heap.size rfl (.const (.slice none 0 0)) (.tmp 30) 25 9 (.string ⟨#[]⟩) 16 rfl Tryd.underlying25 info9 rfl (by decide) (by omega) (.slice none 0 0) ([] : List ByteArray) xs _ _ _ (fun _ => True) (fun _ => False) rfl rfl (Kd.R_nil _ _ _ _ (fun _ => True)) CT.out (fun _ _ h => h) (fun _ h => h.elim) (fun _ _ => trivial) (Below.refl _ _) (Nat.le_refl _) (by have := HL.out; simp; omega) ?_)
      intro v4 w4 ho hb4 hg4 hat
      obtain ⟨A9, c9, rfl, hl9, hC9⟩ := Kd.R_reads ho
      have L9 := Lib.hid hl9
      have C9 := Lib.hid hC9
      have B4 := Lib.hid hb4
      clear ho hb4 hg4 hat hl9 hC9
      go_wp2_with fail
      refine (path_Text.calls kx (some ⟨g, 0, none⟩) cap xs t er w4 (Kd.C_below CT.out B4.out) (by have := HCAP.out; omega) X1.out).mono ?_
      rintro e w5 ⟨rfl, hb5⟩
      have B5 := Lib.hid (B4.out.trans (hb5.mono B4.out.size))
      have C9b := Lib.hid (Kd.C_below C9.out hb5)
      clear hb5 C9
      go_wp2_with fail
      refine (kilnref5_Text.calls kx A9 c9 xs t _ w5 C9b.out L9.out X2.out).mono ?_
      rintro e w6 ⟨rfl, ⟨⟨m6, rfl⟩⟩⟩
      go_wp2_with fail
      refine (intact_calls ⟨g, 0, none⟩ cap A9 c9 xs _ HCAP.out (Kd.C_drewN (Kd.C_below CX.out B5.out) m6) (Kd.C_drewN C9b.out m6) (by have := HL.out; omega) L9.out).mono ?_
      rintro e w7 ⟨rfl, ⟨⟨m7, rfl⟩⟩⟩
      have I7 := Lib.hid (show AgInv w.heap.size g cap xs.length xs w (w5.drewN (m6 + m7)) from ⟨rfl, (RowAt.keeps INV.out.2.1 (Keeps.of_below B5.out) (by simp)).drewN _, pw_below_drewN (INV.out.2.2.1.trans (B5.out.mono INV.out.2.2.1.size)) _, INV.out.2.2.2⟩)
      by_cases hu : i < l1.length ∧ i < l2.length ∧ 0 < xs.length
      · obtain ⟨u1, u2, u3⟩ := hu
        have f1 : decide ((i : Int) < (l1.length : Int)) = true := decide_eq_true (by omega)
        have f1b : decide (i < l1.length) = true := decide_eq_true u1
        have f2 : decide ((i : Int) < (l2.length : Int)) = true := decide_eq_true (by omega)
        have f2b : decide (i < l2.length) = true := decide_eq_true u2
        have f3 : decide (0 < (xs.length : Int)) = true := decide_eq_true (by omega)
        have f3b : decide (0 < xs.length) = true := decide_eq_true u3
        have f4 : ((xs.length : Int) == 0) = false := beq_false_of_ne (by omega)
        have p0 : (0 ≤ (i : Int)) = True := eq_true (Int.natCast_nonneg _)
        have q1 : ((i : Int) < (l1.length : Int)) = True := eq_true (by omega)
        have q2 : ((i : Int) < (l2.length : Int)) = True := eq_true (by omega)
        obtain ⟨ad1, e1, x1⟩ := at_num (Kd.C_below H1.out I7.out.2.2.1) (i : Int) (Int.natCast_nonneg _) (by omega)
        obtain ⟨ad2, e2, x2⟩ := Kd.at_string (Kd.C_below H2.out I7.out.2.2.1) (i : Int) (Int.natCast_nonneg _) (by omega)
        cases e1
        cases e2
        simp only [Int.toNat_natCast] at x1 x2
        obtain ⟨m, hm⟩ : ∃ m : Int, Int.tmod (rd l1 (i : Int)) (xs.length : Int) = m := ⟨_, rfl⟩
        have hm1 : m < (xs.length : Int) := by rw [← hm]; exact Int.tmod_lt_of_pos _ (by omega)
        have hm2 : -(xs.length : Int) < m := by
          have := Int.tmod_lt_of_pos (-(rd l1 (i : Int))) (show 0 < (xs.length : Int) by omega)
          rw [Int.neg_tmod, hm] at this
          omega
        have HM := Lib.hid (And.intro hm1 hm2)
        clear hm1 hm2 u1 u2
        by_cases hneg : m < 0
        · have g1 : decide (m < 0) = true := decide_eq_true hneg
          obtain ⟨J, hJ1, hJ2⟩ : ∃ J : Nat, m + (xs.length : Int) = (J : Int) ∧ J < xs.length := ⟨(m + (xs.length : Int)).toNat, by have := HM.out; omega, by have := HM.out; omega⟩
          have hw : wrap64 (m + (xs.length : Int)) = (J : Int) := by rw [IntWalk.wrap64_in _ (by have := HL.out; omega)]; exact hJ1
          have hw2 : IntKind.i64.wrap (m + (xs.length : Int)) = (J : Int) := (i64_w _).trans hw
          clear hneg hJ1
          go_wp2_with fail
          refine (kilnlaw5_cut.calls _ _ _ (cut_is (rdOf ByteArray.empty l2 (i : Int)))).mono ?_
          rintro e w8 ⟨rfl, ⟨⟨m8, rfl⟩⟩⟩
          have pJ : (0 ≤ (J : Int)) = True := eq_true (Int.natCast_nonneg _)
          have qJ : ((J : Int) < (xs.length : Int)) = True := eq_true (by omega)
          have r3 : (encs Value.string (xs ++ marks3))[J]? = some (.string (xs[J])) := by
            unfold encs
            rw [List.getElem?_map, List.getElem?_append_left hJ2, List.getElem?_eq_getElem hJ2]; rfl
          have r1 : w5.cell? ⟨g, J, none⟩ = some (.string (xs[J])) := (RowAt.cell I7.out.2.1 J (by omega)).trans r3
          have r2 : w5.frozen? ⟨g, J, none⟩ = false := RowAt.frozen I7.out.2.1 J
          clear r3
          go_wp2_with fail
          have hwi : wrap64 ((i : Int) + 1) = ((i + 1 : Nat) : Int) := w_add i 1 (by have := HI.out; omega)
          go_roundg k1
          case rel => exact ⟨i + 1, xs.set J (mk (List.take 2000 (bs (rdOf ByteArray.empty l2 (i : Int))))), by rw [hwi], Lib.hid (by have := HQ.out; omega), Lib.hid (by have h_ := ag_store (m := m8) I7.out hJ2 (mk (List.take 2000 (bs (rdOf ByteArray.empty l2 (i : Int))))) (Nat.le_refl _); rw [World.drewN_drewN] at h_; exact h_)⟩
          case measure => exact Nat.lt_succ_self _
        · have g1 : decide (m < 0) = false := decide_eq_false hneg
          obtain ⟨J, hJ1, hJ2⟩ : ∃ J : Nat, m = (J : Int) ∧ J < xs.length := ⟨m.toNat, by omega, by have := HM.out; omega⟩
          subst hJ1
          clear hneg
          go_wp2_with fail
          refine (kilnlaw5_cut.calls _ _ _ (cut_is (rdOf ByteArray.empty l2 (i : Int)))).mono ?_
          rintro e w8 ⟨rfl, ⟨⟨m8, rfl⟩⟩⟩
          have pJ : (0 ≤ (J : Int)) = True := eq_true (Int.natCast_nonneg _)
          have qJ : ((J : Int) < (xs.length : Int)) = True := eq_true (by omega)
          have r3 : (encs Value.string (xs ++ marks3))[J]? = some (.string (xs[J])) := by
            unfold encs
            rw [List.getElem?_map, List.getElem?_append_left hJ2, List.getElem?_eq_getElem hJ2]; rfl
          have r1 : w5.cell? ⟨g, J, none⟩ = some (.string (xs[J])) := (RowAt.cell I7.out.2.1 J (by omega)).trans r3
          have r2 : w5.frozen? ⟨g, J, none⟩ = false := RowAt.frozen I7.out.2.1 J
          clear r3
          go_wp2_with fail
          have hwi : wrap64 ((i : Int) + 1) = ((i + 1 : Nat) : Int) := w_add i 1 (by have := HI.out; omega)
          go_roundg k1
          case rel => exact ⟨i + 1, xs.set J (mk (List.take 2000 (bs (rdOf ByteArray.empty l2 (i : Int))))), by rw [hwi], Lib.hid (by have := HQ.out; omega), Lib.hid (by have h_ := ag_store (m := m8) I7.out hJ2 (mk (List.take 2000 (bs (rdOf ByteArray.empty l2 (i : Int))))) (Nat.le_refl _); rw [World.drewN_drewN] at h_; exact h_)⟩
          case measure => exact Nat.lt_succ_self _
      · have hwi : wrap64 ((i : Int) + 1) = ((i + 1 : Nat) : Int) := w_add i 1 (by have := HI.out; omega)
        have HF := Lib.hid (show ∃ (i' : Nat) (xs' : List ByteArray), (Value.int .i64 (wrap64 ((i : Int) + 1))) = .int .i64 (i' : Int) ∧ Hid (k1 + i' = 22) ∧ Hid (AgInv w.heap.size g cap xs.length xs' w (w5.drewN (m6 + m7))) from ⟨i + 1, xs, by rw [hwi], Lib.hid (by have := HQ.out; omega), I7⟩)
        by_cases u1 : i < l1.length
        · have f1 : decide ((i : Int) < (l1.length : Int)) = true := decide_eq_true (by omega)
          have f1b : decide (i < l1.length) = true := decide_eq_true u1
          by_cases u2 : i < l2.length
          · have f2 : decide ((i : Int) < (l2.length : Int)) = true := decide_eq_true (by omega)
            have f2b : decide (i < l2.length) = true := decide_eq_true u2
            have u3 : ¬ 0 < xs.length := fun h => hu ⟨u1, u2, h⟩
            have f3 : decide (0 < (xs.length : Int)) = false := decide_eq_false (by omega)
            have f3b : decide (0 < xs.length) = false := decide_eq_false u3
            clear u1 u2 u3 hu
            go_wp2_with fail
            go_roundg k1
            case rel => exact HF.out
            case measure => exact Nat.lt_succ_self _
          · have f2 : decide ((i : Int) < (l2.length : Int)) = false := decide_eq_false (by omega)
            have f2b : decide (i < l2.length) = false := decide_eq_false u2
            clear u1 u2 hu
            go_wp2_with fail
            go_roundg k1
            case rel => exact HF.out
            case measure => exact Nat.lt_succ_self _
        · have f1 : decide ((i : Int) < (l1.length : Int)) = false := decide_eq_false (by omega)
          have f1b : decide (i < l1.length) = false := decide_eq_false u1
          clear u1 hu
          go_wp2_with fail
          go_roundg k1
          case rel => exact HF.out
          case measure => exact Nat.lt_succ_self _
    · have HF := Lib.hid (show AgPost w (.returned (.bool true)) wr from ⟨rfl, INV.out.2.2.1⟩)
      by_cases u1 : i ≤ l1.length
      · have u2 : ¬ i ≤ 20 := fun h => hi ⟨u1, h⟩
        have f1 : decide ((i : Int) ≤ (l1.length : Int)) = true := decide_eq_true (by omega)
        have f1b : decide (i ≤ l1.length) = true := decide_eq_true u1
        have f2 : decide ((i : Int) ≤ 20) = false := decide_eq_false (by omega)
        clear u1 u2 hi
        go_wp2
        go_ret
        exact HF.out
      · have f1 : decide ((i : Int) ≤ (l1.length : Int)) = false := decide_eq_false (by omega)
        have f1b : decide (i ≤ l1.length) = false := decide_eq_false u1
        clear u1 hi
        go_wp2
        go_ret
        exact HF.out
theorem kilnlaw5_PathAgain.calls (k : Nat) (A0 : Option Addr) (c0 : Nat) (l0 : List ByteArray) (A1 : Option Addr) (c1 : Nat) (l1 : List Int) (A2 : Option Addr) (c2 : Nat) (l2 : List ByteArray) (r : Bool) (w : World)
    (hr0 : Kd.C Kd.string w A0 l0.length l0) (hc0 : l0.length ≤ c0) (hr1 : Kd.C (Kd.int .i64) w A1 l1.length l1) (hc1 : l1.length ≤ c1) (hr2 : Kd.C Kd.string w A2 l2.length l2) (hc2 : l2.length ≤ c2) (h : r = true) :
    Calls Tryd.prog 11 #[.slice A0 l0.length c0, .slice A1 l1.length c1, .slice A2 l2.length c2] w fun e w' => e = .returned (.bool r) ∧ Below w.heap.size w w' := by
  subst h
  exact again_calls A0 c0 l0 A1 c1 l1 A2 c2 l2 w hr0 hc0 hr1 hc1 hr2 hc2
theorem PathAgain_true : ∃ k : Nat, true = true := ⟨0, rfl⟩
end Go.Proofs.YtlcnhhpleiamhaaDoor.G

/- Of one list of names, changed in place between two calls, Text tells each time what it holds then: law PathAgain returns true. For all arguments that can be read; the library's tables unicode/utf8.acceptRanges and unicode/utf8.first are as their texts lay them. -/
set_option linter.unusedVariables false
set_option linter.unusedSimpArgs false
namespace Go.Proofs.YtlcnhhpleiamhaaDoor.pathAgain
open Go.ChangeShapes Go.WideShapes Go.ChangeAt Go.RowKit

theorem own : ownKnob Tryd.prog.godebug = none := by kernel_rfl
theorem laidOut : laidOutB Tryd.prog = true := by kernel_rfl

theorem contract (H : Type) (enc : TypeId × Value → H) (W : World) (base : Nat) (args : Array Value) (ds gs : List (DataW H)) (before : List MemPlace)
    (hval : ∀ (j : Nat) t v, Tryd.f11.params[j]? = some t → args[j]? = some v → Value.okWide Tryd.prog W .any base t v)
    (hW : DataW.Whole enc Tryd.prog Tryd.f11.params.toList Rows.pathAgainSpec.vars false W args.toList ds gs before) :
    Calls Tryd.prog 11 args W fun e W' => ∃ v, e = .returned v ∧ Rows.pathAgainSpec.post enc Tryd.prog Tryd.f11 false true false false W args v W' := by
  have hW' := hW
  obtain ⟨p, q, hA0, hV, rfl, hfz, hnd⟩ := hW
  have hA : DataW.TrodAll enc Tryd.prog W 0 (fun _ => true) true Tryd.f11.params.toList args.toList ds p := hA0
  rw [Tryd.params11] at hA hval
  obtain ⟨v0, vs0, d0, ds0, p0, q0, hargs, rfl, rfl, h0, r0⟩ := trodAll_cons hA
  obtain ⟨v1, vs1, d1, ds1, p1, q1, rfl, rfl, rfl, h1, r1⟩ := trodAll_cons r0
  obtain ⟨v2, vs2, d2, ds2, p2, q2, rfl, rfl, rfl, h2, r2⟩ := trodAll_cons r1
  obtain ⟨rfl, rfl, rfl⟩ := trodAll_nil r2
  obtain rfl : args = #[v0, v1, v2] := by cases args; simp_all
  obtain ⟨rfl, rfl⟩ := trodVars_none hV
  obtain ⟨o0, l0, c0, rfl, n0, _, e0⟩ := G.open_strs (hval 0 25 v0 rfl rfl) h0
  obtain ⟨o1, l1, c1, rfl, n1, _, e1⟩ := G.open_nums (hval 1 42 v1 rfl rfl) h1
  obtain ⟨o2, l2, c2, rfl, n2, _, e2⟩ := G.open_strs (hval 2 25 v2 rfl rfl) h2
  clear hA0
  obtain ⟨k, hk⟩ := G.PathAgain_true
  refine (G.kilnlaw5_PathAgain.calls k o0 c0 l0 o1 c1 l1 o2 c2 l2 true W e0 n0 e1 n1 e2 n2 hk).mono fun e W' ⟨he, hg⟩ => ?_
  subst he
  exact ⟨_, rfl, law_post laidOut Tryd.underlying4 (by kernel_rfl) (fun t ht => by rw [Tryd.params11] at ht; simp at ht; rcases ht with rfl | rfl | rfl <;> exact ⟨by kernel_rfl, of_decide_eq_true (by kernel_rfl)⟩) rfl rfl hW' hg⟩

/-- A WORLD FOR THE WITNESS: the settled one, the tables (blocks 1 and 2) holding what their texts lay. -/
def lay1 : Obj → Obj
  | .cells _ t frozen => .cells (([128, 191, 160, 191, 128, 159, 144, 191, 128, 143] ++ List.replicate 22 0).map fun (x : Nat) => Value.int .u8 (x : Int)).toArray t frozen
  | o => o
def lay2 : Obj → Obj
  | .cells _ t frozen => .cells (Go.Pinned.utf8FirstZ.map fun (x : Nat) => Value.int .u8 (x : Int)).toArray t frozen
  | o => o
noncomputable def laidWorld (os : Os) : World :=
  { World.holding Tryd.prog os ⟨#[], #[], []⟩ with heap := ((World.holding Tryd.prog os ⟨#[], #[], []⟩).heap.modify 1 lay2).modify 2 lay1 }
theorem laid_met (os : Os) : laidMet Tryd.prog Rows.pathAgainRow.laid ((laidWorld os).forCall (fun _ _ => 0) ⟨#[], #[Value.slice none 0 0, Value.slice none 0 0, Value.slice none 0 0], []⟩).memory :=
  laidMet_of_run' 8 (by kernel_rfl) (by kernel_rfl)
theorem reads (os : Os) {H : Type} (enc : TypeId × Value → H) : ∃ places, DataW.whole enc Tryd.prog ((laidWorld os).forCall (fun _ _ => 0) ⟨#[], #[Value.slice none 0 0, Value.slice none 0 0, Value.slice none 0 0], []⟩).memory Tryd.f11.params.toList Rows.pathAgainSpec.vars false #[Value.slice none 0 0, Value.slice none 0 0, Value.slice none 0 0].toList 8 = some ([.nil, .nil, .nil], [], places) :=
  ⟨[], by kernel_rfl⟩

set_option maxRecDepth 100000 in
theorem lifted (os : Os) (started : os.Started) (H : Type) (enc : TypeId × Value → H) (F : Stop.Interp) :
    ReturnsInHanded {} Tryd.checked os 11 .any ((OpenSpec.ofChange Rows.pathAgainSpec).preRow enc Tryd.prog Tryd.f11 Rows.pathAgainRow.domain false Rows.pathAgainRow.laid) (((OpenSpec.ofChange Rows.pathAgainSpec).at F).post enc Tryd.prog Tryd.f11 false true false false) := by
  obtain ⟨places, hx⟩ := reads os enc
  refine returnsInHanded_of_row (C := Tryd.checked) (s := OpenSpec.ofChange Rows.pathAgainSpec) own started (by kernel_rfl) Tryd.func11
    (witness_row_at (enc := enc) (C := Tryd.checked) false (laidWorld os) #[Value.slice none 0 0, Value.slice none 0 0, Value.slice none 0 0] rfl (by kernel_rfl) (by kernel_rfl) (by kernel_rfl)
      (OpenSpec.preRow_of_cond 8 hx (by kernel_rfl) (fun k hk => by cases hk) (by kernel_rfl) (laid_met os))) ?_
  intro W base args ds gs before hval hW _ _ _ hL _ _
  exact contract H enc W base args ds gs before hval hW

theorem said : Rows.PathAgainSaid :=
  OpenClaim.holds_of_cond 11 Tryd.f11 rfl rfl rfl rfl rfl rfl rfl ⟨rfl, rfl, rfl, rfl, rfl⟩ rfl rfl rfl rfl rfl (by kernel_rfl) Tryd.func11 (by kernel_rfl)
    (of_decide_eq_true (by kernel_rfl)) (by unfold Func.isWrapper; first | (rw [if_pos (by decide +kernel)]; kernel_rfl) | (rw [if_neg (by decide +kernel)]; exact ⟨rfl, rfl⟩))
    (fun os started H enc _ F => by rw [OpenClaim.pre_eq_preRow]; exact lifted os started H enc F)

/-- No parameter wants a stand-in; the program's own looks are off: what the card asks. -/
theorem plain (f : FuncId) (fn : Func) (hf : Tryd.pinned.checked.prog.funcNamed "kiln/kilnlaw5.PathAgain" = some f) (hfn : Tryd.pinned.checked.prog.funcs[f]? = some fn) :
    false = Tryd.pinned.checked.prog.looks [] ∧ ∀ (j : Nat) t, fn.params[j]? = some t → Tryd.pinned.checked.prog.wantsStandIn t = false := by
  obtain rfl : f = 11 := Option.some.inj ((show Tryd.prog.funcNamed "kiln/kilnlaw5.PathAgain" = some 11 by kernel_rfl).symm.trans hf) |>.symm
  obtain rfl : fn = Tryd.f11 := (Option.some.inj (Tryd.func11.symm.trans hfn)).symm
  refine ⟨by kernel_rfl, fun j t ht => ?_⟩
  rw [Tryd.params11] at ht
  have hm := Array.mem_of_getElem? ht
  simp at hm
  rcases hm with rfl | rfl | rfl
  · exact (show Tryd.prog.wantsStandIn 25 = false by kernel_rfl)
  · exact (show Tryd.prog.wantsStandIn 42 = false by kernel_rfl)
  · exact (show Tryd.prog.wantsStandIn 25 = false by kernel_rfl)

theorem card : Rows.PathAgainCardSaid :=
  Claim7.holds_tied_plain_at .later [] _ _ _ _ said (fun _ h => by cases h) (by kernel_rfl) (fun _ h => by cases h) pathAgain_row_tie rfl ⟨rfl, rfl⟩ (by kernel_rfl) rfl plain (by kernel_rfl)
end Go.Proofs.YtlcnhhpleiamhaaDoor.pathAgain
