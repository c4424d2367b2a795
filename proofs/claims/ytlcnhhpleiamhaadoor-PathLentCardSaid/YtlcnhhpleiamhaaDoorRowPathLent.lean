/- The lists of names that Parse tells are their caller's own: law PathLent returns true. For all arguments that can be read; the library's tables unicode/utf8.acceptRanges and unicode/utf8.first are as their texts lay them. -/
import Derived.Test.YtlcnhhpleiamhaaDoorKit
import Derived.ProofKit
import Derived.OpenShut
import Derived.Carry
import Derived.Deep.Slices
import Derived.Test.YtlcnhhpleiamhaaDoorRows
import Derived.Test.YtlcnhhpleiamhaaDoorGx0
import Derived.Lib.SmallJoins
import Derived.WideShapes
import Derived.Test.YtlcnhhpleiamhaaDoorPl
import Derived.Test.YtlcnhhpleiamhaaDoorGx8
import Derived.Test.YtlcnhhpleiamhaaDoorKit3
import Derived.Deep.RegionHeld3
import Derived.Test.YtlcnhhpleiamhaaDoorCards
import Derived.Test.YtlcnhhpleiamhaaDoorTie
import Derived.Deep.DeepHandedRow
import Derived.Lib.LaidTab
/- General words for a law's row: what the row asks behind the call, where nothing below the call's own blocks has turned; arguments that are slices of structs of whole numbers. -/
set_option linter.unusedVariables false
set_option linter.unusedSimpArgs false
namespace Go.Proofs.YtlcnhhpleiamhaaDoor
open Go.ChangeShapes Go.WideShapes Go.ChangeAt Go.RowKit

section
variable {H : Type} {enc : TypeId × Value → H} {P : Program}
theorem trodAll_stay (hl : laidOutB P = true) {W W' : World} {sp : Nat → Bool} : ∀ (ts : List TypeId) (vs : List Value) (ds : List (DataW H)) (ps : List MemPlace), (∀ t ∈ ts, P.readableRec t = true ∧ t < P.types.size) →
    DataW.TrodAll enc P W 0 (fun _ => true) true ts vs ds ps → (∀ p ∈ ps, W.sameAt W' p) → (∀ p ∈ ps, sp p.block = true) → DataW.TrodAll enc P W' 0 sp true ts vs ds ps
  | [], [], [], ps, _, h, _, _ => h
  | t :: ts, v :: vs, d :: ds, ps, hr, h, hs, hp => by
    obtain ⟨p, q, h1, h2, rfl⟩ := h
    refine ⟨p, q, ?_, trodAll_stay hl ts vs ds q (fun x hx => hr x (List.mem_cons_of_mem _ hx)) h2 (fun x hx => hs x (List.mem_append_right _ hx)) (fun x hx => hp x (List.mem_append_right _ hx)), rfl⟩
    exact WideElems.Trod_stays hl (hr t (by simp)).1 (hr t (by simp)).2 h1 (fun x hx => hs x (List.mem_append_left _ hx)) (fun x hx => hp x (List.mem_append_left _ hx))
  | [], _ :: _, _, _, _, h, _, _ => h.elim
  | [], [], _ :: _, _, _, h, _, _ => h.elim
  | _ :: _, [], _, _, _, h, _, _ => h.elim
  | _ :: _, _ :: _, [], _, _, h, _, _ => h.elim

/-- a law with no variable among what it is asked of: the arguments read as they read, the answer is true, the old blocks are as they were -/
theorem law_post (hl : laidOutB P = true) {f : Func} {s : ChangeSpec} {W W' : World} {args : Array Value} {ds : List (DataW H)} {before : List MemPlace} {T : TypeId} (hT : P.underlying T = some .bool) (hres : f.resultTypes = #[T])
    (hr : ∀ t ∈ f.params.toList, P.readableRec t = true ∧ t < P.types.size)
    (hspec : s.fn H (ds ++ []) = { results := [.lit (.bool true)], args := ds }) (hvars : s.vars = [])
    (hW : DataW.Whole enc P f.params.toList s.vars false W args.toList ds [] before)
    (hb : Below W.heap.size W W') : s.post enc P f false true false false W args (.bool true) W' := by
  have old : ∀ p ∈ before, p.block < W.heap.size := fun p hp => hW.lt p hp
  have inOld : ∀ p ∈ before, (fun b => decide (b < W.heap.size)) p.block = true := fun p hp => by simpa using old p hp
  have R : ∀ (b : Nat) (sp : Nat → Bool) (hd : Bool), DataW.TrodAll enc P W' b sp hd f.resultTypes.toList ((Value.bool true).resultList f.resultTypes.size) (s.fn H (ds ++ [])).results [] := by
    intro b sp hd
    rw [hspec, hres]
    exact trodAll_cons_mk (shut_bool hT true) trodAll_mk0
  have A : ∀ sp : Nat → Bool, (∀ p ∈ before, sp p.block = true) → DataW.TrodAll enc P W' 0 sp true f.params.toList args.toList (s.fn H (ds ++ [])).args before := by
    intro sp hsp
    rw [hspec]
    obtain ⟨p, q, h1, h2, h3, _, _⟩ := hW
    rw [hvars] at h2
    obtain rfl : q = [] := h2
    rw [List.append_nil] at h3
    subst h3
    exact trodAll_stay hl _ _ _ _ hr h1 (fun x hx => hb.same (old x hx)) hsp
  have V : ∀ sp : Nat → Bool, DataW.TrodVars enc P W' sp s.vars (s.fn H (ds ++ [])).vars [] := by
    intro sp
    rw [hspec, hvars]
    rfl
  refine ⟨ds, [], before, [], before, [], hW, R _ _ _, A _ inOld, V _, World.keptBut_mono (fun p hp => ⟨hp, .inr (by simpa using hp)⟩) (hb.frame (· ∈ before)), fun _ => ⟨fun j t r ht hr => ?_, ?_⟩⟩
  · rw [hres] at ht hr
    match j, ht, hr with
    | 0, ht, hr =>
      simp at ht
      simp [Value.resultList] at hr
      subst ht
      subst hr
      exact okWide_bool_mk hT true
  · obtain ⟨_, _, _, _, _, hz, hn⟩ := hW
    refine ⟨_, _, ([] ++ before) ++ [], ⟨[] ++ before, [], trodAll_append (A _ (fun _ _ => rfl)) (R _ _ _), V _, rfl, ?_, ?_⟩, ?_⟩
    · intro b off hp
      have hin : MemPlace.cell b off ∈ before := by simpa using hp
      exact (hb.frozen (p := ⟨b, off, none⟩) (old _ hin)).trans (hz b off hin)
    · intro ha
      simpa using hn ha
    · intro p hp _
      simpa using hp

/-- a struct of n whole numbers: its cells -/
theorem open_numbers {w : World} {base : Nat} {sp : Nat → Bool} {held : Bool} {e : TypeId} {fs : Array Field} {fuel : Nat} {cs : List Value} {x : DataW H × List MemPlace} (he : P.underlying e = some (.struct fs)) (hC : P.cellsOf e = fs.size)
    (hf : ∀ (j : Nat) (f : Field), fs[j]? = some f → f.offset = j ∧ P.underlying f.type = some (.int .i64) ∧ P.cellsOf f.type = 1) (h : DataW.trod enc P w base sp held fuel e cs = some x) : ∀ j, j < fs.size → ∃ z, cs[j]? = some (.int .i64 z) := by
  intro j hj
  obtain ⟨xs, n, _, _, hlen, hxl, hat⟩ := DataW.trod_struct he h
  obtain ⟨ho, hu, hc⟩ := hf j fs[j] (Array.getElem?_eq_getElem hj)
  have h1 := hat j fs[j] (Array.getElem?_eq_getElem hj)
  rw [ho, hc, List.getElem?_eq_getElem (show j < xs.length by omega)] at h1
  obtain ⟨z, hz, _⟩ := DataW.trod_int hu h1
  refine ⟨z, ?_⟩
  have h2 : ((cs.drop j).take 1)[0]? = some (.int .i64 z) := by rw [hz]; rfl
  simpa [List.getElem?_take, List.getElem?_drop] using h2
/-- a slice of such structs that came in -/
theorem open_numberRows {w : World} {t e : TypeId} {fs : Array Field} {v : Value} {d : DataW H} {ps : List MemPlace} {r : Reach} {b0 : Nat} (ht : P.underlying t = some (.slice e)) (he : P.underlying e = some (.struct fs)) (hC : P.cellsOf e = fs.size)
    (hf : ∀ (j : Nat) (f : Field), fs[j]? = some f → f.offset = j ∧ P.underlying f.type = some (.int .i64) ∧ P.cellsOf f.type = 1)
    (hv : Value.okWide P w r b0 t v) (h : DataW.Trod enc P w 0 (fun _ => true) true t v d ps) :
    (v = .slice none 0 0) ∨ ∃ (a : Addr) (len cap : Nat), v = .slice (some a) len cap ∧ len ≤ cap ∧ cap ≤ maxLen ∧ ∀ i j, i < len → j < fs.size → ∃ z, w.cell? (a.add (i * fs.size + j)) = some (.int .i64 z) := by
  obtain ⟨fuel, hx⟩ := h
  rcases Go.Deep.open_slice ht hx with ⟨h1, _⟩ | ⟨a, len, cap, m, n, D, Pl, h1, _, h2, h3, h4, _, h6⟩
  · left
    obtain ⟨a, n, c, rfl⟩ := okWide_slice ht hv
    simpa [Value.cells] using h1
  · right
    obtain ⟨a', n', c', rfl⟩ := okWide_slice ht hv
    simp [Value.cells] at h1
    obtain ⟨rfl, rfl, rfl⟩ := h1
    refine ⟨a, _, _, rfl, h2, h3, fun i j hi hj => ?_⟩
    simp at h4
    obtain ⟨cs', hc, hr⟩ := h6 i (by omega)
    rw [hC] at hc
    obtain ⟨z, hz⟩ := open_numbers he hC hf hr j hj
    obtain ⟨_, _, hat⟩ := World.cells?_some hc
    have := hat j hj
    rw [hz] at this
    exact ⟨z, by rw [← Go.Deep.add_add]; exact this⟩
end
end Go.Proofs.YtlcnhhpleiamhaaDoor

-- A slice of texts, and one of whole numbers, that comes in, opened.
namespace Go.Proofs.YtlcnhhpleiamhaaDoor.G
open Go.ChangeShapes Go.WideShapes Go.ChangeAt Go.RowKit Go.Proofs.YtlcnhhpleiamhaaDoorW.PrintWords Go.Proofs.YtlcnhhpleiamhaaDoorW.PrintLast Go.Proofs.YtlcnhhpleiamhaaDoorW.PrintMore
set_option linter.unusedVariables false
set_option linter.unusedSimpArgs false
section
variable {H : Type} {enc : TypeId × Value → H}
theorem scells9 : Tryd.prog.cellsOf 9 = 1 := by kernel_rfl
theorem scells3 : Tryd.prog.cellsOf 3 = 1 := by kernel_rfl
theorem open_strs {W : World} {base : Nat} {r : Reach} {v : Value} {d : DataW H} {p : List MemPlace} (hv : Value.okWide Tryd.prog W r base 25 v) (h : DataW.Trod enc Tryd.prog W 0 (fun _ => true) true 25 v d p) :
    ∃ (ao : Option Addr) (l : List ByteArray) (c : Nat), v = .slice ao l.length c ∧ l.length ≤ c ∧ c ≤ maxLen ∧ Kd.C Kd.string W ao l.length l := by
  obtain ⟨fuel, hx⟩ := h
  obtain ⟨a', n', c', rfl⟩ := okWide_slice Tryd.underlying25 hv
  rcases Go.Deep.open_slice Tryd.underlying25 hx with ⟨h1, _⟩ | ⟨a, len, cap, m, n, D, Pl, h1, _, h2, h3, h4, h5, h6⟩
  · simp [Value.cells] at h1
    obtain ⟨rfl, rfl, rfl⟩ := h1
    exact ⟨none, [], 0, rfl, Nat.le_refl _, Nat.zero_le _, ⟨rfl, Nat.zero_le _, fun h => absurd h (Nat.lt_irrefl _)⟩⟩
  · simp [Value.cells] at h1
    obtain ⟨rfl, rfl, rfl⟩ := h1
    simp only [if_true] at h4
    have hel : ∀ i, i < n' → ∃ t : ByteArray, W.cell? (a.add i) = some (.string t) := by
      intro i hi
      obtain ⟨cs', hc, hr⟩ := h6 i (by omega)
      rw [scells9] at hc
      obtain ⟨t, ht, _⟩ := DataW.trod_string Tryd.underlying9 hr
      subst ht
      obtain ⟨_, _, hat⟩ := World.cells?_some hc
      have := hat 0 (by decide)
      refine ⟨t, ?_⟩
      have e : a.add i = (a.add (i * 1)).add 0 := by rw [Go.Deep.add_add, Nat.mul_one, Nat.add_zero]
      rw [e]
      exact this
    have hpick : ∃ f : Nat → ByteArray, ∀ i, i < n' → W.cell? (a.add i) = some (.string (f i)) := by
      refine ⟨fun i => if hi : i < n' then Classical.choose (hel i hi) else ByteArray.empty, fun i hi => ?_⟩
      simp only [dif_pos hi]
      exact Classical.choose_spec (hel i hi)
    obtain ⟨f, hf⟩ := hpick
    have hlen : ((List.range n').map f).length = n' := by simp
    refine ⟨some a, (List.range n').map f, c', by rw [hlen], by rw [hlen]; exact h2, h3, ?_⟩
    rw [hlen]
    refine ⟨hlen, by unfold maxLen at h3; omega, fun _ => ⟨a, rfl, fun j t hj => ?_⟩⟩
    have hjl : j < n' := by
      have := (List.getElem?_eq_some_iff.1 hj).1
      rwa [hlen] at this
    have ht : t = f j := by
      rw [List.getElem?_map, List.getElem?_range hjl] at hj
      simpa using hj.symm
    refine ⟨_, rfl, rfl, fun i u hu => ?_⟩
    have hi : i < 1 := (List.getElem?_eq_some_iff.1 hu).1
    obtain rfl : i = 0 := by omega
    simp at hu
    subst hu
    show W.cell? (a.add (j * 1 + 0)) = _
    rw [show j * 1 + 0 = j by omega, ht]
    exact hf j hjl
theorem open_nums {W : World} {base : Nat} {r : Reach} {v : Value} {d : DataW H} {p : List MemPlace} (hv : Value.okWide Tryd.prog W r base 42 v) (h : DataW.Trod enc Tryd.prog W 0 (fun _ => true) true 42 v d p) :
    ∃ (ao : Option Addr) (l : List Int) (c : Nat), v = .slice ao l.length c ∧ l.length ≤ c ∧ c ≤ maxLen ∧ Kd.C (Kd.int .i64) W ao l.length l := by
  obtain ⟨fuel, hx⟩ := h
  rcases open_ints Tryd.underlying42 Tryd.underlying3 scells3 hx with ⟨h1, _⟩ | ⟨a, len, cap, zs, h1, _, h2, h3, h4, _, h5, _⟩
  · obtain ⟨a, n, c, rfl⟩ := okWide_slice Tryd.underlying42 hv
    simp [Value.cells] at h1
    obtain ⟨rfl, rfl, rfl⟩ := h1
    exact ⟨none, [], 0, rfl, Nat.le_refl _, Nat.zero_le _, ⟨rfl, Nat.zero_le _, fun h => absurd h (Nat.lt_irrefl _)⟩⟩
  · obtain ⟨a', n', c', rfl⟩ := okWide_slice Tryd.underlying42 hv
    simp [Value.cells] at h1
    obtain ⟨rfl, rfl, rfl⟩ := h1
    simp only [if_true] at h4
    have hlen : (zs.take n').length = n' := by rw [List.length_take]; omega
    refine ⟨some a, zs.take n', c', by rw [hlen], by rw [hlen]; exact h2, h3, ?_⟩
    rw [hlen]
    refine ⟨hlen, by unfold maxLen at h3; omega, fun _ => ⟨a, rfl, fun j t hj => ?_⟩⟩
    have hjl : j < n' := by
      have := (List.getElem?_eq_some_iff.1 hj).1
      rwa [hlen] at this
    have hz : zs.getD j 0 = t := by
      rw [List.getElem?_take, if_pos hjl] at hj
      rw [List.getD_eq_getElem?_getD, hj]; rfl
    refine ⟨_, rfl, rfl, fun i u hu => ?_⟩
    have hi : i < 1 := (List.getElem?_eq_some_iff.1 hu).1
    obtain rfl : i = 0 := by omega
    have := h5 j (by omega)
    rw [hz] at this
    simp at hu
    subst hu
    show W.cell? (a.add (j * 1 + 0)) = _
    rw [show j * 1 + 0 = j by omega]
    exact this
end
end Go.Proofs.YtlcnhhpleiamhaaDoor.G

-- PathTexts: what the law's own function tells is true for every list of texts.
namespace Go.Proofs.YtlcnhhpleiamhaaDoor.G
open Go.RowKit Go.Proofs.YtlcnhhpleiamhaaDoorW.PrintWords Go.Proofs.YtlcnhhpleiamhaaDoorW.PrintLast Go.Proofs.YtlcnhhpleiamhaaDoorW.PrintMore
set_option linter.unusedVariables false
set_option linter.unusedSimpArgs false
def cutN (L : List By) : List By := (L.take 40).map (·.take 2000)
theorem cutN_len (L : List By) : (cutN L).length ≤ 40 := by unfold cutN; rw [List.length_map, List.length_take]; omega
theorem map_mk (l : List ByteArray) : l = (l.map bs).map mk := by
  rw [List.map_map]
  exact ((List.map_congr_left (fun x _ => rfl)).trans (List.map_id l)).symm
theorem cutNames_ev (L : List By) (hL : L.length ≤ 9223372036854775807) : ∀ (n i : Nat) (out : List ByteArray), n = min L.length 40 - i → i ≤ L.length → i ≤ 40 → out.length = i →
    Ev (fun k => kilnlaw5_cutNames.l0 k (L.map mk) out (i : Int)) (out ++ (((L.take 40).drop i).map (·.take 2000)).map mk) := by
  intro n
  induction n with
  | zero =>
    intro i out hn hi h40 ho
    have hd : (L.take 40).drop i = [] := List.drop_eq_nil_of_le (by rw [List.length_take]; omega)
    rw [hd, List.map_nil, List.map_nil, List.append_nil]
    refine Ev.step (f := fun _ => some out) (fun k => ?_) (Ev.now _)
    rw [kilnlaw5_cutNames.l0]
    by_cases h : (i : Int) < ((L.map mk).length : Int)
    · rw [if_pos h, if_neg (by rw [List.length_map] at h; omega)]
    · rw [if_neg h]
  | succ n ih =>
    intro i out hn hi h40 ho
    have hlt : i < L.length := by omega
    have hlt2 : i < (L.take 40).length := by rw [List.length_take]; omega
    have hd : (L.take 40).drop i = L[i] :: (L.take 40).drop (i + 1) := by
      rw [List.drop_eq_getElem_cons hlt2, List.getElem_take]
    have hr : rdOf ByteArray.empty (L.map mk) (i : Int) = mk L[i] := by
      unfold rdOf
      rw [Int.toNat_natCast, List.getD_eq_getElem?_getD, List.getElem?_map, List.getElem?_eq_getElem hlt]; rfl
    have := ih (i + 1) (out ++ [mk (L[i].take 2000)]) (by omega) (by omega) (by omega) (by rw [List.length_append, ho]; rfl)
    rw [hd, List.map_cons, List.map_cons, ← List.singleton_append, ← List.append_assoc]
    have hw : wrap64 ((i : Int) + 1) = ((i + 1 : Nat) : Int) := w_add i 1 (by omega)
    refine Ev.step (fun k => ?_) this
    rw [kilnlaw5_cutNames.l0, if_pos (by rw [List.length_map]; omega), if_pos (by omega), if_pos (Int.natCast_nonneg _), hr, cut_is, bs_mk, Option.bind_some, if_pos (by omega), hw]
theorem CutNames_ev (L : List By) (hL : L.length ≤ 9223372036854775807) : Ev (fun k => kilnlaw5_cutNames.f k (L.map mk)) ((cutN L).map mk) := by
  have := cutNames_ev L hL _ 0 [] rfl (by omega) (by omega) rfl
  rw [List.nil_append, List.drop_zero] at this
  exact this
theorem pathtexts_ev (L : List By) (hL : L.length ≤ 1000) : ∀ (X : List By) (i : Nat), L.drop i = X → i ≤ L.length → Ev (fun k => kilnlaw5_PathTexts.l0 k (L.map mk) (i : Int)) true := by
  intro X
  induction X with
  | nil =>
    intro i hX hi
    have hl := (drop_len L i hi).1 hX
    let f : Nat → Option Bool := fun k => (kilnlaw5_Told.f k).bind fun t168 => (if t168 = true then ((kilnlaw5_texts.f k (L.map mk)).bind fun t169 => (some t169)) else (some false))
    refine Ev.step (f := f) (fun k => ?_) ?_
    · rw [kilnlaw5_PathTexts.l0, if_neg (by rw [List.length_map]; omega)]
    refine Ev.bind Told_ev ?_
    refine Ev.congr (fun k => if_pos rfl) ?_
    exact Ev.bind (f := fun _ t => some t) (texts_ev L (by omega)) (Ev.now _)
  | cons p X ih =>
    intro i hX hi
    obtain ⟨hr, hlt, hX2⟩ := rd_at L i p X hX
    have hw : wrap64 ((i : Int) + 1) = ((i + 1 : Nat) : Int) := w_add i 1 (by omega)
    let f : Nat → Option Bool := fun k => (path_Name.f k (mk p)).bind fun t171 => ((kilnref5_Name.f k (mk p)).bind fun t173 => (if (t171 != t173) = true then (some false) else (kilnlaw5_PathTexts.l0 k (L.map mk) ((i + 1 : Nat) : Int))))
    refine Ev.step (f := f) (fun k => ?_) ?_
    · rw [kilnlaw5_PathTexts.l0, if_pos (by rw [List.length_map]; omega), if_pos (Int.natCast_nonneg _), hr, hw]
    refine Ev.bind (Name_ev _) ?_
    refine Ev.bind (NameR_ev _) ?_
    exact Ev.congr (fun k => if_neg (by rw [bne_self_eq_false]; decide)) (ih (i + 1) hX2 (by omega))
theorem PathTexts_true (l : List ByteArray) (hl : l.length ≤ 9223372036854775807) : ∃ k, kilnlaw5_PathTexts.f k l = some true := by
  refine Ev.rounds ?_
  rw [map_mk l]
  have hL : (l.map bs).length ≤ 9223372036854775807 := by rw [List.length_map]; exact hl
  generalize l.map bs = L at *
  unfold kilnlaw5_PathTexts.f
  refine Ev.bind (CutNames_ev L hL) ?_
  exact pathtexts_ev (cutN L) (by have := cutN_len L; omega) _ 0 rfl (by omega)
end Go.Proofs.YtlcnhhpleiamhaaDoor.G

-- mark: printed by wip/graft.py.
namespace Go.Proofs.YtlcnhhpleiamhaaDoor.G
open Go.RowKit Go.Proofs.YtlcnhhpleiamhaaDoorW.PrintWords Go.Proofs.YtlcnhhpleiamhaaDoorW.PrintLast Go.Proofs.YtlcnhhpleiamhaaDoorW.PrintMore
attribute [local go_sem] max2_int min2_int max_two min_two max_three min_three max_four min_four   -- for this text's walks alone
set_option linter.unusedVariables false
set_option linter.unusedSimpArgs false

/-! ### kilnlaw5_mark: function 42 -/
def kilnlaw5_mark.f (a0 : Int) : Option (ByteArray) := (some (([(wrap64 (48 + (Int.tmod a0 10))) % 256, (wrap64 (48 + (Int.tmod (wrap64 (Int.tdiv a0 10)) 10))) % 256, (wrap64 (48 + (Int.tmod (wrap64 (Int.tdiv a0 100)) 10))) % 256] : List Int) : List Int)).bind fun y338 => (if 1 + (strOfNums y338).size ≤ 9223372036854775807 then (some ((⟨#[35]⟩ : ByteArray) ++ (strOfNums y338))) else (none))
set_option maxHeartbeats 8000000 in
set_option maxRecDepth 100000 in
theorem kilnlaw5_mark.calls (a0 : Int) (r : ByteArray) (w : World) (h : kilnlaw5_mark.f a0 = some r) :
    Calls Tryd.prog 42 #[.int .i64 a0] w fun e w' => e = .returned (.string r) ∧ Below w.heap.size w w' := by
  have HB := Aside0.mk (Below.refl w.heap.size w)
  have H : ((some (([(wrap64 (48 + (Int.tmod a0 10))) % 256, (wrap64 (48 + (Int.tmod (wrap64 (Int.tdiv a0 10)) 10))) % 256, (wrap64 (48 + (Int.tmod (wrap64 (Int.tdiv a0 100)) 10))) % 256] : List Int) : List Int)).bind fun y338 => (if 1 + (strOfNums y338).size ≤ 9223372036854775807 then (some ((⟨#[35]⟩ : ByteArray) ++ (strOfNums y338))) else (none))) = some r := h
  clear h
  obtain ⟨y338, hy338⟩ : ∃ y_ : List Int, y_ = (([(wrap64 (48 + (Int.tmod a0 10))) % 256, (wrap64 (48 + (Int.tmod (wrap64 (Int.tdiv a0 10)) 10))) % 256, (wrap64 (48 + (Int.tmod (wrap64 (Int.tdiv a0 100)) 10))) % 256] : List Int)) := ⟨_, rfl⟩
  replace H : (if 1 + (strOfNums y338).size ≤ 9223372036854775807 then (some ((⟨#[35]⟩ : ByteArray) ++ (strOfNums y338))) else (none)) = some r := by first | (rw [hy338]; with_reducible exact H) | (have H2_ := (Option.bind_some _ _).symm.trans H; rw [hy338]; with_reducible exact H2_) | (have H2_ := (Option.bind_some _ _).symm.trans H; with_reducible exact H2_) | with_reducible exact H | (rw [hy338]; exact H) | exact H
  have Ny338 := Aside0.mk hy338
  clear hy338
  by_cases c2 : 1 + (strOfNums y338).size ≤ 9223372036854775807
  · rw [if_pos c2] at H
    have c2b0 := eq_true c2
    have c2b1 : decide (1 + (strOfNums y338).size ≤ 9223372036854775807) = true := decide_eq_true c2
    try have c2b2 : (9223372036854775807 < 1 + (strOfNums y338).size) = False := eq_false (Nat.not_lt.2 c2)
    obtain rfl := Option.some.inj H
    go_enter Tryd.func42, Tryd.ntmps42
    go_wp2_with (first | ((with_reducible refine gate_dst (N := 17) rfl ?_); refine Kd.R_lit (Kd.int .u8) _ 5 ?hg (N := 17) ?hd (xs := ([(wrap64 (48 + (Int.tmod a0 10))) % 256, (wrap64 (48 + (Int.tmod (wrap64 (Int.tdiv a0 10)) 10))) % 256, (wrap64 (48 + (Int.tmod (wrap64 (Int.tdiv a0 100)) 10))) % 256] : List Int)) (inner := [.int .u8 ((wrap64 (48 + (Int.tmod a0 10))) % 256), .int .u8 ((wrap64 (48 + (Int.tmod (wrap64 (Int.tdiv a0 10)) 10))) % 256), .int .u8 ((wrap64 (48 + (Int.tmod (wrap64 (Int.tdiv a0 100)) 10))) % 256)]) (ok := fun _ => True) (okp := fun _ => True) ?hr ?hp (fun _ hk => hk) trivial (Below.refl _ _) (Nat.le_refl _) (by simp) ?_; (case hd => rfl); (case hg => rfl); (case hr => first | (go_simp; done) | (go_simp; rfl)); (case hp => exact (Reps.one (show Kd.M (Kd.int .u8) _ _ _ ((wrap64 (48 + (Int.tmod a0 10))) % 256) [.int .u8 ((wrap64 (48 + (Int.tmod a0 10))) % 256)] from rfl) (Reps.one (show Kd.M (Kd.int .u8) _ _ _ ((wrap64 (48 + (Int.tmod (wrap64 (Int.tdiv a0 10)) 10))) % 256) [.int .u8 ((wrap64 (48 + (Int.tmod (wrap64 (Int.tdiv a0 10)) 10))) % 256)] from rfl) (Reps.one (show Kd.M (Kd.int .u8) _ _ _ ((wrap64 (48 + (Int.tmod (wrap64 (Int.tdiv a0 100)) 10))) % 256) [.int .u8 ((wrap64 (48 + (Int.tmod (wrap64 (Int.tdiv a0 100)) 10))) % 256)] from rfl) (Reps.none _ _))))); intro v339 w3 ho4 hb hg_ hnew_; clear hg_ hnew_; (first | rw [← Ny338.out] at ho4 | (simp only [Int.reduceToNat] at ho4; rw [← Ny338.out] at ho4)); have n0_ := Aside0.mk (Kd.R_lower ho4 (below_size (by repeat (first | (with_reducible first | exact HB.out | apply below_alloc | apply pw_below_drewN | apply below_drew1) | exact HB.out)))); have n1_ := Aside0.mk (below_step (by repeat (first | (with_reducible first | exact HB.out | apply below_alloc | apply pw_below_drewN | apply below_drew1) | exact HB.out)) hb); clear HB; have HO340 := n0_; have HB := n1_; clear n0_ n1_; clear hb ho4; have hcv5 := own_string (P := Tryd.prog) Tryd.underlying57 Tryd.underlying5 Tryd.underlying9 (Kd.own_of_R HO340.out)))
    go_ret
    exact ⟨by first | rfl | (simp [errW_none, errW_some] <;> rfl) | (simp [*, errW_none, errW_some] <;> rfl), by repeat (first | (with_reducible first | exact HB.out | apply below_alloc | apply pw_below_drewN | apply below_drew1) | exact HB.out)⟩
  · rw [if_neg c2] at H
    exact absurd H (by simp)

theorem mark_size (l : List Int) : (strOfNums l).size = l.length := strOfNums_size l
/-- the text that the list k is written full with -/
def markS (k : Nat) : ByteArray := (kilnlaw5_mark.f (k : Int)).getD ⟨#[]⟩
theorem markS_is (k : Nat) : kilnlaw5_mark.f (k : Int) = some (markS k) := by
  have h : ∃ x, kilnlaw5_mark.f (k : Int) = some x := by
    unfold kilnlaw5_mark.f
    rw [Option.bind_some, if_pos (by rw [mark_size]; simp)]
    exact ⟨_, rfl⟩
  obtain ⟨x, hx⟩ := h
  unfold markS
  rw [hx]; rfl
theorem mark_calls (k : Nat) (w : World) : Calls Tryd.prog 42 #[.int .i64 (k : Int)] w fun e w' => e = .returned (.string (markS k)) ∧ Below w.heap.size w w' := kilnlaw5_mark.calls _ _ w (markS_is k)
end Go.Proofs.YtlcnhhpleiamhaaDoor.G

/- Lists that are written full with marks and lengthened: a list and what it has been lengthened to (a thing), for elements of any size. -/
set_option linter.unusedVariables false
set_option linter.unusedSimpArgs false
namespace Go.Proofs.YtlcnhhpleiamhaaDoor
open Go.RowKit
set_option maxRecDepth 10000

theorem Has.drops {B : Nat} {w : World} {L : List Thing} : ∀ D : List Thing, Has B w (D ++ L) → Has B w L
  | [], h => h
  | _ :: D, h => Has.drops D h.tail
theorem own_len {w : World} {base : Nat} {e : TypeId} {size n : Nat} {v : Value} {xs : List Value} (h : w.ownsRow base e size v n xs) : ∃ ao cap, v = .slice ao n cap := by
  rcases own_form h with ⟨rfl, rfl, _⟩ | ⟨g, cap, rfl, _⟩
  · exact ⟨none, 0, rfl⟩
  · exact ⟨_, _, rfl⟩
/-- a list v of n elements x, and what it has been lengthened to: g, of m elements x -/
structure PI where
  v : Value
  g : Value
  n : Nat
  m : Nat
  x : List Value
def same (n : Nat) (x : List Value) : List Value := (List.replicate n x).flatten
theorem same_succ (n : Nat) (x : List Value) : same n x ++ x = same (n + 1) x := by
  unfold same
  rw [List.replicate_succ', List.flatten_append]
  simp
theorem same_len (n sz : Nat) (x : List Value) (h : x.length = sz) : (same n x).length = n * sz := by
  unfold same
  rw [List.length_flatten]
  simp [h]
theorem same_take (n m sz : Nat) (x : List Value) (h : x.length = sz) (hn : n ≤ m) : (same m x).take (n * sz) = same n x := by
  have e : same m x = same n x ++ same (m - n) x := by
    unfold same
    rw [← List.flatten_append, ← List.replicate_append_replicate.symm] <;> simp [hn]
  rw [e]
  exact List.take_left' (same_len n sz x h)
def pT (e : TypeId) (sz : Nat) (p : PI) : Thing where
  fp := p.v.ownBlock.toList ++ (if p.g.ownBlock = p.v.ownBlock then [] else p.g.ownBlock.toList)
  P := fun w => w.ownsRow 0 e sz p.v p.n (same p.n p.x) ∧ w.ownsRow 0 e sz p.g p.m (same p.m p.x) ∧ (p.g.ownBlock = p.v.ownBlock → ∃ ao cap, p.v = .slice ao p.n cap ∧ p.g = .slice ao p.m cap ∧ p.n ≤ p.m)
  loc := fun h hk => by
    refine ⟨ownsRow_local h.1 fun k e => hk k (by simp [e]), ownsRow_local h.2.1 fun k e => hk k ?_, h.2.2⟩
    by_cases hs : p.g.ownBlock = p.v.ownBlock
    · rw [e] at hs; simp [← hs]
    · have hs' := hs
      rw [e] at hs'
      simp [hs, e]
      exact .inr hs'
  lt := fun h k hk => by
    rcases List.mem_append.1 hk with h1 | h1
    · exact (World.ownsRow.lt h.1 k (by simpa using h1)).2
    · split at h1
      · simp at h1
      · exact (World.ownsRow.lt h.2.1 k (by simpa using h1)).2
theorem pT_start {B : Nat} {w : World} {L : List Thing} {v : Value} {e : TypeId} {sz n : Nat} {x : List Value} (h : Has B w (rowT v e sz n (same n x) :: L)) : Has B w (pT e sz ⟨v, v, n, n, x⟩ :: L) := by
  have hr := h.get 0 rfl
  refine (h.head (t' := pT e sz ⟨v, v, n, n, x⟩) (Keeps.refl _ _) ⟨hr, hr, fun _ => ?_⟩ ?_ ?_).1
  · obtain ⟨ao, cap, rfl⟩ := own_len hr
    exact ⟨ao, cap, rfl, rfl, Nat.le_refl _⟩
  · simp only [pT, if_pos, List.append_nil]; cases v.ownBlock <;> simp
  · intro k hk; left; simpa [pT, rowT] using hk

section
variable {P : Program} {ops : Array Oper} {rest : List Oper} {o : Oper} {a : Act} {Q : Exit → Act → World → Prop}

/-- append of one element: in place, or elsewhere with all else left as it was -/
theorem wp_push_where {W : World} (hgd : o.guard = none) (s x : Operand) (t e : TypeId) (z : Value) (size bytes : Nat)
    (ho : o.op = .call { callee := .builtin .append, args := #[s, x], argTypes := #[t, t] })
    (ht : P.underlying t = some (.slice e)) (hinfo : (P.info? e).map (fun i => (i.zero, i.size, i.bytes)) = some (some z, size, bytes)) (hz : z.cells.size = size) (hs0 : 0 < size) (hb0 : 0 < bytes)
    (v : Value) (n : Nat) (xs : List Value) (cs : Array Value) (hs : a.eval s = v) {H : Nat} (hx : a.eval x = .slice (some ⟨H, 0, none⟩) 1 1) (hH : W.heap.size = H) (hcs : cs.size = size) (h1 : ∀ u ∈ cs.toList, u.oneCell' = true)
    (HO : W.ownsRow 0 e size v n xs) (hl : (n + 1) * bytes ≤ 140737488355328)
    (hfit : ∀ g cap w1, v = .slice (some ⟨g, 0, none⟩) n cap → RowAt w1 g e size (n + 1) cap (xs ++ cs.toList) → Keeps [g] W w1 → wpList P ops Q rest (a.put o.dst (.slice (some ⟨g, 0, none⟩) (n + 1) cap)) w1)
    (hgrow : ∀ v1 w1, w1.ownsRow 0 e size v1 (n + 1) (xs ++ cs.toList) → Keeps [] W w1 → (∀ k, v1.ownBlock = some k → W.heap.size ≤ k) → wpList P ops Q rest (a.put o.dst v1) w1) :
    wpList P ops Q (o :: rest) a (W.alloc (.cells cs e)) := by
  have hc : ∀ j u, cs.toList[j]? = some u → (W.alloc (.cells cs e)).cell? ((⟨H, 0, none⟩ : Addr).add j) = some u := by
    intro j u hj
    have e2 : (⟨H, 0, none⟩ : Addr).add j = ⟨H, j, none⟩ := by unfold Addr.add; split <;> simp_all
    rw [e2, ← hH, (StrAt.new W cs e).cell j]
    simpa using hj
  have hlen : n + 1 ≤ 140737488355328 := Nat.le_trans (Nat.le_mul_of_pos_right _ hb0) hl
  have grows : ∀ (ao : Option Addr) (cap : Nat), v = .slice ao n cap → (ao = none → n = 0 ∧ cap = 0) → cap < n + 1 → (∀ b, ao = some b → ∀ j u, xs[j]? = some u → (W.alloc (.cells cs e)).cell? (b.add j) = some u) → wpList P ops Q (o :: rest) a (W.alloc (.cells cs e)) := by
    intro ao cap hv hnone hcap hcells
    obtain ⟨i0, hi, hzz⟩ := Option.map_eq_some_iff.1 hinfo
    simp only [Prod.mk.injEq] at hzz
    obtain ⟨hz0, hz1, hz2⟩ := hzz
    refine wpList_append_grows (W.alloc (.cells cs e)) hgd s x t ho e i0 z size bytes ht hi hz0 hz1 hz2 hz hs0 ao n cap xs (hs.trans hv) hnone HO.1 hcells ⟨H, 0, none⟩ 1 1 cs.toList hx (by simp [hcs]) hc h1 hcap (by simp only [maxLen]; omega) hl ?_
    intro v' w' hown hg
    have hk : Keeps [] W w' := ((Keeps.refl [] W).alloc _).trans (Keeps.of_grownBy hg) (by simp)
    refine hgrow v' w' ⟨hown.1, ?_⟩ hk ?_
    · rcases hown.2 with h1 | ⟨g, cap, cur, h1, h2, h3⟩
      · exact .inl h1
      · exact .inr ⟨g, cap, cur, h1, Nat.zero_le _, h3⟩
    · intro k e
      have := (World.ownsRow.lt hown k e).1
      simp at this
      omega
  rcases own_form HO with ⟨rfl, rfl, rfl⟩ | ⟨g, cap, rfl, hr⟩
  · exact grows none 0 rfl (fun _ => ⟨rfl, rfl⟩) (by omega) (fun b hb => by cases hb)
  · by_cases hc1 : n + 1 ≤ cap
    · refine wp_push_fits hgd s x t e z size bytes ho ht hinfo g n cap xs cs hs hx hH hcs h1 hr hc1 fun w1 hr1 hk => hfit g cap w1 rfl hr1 hk
    · refine grows (some ⟨g, 0, none⟩) cap rfl (fun h => by cases h) (by omega) (fun b hb j u hj => ?_)
      cases hb
      exact World.ownsRow.cells (hr.alloc _) (g := g) rfl j u hj

/-- the same, of a list and what it has been lengthened to -/
theorem wp_push_pair {B : Nat} {W : World} {e : TypeId} {sz bytes : Nat} {z : Value} {p : PI} {L : List Thing} (HO : Has B W (pT e sz p :: L)) (hgd : o.guard = none) (s x : Operand) (t : TypeId)
    (ho : o.op = .call { callee := .builtin .append, args := #[s, x], argTypes := #[t, t] })
    (ht : P.underlying t = some (.slice e)) (hinfo : (P.info? e).map (fun i => (i.zero, i.size, i.bytes)) = some (some z, sz, bytes)) (hz : z.cells.size = sz) (hs0 : 0 < sz) (hb0 : 0 < bytes)
    (cs : Array Value) (hcs : cs.toList = p.x) (hsz : cs.size = sz) (h1c : ∀ u ∈ cs.toList, u.oneCell' = true)
    (hs : a.eval s = p.g) {H : Nat} (hx : a.eval x = .slice (some ⟨H, 0, none⟩) 1 1) (hH : W.heap.size = H) (hl : (p.m + 1) * bytes ≤ 140737488355328)
    (h : ∀ g1 w1, Has B w1 (pT e sz ⟨p.v, g1, p.n, p.m + 1, p.x⟩ :: L) → Below B W w1 → wpList P ops Q rest (a.put o.dst g1) w1) :
    wpList P ops Q (o :: rest) a (W.alloc (.cells cs e)) := by
  obtain ⟨h1, h2, h3⟩ : (pT e sz p).P W := HO.get 0 rfl
  obtain ⟨v, g, n, m, y⟩ := p
  simp only at *
  have hyl : y.length = sz := by rw [← hcs]; simpa using hsz
  have hsame : same m y ++ cs.toList = same (m + 1) y := by rw [hcs]; exact same_succ m y
  refine wp_push_where hgd s x t e z sz bytes ho ht hinfo hz hs0 hb0 g m (same m y) cs hs hx hH hsz h1c h2 hl ?_ ?_
  · rintro b cap w1 rfl hr hk
    simp only [hsame] at hr
    refine (fun hh => h _ _ hh.1 hh.2) (HO.head (w' := w1) (t' := pT e sz ⟨v, .slice (some ⟨b, 0, none⟩) (m + 1) cap, n, m + 1, y⟩) (hk.mono fun k hk => .inl ?_) ⟨?_, hr, ?_⟩ ?_ ?_)
    · simp at hk; subst hk
      by_cases he : Value.ownBlock (.slice (some ⟨k, 0, none⟩) m cap) = v.ownBlock
      · show k ∈ v.ownBlock.toList ++ _
        exact List.mem_append_left _ (by rw [← he]; simp [Value.ownBlock])
      · show k ∈ v.ownBlock.toList ++ (if _ then _ else _)
        rw [if_neg he]
        exact List.mem_append_right _ (by simp [Value.ownBlock])
    · by_cases hv : Value.ownBlock (.slice (some ⟨b, 0, none⟩) m cap) = v.ownBlock
      · obtain ⟨ao, cap', rfl, e, hle⟩ := h3 hv
        cases e
        have := hr.take n (by omega)
        rw [same_take n (m + 1) sz y hyl (by omega)] at this
        exact this
      · exact ownsRow_keeps h1 hk fun k e hm => hv (by simp at hm; subst hm; rw [e]; rfl)
    · intro hv
      obtain ⟨ao, cap', rfl, e, hle⟩ := h3 hv
      cases e
      exact ⟨_, _, rfl, rfl, by show n ≤ m + 1; omega⟩
    · have := List.nodup_append.1 HO.apart
      exact this.1
    · intro k hk
      exact .inl hk
  · intro g1 w1 hr hk hf
    simp only [hsame] at hr
    obtain ⟨b, cap, rfl, hr1⟩ := own_some hr (by omega)
    have hb := hf b rfl
    have hv1 : ∀ k, v.ownBlock = some k → k < W.heap.size := fun k e => (World.ownsRow.lt h1 k e).2
    have hne : ¬ Value.ownBlock (.slice (some ⟨b, 0, none⟩) (m + 1) cap) = v.ownBlock := fun e => by have := hv1 b e.symm; omega
    refine (fun hh => h _ _ hh.1 hh.2) (HO.head (w' := w1) (t' := pT e sz ⟨v, .slice (some ⟨b, 0, none⟩) (m + 1) cap, n, m + 1, y⟩) (hk.mono (by simp)) ⟨ownsRow_keeps h1 hk (by simp), hr, fun e => absurd e hne⟩ ?_ ?_)
    · simp only [pT, if_neg hne]
      refine List.nodup_append.2 ⟨by cases v.ownBlock <;> simp, by simp [Value.ownBlock], fun k hk k' hk' e => ?_⟩
      subst e
      simp [Value.ownBlock] at hk'
      subst hk'
      have := hv1 k (by simpa using hk)
      omega
    · intro k hk
      simp only [pT, if_neg hne] at hk
      rcases List.mem_append.1 hk with h4 | h4
      · left; simp only [pT]; exact List.mem_append_left _ h4
      · right; simp [Value.ownBlock] at h4; subst h4; exact hb
end
theorem perm_pair {α : Type} (Lr M p : α) (P E F : List α) : (p :: Lr :: M :: (P ++ (E ++ F))).Perm (Lr :: M :: ((P ++ [p]) ++ (E ++ F))) := by
  classical
  rw [List.perm_iff_count]
  intro a
  simp only [List.count_append, List.count_cons, List.count_nil]
  omega
theorem perm_take {α : Type} (Lr M p : α) (P E F : List α) : (Lr :: M :: (P ++ ((p :: E) ++ F))).Perm (p :: Lr :: M :: (P ++ (E ++ F))) := by
  classical
  rw [List.perm_iff_count]
  intro a
  simp only [List.count_append, List.count_cons, List.count_nil]
  omega
end Go.Proofs.YtlcnhhpleiamhaaDoor

-- marked: lists of texts that stand apart are written full, lengthened, looked at: true.
namespace Go.Proofs.YtlcnhhpleiamhaaDoor.G
open Go.RowKit Go.Proofs.YtlcnhhpleiamhaaDoorW.PrintWords Go.Proofs.YtlcnhhpleiamhaaDoorW.PrintLast Go.Proofs.YtlcnhhpleiamhaaDoorW.PrintMore
attribute [local go_sem] max2_int min2_int max_two min_two max_three min_three max_four min_four
set_option linter.unusedVariables false
set_option linter.unusedSimpArgs false
set_option maxRecDepth 10000
theorem drew_keepsM (w : World) : Keeps [] w w.drew := (Keeps.refl [] w).drew
theorem fifth {a b c d e : Prop} (h : a ∧ b ∧ c ∧ d ∧ e) : e := h.2.2.2.2
theorem fourth {a b c d : Prop} (h : a ∧ b ∧ c ∧ d) : d := h.2.2.2
theorem info25 : (Tryd.prog.info? 25).map (fun i => (i.zero, i.size, i.bytes)) = some (some (.slice none 0 0), 1, 24) := by kernel_rfl
def intOf : Value → Int
  | .int _ x => x
  | _ => 0
/-- a list that was handed out: its value, what it holds -/
structure EL where
  v : Value
  l : List ByteArray
  le : l.length ≤ 1000000000
def sT (v : Value) (l : List ByteArray) : Thing := rowT v 9 1 l.length (encs Value.string l)
def ML (Lv : Value) (vs : List Value) (es : List EL) (F : List Thing) : List Thing := rowT Lv 25 1 vs.length vs :: (es.map (fun e => sT e.v e.l) ++ F)
theorem ML_set (Lv : Value) (vs : List Value) (es : List EL) (F : List Thing) (k : Nat) (hk : k < es.length) (e : EL) : (ML Lv vs es F).set (1 + k) (sT e.v e.l) = ML Lv vs (es.set k e) F := by
  unfold ML
  rw [show 1 + k = k + 1 by omega, List.set_cons_succ, List.set_append_left _ _ (by simpa using hk), List.map_set]
theorem ML_get (Lv : Value) (vs : List Value) (es : List EL) (F : List Thing) (k : Nat) (e : EL) (he : es[k]? = some e) : (ML Lv vs es F)[1 + k]? = some (sT e.v e.l) := by
  have hk := (List.getElem?_eq_some_iff.1 he).1
  unfold ML
  rw [show 1 + k = k + 1 by omega, List.getElem?_cons_succ, List.getElem?_append_left (by simpa using hk)]
  simp [he]
/-- the lists below the k-th hold their marks -/
def MarkedS (k : Nat) (es : List EL) : Prop := ∀ (j : Nat) (e : EL), j < k → es[j]? = some e → ∀ x ∈ e.l, x = markS j
def MRel (w : World) (B : Nat) (Lv : Value) (vs : List Value) (F : List Thing) (k : Nat) (es : List EL) (wr : World) : Prop :=
  es.map EL.v = vs ∧ MarkedS k es ∧ Has B wr (ML Lv vs es F) ∧ Below B w wr
theorem MRel.below {w : World} {B : Nat} {Lv : Value} {vs : List Value} {F : List Thing} {k : Nat} {es : List EL} {wr w1 : World} (h : MRel w B Lv vs F k es wr) (hb : Below wr.heap.size wr w1) : MRel w B Lv vs F k es w1 :=
  ⟨h.1, h.2.1, h.2.2.1.keeps0 (Keeps.of_below hb), h.2.2.2.trans (hb.mono h.2.2.1.le)⟩
theorem encs_set (xs : List ByteArray) (J : Nat) (t : ByteArray) : (encs Value.string xs).set J (.string t) = encs Value.string (xs.set J t) := by
  unfold encs
  rw [List.map_set]
/-- one cell of the k-th list is marked -/
theorem MRel.store {w : World} {B : Nat} {Lv : Value} {vs : List Value} {F : List Thing} {k : Nat} {es : List EL} {wr : World} (h : MRel w B Lv vs F k es wr)
    {e : EL} (he : es[k]? = some e) {g cap : Nat} (hv : e.v = .slice (some ⟨g, 0, none⟩) e.l.length cap) (q : Nat) (x : ByteArray) :
    MRel w B Lv vs F k (es.set k ⟨e.v, e.l.set q x, by simpa using e.le⟩) (wr.setCell ⟨g, q, none⟩ (.string x)) := by
  obtain ⟨h1, h2, h3, h4⟩ := h
  have hk := (List.getElem?_eq_some_iff.1 he).1
  have ht : (ML Lv vs es F)[1 + k]? = some (rowT (.slice (some ⟨g, 0, none⟩) e.l.length cap) 9 1 e.l.length (encs Value.string e.l)) := by rw [ML_get _ _ _ _ _ _ he, hv]; rfl
  obtain ⟨H1, hB1⟩ := h3.storeRow (1 + k) ht q (.string x)
  refine ⟨?_, ?_, ?_, h4.trans hB1⟩
  · rw [List.map_set]
    refine Eq.trans ?_ h1
    refine List.ext_getElem? fun i => ?_
    by_cases e1 : i = k
    · subst e1; simp [hk]; rw [(List.getElem?_eq_some_iff.1 he).2]
    · rw [List.getElem?_set_ne (by omega)]
  · intro j e' hj he'
    rw [List.getElem?_set_ne (by omega)] at he'
    exact h2 j e' hj he'
  · rw [← ML_set _ _ _ _ _ hk]
    have e2 : sT e.v (e.l.set q x) = rowT (.slice (some ⟨g, 0, none⟩) e.l.length cap) 9 1 e.l.length ((encs Value.string e.l).set q (.string x)) := by
      rw [hv, encs_set]
      simp [sT]
    show Has B _ ((ML Lv vs es F).set (1 + k) (sT e.v (e.l.set q x)))
    rw [e2]
    exact H1
/-- the rounds within the k-th list -/
def InRel (w : World) (B : Nat) (Lv : Value) (vs : List Value) (F : List Thing) (k N : Nat) (c : Value) (wr : World) : Prop :=
  ∃ (q : Nat) (es : List EL) (e : EL), q ≤ N ∧ e.l.length = N ∧ c = .int .i64 (q : Int) ∧ es[k]? = some e ∧ (∀ j, j < q → e.l[j]? = some (markS k)) ∧ MRel w B Lv vs F k es wr
/-- the rounds over the lists -/
def OutRel (w : World) (B : Nat) (Lv : Value) (vs : List Value) (F : List Thing) (i : Value) (wr : World) : Prop :=
  ∃ (k : Nat) (es : List EL), k ≤ vs.length ∧ i = .int .i64 (k : Int) ∧ MRel w B Lv vs F k es wr
/-- the lists that have been lengthened -/
def PL (Lv mv : Value) (vs : List Value) (ps : List PI) (es : List EL) (F : List Thing) : List Thing :=
  rowT Lv 25 1 vs.length vs :: rowT mv 25 1 ps.length (ps.map PI.g) :: (ps.map (pT 9 1) ++ (es.map (fun e => sT e.v e.l) ++ F))
def Paired (vs : List Value) (ps : List PI) : Prop := ∀ (j : Nat) (p : PI), ps[j]? = some p → vs[j]? = some p.v ∧ p.x = [.string (markS j)] ∧ p.m ≤ 1000000270
def PRel (w : World) (B : Nat) (Lv : Value) (vs : List Value) (es : List EL) (F : List Thing) (mv i : Value) (wr : World) : Prop :=
  ∃ (k : Nat) (ps : List PI), k ≤ vs.length ∧ ps.length = k ∧ i = .int .i64 (k : Int) ∧ Paired vs ps ∧ Has B wr (PL Lv mv vs ps (es.drop k) F) ∧ Below B w wr
def QRel (w : World) (B : Nat) (Lv mv : Value) (vs : List Value) (ps : List PI) (es : List EL) (F : List Thing) (v : Value) (n : Nat) (x : List Value) (g c : Value) (wr : World) : Prop :=
  ∃ (m r : Nat), m + 70 ≤ 1000000270 + r ∧ r ≤ 70 ∧ c = .int .i64 (r : Int) ∧ Has B wr (pT 9 1 ⟨v, g, n, m, x⟩ :: PL Lv mv vs ps es F) ∧ Below B w wr
theorem same_get (n q : Nat) (x : Value) (hq : q < n) : (same n [x])[q]? = some x := by
  have e : ∀ n, same n [x] = List.replicate n x := by
    intro n
    induction n with
    | zero => rfl
    | succ n ih =>
      unfold same at ih ⊢
      rw [List.replicate_succ, List.flatten_cons, ih, List.replicate_succ]; rfl
  rw [e, List.getElem?_replicate, if_pos hq]
theorem same_encs (l : List ByteArray) (x : ByteArray) (h : ∀ y ∈ l, y = x) : encs Value.string l = same l.length [.string x] := by
  induction l with
  | nil => rfl
  | cons y l ih =>
    have e1 : encs Value.string (y :: l) = .string y :: encs Value.string l := rfl
    rw [e1, ih (fun z hz => h z (List.mem_cons_of_mem _ hz)), h y (by simp)]
    unfold same
    rw [List.length_cons, List.replicate_succ, List.flatten_cons]; rfl
def MkPost (B : Nat) (w : World) (e : Ending) (w' : World) : Prop := e = .returned (.bool true) ∧ Below B w w'

set_option maxHeartbeats 8000000 in
theorem marked_calls {B : Nat} {w : World} {Lv : Value} {es : List EL} {F : List Thing} (h : Has B w (ML Lv (es.map EL.v) es F)) (hes : es.length ≤ 1000) :
    ∀ (aL : Option Addr) (cL : Nat), Lv = .slice aL es.length cL → Calls Tryd.prog 33 #[Lv] w (MkPost B w) := by
  rintro aL cL rfl
  obtain ⟨vs, hvs⟩ : ∃ vs, vs = es.map EL.v := ⟨_, rfl⟩
  have hN : vs.length = es.length := by simp [hvs]
  rw [← hvs] at h
  have HV := Lib.hid hvs
  clear hvs
  rw [← hN] at h ⊢
  have HS := Lib.hid (show OutRel w B (.slice aL vs.length cL) vs F (.int .i64 0) w from ⟨0, es, by omega, rfl, HV.out.symm, fun j e hj => by omega, h, Below.refl _ _⟩)
  clear h HV
  have hes' : vs.length ≤ 1000 := by omega
  clear hN hes
  go_enter Tryd.func33, Tryd.ntmps33
  go_wp2
  go_loopw [3] (fun i wr => OutRel w B (.slice aL vs.length cL) vs F i wr) (fun i _ => vs.length - (intOf i).toNat)
  case atStart => exact HS.out
  case round =>
    obtain ⟨k, es, hk, rfl, hM⟩ := hrel
    have H := hM.2.2.1
    by_cases hlt : k < vs.length
    · have hlt' : (k : Int) < (vs.length : Int) := by omega
      have hl : es.length = vs.length := by rw [← hM.1]; simp
      have he : es[k]? = some es[k] := List.getElem?_eq_getElem (by omega)
      generalize es[k] = e at he
      have HR := Lib.hid (show InRel w B (.slice aL vs.length cL) vs F k e.l.length (.int .i64 0) wr from ⟨0, es, e, by omega, rfl, rfl, he, fun j hj => by omega, hM⟩)
      have hle := e.le
      generalize e.l.length = N at HR hle
      clear hM H he hl
      go_wp2
      go_loopw [4] (fun c wr => InRel w B (.slice aL vs.length cL) vs F k N c wr) (fun c _ => N - (intOf c).toNat)
      case atStart => exact HR.out
      case round =>
        obtain ⟨q, es, e, hq, hN, rfl, he, hpre, hM⟩ := hrel
        have H := hM.2.2.1
        obtain ⟨gL, c9, hL, rL⟩ := own_some (H.get 0 rfl) (by omega)
        cases hL
        have hvk : vs[k]? = some e.v := by rw [← hM.1]; simp [he]
        have cv := (rL.cell k (by omega)).trans hvk
        have hr := H.get (1 + k) (ML_get _ _ _ _ _ _ he)
        by_cases hlq : q < N
        · have hlq' : (q : Int) < (N : Int) := by omega
          obtain ⟨g, cap, hv, hrow⟩ := own_some hr (by omega)
          obtain ⟨y, hx⟩ : ∃ y, (encs Value.string e.l)[q]? = some (.string y) := ⟨e.l[q]'(by omega), by unfold encs; rw [List.getElem?_map, List.getElem?_eq_getElem (by omega)]; rfl⟩
          have HM := Lib.hid hM
          have HROW := Lib.hid hrow
          have HX := Lib.hid hx
          have HVV := Lib.hid hv
          have HE := Lib.hid he
          have HPRE := Lib.hid hpre
          have HNN := Lib.hid hN
          rw [hv, hN] at cv
          clear hM H hrow hr hpre rL hx hv he hvk hN
          go_wp2_with fail
          have kD : Below wr.heap.size wr wr.drew := keeps_below (drew_keepsM wr) (by simp) (Nat.le_refl _)
          have HMd := Lib.hid (HM.out.below kD)
          have hne : gL ≠ g := by
            intro e9
            have n9 := HM.out.2.2.1.ne 0 (1 + k) rfl (ML_get _ _ _ _ _ _ HE.out) (by omega) gL (by simp [rowT, Value.ownBlock])
            rw [HVV.out, e9] at n9
            exact n9 (by simp [sT, rowT, Value.ownBlock])
          have cD : wr.drew.cell? ⟨gL, k, none⟩ = some (.slice (some ⟨g, 0, none⟩) N cap) := (drew_keepsM wr).cell cv (by simp)
          have hst : ∀ (W : World) (u : Value), W.cell? ⟨gL, k, none⟩ = some (.slice (some ⟨g, 0, none⟩) N cap) → (W.setCell ⟨g, q, none⟩ u).cell? ⟨gL, k, none⟩ = some (.slice (some ⟨g, 0, none⟩) N cap) := fun W u hc => ((Keeps.refl [g] W).setCell (by simp) u).cell hc (by simpa using hne)
          have hrow2 : ∀ w1 : World, MRel w B (.slice (some ⟨gL, 0, none⟩) vs.length cL) vs F k es w1 → w1.cell? ⟨g, q, none⟩ = some (.string y) ∧ w1.frozen? ⟨g, q, none⟩ = false := by
            intro w1 h9
            have h8 : w1.ownsRow 0 9 1 e.v e.l.length (encs Value.string e.l) := h9.2.2.1.get (1 + k) (ML_get _ _ _ _ _ _ HE.out)
            rw [HVV.out] at h8
            exact ⟨(RowAt.cell h8 q (by have := HNN.out; omega)).trans HX.out, RowAt.frozen h8 q⟩
          have hne9 := Lib.hid hne
          clear hne
          go_region_held3 (fun W' => W'.cell? ⟨gL, k, none⟩ = some (.slice (some ⟨g, 0, none⟩) N cap)) (first | exact cD | exact (Keeps.of_below hb9).cell cD (by simp) | exact hst _ _ (by assumption) | exact hst _ _ ((Keeps.of_below hb9).cell cD (by simp))) (first | (go_at_call 42; refine (mark_calls k _).mono ?_; rintro e w1 ⟨rfl, hb9⟩; obtain ⟨cq, fq⟩ := hrow2 _ (HMd.out.below hb9)) | fail)
          all_goals
            have hM2 := (HMd.out.below hb9).store HE.out HVV.out q (markS k)
            have HR2 := Lib.hid (show InRel w B (.slice (some ⟨gL, 0, none⟩) vs.length cL) vs F k N (.int .i64 ((q + 1 : Nat) : Int)) (w1.setCell ⟨g, q, none⟩ (.string (markS k))) from ⟨q + 1, es.set k ⟨e.v, e.l.set q (markS k), by simpa using e.le⟩, ⟨e.v, e.l.set q (markS k), by simpa using e.le⟩, by omega, by simpa using HNN.out, rfl, by rw [List.getElem?_set_self (List.getElem?_eq_some_iff.1 HE.out).1], by
              intro j hj
              by_cases e1 : j = q
              · subst e1; simp only; rw [List.getElem?_set_self (by have := HNN.out; omega)]
              · simp only; rw [List.getElem?_set_ne (by omega)]; exact HPRE.out j (by omega), hM2⟩)
            clear hM2 hb9 hrow2 hst cD
            go_wp2
            go_roundw
          all_goals first | exact HR2.out | (simp [intOf]; omega)
        · have hlq' : ¬ (q : Int) < (N : Int) := by omega
          obtain ⟨ao, cap, hv⟩ := own_len hr
          rw [hv, hN] at cv
          have HO := Lib.hid (show OutRel w B (.slice (some ⟨gL, 0, none⟩) vs.length cL) vs F (.int .i64 ((k + 1 : Nat) : Int)) wr from ⟨k + 1, es, by omega, rfl, hM.1, by
            intro j e' hj he' x hx
            by_cases e1 : j = k
            · subst e1
              rw [he] at he'
              cases he'
              obtain ⟨i, hi, rfl⟩ := List.getElem_of_mem hx
              have := hpre i (by omega)
              rw [List.getElem?_eq_getElem hi] at this
              simpa using this
            · exact hM.2.1 j e' (by omega) he' x hx, hM.2.2⟩)
          clear hM H hr hpre rL hv he hvk
          go_wp2
          go_roundw
          case rel => exact HO.out
          case measure => simp [intOf]; omega
    · have hlt' : ¬ (k : Int) < (vs.length : Int) := by omega
      obtain rfl : k = vs.length := by omega
      have hm := hM.2.1
      have hB := hM.2.2.2
      have hev := hM.1
      have hP0 := Lib.hid (show PRel w B (.slice aL vs.length cL) vs es F (.slice none 0 0) (.int .i64 0) wr from by
        obtain ⟨G, hG⟩ := H.cons (t' := rowT (.slice none 0 0) 25 1 0 []) (Keeps.refl _ _) (World.ownsRow_nil _ _ _ _) (rowT_nodup ..) (fun k hk => by simp [rowT, Value.ownBlock] at hk)
        refine ⟨0, [], by omega, rfl, rfl, fun j p hp => by simp at hp, ?_, hB⟩
        refine G.perm ?_
        unfold PL ML
        simp only [List.map_nil, List.nil_append, List.drop_zero, List.length_nil]
        exact List.Perm.swap _ _ _)
      clear hM H hB
      have hl : es.length = vs.length := by rw [← hev]; simp
      have HM := Lib.hid hm
      have HE := Lib.hid hev
      clear hm hev
      go_wp2
      go_loopw [5, 6] (fun mv i wr => PRel w B (.slice aL vs.length cL) vs es F mv i wr) (fun _ i _ => vs.length - (intOf i).toNat)
      case atStart => exact hP0.out
      case round =>
        obtain ⟨k, ps, hk, hpl, rfl, hP, H, hB⟩ := hrel
        by_cases hlt : k < vs.length
        · have hlt' : (k : Int) < (vs.length : Int) := by omega
          obtain ⟨gL, c9, hL, rL⟩ := own_some (H.get 0 rfl) (by omega)
          cases hL
          have hkes : k < es.length := by omega
          have he : es[k]? = some es[k] := List.getElem?_eq_getElem hkes
          have hd : es.drop k = es[k] :: es.drop (k + 1) := List.drop_eq_getElem_cons hkes
          rw [hd] at H
          generalize es[k] = e at he H
          clear hd
          have hvk : vs[k]? = some e.v := by rw [← HE.out]; simp [he]
          have cv := (rL.cell k (by omega)).trans hvk
          have H2 : Has B wr (rowT e.v 9 1 e.l.length (same e.l.length [.string (markS k)]) :: PL (.slice (some ⟨gL, 0, none⟩) vs.length cL) u5 vs ps (es.drop (k + 1)) F) := by
            rw [← same_encs e.l _ (HM.out k e hlt he)]
            exact H.perm (perm_take _ _ (sT e.v e.l) _ _ _)
          have hle := e.le
          obtain ⟨av, cv', hv⟩ := own_len (H2.get 0 rfl)
          rw [hv] at cv
          have HQ : QRel w B (.slice (some ⟨gL, 0, none⟩) vs.length cL) u5 vs ps (es.drop (k + 1)) F e.v e.l.length [.string (markS k)] e.v (.int .i64 0) wr := ⟨e.l.length, 0, by omega, by omega, rfl, pT_start H2, hB⟩
          rw [hv] at HQ
          have HV := Lib.hid (show vs[k]? = some (.slice av e.l.length cv') by rw [hvk, hv])
          clear hv hvk H2 H he rL hB
          generalize e.l.length = n at *
          have HQ := Lib.hid HQ
          go_wp2
          clear cv
          go_loopw [7, 8] (fun g c wr => QRel w B (.slice (some ⟨gL, 0, none⟩) vs.length cL) u5 vs ps (es.drop (k + 1)) F (.slice av n cv') n [.string (markS k)] g c wr) (fun _ c _ => 70 - (intOf c).toNat)
          case atStart => exact HQ.out
          case round =>
            obtain ⟨m, r, hmr, hr70, rfl, H, hB⟩ := hrel
            by_cases hr : r < 70
            · have hr' : (r : Int) < 70 := by omega
              go_wp2_with fail
              refine (mark_calls k _).mono ?_
              rintro e9 w1 ⟨rfl, hb⟩
              have H9 := H.keeps0 (Keeps.of_below hb)
              have hB9 := hB.trans (hb.mono H.le)
              clear H hB hb
              go_wp2_with (refine wp_push_pair H9 rfl _ _ 25 rfl Tryd.underlying25 info9 rfl (by omega) (by omega) #[.string (markS k)] rfl rfl ?c0 rfl rfl rfl ?c1 ?_)
              case c0 => simp [Value.oneCell']
              case c1 => show (m + 1) * _ ≤ _; omega
              intro g1 w2 H1 hB1
              have HR2 := Lib.hid (show QRel w B (.slice (some ⟨gL, 0, none⟩) vs.length cL) u5 vs ps (es.drop (k + 1)) F (.slice av n cv') n [.string (markS k)] g1 (.int .i64 ((r + 1 : Nat) : Int)) w2 from ⟨m + 1, r + 1, by omega, by omega, rfl, H1, hB9.trans hB1⟩)
              clear H1 hB1 H9 hB9
              go_wp2
              go_roundw
              case rel => exact HR2.out
              case measure => simp [intOf]; omega
            · have hr' : ¬ (r : Int) < 70 := by omega
              obtain rfl : r = 70 := by omega
              obtain ⟨ag, cg, hg⟩ := own_len (H.get 0 rfl).2.1
              simp only at hg
              subst hg
              go_wp2_with (refine wp_push rfl _ _ 46 25 (.slice none 0 0) 1 24 rfl Tryd.underlying46 info25 rfl (by omega) (by omega) u5 ps.length (ps.map PI.g) #[.slice ag m cg] rfl rfl (by simp) rfl ?d1 (H.get 2 rfl) ?d2 ?_)
              case d1 => simp [Value.oneCell']
              case d2 => omega
              intro vL w2 hown hkL hfL
              obtain ⟨H2, hB2⟩ := H.row 2 rfl hown hkL hfL
              have HR := Lib.hid (show PRel w B (.slice (some ⟨gL, 0, none⟩) vs.length cL) vs es F vL (.int .i64 ((k + 1 : Nat) : Int)) w2 from by
                refine ⟨k + 1, ps ++ [⟨.slice av n cv', .slice ag m cg, n, m, [.string (markS k)]⟩], by omega, by simp [hpl], rfl, fun j p hp => ?_, ?_, hB.trans hB2⟩
                · by_cases hj : j < ps.length
                  · rw [List.getElem?_append_left hj] at hp
                    exact hP j p hp
                  · have hj2 : j = k := by have := (List.getElem?_eq_some_iff.1 hp).1; simp at this; omega
                    subst hj2
                    rw [List.getElem?_append_right (by omega), hpl] at hp
                    simp at hp
                    subst hp
                    exact ⟨HV.out, rfl, by show m ≤ _; omega⟩
                · have := H2.perm (perm_pair _ _ _ _ _ _)
                  unfold PL
                  simp only [List.map_append, List.map_cons, List.map_nil, List.length_append, List.length_cons, List.length_nil, hpl, Nat.zero_add]
                  exact this)
              clear H2 hB2 hown hkL hfL H hB
              go_wp2
              go_roundw
              case rel => exact HR.out
              case measure => simp [intOf]; omega
        · have hlt' : ¬ (k : Int) < (vs.length : Int) := by omega
          obtain rfl : k = vs.length := by omega
          obtain ⟨am, cm, hmv⟩ := own_len (H.get 1 rfl)
          subst hmv
          obtain ⟨w3, hw3⟩ : ∃ w3, w3 = wr := ⟨_, rfl⟩
          have hk3 : Keeps [] w3 wr := by rw [hw3]; exact Keeps.refl _ _
          rw [← hw3] at H hB
          clear hw3
          have HF : Hid (B ≤ w3.heap.size ∧ Below B w w3) := Lib.hid ⟨H.le, hB⟩
          have HP := Lib.hid hP
          have HK := Lib.hid hk3
          clear hP hk3 hB
          rw [hpl]
          go_wp2
          go_loopw [9] (fun i wr => ∃ j : Nat, j ≤ vs.length ∧ i = .int .i64 (j : Int) ∧ Keeps [] w3 wr) (fun i _ => vs.length - (intOf i).toNat)
          case atStart => exact ⟨0, by omega, rfl, HK.out⟩
          case round =>
            obtain ⟨j, hj, rfl, hk⟩ := hrel
            by_cases hlj : j < vs.length
            · have hlj' : (j : Int) < (vs.length : Int) := by omega
              have hp : ps[j]? = some (ps[j]'(by omega)) := List.getElem?_eq_getElem (by omega)
              generalize ps[j]'(by omega) = p at hp
              obtain ⟨hvj, hx, hm9⟩ := HP.out j p hp
              have hpt : (pT 9 1 p).P w3 := H.all (pT 9 1 p) (by simp only [PL, List.mem_cons, List.mem_append, List.mem_map]; exact .inr (.inr (.inl ⟨p, List.mem_of_getElem? hp, rfl⟩)))
              obtain ⟨o1, o2, _⟩ := hpt
              obtain ⟨gL, c9, hL, rL⟩ := own_some (H.get 0 rfl) (by omega)
              cases hL
              obtain ⟨gM, c9, hM9, rM⟩ := own_some (H.get 1 rfl) (by omega)
              cases hM9
              have kL := (rL.cell j (by omega)).trans hvj
              have kM := (rM.cell j (by omega)).trans (show (ps.map PI.g)[j]? = some p.g by simp [hp])
              obtain ⟨v, g, n, m, x⟩ := p
              simp only at hvj hx hm9 o1 o2 kL kM
              subst hx
              obtain ⟨av, cv, hv⟩ := own_len o1
              subst hv
              obtain ⟨ag, cg, hg⟩ := own_len o2
              subst hg
              clear rL rM hvj hp
              have C3 := Lib.hid (And.intro kL kM)
              have cM := hk.cell kM (by simp)
              clear kL kM
              have HK := Lib.hid hk
              clear hk
              have hj9 : ¬ ((j : Int) < 0) := by omega
              go_wp2
              clear cM
              go_loopw [10] (fun c wr => ∃ q : Nat, q ≤ m ∧ c = .int .i64 (q : Int) ∧ Keeps [] w3 wr) (fun c _ => m - (intOf c).toNat)
              case atStart => exact ⟨0, by omega, rfl, HK.out⟩
              case round =>
                obtain ⟨q, hq, rfl, hk⟩ := hrel
                have cL1 := hk.cell C3.out.1 (by simp)
                have cM := hk.cell C3.out.2 (by simp)
                by_cases hqm : q < m
                · have hqm' : (q : Int) < (m : Int) := by omega
                  obtain ⟨b, c9, hb, rb⟩ := own_some o2 (by omega)
                  cases hb
                  have kg := (rb.cell q (by omega)).trans (same_get m q _ hqm)
                  have HK2 := Lib.hid hk
                  clear rb
                  by_cases hqn : q < n
                  · have hqn' : (q : Int) < (n : Int) := by omega
                    obtain ⟨b', c9, hb, rb'⟩ := own_some o1 (by omega)
                    cases hb
                    have kv := (rb'.cell q (by omega)).trans (same_get n q _ hqn)
                    clear rb'
                    have hS : ∀ W, Keeps [] w3 W → W.cell? ⟨gL, j, none⟩ = some (.slice (some ⟨b', 0, none⟩) n cv) ∧ W.cell? ⟨gM, j, none⟩ = some (.slice (some ⟨b, 0, none⟩) m cg) ∧ W.cell? ⟨b, q, none⟩ = some (.string (markS j)) ∧ W.cell? ⟨b', q, none⟩ = some (.string (markS j)) ∧ Keeps [] w3 W := fun W h9 => ⟨h9.cell C3.out.1 (by simp), h9.cell C3.out.2 (by simp), h9.cell kg (by simp), h9.cell kv (by simp), h9⟩
                    have hD := hS _ (hk.trans' (drew_keepsM wr))
                    have HS9 := Lib.hid hS
                    clear hk hS kg kv
                    go_wp2_with fail
                    go_region_held3 (fun W => W.cell? ⟨gL, j, none⟩ = some (.slice (some ⟨b', 0, none⟩) n cv) ∧ W.cell? ⟨gM, j, none⟩ = some (.slice (some ⟨b, 0, none⟩) m cg) ∧ W.cell? ⟨b, q, none⟩ = some (.string (markS j)) ∧ W.cell? ⟨b', q, none⟩ = some (.string (markS j)) ∧ Keeps [] w3 W) (first | exact hD | assumption | exact HS9.out _ (by assumption)) (first | (go_at_call 42; refine (mark_calls j _).mono ?_; rintro e w1 ⟨rfl, hb9⟩; have hk9 := Keeps.trans' (fifth (by assumption)) (Keeps.of_below hb9)) | fail)
                    all_goals
                      go_wp2
                      go_roundw
                      case rel => exact ⟨q + 1, by omega, by go_num, by assumption⟩
                      case measure => simp [intOf]; omega
                  · have hqn' : ¬ (q : Int) < (n : Int) := by omega
                    have hS : ∀ W, Keeps [] w3 W → W.cell? ⟨gL, j, none⟩ = some (.slice av n cv) ∧ W.cell? ⟨gM, j, none⟩ = some (.slice (some ⟨b, 0, none⟩) m cg) ∧ W.cell? ⟨b, q, none⟩ = some (.string (markS j)) ∧ Keeps [] w3 W := fun W h9 => ⟨h9.cell C3.out.1 (by simp), h9.cell C3.out.2 (by simp), h9.cell kg (by simp), h9⟩
                    have hD := hS _ (hk.trans' (drew_keepsM wr))
                    have HS9 := Lib.hid hS
                    clear hk hS kg
                    go_wp2_with fail
                    have hqd : decide ((q : Int) < (n : Int)) = false := by simp; omega
                    have hqe : ((q : Int) < (n : Int)) = False := by simp; omega
                    refine wp_region_held_drew (S := fun W => W.cell? ⟨gL, j, none⟩ = some (.slice av n cv) ∧ W.cell? ⟨gM, j, none⟩ = some (.slice (some ⟨b, 0, none⟩) m cg) ∧ W.cell? ⟨b, q, none⟩ = some (.string (markS j)) ∧ Keeps [] w3 W) (by kernel_rfl) ?_ (fun hHeld => ?_)
                    · exact hD
                    refine wpAnyH_take (i := 0) (oi := { dst := some 72, op := Op.move (Operand.tmp 5), type := 46, pos := "again.go:51", after := #[], guard := none }) (v := ?_) rfl (by kernel_rfl) (by kernel_rfl) (by kernel_rfl) (fun _ _ _ h => h) (Or.inl ⟨by rfl, ?_⟩) (by assumption) ?_
                    rotate_left
                    · (intro w hSw; (try dsimp only at hSw); go_simp; try with_reducible rfl)
                    try simp only [Act.put, List.setIfInBounds_toArray, List.set_cons_zero, List.set_cons_succ]
                    refine wpAnyH_take (i := 1) (oi := { dst := some 73, op := Op.move (Operand.tmp 9), type := 3, pos := "again.go:51", after := #[], guard := none }) (v := ?_) rfl (by kernel_rfl) (by kernel_rfl) (by kernel_rfl) (fun _ _ _ h => h) (Or.inl ⟨by rfl, ?_⟩) (by assumption) ?_
                    rotate_left
                    · (intro w hSw; (try dsimp only at hSw); go_simp; try with_reducible rfl)
                    try simp only [Act.put, List.setIfInBounds_toArray, List.set_cons_zero, List.set_cons_succ]
                    refine wpAnyH_take (i := 2) (oi := { dst := some 74, op := Op.indexAddr 46 (Operand.tmp 72) (Operand.tmp 73), type := 0, pos := "again.go:51", after := #[{ on := 0, ground := Ground.data }, { on := 1, ground := Ground.data }], guard := none }) (v := ?_) rfl (by kernel_rfl) (by kernel_rfl) (by kernel_rfl) (fun _ _ _ h => h) (Or.inl ⟨by rfl, ?_⟩) (by assumption) ?_
                    rotate_left
                    · (intro w hSw; (try dsimp only at hSw); go_simp; try with_reducible rfl)
                    try simp only [Act.put, List.setIfInBounds_toArray, List.set_cons_zero, List.set_cons_succ]
                    refine wpAnyH_take (i := 3) (oi := { dst := some 75, op := Op.load 25 (Operand.tmp 74), type := 25, pos := "again.go:51", after := #[{ on := 2, ground := Ground.data }], guard := none }) (v := ?_) rfl (by kernel_rfl) (by kernel_rfl) (by kernel_rfl) (fun _ _ _ h => h) (Or.inl ⟨by rfl, ?_⟩) (by assumption) ?_
                    rotate_left
                    · (intro w hSw; (try dsimp only at hSw); go_simp; try with_reducible rfl)
                    try simp only [Act.put, List.setIfInBounds_toArray, List.set_cons_zero, List.set_cons_succ]
                    refine wpAnyH_take (i := 4) (oi := { dst := some 76, op := Op.move (Operand.tmp 10), type := 3, pos := "again.go:51", after := #[], guard := none }) (v := ?_) rfl (by kernel_rfl) (by kernel_rfl) (by kernel_rfl) (fun _ _ _ h => h) (Or.inl ⟨by rfl, ?_⟩) (by assumption) ?_
                    rotate_left
                    · (intro w hSw; (try dsimp only at hSw); go_simp; try with_reducible rfl)
                    try simp only [Act.put, List.setIfInBounds_toArray, List.set_cons_zero, List.set_cons_succ]
                    refine wpAnyH_take (i := 5) (oi := { dst := some 77, op := Op.indexAddr 25 (Operand.tmp 75) (Operand.tmp 76), type := 0, pos := "again.go:51", after := #[{ on := 3, ground := Ground.data }, { on := 4, ground := Ground.data }], guard := none }) (v := ?_) rfl (by kernel_rfl) (by kernel_rfl) (by kernel_rfl) (fun _ _ _ h => h) (Or.inl ⟨by rfl, ?_⟩) (by assumption) ?_
                    rotate_left
                    · (intro w hSw; (try dsimp only at hSw); go_simp; try with_reducible rfl)
                    try simp only [Act.put, List.setIfInBounds_toArray, List.set_cons_zero, List.set_cons_succ]
                    refine wpAnyH_take (i := 6) (oi := { dst := some 78, op := Op.load 9 (Operand.tmp 77), type := 9, pos := "again.go:51", after := #[{ on := 5, ground := Ground.data }], guard := none }) (v := ?_) rfl (by kernel_rfl) (by kernel_rfl) (by kernel_rfl) (fun _ _ _ h => h) (Or.inl ⟨by rfl, ?_⟩) (by assumption) ?_
                    rotate_left
                    · (intro w hSw; (try dsimp only at hSw); go_simp; try with_reducible rfl)
                    try simp only [Act.put, List.setIfInBounds_toArray, List.set_cons_zero, List.set_cons_succ]
                    refine wpAnyH_take (i := 7) (oi := { dst := some 79, op := Op.move (Operand.tmp 9), type := 3, pos := "again.go:51", after := #[], guard := none }) (v := ?_) rfl (by kernel_rfl) (by kernel_rfl) (by kernel_rfl) (fun _ _ _ h => h) (Or.inl ⟨by rfl, ?_⟩) (by assumption) ?_
                    rotate_left
                    · (intro w hSw; (try dsimp only at hSw); go_simp; try with_reducible rfl)
                    try simp only [Act.put, List.setIfInBounds_toArray, List.set_cons_zero, List.set_cons_succ]
                    refine wpAnyH_ready (rs := [8]) (by kernel_rfl) (by simp) ?_
                    refine AllReadyH.cons (o := { dst := some 80, op := Op.call { callee := Callee.value (Operand.func 42), args := #[Operand.tmp 79], argTypes := #[3] }, type := 9, pos := "again.go:51", after := #[{ on := 7, ground := Ground.data }], guard := none }) rfl (fun K hK => ?_) AllReadyH.nil
                    go_simp
                    refine (mark_calls j _).mono ?_
                    rintro e w1 ⟨rfl, hb9⟩
                    have hk9 : Keeps [] w3 w1 := Keeps.trans' (fourth hD) (Keeps.of_below hb9)
                    refine hK.out _ _ ?_ (fun hHeld2 => ?_)
                    · exact HS9.out _ hk9
                    clear hK K hHeld
                    try simp only [Act.put, List.setIfInBounds_toArray, List.set_cons_zero, List.set_cons_succ]
                    refine wpAnyH_take (i := 9) (oi := { dst := some 81, op := Op.binOp BinOp.neq 9 (Operand.tmp 78) (Operand.tmp 80) 9, type := 4, pos := "again.go:51", after := #[{ on := 6, ground := Ground.data }, { on := 8, ground := Ground.data }], guard := none }) (v := ?_) rfl (by kernel_rfl) (by kernel_rfl) (by kernel_rfl) (fun _ _ _ h => h) (Or.inl ⟨by rfl, ?_⟩) (by assumption) ?_
                    rotate_left
                    · (intro w hSw; (try dsimp only at hSw); go_simp; try with_reducible rfl)
                    try simp only [Act.put, List.setIfInBounds_toArray, List.set_cons_zero, List.set_cons_succ]
                    refine wpAnyH_take (i := 10) (oi := { dst := some 82, op := Op.move (Operand.tmp 81), type := 4, pos := "again.go:51", after := #[{ on := 9, ground := Ground.data }, { on := 8, ground := Ground.chain }], guard := none }) (v := ?_) rfl (by kernel_rfl) (by kernel_rfl) (by kernel_rfl) (fun _ _ _ h => h) (Or.inl ⟨by rfl, ?_⟩) (by assumption) ?_
                    rotate_left
                    · (intro w hSw; (try dsimp only at hSw); go_simp; try with_reducible rfl)
                    try simp only [Act.put, List.setIfInBounds_toArray, List.set_cons_zero, List.set_cons_succ]
                    refine wpAnyH_take (i := 11) (oi := { dst := some 83, op := Op.move (Operand.tmp 10), type := 3, pos := "again.go:51", after := #[{ on := 10, ground := Ground.guard }], guard := some (10, false) }) (v := ?_) rfl (by kernel_rfl) (by kernel_rfl) (by kernel_rfl) (fun _ _ _ h => h) (Or.inl ⟨by rfl, ?_⟩) (by assumption) ?_
                    rotate_left
                    · (intro w hSw; (try dsimp only at hSw); go_simp; try with_reducible rfl)
                    try simp only [Act.put, List.setIfInBounds_toArray, List.set_cons_zero, List.set_cons_succ]
                    refine wpAnyH_take (i := 12) (oi := { dst := some 84, op := Op.move (Operand.tmp 0), type := 46, pos := "again.go:51", after := #[{ on := 10, ground := Ground.guard }], guard := some (10, false) }) (v := ?_) rfl (by kernel_rfl) (by kernel_rfl) (by kernel_rfl) (fun _ _ _ h => h) (Or.inl ⟨by rfl, ?_⟩) (by assumption) ?_
                    rotate_left
                    · (intro w hSw; (try dsimp only at hSw); go_simp; try with_reducible rfl)
                    try simp only [Act.put, List.setIfInBounds_toArray, List.set_cons_zero, List.set_cons_succ]
                    refine wpAnyH_take (i := 13) (oi := { dst := some 85, op := Op.move (Operand.tmp 9), type := 3, pos := "again.go:51", after := #[{ on := 10, ground := Ground.guard }], guard := some (10, false) }) (v := ?_) rfl (by kernel_rfl) (by kernel_rfl) (by kernel_rfl) (fun _ _ _ h => h) (Or.inl ⟨by rfl, ?_⟩) (by assumption) ?_
                    rotate_left
                    · (intro w hSw; (try dsimp only at hSw); go_simp; try with_reducible rfl)
                    try simp only [Act.put, List.setIfInBounds_toArray, List.set_cons_zero, List.set_cons_succ]
                    refine wpAnyH_take (i := 14) (oi := { dst := some 86, op := Op.indexAddr 46 (Operand.tmp 84) (Operand.tmp 85), type := 0, pos := "again.go:51", after := #[{ on := 12, ground := Ground.data }, { on := 13, ground := Ground.data }, { on := 10, ground := Ground.guard }], guard := some (10, false) }) (v := ?_) rfl (by kernel_rfl) (by kernel_rfl) (by kernel_rfl) (fun _ _ _ h => h) (Or.inl ⟨by rfl, ?_⟩) (by assumption) ?_
                    rotate_left
                    · (intro w hSw; (try dsimp only at hSw); go_simp; try with_reducible rfl)
                    try simp only [Act.put, List.setIfInBounds_toArray, List.set_cons_zero, List.set_cons_succ]
                    refine wpAnyH_take (i := 15) (oi := { dst := some 87, op := Op.load 25 (Operand.tmp 86), type := 25, pos := "again.go:51", after := #[{ on := 14, ground := Ground.data }, { on := 10, ground := Ground.guard }], guard := some (10, false) }) (v := ?_) rfl (by kernel_rfl) (by kernel_rfl) (by kernel_rfl) (fun _ _ _ h => h) (Or.inl ⟨by rfl, ?_⟩) (by assumption) ?_
                    rotate_left
                    · (intro w hSw; (try dsimp only at hSw); go_simp; try with_reducible rfl)
                    try simp only [Act.put, List.setIfInBounds_toArray, List.set_cons_zero, List.set_cons_succ]
                    refine wpAnyH_take (i := 16) (oi := { dst := some 88, op := Op.call { callee := Callee.builtin Builtin.len, args := #[Operand.tmp 87], argTypes := #[25] }, type := 3, pos := "again.go:51", after := #[{ on := 15, ground := Ground.data }, { on := 10, ground := Ground.guard }], guard := some (10, false) }) (v := ?_) rfl (by kernel_rfl) (by kernel_rfl) (by kernel_rfl) (fun _ _ _ h => h) (Or.inl ⟨by rfl, ?_⟩) (by assumption) ?_
                    rotate_left
                    · (intro w hSw; (try dsimp only at hSw); go_simp; try with_reducible rfl)
                    try simp only [Act.put, List.setIfInBounds_toArray, List.set_cons_zero, List.set_cons_succ]
                    refine wpAnyH_take (i := 17) (oi := { dst := some 89, op := Op.binOp BinOp.lss 3 (Operand.tmp 83) (Operand.tmp 88) 3, type := 4, pos := "again.go:51", after := #[{ on := 11, ground := Ground.data }, { on := 16, ground := Ground.data }, { on := 10, ground := Ground.guard }], guard := some (10, false) }) (v := ?_) rfl (by kernel_rfl) (by kernel_rfl) (by kernel_rfl) (fun _ _ _ h => h) (Or.inl ⟨by rfl, ?_⟩) (by assumption) ?_
                    rotate_left
                    · (intro w hSw; (try dsimp only at hSw); go_simp; try with_reducible rfl)
                    try simp only [Act.put, List.setIfInBounds_toArray, List.set_cons_zero, List.set_cons_succ]
                    refine wpAnyH_take (i := 18) (oi := { dst := some 90, op := Op.move (Operand.tmp 89), type := 4, pos := "again.go:51", after := #[{ on := 17, ground := Ground.data }, { on := 10, ground := Ground.chain }, { on := 10, ground := Ground.guard }], guard := some (10, false) }) (v := ?_) rfl (by kernel_rfl) (by kernel_rfl) (by kernel_rfl) (fun _ _ _ h => h) (Or.inl ⟨by rfl, ?_⟩) (by assumption) ?_
                    rotate_left
                    · (intro w hSw; (try dsimp only at hSw); go_simp; try with_reducible rfl)
                    try simp only [Act.put, List.setIfInBounds_toArray, List.set_cons_zero, List.set_cons_succ]
                    refine wpAnyH_take (i := 19) (oi := { dst := some 91, op := Op.move (Operand.tmp 0), type := 46, pos := "again.go:51", after := #[{ on := 18, ground := Ground.guard }], guard := some (18, true) }) (v := undef) rfl (by kernel_rfl) (by kernel_rfl) (by kernel_rfl) (fun _ _ _ h => h) (Or.inr ⟨by rfl, rfl⟩) (by assumption) ?_
                    try simp only [Act.put, List.setIfInBounds_toArray, List.set_cons_zero, List.set_cons_succ]
                    refine wpAnyH_take (i := 20) (oi := { dst := some 92, op := Op.move (Operand.tmp 9), type := 3, pos := "again.go:51", after := #[{ on := 18, ground := Ground.guard }], guard := some (18, true) }) (v := undef) rfl (by kernel_rfl) (by kernel_rfl) (by kernel_rfl) (fun _ _ _ h => h) (Or.inr ⟨by rfl, rfl⟩) (by assumption) ?_
                    try simp only [Act.put, List.setIfInBounds_toArray, List.set_cons_zero, List.set_cons_succ]
                    refine wpAnyH_take (i := 21) (oi := { dst := some 93, op := Op.indexAddr 46 (Operand.tmp 91) (Operand.tmp 92), type := 0, pos := "again.go:51", after := #[{ on := 19, ground := Ground.data }, { on := 20, ground := Ground.data }, { on := 18, ground := Ground.guard }], guard := some (18, true) }) (v := undef) rfl (by kernel_rfl) (by kernel_rfl) (by kernel_rfl) (fun _ _ _ h => h) (Or.inr ⟨by rfl, rfl⟩) (by assumption) ?_
                    try simp only [Act.put, List.setIfInBounds_toArray, List.set_cons_zero, List.set_cons_succ]
                    refine wpAnyH_take (i := 22) (oi := { dst := some 94, op := Op.load 25 (Operand.tmp 93), type := 25, pos := "again.go:51", after := #[{ on := 21, ground := Ground.data }, { on := 18, ground := Ground.guard }], guard := some (18, true) }) (v := undef) rfl (by kernel_rfl) (by kernel_rfl) (by kernel_rfl) (fun _ _ _ h => h) (Or.inr ⟨by rfl, rfl⟩) (by assumption) ?_
                    try simp only [Act.put, List.setIfInBounds_toArray, List.set_cons_zero, List.set_cons_succ]
                    refine wpAnyH_take (i := 23) (oi := { dst := some 95, op := Op.move (Operand.tmp 10), type := 3, pos := "again.go:51", after := #[{ on := 18, ground := Ground.guard }], guard := some (18, true) }) (v := undef) rfl (by kernel_rfl) (by kernel_rfl) (by kernel_rfl) (fun _ _ _ h => h) (Or.inr ⟨by rfl, rfl⟩) (by assumption) ?_
                    try simp only [Act.put, List.setIfInBounds_toArray, List.set_cons_zero, List.set_cons_succ]
                    refine wpAnyH_take (i := 24) (oi := { dst := some 96, op := Op.indexAddr 25 (Operand.tmp 94) (Operand.tmp 95), type := 0, pos := "again.go:51", after := #[{ on := 22, ground := Ground.data }, { on := 23, ground := Ground.data }, { on := 18, ground := Ground.guard }], guard := some (18, true) }) (v := undef) rfl (by kernel_rfl) (by kernel_rfl) (by kernel_rfl) (fun _ _ _ h => h) (Or.inr ⟨by rfl, rfl⟩) (by assumption) ?_
                    try simp only [Act.put, List.setIfInBounds_toArray, List.set_cons_zero, List.set_cons_succ]
                    refine wpAnyH_take (i := 25) (oi := { dst := some 97, op := Op.load 9 (Operand.tmp 96), type := 9, pos := "again.go:51", after := #[{ on := 24, ground := Ground.data }, { on := 18, ground := Ground.guard }], guard := some (18, true) }) (v := undef) rfl (by kernel_rfl) (by kernel_rfl) (by kernel_rfl) (fun _ _ _ h => h) (Or.inr ⟨by rfl, rfl⟩) (by assumption) ?_
                    try simp only [Act.put, List.setIfInBounds_toArray, List.set_cons_zero, List.set_cons_succ]
                    refine wpAnyH_take (i := 26) (oi := { dst := some 98, op := Op.move (Operand.tmp 9), type := 3, pos := "again.go:51", after := #[{ on := 18, ground := Ground.guard }], guard := some (18, true) }) (v := undef) rfl (by kernel_rfl) (by kernel_rfl) (by kernel_rfl) (fun _ _ _ h => h) (Or.inr ⟨by rfl, rfl⟩) (by assumption) ?_
                    try simp only [Act.put, List.setIfInBounds_toArray, List.set_cons_zero, List.set_cons_succ]
                    refine wpAnyH_take (i := 27) (oi := { dst := some 99, op := Op.call { callee := Callee.value (Operand.func 42), args := #[Operand.tmp 98], argTypes := #[3] }, type := 9, pos := "again.go:51", after := #[{ on := 26, ground := Ground.data }, { on := 18, ground := Ground.chain }, { on := 18, ground := Ground.guard }], guard := some (18, true) }) (v := undef) rfl (by kernel_rfl) (by kernel_rfl) (by kernel_rfl) (fun _ _ _ h => h) (Or.inr ⟨by rfl, rfl⟩) (by assumption) ?_
                    try simp only [Act.put, List.setIfInBounds_toArray, List.set_cons_zero, List.set_cons_succ]
                    refine wpAnyH_take (i := 28) (oi := { dst := some 100, op := Op.binOp BinOp.neq 9 (Operand.tmp 97) (Operand.tmp 99) 9, type := 4, pos := "again.go:51", after := #[{ on := 25, ground := Ground.data }, { on := 27, ground := Ground.data }, { on := 18, ground := Ground.guard }], guard := some (18, true) }) (v := undef) rfl (by kernel_rfl) (by kernel_rfl) (by kernel_rfl) (fun _ _ _ h => h) (Or.inr ⟨by rfl, rfl⟩) (by assumption) ?_
                    try simp only [Act.put, List.setIfInBounds_toArray, List.set_cons_zero, List.set_cons_succ]
                    refine wpAnyH_take (i := 29) (oi := { dst := some 101, op := Op.pick (Operand.tmp 90) (Operand.tmp 100) (Operand.const (Value.bool false)), type := 4, pos := "again.go:51", after := #[{ on := 18, ground := Ground.data }, { on := 28, ground := Ground.data }, { on := 10, ground := Ground.guard }], guard := some (10, false) }) (v := ?_) rfl (by kernel_rfl) (by kernel_rfl) (by kernel_rfl) (fun _ _ _ h => h) (Or.inl ⟨by rfl, ?_⟩) (by assumption) ?_
                    rotate_left
                    · (intro w hSw; (try dsimp only at hSw); go_simp; try with_reducible rfl)
                    try simp only [Act.put, List.setIfInBounds_toArray, List.set_cons_zero, List.set_cons_succ]
                    refine wpAnyH_take (i := 30) (oi := { dst := some 102, op := Op.pick (Operand.tmp 82) (Operand.const (Value.bool true)) (Operand.tmp 101), type := 4, pos := "again.go:51", after := #[{ on := 10, ground := Ground.data }, { on := 29, ground := Ground.data }], guard := none }) (v := ?_) rfl (by kernel_rfl) (by kernel_rfl) (by kernel_rfl) (fun _ _ _ h => h) (Or.inl ⟨by rfl, ?_⟩) (by assumption) ?_
                    rotate_left
                    · (intro w hSw; (try dsimp only at hSw); go_simp; try with_reducible rfl)
                    try simp only [Act.put, List.setIfInBounds_toArray, List.set_cons_zero, List.set_cons_succ]
                    refine wpAnyH_done (by kernel_rfl) ?_ _
                    go_wp2
                    go_roundw
                    case rel => exact ⟨q + 1, by omega, by go_num, hk9⟩
                    case measure => simp [intOf]; omega
                · have hqm' : ¬ (q : Int) < (m : Int) := by omega
                  go_wp2
                  go_roundw
                  case rel => exact ⟨j + 1, by omega, by go_num, hk⟩
                  case measure => simp [intOf]; omega
            · have hlj' : ¬ (j : Int) < (vs.length : Int) := by omega
              go_wp2
              go_ret
              exact ⟨rfl, HF.out.2.trans (keeps_below hk (by simp) HF.out.1)⟩
end Go.Proofs.YtlcnhhpleiamhaaDoor.G

-- PathLent: the walk.
namespace Go.Proofs.YtlcnhhpleiamhaaDoor.G
open Go.RowKit Go.Proofs.YtlcnhhpleiamhaaDoorW.PrintWords Go.Proofs.YtlcnhhpleiamhaaDoorW.PrintLast Go.Proofs.YtlcnhhpleiamhaaDoorW.PrintMore
attribute [local go_sem] max2_int min2_int max_two min_two max_three min_three max_four min_four
set_option linter.unusedVariables false
set_option linter.unusedSimpArgs false
/-- the names that Parse tells of a text -/
def nm (s : ByteArray) : List ByteArray := if faultV (bs s) ≥ 0 then [] else (partsB (bs s)).map mk
theorem nm_len (s : ByteArray) (hs : s.size ≤ 2000) : (nm s).length ≤ 1000000 := by
  unfold nm
  split
  · simp
  · have := parts_len (bs s)
    rw [bs_length] at this
    rw [List.length_map]; omega
theorem nm_rounds (s : ByteArray) (hs : s.size ≤ 2000) : ∃ k r2 r3 g2, path_Parse.f k s = some (nm s, r2, r3) ∧ kilnref5_Parse.f k s = some (nm s, g2) := by
  obtain ⟨k1, h1⟩ := Parse_ev s (by omega)
  obtain ⟨k2, h2⟩ := ParseR_ev s (by omega)
  have h1 := h1 (max k1 k2) (by omega)
  have h2 := h2 (max k1 k2) (by omega)
  refine ⟨max k1 k2, if faultV (bs s) ≥ 0 then 50 else 0, if faultV (bs s) ≥ 0 then faultV (bs s) else 0, if faultV (bs s) ≥ 0 then faultV (bs s) else -1, ?_, ?_⟩
  · refine h1.trans ?_; unfold nm; split <;> rfl
  · refine h2.trans ?_; unfold nm; split <;> rfl
def LL (lv wv : Value) (es : List EL) (ws : List Value) (Ws : List EL) : List Thing :=
  rowT lv 25 1 es.length (es.map EL.v) :: rowT wv 25 1 es.length ws :: (es.map (fun e => sT e.v e.l) ++ Ws.map (fun e => sT e.v e.l))
/-- each list of want's holds what the list of the same number holds -/
def Cov (es : List EL) (ws : List Value) (Ws : List EL) : Prop := ws.length = es.length ∧ ∀ (j : Nat) (e : EL), es[j]? = some e → ∃ u ∈ Ws, ws[j]? = some u.v ∧ u.l = e.l
def LInv (w : World) (N : Nat) (lv wv : Value) (wr : World) : Prop :=
  ∃ (es : List EL) (ws : List Value) (Ws : List EL), es.length ≤ N ∧ Cov es ws Ws ∧ Has w.heap.size wr (LL lv wv es ws Ws) ∧ Below w.heap.size w wr
def KInv (w : World) (N : Nat) (lv wv wval : Value) (names : List ByteArray) (wr : World) : Prop :=
  ∃ (es : List EL) (ws : List Value) (Ws : List EL), es.length ≤ N ∧ Cov es ws Ws ∧ (∃ u ∈ Ws, u.v = wval ∧ u.l = names) ∧ Has w.heap.size wr (LL lv wv es ws Ws) ∧ Below w.heap.size w wr
theorem LInv.start (w wr : World) (hb : Below w.heap.size w wr) : LInv w 0 (.slice none 0 0) (.slice none 0 0) wr := by
  refine ⟨[], [], [], by simp, ⟨rfl, fun j e h => by simp at h⟩, ?_, hb⟩
  obtain ⟨H1, _⟩ := (Has.nil w.heap.size wr hb.size).cons (t' := rowT (.slice none 0 0) 25 1 0 []) (Keeps.refl _ _) (World.ownsRow_nil _ _ _ _) (rowT_nodup ..) (fun k hk => by simp [rowT, Value.ownBlock] at hk)
  obtain ⟨H2, _⟩ := H1.cons (t' := rowT (.slice none 0 0) 25 1 0 []) (Keeps.refl _ _) (World.ownsRow_nil _ _ _ _) (rowT_nodup ..) (fun k hk => by simp [rowT, Value.ownBlock] at hk)
  exact H2
theorem LInv.below {w wr w1 : World} {N : Nat} {lv wv : Value} (h : LInv w N lv wv wr) (hb : Below wr.heap.size wr w1) : LInv w N lv wv w1 := by
  obtain ⟨es, ws, Ws, h1, h2, h3, h4⟩ := h
  exact ⟨es, ws, Ws, h1, h2, h3.keeps0 (Keeps.of_below hb), h4.trans (hb.mono h4.size)⟩
theorem LInv.mono {w wr : World} {N M : Nat} {lv wv : Value} (h : LInv w N lv wv wr) (hm : N ≤ M) : LInv w M lv wv wr := by
  obtain ⟨es, ws, Ws, h1, h2⟩ := h
  exact ⟨es, ws, Ws, by omega, h2⟩
theorem LInv.low {w wr : World} {N : Nat} {lv wv : Value} (h : LInv w N lv wv wr) : Below w.heap.size w wr := by
  obtain ⟨es, ws, Ws, h1, h2, h3, h4⟩ := h
  exact h4
theorem KInv.below {w wr w1 : World} {N : Nat} {lv wv u : Value} {l : List ByteArray} (h : KInv w N lv wv u l wr) (hb : Below wr.heap.size wr w1) : KInv w N lv wv u l w1 := by
  obtain ⟨es, ws, Ws, h1, h2, h5, h3, h4⟩ := h
  exact ⟨es, ws, Ws, h1, h2, h5, h3.keeps0 (Keeps.of_below hb), h4.trans (hb.mono h4.size)⟩
theorem KInv.out {w wr : World} {N M : Nat} {lv wv u : Value} {l : List ByteArray} (h : KInv w N lv wv u l wr) (hm : N ≤ M) : LInv w M lv wv wr := by
  obtain ⟨es, ws, Ws, h1, h2, h5, h3, h4⟩ := h
  exact ⟨es, ws, Ws, by omega, h2, h3, h4⟩
/-- a thing of a row that a call has told -/
theorem R_thing {B : Nat} {W w1 : World} {L : List Thing} {v : Value} {l : List ByteArray} (h : Has B W L) (hR : Kd.R Kd.string 9 w1 W.heap.size (fun _ => True) v l) (hb : Below W.heap.size W w1) : Has B w1 (sT v l :: L) ∧ Below B W w1 := by
  have h1 := Kd.own_of_R hR
  refine h.cons (t' := sT v l) (Keeps.of_below hb) ?_ (rowT_nodup ..) fun k hk => Kd.R_base hR k (by simpa [sT, rowT] using hk)
  refine ⟨h1.1, ?_⟩
  rcases h1.2 with h2 | ⟨g, cap, cur, e, h2, h3⟩
  · exact .inl h2
  · exact .inr ⟨g, cap, cur, e, Nat.zero_le _, h3⟩
theorem LInv.want {w wr w1 : World} {N : Nat} {lv wv v : Value} {l : List ByteArray} (h : LInv w N lv wv wr) (hR : Kd.R Kd.string 9 w1 wr.heap.size (fun _ => True) v l) (hb : Below wr.heap.size wr w1) (hl : l.length ≤ 1000000) : KInv w N lv wv v l w1 := by
  obtain ⟨es, ws, Ws, h1, h2, h3, h4⟩ := h
  obtain ⟨H, hB⟩ := R_thing h3 hR hb
  refine ⟨es, ws, Ws ++ [⟨v, l, by omega⟩], h1, ⟨h2.1, fun j e he => ?_⟩, ⟨⟨v, l, by omega⟩, by simp, rfl, rfl⟩, H.perm ?_, h4.trans (hb.mono h4.size)⟩
  · obtain ⟨u, hu, hx⟩ := h2.2 j e he
    exact ⟨u, List.mem_append_left _ hu, hx⟩
  · unfold LL
    rw [List.map_append]
    classical
    rw [List.perm_iff_count]
    intro a
    simp only [List.count_append, List.count_cons, List.count_nil, List.map_cons, List.map_nil]
    omega
theorem row_C2 {W : World} {g cap : Nat} {l : List ByteArray} (h : RowAt W g 9 1 l.length cap (encs Value.string l)) (hl : l.length ≤ 1000000000) : Kd.C Kd.string W (some ⟨g, 0, none⟩) l.length l := by
  refine ⟨rfl, by omega, fun _ => ⟨_, rfl, fun j t hj => ⟨_, rfl, rfl, fun i u hu => ?_⟩⟩⟩
  have hjl := (List.getElem?_eq_some_iff.1 hj).1
  have hi : i < 1 := (List.getElem?_eq_some_iff.1 hu).1
  obtain rfl : i = 0 := by omega
  simp at hu
  subst hu
  have ea : (⟨g, 0, none⟩ : Addr).add (j * (Kd.string).sz + 0) = ⟨g, j, none⟩ := by
    have e1 : j * (Kd.string).sz + 0 = j := Nat.mul_one j
    rw [e1]; unfold Addr.add; split <;> simp_all
  rw [ea, RowAt.cell h j (by omega)]
  unfold encs
  rw [List.getElem?_map, hj]; rfl
theorem own_C {W : World} {v : Value} {l : List ByteArray} (h : W.ownsRow 0 9 1 v l.length (encs Value.string l)) (hl : l.length ≤ 1000000000) : ∃ A c, v = .slice A l.length c ∧ Kd.C Kd.string W A l.length l ∧ l.length ≤ c := by
  rcases own_form h with ⟨rfl, h1, h2⟩ | ⟨g, cap, rfl, hr⟩
  · have hle : l = [] := List.length_eq_zero_iff.1 h1
    subst hle
    obtain ⟨A, c, e, _, hC⟩ := Kd.R_reads (Kd.R_nil Kd.string 9 W 0 (fun _ => True))
    cases e
    exact ⟨none, 0, rfl, hC, Nat.le_refl _⟩
  · refine ⟨_, _, rfl, row_C2 hr hl, ?_⟩
    rcases hr.2 with ⟨e, _⟩ | ⟨g', cap', cur, e, _, _, h3, _⟩
    · cases e
    · cases e; exact h3
def LePost (w : World) (e : Ending) (w' : World) : Prop := e = .returned (.bool true) ∧ Below w.heap.size w w'
theorem parses_rounds (x : ByteArray) (hx : x.size ≤ 2000) : ∃ k, kilnlaw5_parses.f k x = some true := Ev.rounds (parses_ev x (by omega))
theorem LL_ML {B : Nat} {wr : World} {lv wv : Value} {es : List EL} {ws : List Value} {Ws : List EL} (h : Has B wr (LL lv wv es ws Ws)) : Has B wr (ML lv (es.map EL.v) es (rowT wv 25 1 es.length ws :: Ws.map (fun e => sT e.v e.l))) := by
  unfold ML
  rw [List.length_map]
  refine h.perm ?_
  unfold LL
  classical
  rw [List.perm_iff_count]
  intro a
  simp only [List.count_append, List.count_cons]
  omega
set_option maxHeartbeats 8000000 in
set_option maxRecDepth 100000 in
theorem lent_calls (A0 : Option Addr) (c0 : Nat) (l0 : List ByteArray) (w : World)
    (hr0 : Kd.C Kd.string w A0 l0.length l0) (hc0 : l0.length ≤ c0) :
    Calls Tryd.prog 12 #[.slice A0 l0.length c0] w (LePost w) := by
  obtain ⟨kt, hT⟩ := Ev.rounds Told_ev
  have HT := Lib.hid hT
  have H0 := Lib.hid hr0
  have C0 := Lib.hid hc0
  clear hT hr0 hc0
  go_enter Tryd.func12, Tryd.ntmps12
  go_wp2_with fail
  refine (kilnlaw5_Told.calls kt true w HT.out).mono ?_
  rintro e w1 ⟨rfl, hb1⟩
  have B1 := Lib.hid (LInv.start w w1 hb1)
  clear hb1
  go_wp2_with fail
  go_loopw [3, 4, 5] (fun lv wv s5 wr => ∃ t : Nat, t ≤ 2 ∧ s5 = .int .i64 (t : Int) ∧ Hid (LInv w (40 * t) lv wv wr)) (fun _ _ s5 _ => 2 - (intOf s5).toNat)
  case atStart => exact ⟨0, by omega, rfl, B1⟩
  case round =>
    clear B1
    obtain ⟨t, ht, rfl, HI⟩ := hrel
    by_cases ht2 : t < 2
    · have ht3 : (t : Int) < 2 := by omega
      go_wp2_with fail
      go_loopw [3, 4, 6] (fun lv wv s6 wr => ∃ i : Nat, i ≤ l0.length ∧ i ≤ 20 ∧ s6 = .int .i64 (i : Int) ∧ Hid (LInv w (40 * t + 2 * i) lv wv wr)) (fun _ _ s6 _ => 20 - (intOf s6).toNat)
      case atStart => exact ⟨0, by omega, by omega, rfl, HI⟩
      case round =>
        clear HI
        obtain ⟨i, hi, hi20, rfl, HI⟩ := hrel
        by_cases hin : i < l0.length ∧ i < 20
        · obtain ⟨hin1, hin2⟩ := hin
          have d1 : decide ((i : Int) < (l0.length : Int)) = true := decide_eq_true (by omega)
          have d2 : decide ((i : Int) < 20) = true := decide_eq_true (by omega)
          have p0 : (0 ≤ (i : Int)) = True := eq_true (Int.natCast_nonneg _)
          have p1 : ((i : Int) < (l0.length : Int)) = True := eq_true (by omega)
          have p2 : ((i : Int) < 20) = True := eq_true (by omega)
          obtain ⟨ad0, e0, x0⟩ := Kd.at_string (Kd.C_below H0.out HI.out.low) (i : Int) (Int.natCast_nonneg _) (by omega)
          cases e0
          simp only [Int.toNat_natCast] at x0
          go_wp2_with fail
          refine (kilnlaw5_cut.calls _ _ _ (cut_is (rdOf ByteArray.empty l0 (i : Int)))).mono ?_
          rintro e w2 ⟨rfl, ⟨⟨m2, rfl⟩⟩⟩
          have hxs := cut_le (rdOf ByteArray.empty l0 (i : Int))
          generalize mk ((bs (rdOf ByteArray.empty l0 (i : Int))).take 2000) = x at hxs
          obtain ⟨kx, r2, r3, g2, hx1, hx2⟩ := nm_rounds x hxs
          have hnl := nm_len x hxs
          have HX1 := Lib.hid hx1
          have HX2 := Lib.hid hx2
          clear hx1 hx2
          have HI2 := Lib.hid (HI.out.below (pw_below_drewN (Below.refl wr.heap.size wr) m2))
          go_wp2_with fail
          refine (kilnref5_Parse.calls kx x (nm x) g2 _ HX2.out).mono ?_
          rintro e w3 ⟨v0, rfl, hR, hb3⟩
          have HK := Lib.hid (HI2.out.want hR hb3 hnl)
          clear hR hb3
          go_wp2_with fail
          go_loopw [3, 4, 10] (fun lv wv s10 wr => ∃ k : Nat, k + t ≤ 2 ∧ s10 = .int .i64 (k : Int) ∧ Hid (KInv w (40 * t + 2 * i + k) lv wv v0 (nm x) wr)) (fun _ _ s10 _ => 2 - (intOf s10).toNat)
          case atStart => exact ⟨0, by omega, rfl, HK⟩
          case round =>
            clear HI HI2 HK
            obtain ⟨k, hk, rfl, HK⟩ := hrel
            have hwt : wrap64 (2 - (t : Int)) = 2 - (t : Int) := IntWalk.wrap64_in _ (by omega)
            have hwt2 : IntKind.i64.wrap (2 - (t : Int)) = 2 - (t : Int) := (i64_w _).trans hwt
            by_cases hkt : k + t < 2
            · have q1 : ((k : Int) < 2 - (t : Int)) = True := eq_true (by omega)
              have q2 : decide ((k : Int) < 2 - (t : Int)) = true := decide_eq_true (by omega)
              go_wp2_with fail
              refine (path_Parse.calls kx x (nm x) r2 r3 _ HX1.out).mono ?_
              rintro e w4 ⟨v1, rfl, hR, hb4⟩
              obtain ⟨A9, c9, hv1, hl9, _⟩ := Kd.R_reads hR
              obtain ⟨es, ws, Ws, hlen, hcov, hmem, hHas, hlow⟩ := HK.out
              obtain ⟨H1, hB1⟩ := R_thing hHas hR hb4
              have hv0 : ∃ A8 n8 c8, v0 = .slice A8 n8 c8 := by
                obtain ⟨u, hu, rfl, _⟩ := hmem
                have := hHas.all (sT u.v u.l) (by unfold LL; simp only [List.mem_cons, List.mem_append, List.mem_map]; exact .inr (.inr (.inr ⟨u, hu, rfl⟩)))
                obtain ⟨A8, c8, e8⟩ := own_len this
                exact ⟨_, _, _, e8⟩
              have HLOW := Lib.hid (hlow.trans hB1)
              have HCOV := Lib.hid hcov
              have HMEM := Lib.hid hmem
              clear hHas hlow hB1 hR hb4 hl9 hcov hmem HK
              subst hv1
              go_wp2_with (refine wp_push rfl _ _ 46 25 (.slice none 0 0) 1 24 rfl Tryd.underlying46 info25 rfl (by omega) (by omega) u3 es.length (es.map EL.v) #[.slice A9 (nm x).length c9] rfl rfl (by simp) rfl ?d1 (H1.get 1 rfl) ?d2 ?_)
              case d1 => simp [Value.oneCell']
              case d2 => omega
              intro vL w5 hown hkL hfL
              obtain ⟨H2, hB2⟩ := H1.row 1 rfl hown hkL hfL
              have HLOW2 := Lib.hid (HLOW.out.trans hB2)
              clear hown hkL hfL H1 hB2 HLOW
              obtain ⟨A8, n8, c8, rfl⟩ := hv0
              go_wp2_with (refine wp_push rfl _ _ 46 25 (.slice none 0 0) 1 24 rfl Tryd.underlying46 info25 rfl (by omega) (by omega) u4 es.length ws #[.slice A8 n8 c8] rfl rfl (by simp) rfl ?d1 (H2.get 2 rfl) ?d2 ?_)
              case d1 => simp [Value.oneCell']
              case d2 => omega
              intro vW w6 hown hkL hfL
              obtain ⟨H3, hB3⟩ := H2.row 2 rfl hown hkL hfL
              have HK2 := Lib.hid (show KInv w (40 * t + 2 * i + (k + 1)) vL vW (.slice A8 n8 c8) (nm x) w6 from by
                refine ⟨es ++ [⟨.slice A9 (nm x).length c9, nm x, by omega⟩], ws ++ [.slice A8 n8 c8], Ws, by simp; omega, ⟨by simp [HCOV.out.1], fun j e he => ?_⟩, HMEM.out, ?_, HLOW2.out.trans hB3⟩
                · have hwl := HCOV.out.1
                  by_cases hj : j < es.length
                  · rw [List.getElem?_append_left hj] at he
                    obtain ⟨u, hu, h8, h9⟩ := HCOV.out.2 j e he
                    exact ⟨u, hu, by rw [List.getElem?_append_left (by omega)]; exact h8, h9⟩
                  · have hj2 : j = es.length := by have := (List.getElem?_eq_some_iff.1 he).1; simp at this; omega
                    subst hj2
                    rw [List.getElem?_append_right (by omega)] at he
                    simp at he
                    subst he
                    obtain ⟨u, hu, h8, h9⟩ := HMEM.out
                    refine ⟨u, hu, ?_, h9⟩
                    rw [List.getElem?_append_right (by omega), hwl, h8]
                    simp
                · refine H3.perm ?_
                  unfold LL
                  simp only [List.map_append, List.map_cons, List.map_nil, List.length_append, List.length_cons, List.length_nil, Nat.zero_add]
                  show (sT _ _ :: rowT vL 25 1 (es.length + 1) (es.map EL.v ++ [Value.slice A9 (nm x).length c9]) :: rowT vW 25 1 (es.length + 1) (ws ++ [Value.slice A8 n8 c8]) :: _).Perm _
                  classical
                  rw [List.perm_iff_count]
                  intro a
                  simp only [List.count_append, List.count_cons, List.count_nil]
                  omega)
              clear hown hkL hfL H2 hB3 H3 HLOW2 HMEM HCOV
              go_wp2
              go_roundw
              case rel => exact ⟨k + 1, by omega, by go_num, HK2⟩
              case measure => simp [intOf]; omega
            · have q1 : ((k : Int) < 2 - (t : Int)) = False := eq_false (by omega)
              have q2 : decide ((k : Int) < 2 - (t : Int)) = false := decide_eq_false (by omega)
              have HI3 := Lib.hid (HK.out.out (M := 40 * t + 2 * (i + 1)) (by omega))
              clear HK
              go_wp2
              go_roundw
              case rel => exact ⟨i + 1, by omega, by omega, by go_num, HI3⟩
              case measure => simp [intOf]; omega
        · have HI3 := Lib.hid (HI.out.mono (M := 40 * (t + 1)) (by omega))
          by_cases u1 : i < l0.length
          · have u2 : ¬ i < 20 := fun h => hin ⟨u1, h⟩
            have f1 : decide ((i : Int) < (l0.length : Int)) = true := decide_eq_true (by omega)
            have p1 : ((i : Int) < (l0.length : Int)) = True := eq_true (by omega)
            have f2 : decide ((i : Int) < 20) = false := decide_eq_false (by omega)
            have p2 : ((i : Int) < 20) = False := eq_false (by omega)
            clear u1 u2 hin
            go_wp2
            go_roundw
            case rel => exact ⟨t + 1, by omega, by go_num, HI3⟩
            case measure => simp [intOf]; omega
          · have f1 : decide ((i : Int) < (l0.length : Int)) = false := decide_eq_false (by omega)
            have p1 : ((i : Int) < (l0.length : Int)) = False := eq_false (by omega)
            clear u1 hin
            go_wp2
            go_roundw
            case rel => exact ⟨t + 1, by omega, by go_num, HI3⟩
            case measure => simp [intOf]; omega
    · have ht3 : ((t : Int) < 2) = False := eq_false (by omega)
      have ht4 : decide ((t : Int) < 2) = false := decide_eq_false (by omega)
      obtain ⟨es, ws, Ws, hlen, hcov, hHas, hlow⟩ := HI.out
      obtain ⟨aL, cL, hlv⟩ := own_len (hHas.get 0 rfl)
      obtain ⟨aW, cW, hwv⟩ := own_len (hHas.get 1 rfl)
      subst hlv
      subst hwv
      have HS := Lib.hid (And.intro hHas hlow)
      have HCOV := Lib.hid hcov
      clear hHas hlow hcov HI
      go_wp2_with fail
      go_loopw [14] (fun s14 wr => ∃ j : Nat, j ≤ es.length ∧ s14 = .int .i64 (j : Int) ∧ Hid (Has w.heap.size wr (LL (.slice aL es.length cL) (.slice aW es.length cW) es ws Ws) ∧ Below w.heap.size w wr)) (fun s14 _ => es.length - (intOf s14).toNat)
      case atStart => exact ⟨0, by omega, rfl, HS⟩
      case round =>
        clear HS
        obtain ⟨j, hj, rfl, HS⟩ := hrel
        by_cases hjl : j < es.length
        · have p0 : (0 ≤ (j : Int)) = True := eq_true (Int.natCast_nonneg _)
          have p1 : ((j : Int) < (es.length : Int)) = True := eq_true (by omega)
          have d1 : decide ((j : Int) < (es.length : Int)) = true := decide_eq_true (by omega)
          obtain ⟨gL, c9, hL, rL⟩ := own_some (HS.out.1.get 0 rfl) (by omega)
          cases hL
          obtain ⟨gW, c9, hW, rW⟩ := own_some (HS.out.1.get 1 rfl) (by omega)
          cases hW
          have he : es[j]? = some (es[j]'hjl) := List.getElem?_eq_getElem hjl
          generalize es[j]'hjl = e at he
          obtain ⟨u, hu, hwu, hul⟩ := HCOV.out.2 j e he
          have cL := (rL.cell j (by omega)).trans (show (es.map EL.v)[j]? = some e.v by simp [he])
          have cW := (rW.cell j (by omega)).trans hwu
          have o1 := HS.out.1.all (sT e.v e.l) (by unfold LL; simp only [List.mem_cons, List.mem_append, List.mem_map]; exact .inr (.inr (.inl ⟨e, List.mem_of_getElem? he, rfl⟩)))
          have o2 := HS.out.1.all (sT u.v u.l) (by unfold LL; simp only [List.mem_cons, List.mem_append, List.mem_map]; exact .inr (.inr (.inr ⟨u, hu, rfl⟩)))
          obtain ⟨A1, c1, e1, hC1, hc1⟩ := own_C o1 e.le
          obtain ⟨A2, c2, e2, hC2, hc2⟩ := own_C o2 u.le
          rw [hul] at hC2 e2 hc2
          rw [e1] at cL
          rw [e2] at cW
          obtain ⟨ks, hks⟩ := Ev.rounds (same_ev e.l e.le)
          have HC1 := Lib.hid hC1
          have HC2 := Lib.hid hC2
          have HKS := Lib.hid hks
          have hc1 := Lib.hid hc1
          have hc2 := Lib.hid hc2
          clear o1 o2 hC1 hC2 hks hwu he e1 e2 rL rW hu hul
          have kD : Below wr.heap.size wr wr.drew := keeps_below (drew_keepsM wr) (by simp) (Nat.le_refl _)
          have hS : ∀ W, Keeps [] wr W → W.cell? ⟨gL, j, none⟩ = some (.slice A1 e.l.length c1) ∧ W.cell? ⟨gW, j, none⟩ = some (.slice A2 e.l.length c2) ∧ Keeps [] wr W := fun W hk => ⟨hk.cell cL (by simp), hk.cell cW (by simp), hk⟩
          have hD := hS _ (drew_keepsM wr)
          have HS9 := Lib.hid hS
          clear hS cL cW
          have HB9 : Hid (Calls Tryd.prog 26 #[.slice A1 e.l.length c1, .slice A2 e.l.length c2] wr.drew fun e' w' => e' = .returned (.bool true) ∧ Keeps [] wr w') := by
            refine Lib.hid ((kilnref5_Same.calls ks A1 c1 e.l A2 c2 e.l true wr.drew (Kd.C_below HC1.out kD) hc1.out (Kd.C_below HC2.out kD) hc2.out HKS.out).mono ?_)
            rintro e' w' ⟨h1, ⟨⟨m9, rfl⟩⟩⟩
            exact ⟨h1, (drew_keepsM wr).trans' (Keeps.of_below (pw_below_drewN (Below.refl wr.drew.heap.size wr.drew) m9))⟩
          go_wp2_with fail
          go_region_held3 (fun W => W.cell? ⟨gL, j, none⟩ = some (.slice A1 e.l.length c1) ∧ W.cell? ⟨gW, j, none⟩ = some (.slice A2 e.l.length c2) ∧ Keeps [] wr W) (first | exact hD | assumption | exact HS9.out _ (by assumption)) (first | (go_at_call 26; refine HB9.out.mono ?_; rintro e9 w9 ⟨rfl, hk9⟩) | fail)
          all_goals
            have HS2 := Lib.hid (And.intro (HS.out.1.keeps0 hk9) (HS.out.2.trans (keeps_below hk9 (by simp) HS.out.1.le)))
            clear HS hk9 hD
            go_wp2
            go_roundw
            case rel => exact ⟨j + 1, by omega, by go_num, HS2⟩
            case measure => simp [intOf]; omega
        · have p1 : ((j : Int) < (es.length : Int)) = False := eq_false (by omega)
          have d1 : decide ((j : Int) < (es.length : Int)) = false := decide_eq_false (by omega)
          have HM := Lib.hid (marked_calls (LL_ML HS.out.1) (by omega) aL cL rfl)
          have HLOW := Lib.hid HS.out.2
          clear HS
          go_wp2_with fail
          refine HM.out.mono ?_
          rintro e9 w9 ⟨rfl, hb9⟩
          have HLOW2 := Lib.hid (HLOW.out.trans hb9)
          clear HM HLOW hb9
          go_wp2_with fail
          go_loopw [15] (fun s15 wr => ∃ i : Nat, i ≤ l0.length ∧ i ≤ 20 ∧ s15 = .int .i64 (i : Int) ∧ Hid (Below w.heap.size w wr)) (fun s15 _ => 20 - (intOf s15).toNat)
          case atStart => exact ⟨0, by omega, by omega, rfl, HLOW2⟩
          case round =>
            clear HLOW2
            obtain ⟨i, hi, hi20, rfl, HL⟩ := hrel
            by_cases hin : i < l0.length ∧ i < 20
            · obtain ⟨hin1, hin2⟩ := hin
              have d1 : decide ((i : Int) < (l0.length : Int)) = true := decide_eq_true (by omega)
              have d2 : decide ((i : Int) < 20) = true := decide_eq_true (by omega)
              have p0 : (0 ≤ (i : Int)) = True := eq_true (Int.natCast_nonneg _)
              have p1 : ((i : Int) < (l0.length : Int)) = True := eq_true (by omega)
              have p2 : ((i : Int) < 20) = True := eq_true (by omega)
              obtain ⟨ad0, e0, x0⟩ := Kd.at_string (Kd.C_below H0.out HL.out) (i : Int) (Int.natCast_nonneg _) (by omega)
              cases e0
              simp only [Int.toNat_natCast] at x0
              go_wp2_with fail
              refine (kilnlaw5_cut.calls _ _ _ (cut_is (rdOf ByteArray.empty l0 (i : Int)))).mono ?_
              rintro e w2 ⟨rfl, ⟨⟨m2, rfl⟩⟩⟩
              have hxs := cut_le (rdOf ByteArray.empty l0 (i : Int))
              generalize mk ((bs (rdOf ByteArray.empty l0 (i : Int))).take 2000) = x at hxs
              obtain ⟨kx, hx⟩ := parses_rounds x hxs
              have HX := Lib.hid hx
              clear hx
              have HL2 := Lib.hid (pw_below_drewN HL.out m2)
              go_wp2_with fail
              refine (kilnlaw5_parses.calls kx x true _ HX.out).mono ?_
              rintro e w3 ⟨rfl, hb3⟩
              have HL3 := Lib.hid (HL2.out.trans (hb3.mono HL2.out.size))
              clear HL HL2 hb3
              go_wp2
              go_roundw
              case rel => exact ⟨i + 1, by omega, by omega, by go_num, HL3⟩
              case measure => simp [intOf]; omega
            · by_cases u1 : i < l0.length
              · have u2 : ¬ i < 20 := fun h => hin ⟨u1, h⟩
                have f1 : decide ((i : Int) < (l0.length : Int)) = true := decide_eq_true (by omega)
                have p1 : ((i : Int) < (l0.length : Int)) = True := eq_true (by omega)
                have f2 : decide ((i : Int) < 20) = false := decide_eq_false (by omega)
                have p2 : ((i : Int) < 20) = False := eq_false (by omega)
                clear u1 u2 hin
                go_wp2
                go_ret
                exact ⟨rfl, HL.out⟩
              · have f1 : decide ((i : Int) < (l0.length : Int)) = false := decide_eq_false (by omega)
                have p1 : ((i : Int) < (l0.length : Int)) = False := eq_false (by omega)
                clear u1 hin
                go_wp2
                go_ret
                exact ⟨rfl, HL.out⟩
theorem kilnlaw5_PathLent.calls (k : Nat) (A0 : Option Addr) (c0 : Nat) (l0 : List ByteArray) (r : Bool) (w : World)
    (hr0 : Kd.C Kd.string w A0 l0.length l0) (hc0 : l0.length ≤ c0) (h : r = true) :
    Calls Tryd.prog 12 #[.slice A0 l0.length c0] w fun e w' => e = .returned (.bool r) ∧ Below w.heap.size w w' := by
  subst h
  exact lent_calls A0 c0 l0 w hr0 hc0
theorem PathLent_true : ∃ k : Nat, true = true := ⟨0, rfl⟩
end Go.Proofs.YtlcnhhpleiamhaaDoor.G

/- The lists of names that Parse tells are their caller's own: law PathLent returns true. For all arguments that can be read; the library's tables unicode/utf8.acceptRanges and unicode/utf8.first are as their texts lay them. -/
set_option linter.unusedVariables false
set_option linter.unusedSimpArgs false
namespace Go.Proofs.YtlcnhhpleiamhaaDoor.pathLent
open Go.ChangeShapes Go.WideShapes Go.ChangeAt Go.RowKit

theorem own : ownKnob Tryd.prog.godebug = none := by kernel_rfl
theorem laidOut : laidOutB Tryd.prog = true := by kernel_rfl

theorem contract (H : Type) (enc : TypeId × Value → H) (W : World) (base : Nat) (args : Array Value) (ds gs : List (DataW H)) (before : List MemPlace)
    (hval : ∀ (j : Nat) t v, Tryd.f12.params[j]? = some t → args[j]? = some v → Value.okWide Tryd.prog W .any base t v)
    (hW : DataW.Whole enc Tryd.prog Tryd.f12.params.toList Rows.pathLentSpec.vars false W args.toList ds gs before) :
    Calls Tryd.prog 12 args W fun e W' => ∃ v, e = .returned v ∧ Rows.pathLentSpec.post enc Tryd.prog Tryd.f12 false true false false W args v W' := by
  have hW' := hW
  obtain ⟨p, q, hA0, hV, rfl, hfz, hnd⟩ := hW
  have hA : DataW.TrodAll enc Tryd.prog W 0 (fun _ => true) true Tryd.f12.params.toList args.toList ds p := hA0
  rw [Tryd.params12] at hA hval
  obtain ⟨v0, vs0, d0, ds0, p0, q0, hargs, rfl, rfl, h0, r0⟩ := trodAll_cons hA
  obtain ⟨rfl, rfl, rfl⟩ := trodAll_nil r0
  obtain rfl : args = #[v0] := by cases args; simp_all
  obtain ⟨rfl, rfl⟩ := trodVars_none hV
  obtain ⟨o0, l0, c0, rfl, n0, _, e0⟩ := G.open_strs (hval 0 25 v0 rfl rfl) h0
  clear hA0
  obtain ⟨k, hk⟩ := G.PathLent_true
  refine (G.kilnlaw5_PathLent.calls k o0 c0 l0 true W e0 n0 hk).mono fun e W' ⟨he, hg⟩ => ?_
  subst he
  exact ⟨_, rfl, law_post laidOut Tryd.underlying4 (by kernel_rfl) (fun t ht => by rw [Tryd.params12] at ht; simp at ht; subst ht; exact ⟨by kernel_rfl, of_decide_eq_true (by kernel_rfl)⟩) rfl rfl hW' hg⟩

/-- A WORLD FOR THE WITNESS: the settled one, the tables (blocks 1 and 2) holding what their texts lay. -/
def lay1 : Obj → Obj
  | .cells _ t frozen => .cells (([128, 191, 160, 191, 128, 159, 144, 191, 128, 143] ++ List.replicate 22 0).map fun (x : Nat) => Value.int .u8 (x : Int)).toArray t frozen
  | o => o
def lay2 : Obj → Obj
  | .cells _ t frozen => .cells (Go.Pinned.utf8FirstZ.map fun (x : Nat) => Value.int .u8 (x : Int)).toArray t frozen
  | o => o
noncomputable def laidWorld (os : Os) : World :=
  { World.holding Tryd.prog os ⟨#[], #[], []⟩ with heap := ((World.holding Tryd.prog os ⟨#[], #[], []⟩).heap.modify 1 lay2).modify 2 lay1 }
theorem laid_met (os : Os) : laidMet Tryd.prog Rows.pathLentRow.laid ((laidWorld os).forCall (fun _ _ => 0) ⟨#[], #[Value.slice none 0 0], []⟩).memory :=
  laidMet_of_run' 8 (by kernel_rfl) (by kernel_rfl)
theorem reads (os : Os) {H : Type} (enc : TypeId × Value → H) : ∃ places, DataW.whole enc Tryd.prog ((laidWorld os).forCall (fun _ _ => 0) ⟨#[], #[Value.slice none 0 0], []⟩).memory Tryd.f12.params.toList Rows.pathLentSpec.vars false #[Value.slice none 0 0].toList 8 = some ([.nil], [], places) :=
  ⟨[], by kernel_rfl⟩

set_option maxRecDepth 100000 in
theorem lifted (os : Os) (started : os.Started) (H : Type) (enc : TypeId × Value → H) (F : Stop.Interp) :
    ReturnsInHanded {} Tryd.checked os 12 .any ((OpenSpec.ofChange Rows.pathLentSpec).preRow enc Tryd.prog Tryd.f12 Rows.pathLentRow.domain false Rows.pathLentRow.laid) (((OpenSpec.ofChange Rows.pathLentSpec).at F).post enc Tryd.prog Tryd.f12 false true false false) := by
  obtain ⟨places, hx⟩ := reads os enc
  refine returnsInHanded_of_row (C := Tryd.checked) (s := OpenSpec.ofChange Rows.pathLentSpec) own started (by kernel_rfl) Tryd.func12
    (witness_row_at (enc := enc) (C := Tryd.checked) false (laidWorld os) #[Value.slice none 0 0] rfl (by kernel_rfl) (by kernel_rfl) (by kernel_rfl)
      (OpenSpec.preRow_of_cond 8 hx (by kernel_rfl) (fun k hk => by cases hk) (by kernel_rfl) (laid_met os))) ?_
  intro W base args ds gs before hval hW _ _ _ hL _ _
  exact contract H enc W base args ds gs before hval hW

theorem said : Rows.PathLentSaid :=
  OpenClaim.holds_of_cond 12 Tryd.f12 rfl rfl rfl rfl rfl rfl rfl ⟨rfl, rfl, rfl, rfl, rfl⟩ rfl rfl rfl rfl rfl (by kernel_rfl) Tryd.func12 (by kernel_rfl)
    (of_decide_eq_true (by kernel_rfl)) (by unfold Func.isWrapper; first | (rw [if_pos (by decide +kernel)]; kernel_rfl) | (rw [if_neg (by decide +kernel)]; exact ⟨rfl, rfl⟩))
    (fun os started H enc _ F => by rw [OpenClaim.pre_eq_preRow]; exact lifted os started H enc F)

/-- No parameter wants a stand-in; the program's own looks are off: what the card asks. -/
theorem plain (f : FuncId) (fn : Func) (hf : Tryd.pinned.checked.prog.funcNamed "kiln/kilnlaw5.PathLent" = some f) (hfn : Tryd.pinned.checked.prog.funcs[f]? = some fn) :
    false = Tryd.pinned.checked.prog.looks [] ∧ ∀ (j : Nat) t, fn.params[j]? = some t → Tryd.pinned.checked.prog.wantsStandIn t = false := by
  obtain rfl : f = 12 := Option.some.inj ((show Tryd.prog.funcNamed "kiln/kilnlaw5.PathLent" = some 12 by kernel_rfl).symm.trans hf) |>.symm
  obtain rfl : fn = Tryd.f12 := (Option.some.inj (Tryd.func12.symm.trans hfn)).symm
  refine ⟨by kernel_rfl, fun j t ht => ?_⟩
  rw [Tryd.params12] at ht
  have hm := Array.mem_of_getElem? ht
  simp at hm
  subst hm
  exact (show Tryd.prog.wantsStandIn 25 = false by kernel_rfl)

theorem card : Rows.PathLentCardSaid :=
  Claim7.holds_tied_plain_at .later [] _ _ _ _ said (fun _ h => by cases h) (by kernel_rfl) (fun _ h => by cases h) pathLent_row_tie rfl ⟨rfl, rfl⟩ (by kernel_rfl) rfl plain (by kernel_rfl)
end Go.Proofs.YtlcnhhpleiamhaaDoor.pathLent
