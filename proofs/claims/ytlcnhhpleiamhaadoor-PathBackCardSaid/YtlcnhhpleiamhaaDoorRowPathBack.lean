/- What Text writes Parse reads as it was, and Text of what Parse reads is the text: law PathBack returns true. For all arguments that can be read; the library's tables unicode/utf8.acceptRanges and unicode/utf8.first are as their texts lay them. -/
import Derived.Test.YtlcnhhpleiamhaaDoorKit
import Derived.ProofKit
import Derived.OpenShut
import Derived.Carry
import Derived.Deep.Slices
import Derived.Test.YtlcnhhpleiamhaaDoorRows
import Derived.Test.YtlcnhhpleiamhaaDoorGx0
import Derived.Lib.SmallJoins
import Derived.WideShapes
import Derived.Test.YtlcnhhpleiamhaaDoorPl
import Derived.Test.YtlcnhhpleiamhaaDoorGx8
import Derived.Test.YtlcnhhpleiamhaaDoorGx9
import Derived.Test.YtlcnhhpleiamhaaDoorCards
import Derived.Test.YtlcnhhpleiamhaaDoorTie
import Derived.Deep.DeepHandedRow
import Derived.Lib.LaidTab
/- General words for a law's row: what the row asks behind the call, where nothing below the call's own blocks has turned; arguments that are slices of structs of whole numbers. -/
set_option linter.unusedVariables false
set_option linter.unusedSimpArgs false
namespace Go.Proofs.YtlcnhhpleiamhaaDoor
open Go.ChangeShapes Go.WideShapes Go.ChangeAt Go.RowKit

section
variable {H : Type} {enc : TypeId × Value → H} {P : Program}
theorem trodAll_stay (hl : laidOutB P = true) {W W' : World} {sp : Nat → Bool} : ∀ (ts : List TypeId) (vs : List Value) (ds : List (DataW H)) (ps : List MemPlace), (∀ t ∈ ts, P.readableRec t = true ∧ t < P.types.size) →
    DataW.TrodAll enc P W 0 (fun _ => true) true ts vs ds ps → (∀ p ∈ ps, W.sameAt W' p) → (∀ p ∈ ps, sp p.block = true) → DataW.TrodAll enc P W' 0 sp true ts vs ds ps
  | [], [], [], ps, _, h, _, _ => h
  | t :: ts, v :: vs, d :: ds, ps, hr, h, hs, hp => by
    obtain ⟨p, q, h1, h2, rfl⟩ := h
    refine ⟨p, q, ?_, trodAll_stay hl ts vs ds q (fun x hx => hr x (List.mem_cons_of_mem _ hx)) h2 (fun x hx => hs x (List.mem_append_right _ hx)) (fun x hx => hp x (List.mem_append_right _ hx)), rfl⟩
    exact WideElems.Trod_stays hl (hr t (by simp)).1 (hr t (by simp)).2 h1 (fun x hx => hs x (List.mem_append_left _ hx)) (fun x hx => hp x (List.mem_append_left _ hx))
  | [], _ :: _, _, _, _, h, _, _ => h.elim
  | [], [], _ :: _, _, _, h, _, _ => h.elim
  | _ :: _, [], _, _, _, h, _, _ => h.elim
  | _ :: _, _ :: _, [], _, _, h, _, _ => h.elim

/-- a law with no variable among what it is asked of: the arguments read as they read, the answer is true, the old blocks are as they were -/
theorem law_post (hl : laidOutB P = true) {f : Func} {s : ChangeSpec} {W W' : World} {args : Array Value} {ds : List (DataW H)} {before : List MemPlace} {T : TypeId} (hT : P.underlying T = some .bool) (hres : f.resultTypes = #[T])
    (hr : ∀ t ∈ f.params.toList, P.readableRec t = true ∧ t < P.types.size)
    (hspec : s.fn H (ds ++ []) = { results := [.lit (.bool true)], args := ds }) (hvars : s.vars = [])
    (hW : DataW.Whole enc P f.params.toList s.vars false W args.toList ds [] before)
    (hb : Below W.heap.size W W') : s.post enc P f false true false false W args (.bool true) W' := by
  have old : ∀ p ∈ before, p.block < W.heap.size := fun p hp => hW.lt p hp
  have inOld : ∀ p ∈ before, (fun b => decide (b < W.heap.size)) p.block = true := fun p hp => by simpa using old p hp
  have R : ∀ (b : Nat) (sp : Nat → Bool) (hd : Bool), DataW.TrodAll enc P W' b sp hd f.resultTypes.toList ((Value.bool true).resultList f.resultTypes.size) (s.fn H (ds ++ [])).results [] := by
    intro b sp hd
    rw [hspec, hres]
    exact trodAll_cons_mk (shut_bool hT true) trodAll_mk0
  have A : ∀ sp : Nat → Bool, (∀ p ∈ before, sp p.block = true) → DataW.TrodAll enc P W' 0 sp true f.params.toList args.toList (s.fn H (ds ++ [])).args before := by
    intro sp hsp
    rw [hspec]
    obtain ⟨p, q, h1, h2, h3, _, _⟩ := hW
    rw [hvars] at h2
    obtain rfl : q = [] := h2
    rw [List.append_nil] at h3
    subst h3
    exact trodAll_stay hl _ _ _ _ hr h1 (fun x hx => hb.same (old x hx)) hsp
  have V : ∀ sp : Nat → Bool, DataW.TrodVars enc P W' sp s.vars (s.fn H (ds ++ [])).vars [] := by
    intro sp
    rw [hspec, hvars]
    rfl
  refine ⟨ds, [], before, [], before, [], hW, R _ _ _, A _ inOld, V _, World.keptBut_mono (fun p hp => ⟨hp, .inr (by simpa using hp)⟩) (hb.frame (· ∈ before)), fun _ => ⟨fun j t r ht hr => ?_, ?_⟩⟩
  · rw [hres] at ht hr
    match j, ht, hr with
    | 0, ht, hr =>
      simp at ht
      simp [Value.resultList] at hr
      subst ht
      subst hr
      exact okWide_bool_mk hT true
  · obtain ⟨_, _, _, _, _, hz, hn⟩ := hW
    refine ⟨_, _, ([] ++ before) ++ [], ⟨[] ++ before, [], trodAll_append (A _ (fun _ _ => rfl)) (R _ _ _), V _, rfl, ?_, ?_⟩, ?_⟩
    · intro b off hp
      have hin : MemPlace.cell b off ∈ before := by simpa using hp
      exact (hb.frozen (p := ⟨b, off, none⟩) (old _ hin)).trans (hz b off hin)
    · intro ha
      simpa using hn ha
    · intro p hp _
      simpa using hp

/-- a struct of n whole numbers: its cells -/
theorem open_numbers {w : World} {base : Nat} {sp : Nat → Bool} {held : Bool} {e : TypeId} {fs : Array Field} {fuel : Nat} {cs : List Value} {x : DataW H × List MemPlace} (he : P.underlying e = some (.struct fs)) (hC : P.cellsOf e = fs.size)
    (hf : ∀ (j : Nat) (f : Field), fs[j]? = some f → f.offset = j ∧ P.underlying f.type = some (.int .i64) ∧ P.cellsOf f.type = 1) (h : DataW.trod enc P w base sp held fuel e cs = some x) : ∀ j, j < fs.size → ∃ z, cs[j]? = some (.int .i64 z) := by
  intro j hj
  obtain ⟨xs, n, _, _, hlen, hxl, hat⟩ := DataW.trod_struct he h
  obtain ⟨ho, hu, hc⟩ := hf j fs[j] (Array.getElem?_eq_getElem hj)
  have h1 := hat j fs[j] (Array.getElem?_eq_getElem hj)
  rw [ho, hc, List.getElem?_eq_getElem (show j < xs.length by omega)] at h1
  obtain ⟨z, hz, _⟩ := DataW.trod_int hu h1
  refine ⟨z, ?_⟩
  have h2 : ((cs.drop j).take 1)[0]? = some (.int .i64 z) := by rw [hz]; rfl
  simpa [List.getElem?_take, List.getElem?_drop] using h2
/-- a slice of such structs that came in -/
theorem open_numberRows {w : World} {t e : TypeId} {fs : Array Field} {v : Value} {d : DataW H} {ps : List MemPlace} {r : Reach} {b0 : Nat} (ht : P.underlying t = some (.slice e)) (he : P.underlying e = some (.struct fs)) (hC : P.cellsOf e = fs.size)
    (hf : ∀ (j : Nat) (f : Field), fs[j]? = some f → f.offset = j ∧ P.underlying f.type = some (.int .i64) ∧ P.cellsOf f.type = 1)
    (hv : Value.okWide P w r b0 t v) (h : DataW.Trod enc P w 0 (fun _ => true) true t v d ps) :
    (v = .slice none 0 0) ∨ ∃ (a : Addr) (len cap : Nat), v = .slice (some a) len cap ∧ len ≤ cap ∧ cap ≤ maxLen ∧ ∀ i j, i < len → j < fs.size → ∃ z, w.cell? (a.add (i * fs.size + j)) = some (.int .i64 z) := by
  obtain ⟨fuel, hx⟩ := h
  rcases Go.Deep.open_slice ht hx with ⟨h1, _⟩ | ⟨a, len, cap, m, n, D, Pl, h1, _, h2, h3, h4, _, h6⟩
  · left
    obtain ⟨a, n, c, rfl⟩ := okWide_slice ht hv
    simpa [Value.cells] using h1
  · right
    obtain ⟨a', n', c', rfl⟩ := okWide_slice ht hv
    simp [Value.cells] at h1
    obtain ⟨rfl, rfl, rfl⟩ := h1
    refine ⟨a, _, _, rfl, h2, h3, fun i j hi hj => ?_⟩
    simp at h4
    obtain ⟨cs', hc, hr⟩ := h6 i (by omega)
    rw [hC] at hc
    obtain ⟨z, hz⟩ := open_numbers he hC hf hr j hj
    obtain ⟨_, _, hat⟩ := World.cells?_some hc
    have := hat j hj
    rw [hz] at this
    exact ⟨z, by rw [← Go.Deep.add_add]; exact this⟩
end
end Go.Proofs.YtlcnhhpleiamhaaDoor

-- A slice of texts, and one of whole numbers, that comes in, opened.
namespace Go.Proofs.YtlcnhhpleiamhaaDoor.G
open Go.ChangeShapes Go.WideShapes Go.ChangeAt Go.RowKit Go.Proofs.YtlcnhhpleiamhaaDoorW.PrintWords Go.Proofs.YtlcnhhpleiamhaaDoorW.PrintLast Go.Proofs.YtlcnhhpleiamhaaDoorW.PrintMore
set_option linter.unusedVariables false
set_option linter.unusedSimpArgs false
section
variable {H : Type} {enc : TypeId × Value → H}
theorem scells9 : Tryd.prog.cellsOf 9 = 1 := by kernel_rfl
theorem scells3 : Tryd.prog.cellsOf 3 = 1 := by kernel_rfl
theorem open_strs {W : World} {base : Nat} {r : Reach} {v : Value} {d : DataW H} {p : List MemPlace} (hv : Value.okWide Tryd.prog W r base 25 v) (h : DataW.Trod enc Tryd.prog W 0 (fun _ => true) true 25 v d p) :
    ∃ (ao : Option Addr) (l : List ByteArray) (c : Nat), v = .slice ao l.length c ∧ l.length ≤ c ∧ c ≤ maxLen ∧ Kd.C Kd.string W ao l.length l := by
  obtain ⟨fuel, hx⟩ := h
  obtain ⟨a', n', c', rfl⟩ := okWide_slice Tryd.underlying25 hv
  rcases Go.Deep.open_slice Tryd.underlying25 hx with ⟨h1, _⟩ | ⟨a, len, cap, m, n, D, Pl, h1, _, h2, h3, h4, h5, h6⟩
  · simp [Value.cells] at h1
    obtain ⟨rfl, rfl, rfl⟩ := h1
    exact ⟨none, [], 0, rfl, Nat.le_refl _, Nat.zero_le _, ⟨rfl, Nat.zero_le _, fun h => absurd h (Nat.lt_irrefl _)⟩⟩
  · simp [Value.cells] at h1
    obtain ⟨rfl, rfl, rfl⟩ := h1
    simp only [if_true] at h4
    have hel : ∀ i, i < n' → ∃ t : ByteArray, W.cell? (a.add i) = some (.string t) := by
      intro i hi
      obtain ⟨cs', hc, hr⟩ := h6 i (by omega)
      rw [scells9] at hc
      obtain ⟨t, ht, _⟩ := DataW.trod_string Tryd.underlying9 hr
      subst ht
      obtain ⟨_, _, hat⟩ := World.cells?_some hc
      have := hat 0 (by decide)
      refine ⟨t, ?_⟩
      have e : a.add i = (a.add (i * 1)).add 0 := by rw [Go.Deep.add_add, Nat.mul_one, Nat.add_zero]
      rw [e]
      exact this
    have hpick : ∃ f : Nat → ByteArray, ∀ i, i < n' → W.cell? (a.add i) = some (.string (f i)) := by
      refine ⟨fun i => if hi : i < n' then Classical.choose (hel i hi) else ByteArray.empty, fun i hi => ?_⟩
      simp only [dif_pos hi]
      exact Classical.choose_spec (hel i hi)
    obtain ⟨f, hf⟩ := hpick
    have hlen : ((List.range n').map f).length = n' := by simp
    refine ⟨some a, (List.range n').map f, c', by rw [hlen], by rw [hlen]; exact h2, h3, ?_⟩
    rw [hlen]
    refine ⟨hlen, by unfold maxLen at h3; omega, fun _ => ⟨a, rfl, fun j t hj => ?_⟩⟩
    have hjl : j < n' := by
      have := (List.getElem?_eq_some_iff.1 hj).1
      rwa [hlen] at this
    have ht : t = f j := by
      rw [List.getElem?_map, List.getElem?_range hjl] at hj
      simpa using hj.symm
    refine ⟨_, rfl, rfl, fun i u hu => ?_⟩
    have hi : i < 1 := (List.getElem?_eq_some_iff.1 hu).1
    obtain rfl : i = 0 := by omega
    simp at hu
    subst hu
    show W.cell? (a.add (j * 1 + 0)) = _
    rw [show j * 1 + 0 = j by omega, ht]
    exact hf j hjl
end
end Go.Proofs.YtlcnhhpleiamhaaDoor.G

-- PathTexts: what the law's own function tells is true for every list of texts.
namespace Go.Proofs.YtlcnhhpleiamhaaDoor.G
open Go.RowKit Go.Proofs.YtlcnhhpleiamhaaDoorW.PrintWords Go.Proofs.YtlcnhhpleiamhaaDoorW.PrintLast Go.Proofs.YtlcnhhpleiamhaaDoorW.PrintMore
set_option linter.unusedVariables false
set_option linter.unusedSimpArgs false
def cutN (L : List By) : List By := (L.take 40).map (·.take 2000)
theorem cutN_len (L : List By) : (cutN L).length ≤ 40 := by unfold cutN; rw [List.length_map, List.length_take]; omega
theorem map_mk (l : List ByteArray) : l = (l.map bs).map mk := by
  rw [List.map_map]
  exact ((List.map_congr_left (fun x _ => rfl)).trans (List.map_id l)).symm
theorem cutNames_ev (L : List By) (hL : L.length ≤ 9223372036854775807) : ∀ (n i : Nat) (out : List ByteArray), n = min L.length 40 - i → i ≤ L.length → i ≤ 40 → out.length = i →
    Ev (fun k => kilnlaw5_cutNames.l0 k (L.map mk) out (i : Int)) (out ++ (((L.take 40).drop i).map (·.take 2000)).map mk) := by
  intro n
  induction n with
  | zero =>
    intro i out hn hi h40 ho
    have hd : (L.take 40).drop i = [] := List.drop_eq_nil_of_le (by rw [List.length_take]; omega)
    rw [hd, List.map_nil, List.map_nil, List.append_nil]
    refine Ev.step (f := fun _ => some out) (fun k => ?_) (Ev.now _)
    rw [kilnlaw5_cutNames.l0]
    by_cases h : (i : Int) < ((L.map mk).length : Int)
    · rw [if_pos h, if_neg (by rw [List.length_map] at h; omega)]
    · rw [if_neg h]
  | succ n ih =>
    intro i out hn hi h40 ho
    have hlt : i < L.length := by omega
    have hlt2 : i < (L.take 40).length := by rw [List.length_take]; omega
    have hd : (L.take 40).drop i = L[i] :: (L.take 40).drop (i + 1) := by
      rw [List.drop_eq_getElem_cons hlt2, List.getElem_take]
    have hr : rdOf ByteArray.empty (L.map mk) (i : Int) = mk L[i] := by
      unfold rdOf
      rw [Int.toNat_natCast, List.getD_eq_getElem?_getD, List.getElem?_map, List.getElem?_eq_getElem hlt]; rfl
    have := ih (i + 1) (out ++ [mk (L[i].take 2000)]) (by omega) (by omega) (by omega) (by rw [List.length_append, ho]; rfl)
    rw [hd, List.map_cons, List.map_cons, ← List.singleton_append, ← List.append_assoc]
    have hw : wrap64 ((i : Int) + 1) = ((i + 1 : Nat) : Int) := w_add i 1 (by omega)
    refine Ev.step (fun k => ?_) this
    rw [kilnlaw5_cutNames.l0, if_pos (by rw [List.length_map]; omega), if_pos (by omega), if_pos (Int.natCast_nonneg _), hr, cut_is, bs_mk, Option.bind_some, if_pos (by omega), hw]
theorem CutNames_ev (L : List By) (hL : L.length ≤ 9223372036854775807) : Ev (fun k => kilnlaw5_cutNames.f k (L.map mk)) ((cutN L).map mk) := by
  have := cutNames_ev L hL _ 0 [] rfl (by omega) (by omega) rfl
  rw [List.nil_append, List.drop_zero] at this
  exact this
theorem pathtexts_ev (L : List By) (hL : L.length ≤ 1000) : ∀ (X : List By) (i : Nat), L.drop i = X → i ≤ L.length → Ev (fun k => kilnlaw5_PathTexts.l0 k (L.map mk) (i : Int)) true := by
  intro X
  induction X with
  | nil =>
    intro i hX hi
    have hl := (drop_len L i hi).1 hX
    let f : Nat → Option Bool := fun k => (kilnlaw5_Told.f k).bind fun t168 => (if t168 = true then ((kilnlaw5_texts.f k (L.map mk)).bind fun t169 => (some t169)) else (some false))
    refine Ev.step (f := f) (fun k => ?_) ?_
    · rw [kilnlaw5_PathTexts.l0, if_neg (by rw [List.length_map]; omega)]
    refine Ev.bind Told_ev ?_
    refine Ev.congr (fun k => if_pos rfl) ?_
    exact Ev.bind (f := fun _ t => some t) (texts_ev L (by omega)) (Ev.now _)
  | cons p X ih =>
    intro i hX hi
    obtain ⟨hr, hlt, hX2⟩ := rd_at L i p X hX
    have hw : wrap64 ((i : Int) + 1) = ((i + 1 : Nat) : Int) := w_add i 1 (by omega)
    let f : Nat → Option Bool := fun k => (path_Name.f k (mk p)).bind fun t171 => ((kilnref5_Name.f k (mk p)).bind fun t173 => (if (t171 != t173) = true then (some false) else (kilnlaw5_PathTexts.l0 k (L.map mk) ((i + 1 : Nat) : Int))))
    refine Ev.step (f := f) (fun k => ?_) ?_
    · rw [kilnlaw5_PathTexts.l0, if_pos (by rw [List.length_map]; omega), if_pos (Int.natCast_nonneg _), hr, hw]
    refine Ev.bind (Name_ev _) ?_
    refine Ev.bind (NameR_ev _) ?_
    exact Ev.congr (fun k => if_neg (by rw [bne_self_eq_false]; decide)) (ih (i + 1) hX2 (by omega))
theorem PathTexts_true (l : List ByteArray) (hl : l.length ≤ 9223372036854775807) : ∃ k, kilnlaw5_PathTexts.f k l = some true := by
  refine Ev.rounds ?_
  rw [map_mk l]
  have hL : (l.map bs).length ≤ 9223372036854775807 := by rw [List.length_map]; exact hl
  generalize l.map bs = L at *
  unfold kilnlaw5_PathTexts.f
  refine Ev.bind (CutNames_ev L hL) ?_
  exact pathtexts_ev (cutN L) (by have := cutN_len L; omega) _ 0 rfl (by omega)
end Go.Proofs.YtlcnhhpleiamhaaDoor.G

-- PathBack: what the law's own function tells is true for every list of texts and every text.
namespace Go.Proofs.YtlcnhhpleiamhaaDoor.G
open Go.RowKit Go.Proofs.YtlcnhhpleiamhaaDoorW.PrintWords Go.Proofs.YtlcnhhpleiamhaaDoorW.PrintLast Go.Proofs.YtlcnhhpleiamhaaDoorW.PrintMore
set_option linter.unusedVariables false
set_option linter.unusedSimpArgs false
theorem firstBad_none : ∀ (p : By) (i : Nat), i ≤ 64 → (firstBad p i = none ↔ (p.all letB = true ∧ i + p.length ≤ 64)) := by
  intro p
  induction p with
  | nil => intro i hi; simp [firstBad]; omega
  | cons c p ih =>
    intro i hi
    rw [firstBad, List.all_cons, List.length_cons]
    by_cases hc : letB c = true
    · by_cases h64 : i = 64
      · rw [if_pos hc, if_pos h64]
        constructor
        · intro h; cases h
        · rintro ⟨_, h⟩; omega
      · rw [if_pos hc, if_neg h64, ih (i + 1) (by omega), hc, Bool.true_and]
        constructor
        · rintro ⟨a, b⟩; exact ⟨a, by omega⟩
        · rintro ⟨a, b⟩; exact ⟨a, by omega⟩
    · rw [if_neg hc, Bool.eq_false_iff.2 hc, Bool.false_and]
      constructor
      · intro h; cases h
      · rintro ⟨h, _⟩; cases h
theorem name_iff (p : By) : nameB p = true ↔ (wrongB p = none ∧ p ≠ []) := by
  have hf := firstBad_none p 0 (by decide)
  rw [Nat.zero_add] at hf
  unfold nameB wrongB dotP
  constructor
  · intro h
    simp only [Bool.and_eq_true, decide_eq_true_eq, bne_iff_ne] at h
    obtain ⟨⟨⟨⟨h1, h2⟩, h3⟩, h4⟩, h5⟩ := h
    refine ⟨?_, fun e => by rw [e] at h1; simp at h1⟩
    rw [beq_false_of_ne h3, beq_false_of_ne h4, if_neg (by decide)]
    exact hf.2 ⟨h5, h2⟩
  · rintro ⟨h1, h2⟩
    have hl := List.length_pos_iff.2 h2
    by_cases h3 : p = [46]
    · rw [h3] at h1; cases h1
    by_cases h4 : p = [46, 46]
    · rw [h4] at h1; cases h1
    rw [beq_false_of_ne h3, beq_false_of_ne h4, if_neg (by decide)] at h1
    obtain ⟨h5, h6⟩ := hf.1 h1
    rw [decide_eq_true (show 1 ≤ p.length by omega), decide_eq_true h6, bne_iff_ne.2 h3, bne_iff_ne.2 h4, h5]; rfl
theorem badG_none : ∀ (L : List By) (a j : Nat), L ≠ [] → j ≤ 15 → (badG a j L = none ↔ (L.all nameB = true ∧ j + L.length ≤ 16)) := by
  intro L
  induction L with
  | nil => intro _ _ h; exact absurd rfl h
  | cons p ps ih =>
    intro a j _ hj
    have hn := name_iff p
    rw [badG, List.all_cons, List.length_cons]
    cases hw : wrongB p with
    | some w =>
      constructor
      · intro h; cases h
      · rintro ⟨h, _⟩
        rw [Bool.and_eq_true] at h
        have := (hn.1 h.1).1
        rw [hw] at this; cases this
    | none =>
      simp only
      by_cases hp : p = []
      · rw [if_pos (.inl hp)]
        constructor
        · intro h; cases h
        · rintro ⟨h, _⟩
          rw [Bool.and_eq_true] at h
          exact absurd hp (hn.1 h.1).2
      · have hnp : nameB p = true := hn.2 ⟨hw, hp⟩
        rw [hnp, Bool.true_and]
        by_cases hq : ps = []
        · subst hq
          rw [if_neg (by simp [hp])]
          constructor
          · intro _; exact ⟨rfl, by simp; omega⟩
          · intro _; rfl
        · have hql := List.length_pos_iff.2 hq
          by_cases h15 : j = 15
          · rw [if_pos (.inr ⟨h15, hq⟩)]
            constructor
            · intro h; cases h
            · rintro ⟨_, h⟩; omega
          · rw [if_neg (by simp [hp, h15]), ih _ (j + 1) hq (by omega)]
            constructor
            · rintro ⟨h1, h2⟩; exact ⟨h1, by omega⟩
            · rintro ⟨h1, h2⟩; exact ⟨h1, by omega⟩
theorem fault_none (s : By) : faultV s = -1 ↔ (((partsB s).all nameB = true ∧ (partsB s).length ≤ 16) ∧ s.length ≤ 255) := by
  have h := badG_none (partsB s) 0 0 (parts_ne s) (by decide)
  rw [Nat.zero_add] at h
  rw [← h]
  unfold faultV faultF
  cases hg : badG 0 0 (partsB s) with
  | none =>
    simp only
    constructor
    · intro h1
      refine ⟨trivial, ?_⟩
      rcases Nat.lt_or_ge 255 s.length with h2 | h2
      · rw [if_pos h2] at h1; exact absurd h1 (by decide)
      · exact h2
    · rintro ⟨_, h2⟩
      rw [if_neg (by omega)]
  | some g =>
    simp only
    constructor
    · intro h1
      split at h1 <;> omega
    · rintro ⟨h1, _⟩; cases h1
theorem back_ev (x : ByteArray) (hx : x.size ≤ 10000) : Ev (fun k => kilnlaw5_PathBack.j0 k x) true := by
  let f : Nat → Option Bool := fun k => (path_Parse.f k x).bind fun bt217 => (if bt217.2.1 = 0 then ((path_Text.f k bt217.1).bind fun bt222 => (if bt222.2 = 0 then (if bt222.1.toList = x.toList then (if (x.size : Int) ≤ 255 then (if (bt217.1.length : Int) ≥ 1 then (some (decide ((bt217.1.length : Int) ≤ 16))) else (some false)) else (some false)) else (some false)) else (some false))) else (some true))
  refine Ev.step (f := f) (fun k => ?_) ?_
  · rw [kilnlaw5_PathBack.j0]
  refine Ev.bind (Parse_ev x (by omega)) ?_
  by_cases hf : faultV (bs x) ≥ 0
  · have e : (if faultV (bs x) ≥ 0 then (([] : List ByteArray), (50 : Int), faultV (bs x)) else ((partsB (bs x)).map mk, 0, 0)) = ([], 50, faultV (bs x)) := if_pos hf
    rw [e]
    exact Ev.congr (f := fun _ => some true) (fun k => if_neg (show ¬ (50 : Int) = 0 by decide)) (Ev.now _)
  · have e : (if faultV (bs x) ≥ 0 then (([] : List ByteArray), (50 : Int), faultV (bs x)) else ((partsB (bs x)).map mk, 0, 0)) = ((partsB (bs x)).map mk, 0, 0) := if_neg hf
    rw [e]
    have hb := faultV_bd (bs x)
    obtain ⟨⟨h1, h2⟩, h3⟩ := (fault_none (bs x)).1 (by omega)
    have hne := parts_ne (bs x)
    have hl := List.length_pos_iff.2 hne
    have ht : textV (partsB (bs x)) = (mk (bs x), 0) := by
      unfold textV
      rw [if_neg (by simp [hne]; omega), if_pos h1, join_parts, if_neg (by omega)]
    refine Ev.congr (fun k => if_pos rfl) ?_
    refine Ev.bind (Text_ev (partsB (bs x)) (by omega)) ?_
    rw [ht]
    refine Ev.congr (fun k => if_pos rfl) ?_
    refine Ev.congr (fun k => if_pos rfl) ?_
    refine Ev.congr (fun k => if_pos (by rw [bs_length] at h3; omega)) ?_
    refine Ev.congr (fun k => if_pos (by show (((partsB (bs x)).map mk).length : Int) ≥ 1; rw [List.length_map]; omega)) ?_
    exact Ev.congr (f := fun _ => some true) (fun k => by show some (decide ((((partsB (bs x)).map mk).length : Int) ≤ 16)) = _; rw [decide_eq_true (by rw [List.length_map]; omega)]) (Ev.now _)
theorem PathBack_true (l : List ByteArray) (hl : l.length ≤ 9223372036854775807) (a1 : ByteArray) : ∃ k, kilnlaw5_PathBack.f k l a1 = some true := by
  refine Ev.rounds ?_
  rw [map_mk l]
  have hL : (l.map bs).length ≤ 9223372036854775807 := by rw [List.length_map]; exact hl
  generalize l.map bs = L0 at *
  unfold kilnlaw5_PathBack.f
  refine Ev.bind (CutNames_ev L0 hL) ?_
  have h40 := cutN_len L0
  generalize cutN L0 = L at *
  rw [cut_is]
  have hx := cut_le a1
  generalize mk ((bs a1).take 2000) = x at *
  refine Ev.bind (Ev.now x) ?_
  refine Ev.bind Told_ev ?_
  refine Ev.congr (fun k => if_pos rfl) ?_
  refine Ev.bind (Text_ev L (by omega)) ?_
  by_cases h0 : L = [] ∨ 16 < L.length
  · have ht : textV L = badT := by unfold textV; rw [if_pos h0]
    rw [ht]
    exact Ev.congr (fun k => if_neg (show ¬ (50 : Int) = 0 by decide)) (back_ev x (by omega))
  by_cases h1 : L.all nameB = true
  case neg =>
    have ht : textV L = badT := by unfold textV; rw [if_neg h0, if_neg h1]
    rw [ht]
    exact Ev.congr (fun k => if_neg (show ¬ (50 : Int) = 0 by decide)) (back_ev x (by omega))
  by_cases h2 : 255 < (joinP L).length
  · have ht : textV L = badT := by unfold textV; rw [if_neg h0, if_pos h1, if_pos h2]
    rw [ht]
    exact Ev.congr (fun k => if_neg (show ¬ (50 : Int) = 0 by decide)) (back_ev x (by omega))
  have ht : textV L = (mk (joinP L), 0) := by unfold textV; rw [if_neg h0, if_pos h1, if_neg h2]
  rw [ht]
  have hne : L ≠ [] := fun h => h0 (.inl h)
  have hlen : L.length ≤ 16 := by rcases Nat.lt_or_ge 16 L.length with h | h; exact absurd (.inr h) h0; exact h
  have hpj : partsB (joinP L) = L := parts_join L hne (fun p hp => name_slash (List.all_eq_true.1 h1 p hp))
  have hf : faultV (joinP L) = -1 := (fault_none _).2 ⟨⟨by rw [hpj]; exact h1, by rw [hpj]; exact hlen⟩, by omega⟩
  refine Ev.congr (fun k => if_pos rfl) ?_
  refine Ev.bind (Parse_ev (mk (joinP L)) (by rw [mk_size]; omega)) ?_
  rw [bs_mk, hpj]
  have e : (if faultV (joinP L) ≥ 0 then (([] : List ByteArray), (50 : Int), faultV (joinP L)) else (L.map mk, 0, 0)) = (L.map mk, 0, 0) := if_neg (by omega)
  rw [e]
  refine Ev.congr (fun k => if_pos rfl) ?_
  refine Ev.congr (fun k => if_pos rfl) ?_
  refine Ev.bind (same_ev (L.map mk) (by rw [List.length_map]; omega)) ?_
  exact Ev.congr (fun k => if_pos rfl) (back_ev x (by omega))
end Go.Proofs.YtlcnhhpleiamhaaDoor.G

/- What Text writes Parse reads as it was, and Text of what Parse reads is the text: law PathBack returns true. For all arguments that can be read; the library's tables unicode/utf8.acceptRanges and unicode/utf8.first are as their texts lay them. -/
set_option linter.unusedVariables false
set_option linter.unusedSimpArgs false
namespace Go.Proofs.YtlcnhhpleiamhaaDoor.pathBack
open Go.ChangeShapes Go.WideShapes Go.ChangeAt Go.RowKit

theorem own : ownKnob Tryd.prog.godebug = none := by kernel_rfl
theorem laidOut : laidOutB Tryd.prog = true := by kernel_rfl

theorem contract (H : Type) (enc : TypeId × Value → H) (W : World) (base : Nat) (args : Array Value) (ds gs : List (DataW H)) (before : List MemPlace)
    (hval : ∀ (j : Nat) t v, Tryd.f6.params[j]? = some t → args[j]? = some v → Value.okWide Tryd.prog W .any base t v)
    (hW : DataW.Whole enc Tryd.prog Tryd.f6.params.toList Rows.pathBackSpec.vars false W args.toList ds gs before) :
    Calls Tryd.prog 6 args W fun e W' => ∃ v, e = .returned v ∧ Rows.pathBackSpec.post enc Tryd.prog Tryd.f6 false true false false W args v W' := by
  have hW' := hW
  obtain ⟨p, q, hA0, hV, rfl, hfz, hnd⟩ := hW
  have hA : DataW.TrodAll enc Tryd.prog W 0 (fun _ => true) true Tryd.f6.params.toList args.toList ds p := hA0
  rw [Tryd.params6] at hA hval
  obtain ⟨v0, vs0, d0, ds0, p0, q0, hargs, rfl, rfl, h0, r0⟩ := trodAll_cons hA
  obtain ⟨v1, vs1, d1, ds1, p1, q1, rfl, rfl, rfl, h1, r1⟩ := trodAll_cons r0
  obtain ⟨rfl, rfl, rfl⟩ := trodAll_nil r1
  obtain rfl : args = #[v0, v1] := by cases args; simp_all
  obtain ⟨rfl, rfl⟩ := trodVars_none hV
  obtain ⟨o0, l0, c0, rfl, n0, _, e0⟩ := G.open_strs (hval 0 25 v0 rfl rfl) h0
  obtain ⟨a1, rfl, rfl, rfl, _⟩ := Go.ChangeMaps.open_string Tryd.underlying9 (hval 1 9 v1 rfl rfl) h1
  clear hA0
  obtain ⟨k, hk⟩ := G.PathBack_true l0 e0.2.1 a1
  refine (G.kilnlaw5_PathBack.calls k o0 c0 l0 a1 true W e0 n0 hk).mono fun e W' ⟨he, hg⟩ => ?_
  subst he
  exact ⟨_, rfl, law_post laidOut Tryd.underlying4 (by kernel_rfl) (fun t ht => by rw [Tryd.params6] at ht; simp at ht; rcases ht with rfl | rfl <;> exact ⟨by kernel_rfl, of_decide_eq_true (by kernel_rfl)⟩) rfl rfl hW' hg⟩

/-- A WORLD FOR THE WITNESS: the settled one, the tables (blocks 1 and 2) holding what their texts lay. -/
def lay1 : Obj → Obj
  | .cells _ t frozen => .cells (([128, 191, 160, 191, 128, 159, 144, 191, 128, 143] ++ List.replicate 22 0).map fun (x : Nat) => Value.int .u8 (x : Int)).toArray t frozen
  | o => o
def lay2 : Obj → Obj
  | .cells _ t frozen => .cells (Go.Pinned.utf8FirstZ.map fun (x : Nat) => Value.int .u8 (x : Int)).toArray t frozen
  | o => o
noncomputable def laidWorld (os : Os) : World :=
  { World.holding Tryd.prog os ⟨#[], #[], []⟩ with heap := ((World.holding Tryd.prog os ⟨#[], #[], []⟩).heap.modify 1 lay2).modify 2 lay1 }
theorem laid_met (os : Os) : laidMet Tryd.prog Rows.pathBackRow.laid ((laidWorld os).forCall (fun _ _ => 0) ⟨#[], #[Value.slice none 0 0, Value.string .empty], []⟩).memory :=
  laidMet_of_run' 8 (by kernel_rfl) (by kernel_rfl)
theorem reads (os : Os) {H : Type} (enc : TypeId × Value → H) : ∃ places, DataW.whole enc Tryd.prog ((laidWorld os).forCall (fun _ _ => 0) ⟨#[], #[Value.slice none 0 0, Value.string .empty], []⟩).memory Tryd.f6.params.toList Rows.pathBackSpec.vars false #[Value.slice none 0 0, Value.string .empty].toList 8 = some ([.nil, .lit (.string [])], [], places) :=
  ⟨[], by kernel_rfl⟩

set_option maxRecDepth 100000 in
theorem lifted (os : Os) (started : os.Started) (H : Type) (enc : TypeId × Value → H) (F : Stop.Interp) :
    ReturnsInHanded {} Tryd.checked os 6 .any ((OpenSpec.ofChange Rows.pathBackSpec).preRow enc Tryd.prog Tryd.f6 Rows.pathBackRow.domain false Rows.pathBackRow.laid) (((OpenSpec.ofChange Rows.pathBackSpec).at F).post enc Tryd.prog Tryd.f6 false true false false) := by
  obtain ⟨places, hx⟩ := reads os enc
  refine returnsInHanded_of_row (C := Tryd.checked) (s := OpenSpec.ofChange Rows.pathBackSpec) own started (by kernel_rfl) Tryd.func6
    (witness_row_at (enc := enc) (C := Tryd.checked) false (laidWorld os) #[Value.slice none 0 0, Value.string .empty] rfl (by kernel_rfl) (by kernel_rfl) (by kernel_rfl)
      (OpenSpec.preRow_of_cond 8 hx (by kernel_rfl) (fun k hk => by cases hk) (by kernel_rfl) (laid_met os))) ?_
  intro W base args ds gs before hval hW _ _ _ hL _ _
  exact contract H enc W base args ds gs before hval hW

theorem said : Rows.PathBackSaid :=
  OpenClaim.holds_of_cond 6 Tryd.f6 rfl rfl rfl rfl rfl rfl rfl ⟨rfl, rfl, rfl, rfl, rfl⟩ rfl rfl rfl rfl rfl (by kernel_rfl) Tryd.func6 (by kernel_rfl)
    (of_decide_eq_true (by kernel_rfl)) (by unfold Func.isWrapper; first | (rw [if_pos (by decide +kernel)]; kernel_rfl) | (rw [if_neg (by decide +kernel)]; exact ⟨rfl, rfl⟩))
    (fun os started H enc _ F => by rw [OpenClaim.pre_eq_preRow]; exact lifted os started H enc F)

/-- No parameter wants a stand-in; the program's own looks are off: what the card asks. -/
theorem plain (f : FuncId) (fn : Func) (hf : Tryd.pinned.checked.prog.funcNamed "kiln/kilnlaw5.PathBack" = some f) (hfn : Tryd.pinned.checked.prog.funcs[f]? = some fn) :
    false = Tryd.pinned.checked.prog.looks [] ∧ ∀ (j : Nat) t, fn.params[j]? = some t → Tryd.pinned.checked.prog.wantsStandIn t = false := by
  obtain rfl : f = 6 := Option.some.inj ((show Tryd.prog.funcNamed "kiln/kilnlaw5.PathBack" = some 6 by kernel_rfl).symm.trans hf) |>.symm
  obtain rfl : fn = Tryd.f6 := (Option.some.inj (Tryd.func6.symm.trans hfn)).symm
  refine ⟨by kernel_rfl, fun j t ht => ?_⟩
  rw [Tryd.params6] at ht
  have hm := Array.mem_of_getElem? ht
  simp at hm
  rcases hm with rfl | rfl
  · exact (show Tryd.prog.wantsStandIn 25 = false by kernel_rfl)
  · exact (show Tryd.prog.wantsStandIn 9 = false by kernel_rfl)

theorem card : Rows.PathBackCardSaid :=
  Claim7.holds_tied_plain_at .later [] _ _ _ _ said (fun _ h => by cases h) (by kernel_rfl) (fun _ h => by cases h) pathBack_row_tie rfl ⟨rfl, rfl⟩ (by kernel_rfl) rfl plain (by kernel_rfl)
end Go.Proofs.YtlcnhhpleiamhaaDoor.pathBack
