/- The place that Parse tells is the first one, and a path that is cut off behind a name is a path: law PathPlace returns true. For all arguments that can be read; the library's tables unicode/utf8.acceptRanges and unicode/utf8.first are as their texts lay them. -/
import Derived.Test.YtlcnhhpleiamhaaDoorKit
import Derived.ProofKit
import Derived.OpenShut
import Derived.Carry
import Derived.Deep.Slices
import Derived.Test.YtlcnhhpleiamhaaDoorPl
import Derived.Test.YtlcnhhpleiamhaaDoorGx10
import Derived.Test.YtlcnhhpleiamhaaDoorCards
import Derived.Test.YtlcnhhpleiamhaaDoorTie
import Derived.Deep.DeepHandedRow
import Derived.Lib.LaidTab
/- General words for a law's row: what the row asks behind the call, where nothing below the call's own blocks has turned; arguments that are slices of structs of whole numbers. -/
set_option linter.unusedVariables false
set_option linter.unusedSimpArgs false
namespace Go.Proofs.YtlcnhhpleiamhaaDoor
open Go.ChangeShapes Go.WideShapes Go.ChangeAt Go.RowKit

section
variable {H : Type} {enc : TypeId × Value → H} {P : Program}
theorem trodAll_stay (hl : laidOutB P = true) {W W' : World} {sp : Nat → Bool} : ∀ (ts : List TypeId) (vs : List Value) (ds : List (DataW H)) (ps : List MemPlace), (∀ t ∈ ts, P.readableRec t = true ∧ t < P.types.size) →
    DataW.TrodAll enc P W 0 (fun _ => true) true ts vs ds ps → (∀ p ∈ ps, W.sameAt W' p) → (∀ p ∈ ps, sp p.block = true) → DataW.TrodAll enc P W' 0 sp true ts vs ds ps
  | [], [], [], ps, _, h, _, _ => h
  | t :: ts, v :: vs, d :: ds, ps, hr, h, hs, hp => by
    obtain ⟨p, q, h1, h2, rfl⟩ := h
    refine ⟨p, q, ?_, trodAll_stay hl ts vs ds q (fun x hx => hr x (List.mem_cons_of_mem _ hx)) h2 (fun x hx => hs x (List.mem_append_right _ hx)) (fun x hx => hp x (List.mem_append_right _ hx)), rfl⟩
    exact WideElems.Trod_stays hl (hr t (by simp)).1 (hr t (by simp)).2 h1 (fun x hx => hs x (List.mem_append_left _ hx)) (fun x hx => hp x (List.mem_append_left _ hx))
  | [], _ :: _, _, _, _, h, _, _ => h.elim
  | [], [], _ :: _, _, _, h, _, _ => h.elim
  | _ :: _, [], _, _, _, h, _, _ => h.elim
  | _ :: _, _ :: _, [], _, _, h, _, _ => h.elim

/-- a law with no variable among what it is asked of: the arguments read as they read, the answer is true, the old blocks are as they were -/
theorem law_post (hl : laidOutB P = true) {f : Func} {s : ChangeSpec} {W W' : World} {args : Array Value} {ds : List (DataW H)} {before : List MemPlace} {T : TypeId} (hT : P.underlying T = some .bool) (hres : f.resultTypes = #[T])
    (hr : ∀ t ∈ f.params.toList, P.readableRec t = true ∧ t < P.types.size)
    (hspec : s.fn H (ds ++ []) = { results := [.lit (.bool true)], args := ds }) (hvars : s.vars = [])
    (hW : DataW.Whole enc P f.params.toList s.vars false W args.toList ds [] before)
    (hb : Below W.heap.size W W') : s.post enc P f false true false false W args (.bool true) W' := by
  have old : ∀ p ∈ before, p.block < W.heap.size := fun p hp => hW.lt p hp
  have inOld : ∀ p ∈ before, (fun b => decide (b < W.heap.size)) p.block = true := fun p hp => by simpa using old p hp
  have R : ∀ (b : Nat) (sp : Nat → Bool) (hd : Bool), DataW.TrodAll enc P W' b sp hd f.resultTypes.toList ((Value.bool true).resultList f.resultTypes.size) (s.fn H (ds ++ [])).results [] := by
    intro b sp hd
    rw [hspec, hres]
    exact trodAll_cons_mk (shut_bool hT true) trodAll_mk0
  have A : ∀ sp : Nat → Bool, (∀ p ∈ before, sp p.block = true) → DataW.TrodAll enc P W' 0 sp true f.params.toList args.toList (s.fn H (ds ++ [])).args before := by
    intro sp hsp
    rw [hspec]
    obtain ⟨p, q, h1, h2, h3, _, _⟩ := hW
    rw [hvars] at h2
    obtain rfl : q = [] := h2
    rw [List.append_nil] at h3
    subst h3
    exact trodAll_stay hl _ _ _ _ hr h1 (fun x hx => hb.same (old x hx)) hsp
  have V : ∀ sp : Nat → Bool, DataW.TrodVars enc P W' sp s.vars (s.fn H (ds ++ [])).vars [] := by
    intro sp
    rw [hspec, hvars]
    rfl
  refine ⟨ds, [], before, [], before, [], hW, R _ _ _, A _ inOld, V _, World.keptBut_mono (fun p hp => ⟨hp, .inr (by simpa using hp)⟩) (hb.frame (· ∈ before)), fun _ => ⟨fun j t r ht hr => ?_, ?_⟩⟩
  · rw [hres] at ht hr
    match j, ht, hr with
    | 0, ht, hr =>
      simp at ht
      simp [Value.resultList] at hr
      subst ht
      subst hr
      exact okWide_bool_mk hT true
  · obtain ⟨_, _, _, _, _, hz, hn⟩ := hW
    refine ⟨_, _, ([] ++ before) ++ [], ⟨[] ++ before, [], trodAll_append (A _ (fun _ _ => rfl)) (R _ _ _), V _, rfl, ?_, ?_⟩, ?_⟩
    · intro b off hp
      have hin : MemPlace.cell b off ∈ before := by simpa using hp
      exact (hb.frozen (p := ⟨b, off, none⟩) (old _ hin)).trans (hz b off hin)
    · intro ha
      simpa using hn ha
    · intro p hp _
      simpa using hp

/-- a struct of n whole numbers: its cells -/
theorem open_numbers {w : World} {base : Nat} {sp : Nat → Bool} {held : Bool} {e : TypeId} {fs : Array Field} {fuel : Nat} {cs : List Value} {x : DataW H × List MemPlace} (he : P.underlying e = some (.struct fs)) (hC : P.cellsOf e = fs.size)
    (hf : ∀ (j : Nat) (f : Field), fs[j]? = some f → f.offset = j ∧ P.underlying f.type = some (.int .i64) ∧ P.cellsOf f.type = 1) (h : DataW.trod enc P w base sp held fuel e cs = some x) : ∀ j, j < fs.size → ∃ z, cs[j]? = some (.int .i64 z) := by
  intro j hj
  obtain ⟨xs, n, _, _, hlen, hxl, hat⟩ := DataW.trod_struct he h
  obtain ⟨ho, hu, hc⟩ := hf j fs[j] (Array.getElem?_eq_getElem hj)
  have h1 := hat j fs[j] (Array.getElem?_eq_getElem hj)
  rw [ho, hc, List.getElem?_eq_getElem (show j < xs.length by omega)] at h1
  obtain ⟨z, hz, _⟩ := DataW.trod_int hu h1
  refine ⟨z, ?_⟩
  have h2 : ((cs.drop j).take 1)[0]? = some (.int .i64 z) := by rw [hz]; rfl
  simpa [List.getElem?_take, List.getElem?_drop] using h2
/-- a slice of such structs that came in -/
theorem open_numberRows {w : World} {t e : TypeId} {fs : Array Field} {v : Value} {d : DataW H} {ps : List MemPlace} {r : Reach} {b0 : Nat} (ht : P.underlying t = some (.slice e)) (he : P.underlying e = some (.struct fs)) (hC : P.cellsOf e = fs.size)
    (hf : ∀ (j : Nat) (f : Field), fs[j]? = some f → f.offset = j ∧ P.underlying f.type = some (.int .i64) ∧ P.cellsOf f.type = 1)
    (hv : Value.okWide P w r b0 t v) (h : DataW.Trod enc P w 0 (fun _ => true) true t v d ps) :
    (v = .slice none 0 0) ∨ ∃ (a : Addr) (len cap : Nat), v = .slice (some a) len cap ∧ len ≤ cap ∧ cap ≤ maxLen ∧ ∀ i j, i < len → j < fs.size → ∃ z, w.cell? (a.add (i * fs.size + j)) = some (.int .i64 z) := by
  obtain ⟨fuel, hx⟩ := h
  rcases Go.Deep.open_slice ht hx with ⟨h1, _⟩ | ⟨a, len, cap, m, n, D, Pl, h1, _, h2, h3, h4, _, h6⟩
  · left
    obtain ⟨a, n, c, rfl⟩ := okWide_slice ht hv
    simpa [Value.cells] using h1
  · right
    obtain ⟨a', n', c', rfl⟩ := okWide_slice ht hv
    simp [Value.cells] at h1
    obtain ⟨rfl, rfl, rfl⟩ := h1
    refine ⟨a, _, _, rfl, h2, h3, fun i j hi hj => ?_⟩
    simp at h4
    obtain ⟨cs', hc, hr⟩ := h6 i (by omega)
    rw [hC] at hc
    obtain ⟨z, hz⟩ := open_numbers he hC hf hr j hj
    obtain ⟨_, _, hat⟩ := World.cells?_some hc
    have := hat j hj
    rw [hz] at this
    exact ⟨z, by rw [← Go.Deep.add_add]; exact this⟩
end
end Go.Proofs.YtlcnhhpleiamhaaDoor

-- PathPlace: what the law's own function tells is true for every text and every number.
namespace Go.Proofs.YtlcnhhpleiamhaaDoor.G
open Go.RowKit Go.Proofs.YtlcnhhpleiamhaaDoorW.PrintWords Go.Proofs.YtlcnhhpleiamhaaDoorW.PrintLast Go.Proofs.YtlcnhhpleiamhaaDoorW.PrintMore
set_option linter.unusedVariables false
set_option linter.unusedSimpArgs false
def lastP : List By → By
  | [] => []
  | [p] => p
  | _ :: q :: ps => lastP (q :: ps)
theorem lastP_cons (p : By) (ps : List By) (h : ps ≠ []) : lastP (p :: ps) = lastP ps := by
  rcases ps with _ | ⟨q, ps⟩
  · exact absurd rfl h
  · rfl
theorem lastP_rd : ∀ (P : List By), P ≠ [] → rdOf ByteArray.empty (P.map mk) (((P.map mk).length : Int) - 1) = mk (lastP P) := by
  intro P
  induction P with
  | nil => intro h; exact absurd rfl h
  | cons p ps ih =>
    intro _
    by_cases hq : ps = []
    · subst hq; rfl
    · rw [lastP_cons p ps hq, ← ih hq]
      have hl := List.length_pos_iff.2 hq
      unfold rdOf
      rw [List.map_cons, List.length_cons, List.length_map]
      rw [show ((ps.length + 1 : Nat) : Int) - 1 = ((ps.length : Nat) : Int) by omega, Int.toNat_natCast]
      rw [show ((ps.length : Int) - 1).toNat = ps.length - 1 by omega]
      obtain ⟨m, hm⟩ : ∃ m, ps.length = m + 1 := ⟨ps.length - 1, by omega⟩
      rw [hm]; rfl
theorem firstBad_take : ∀ (p : By) (i m : Nat), (∀ g, firstBad p i = some g → i + m ≤ g) → firstBad (p.take m) i = none := by
  intro p
  induction p with
  | nil => intro i m _; rw [List.take_nil]; rfl
  | cons c p ih =>
    intro i m h
    cases m with
    | zero => rfl
    | succ m =>
      rw [List.take_succ_cons, firstBad]
      by_cases hc : letB c = true
      · by_cases h64 : i = 64
        · have := h i (by rw [firstBad, if_pos hc, if_pos h64]); omega
        · rw [if_pos hc, if_neg h64]
          refine ih (i + 1) m (fun g hg => ?_)
          have := h g (by rw [firstBad, if_pos hc, if_neg h64]; exact hg)
          omega
      · have := h i (by rw [firstBad, if_neg hc]); omega
theorem dotP_head (p : By) (h : dotP p = true) : ∃ r, p = 46 :: r := by
  unfold dotP at h
  simp only [Bool.or_eq_true, beq_iff_eq] at h
  rcases h with rfl | rfl
  · exact ⟨[], rfl⟩
  · exact ⟨[46], rfl⟩
/-- the parts of what stands ahead of a place at which, and ahead of which, nothing was wrong -/
theorem pre_bad : ∀ (P : List By) (a j m : Nat), P ≠ [] → (∀ p ∈ P, ∀ c ∈ p, c ≠ 47) → m ≤ (joinP P).length → (∀ v, badG a j P = some v → a + m ≤ v) →
    (badG a j (partsB ((joinP P).take m)) = none ∧ lastP (partsB ((joinP P).take m)) ≠ [] ∧ dotP (lastP (partsB ((joinP P).take m))) = false) ∨
    (badG a j (partsB ((joinP P).take m)) = some (a + m) ∧ lastP (partsB ((joinP P).take m)) = []) ∨
    (∃ d, badG a j (partsB ((joinP P).take m)) = some (a + d) ∧ d < m ∧ (joinP P)[d]? = some 46 ∧ dotP (lastP (partsB ((joinP P).take m))) = true) := by
  intro P
  induction P with
  | nil => intro a j m h; exact absurd rfl h
  | cons p ps ih =>
    intro a j m _ hP hm hbad
    have hp := hP p (by simp)
    by_cases hle : m ≤ p.length
    · -- within the first part
      have htk : (joinP (p :: ps)).take m = p.take m := by
        by_cases hq : ps = []
        · subst hq; rfl
        · rw [join_cons _ _ hq, List.take_append_of_le_length hle]
      have hpt : ∀ c ∈ p.take m, c ≠ 47 := fun c hc => hp c (List.mem_of_mem_take hc)
      rw [htk, parts_word _ hpt]
      have hlast : lastP [p.take m] = p.take m := rfl
      rw [hlast]
      by_cases hm0 : m = 0
      · subst hm0
        refine .inr (.inl ⟨?_, by simp⟩)
        simp [badG, wrongB, dotP, firstBad]
      have hqne : p.take m ≠ [] := by
        intro h
        have := congrArg List.length h
        rw [List.length_take, List.length_nil] at this
        omega
      have hnd : dotP p = false := by
        refine Bool.eq_false_iff.2 (fun hd => ?_)
        have hw : wrongB p = some 0 := by unfold wrongB; rw [if_pos hd]
        have := hbad (a + 0) (by unfold badG; rw [hw])
        omega
      have hfb : firstBad (p.take m) 0 = none := by
        refine firstBad_take p 0 m (fun g hg => ?_)
        have hw : wrongB p = some g := by unfold wrongB; rw [if_neg (by rw [hnd]; decide)]; exact hg
        have := hbad (a + g) (by unfold badG; rw [hw])
        omega
      by_cases hdq : dotP (p.take m) = true
      · refine .inr (.inr ⟨0, ?_, by omega, ?_, hdq⟩)
        · have hw : wrongB (p.take m) = some 0 := by unfold wrongB; rw [if_pos hdq]
          unfold badG; rw [hw]
        · obtain ⟨r, hr⟩ := dotP_head _ hdq
          have h1 : (p.take m)[0]? = some 46 := by rw [hr]; rfl
          rw [List.getElem?_take, if_pos (by omega)] at h1
          by_cases hq : ps = []
          · subst hq; exact h1
          · rw [join_cons _ _ hq, List.getElem?_append_left (by omega)]; exact h1
      · refine .inl ⟨?_, hqne, Bool.eq_false_iff.2 hdq⟩
        have hw : wrongB (p.take m) = none := by unfold wrongB; rw [if_neg hdq]; exact hfb
        unfold badG; rw [hw]
        simp only
        rw [if_neg (by simp [hqne])]
        rfl
    · -- behind it
      have hq : ps ≠ [] := by
        intro h
        subst h
        have : (joinP [p]).length = p.length := rfl
        omega
      have hw : wrongB p = none := by
        cases h : wrongB p with
        | none => rfl
        | some w =>
          have h1 := hbad (a + w) (by unfold badG; rw [h])
          have h2 := wrong_lt p w h
          omega
      have hc : ¬ (p = [] ∨ (j = 15 ∧ ps ≠ [])) := by
        intro h
        have h1 := hbad (a + p.length) (by unfold badG; rw [hw]; simp only; rw [if_pos h])
        omega
      have hpne : p ≠ [] := fun h => hc (.inl h)
      have hj : j ≠ 15 := fun h => hc (.inr ⟨h, hq⟩)
      have hjl : (joinP (p :: ps)).length = p.length + 1 + (joinP ps).length := by rw [join_cons _ _ hq]; simp; omega
      have htk : (joinP (p :: ps)).take m = p ++ 47 :: (joinP ps).take (m - p.length - 1) := by
        rw [join_cons _ _ hq]
        rw [List.take_append, List.take_of_length_le (by omega)]
        obtain ⟨k, hk⟩ : ∃ k, m - p.length = k + 1 := ⟨m - p.length - 1, by omega⟩
        rw [hk, List.take_succ_cons]; rfl
      rw [htk, parts_slash p _ hp]
      have hY := parts_ne ((joinP ps).take (m - p.length - 1))
      rw [lastP_cons p _ hY]
      have hg1 : badG a j (p :: ps) = badG (a + p.length + 1) (j + 1) ps := by rw [badG, hw]; simp only; rw [if_neg hc]
      have hg2 : badG a j (p :: partsB ((joinP ps).take (m - p.length - 1))) = badG (a + p.length + 1) (j + 1) (partsB ((joinP ps).take (m - p.length - 1))) := by
        rw [badG, hw]; simp only; rw [if_neg (by simp [hpne, hj])]
      rw [hg2]
      have h := ih (a + p.length + 1) (j + 1) (m - p.length - 1) hq (fun q hqm => hP q (List.mem_cons_of_mem _ hqm)) (by omega) (fun v hv => by
        have := hbad v (by rw [hg1]; exact hv)
        omega)
      rcases h with h | ⟨h1, h2⟩ | ⟨d, h1, h2, h3, h4⟩
      · exact .inl h
      · exact .inr (.inl ⟨by rw [h1]; congr 1; omega, h2⟩)
      · refine .inr (.inr ⟨p.length + 1 + d, by rw [h1]; congr 1; omega, by omega, ?_, h4⟩)
        rw [join_cons _ _ hq, List.getElem?_append_right (by omega), show p.length + 1 + d - p.length = d + 1 by omega, List.getElem?_cons_succ]
        exact h3
/-- what Parse tells of what stands ahead of a place -/
theorem pre_fault (x : By) (m : Nat) (hm : m ≤ x.length) (hm5 : m ≤ 255) (hbad : ∀ v, badG 0 0 (partsB x) = some v → m ≤ v) :
    (faultV (x.take m) = -1 ∧ lastP (partsB (x.take m)) ≠ [] ∧ dotP (lastP (partsB (x.take m))) = false) ∨
    (faultV (x.take m) = m ∧ lastP (partsB (x.take m)) = []) ∨
    (∃ d, faultV (x.take m) = (d : Nat) ∧ d < m ∧ x[d]? = some 46 ∧ dotP (lastP (partsB (x.take m))) = true) := by
  have h := pre_bad (partsB x) 0 0 m (parts_ne x) (fun p hp => (parts_mem x p hp).1) (by rw [join_parts]; exact hm) (fun v hv => by have := hbad v hv; omega)
  rw [join_parts] at h
  have hl : (x.take m).length = m := by rw [List.length_take]; omega
  rcases h with ⟨h1, h2, h3⟩ | ⟨h1, h2⟩ | ⟨d, h1, h2, h3, h4⟩
  · refine .inl ⟨?_, h2, h3⟩
    unfold faultV faultF
    rw [h1, hl]; simp only
    rw [if_neg (by omega)]
  · refine .inr (.inl ⟨?_, h2⟩)
    unfold faultV faultF
    rw [h1, hl]; simp only
    rw [if_neg (by omega)]; omega
  · refine .inr (.inr ⟨d, ?_, h2, h3, h4⟩)
    unfold faultV faultF
    rw [h1, hl]; simp only
    rw [if_neg (by omega)]; omega
theorem place_ok (x : ByteArray) (hx : x.size ≤ 2000) (hf : faultV (bs x) = -1) (X : Int) (h0 : 0 ≤ X) (h1 : X ≤ 9223372036854775807) : Ev (fun k => (if 0 ≤ (wrap64 (1 + (Int.tmod X (x.size : Int)))) then (if (wrap64 (1 + (Int.tmod X (x.size : Int)))) ≤ (x.size : Int) then ((kilnref5_Parts.f k (x.extract 0 ((wrap64 (1 + (Int.tmod X (x.size : Int)))) : Int).toNat)).bind fun t245 => (if 0 ≤ (wrap64 ((t245.length : Int) - 1)) then (if (wrap64 ((t245.length : Int) - 1)) < (t245.length : Int) then ((path_Parse.f k (x.extract 0 ((wrap64 (1 + (Int.tmod X (x.size : Int)))) : Int).toNat)).bind fun bt249 => (if (rdOf ByteArray.empty t245 (wrap64 ((t245.length : Int) - 1))).toList = ([] : List UInt8) then (some ((bt249.2.1 == 0) == false)) else (if (rdOf ByteArray.empty t245 (wrap64 ((t245.length : Int) - 1))).toList = ([46] : List UInt8) then (some ((bt249.2.1 == 0) == false)) else (some ((bt249.2.1 == 0) == ((rdOf ByteArray.empty t245 (wrap64 ((t245.length : Int) - 1))).toList != ([46, 46] : List UInt8))))))) else (none)) else (none))) else (none)) else (none))) true := by
  have hlen := bs_length x
  have hn : (x.size : Int) ≤ 255 ∧ ∀ v, badG 0 0 (partsB (bs x)) ≠ some v := by
    unfold faultV faultF at hf
    cases hg : badG 0 0 (partsB (bs x)) with
    | none =>
      rw [hg] at hf
      simp only at hf
      split at hf
      · exact absurd hf (by decide)
      · exact ⟨by omega, fun v h => by cases h⟩
    | some g =>
      rw [hg] at hf
      simp only at hf
      split at hf
      · exact absurd hf (by decide)
      · omega
  have hpos : 0 < x.size := by
    rcases Nat.eq_zero_or_pos x.size with h | h
    · exfalso
      have : bs x = [] := List.eq_nil_of_length_eq_zero (by omega)
      have hb : badG 0 0 (partsB (bs x)) = some 0 := by rw [this]; rfl
      exact hn.2 0 hb
    · exact h
  have ht0 : 0 ≤ Int.tmod X (x.size : Int) := Int.tmod_nonneg _ h0
  have ht1 : Int.tmod X (x.size : Int) < (x.size : Int) := Int.tmod_lt_of_pos _ (by omega)
  obtain ⟨J, hJ⟩ : ∃ J : Nat, wrap64 (1 + (Int.tmod X (x.size : Int))) = (J : Int) ∧ 1 ≤ J ∧ J ≤ x.size := by
    refine ⟨(1 + (Int.tmod X (x.size : Int))).toNat, ?_, by omega, by omega⟩
    rw [IntWalk.wrap64_in _ (by omega)]; omega
  rw [hJ.1]
  have hy : x.extract 0 ((J : Int)).toNat = mk ((bs x).take J) := mk_of _ _ (by rw [bs_extract, Int.toNat_natCast]; simp)
  rw [hy]
  have hys : (mk ((bs x).take J)).size ≤ 255 := by rw [mk_size, List.length_take]; omega
  refine Ev.congr (fun k => if_pos (by omega)) ?_
  refine Ev.congr (fun k => if_pos (by omega)) ?_
  refine Ev.bind (Parts_ev _ (by omega)) ?_
  rw [bs_mk]
  have hne := parts_ne ((bs x).take J)
  have hpl := parts_len ((bs x).take J)
  rw [List.length_take] at hpl
  have hln : 1 ≤ (partsB ((bs x).take J)).length := List.length_pos_iff.2 hne
  have hw : wrap64 ((((partsB ((bs x).take J)).map mk).length : Int) - 1) = (((partsB ((bs x).take J)).map mk).length : Int) - 1 := IntWalk.wrap64_in _ (by rw [List.length_map]; omega)
  rw [hw, lastP_rd _ hne]
  refine Ev.congr (fun k => if_pos (by rw [List.length_map]; omega)) ?_
  refine Ev.congr (fun k => if_pos (by rw [List.length_map]; omega)) ?_
  refine Ev.bind (Parse_ev _ (by omega)) ?_
  rw [bs_mk, toList_data, bs_mk]
  have hpre := pre_fault (bs x) J (by omega) (by omega) (fun v hv => absurd hv (hn.2 v))
  generalize hq : lastP (partsB ((bs x).take J)) = q at *
  generalize (partsB ((bs x).take J)).map mk = pr at *
  rcases hpre with ⟨h1, h2, h3⟩ | ⟨h1, h2⟩ | ⟨d, h1, h2, h3, h4⟩
  · have e : (if faultV ((bs x).take J) ≥ 0 then (([] : List ByteArray), (50 : Int), faultV ((bs x).take J)) else (pr, 0, 0)) = (pr, 0, 0) := if_neg (by omega)
    rw [e]
    have d1 : q ≠ [46] := fun h => by rw [h] at h3; exact absurd h3 (by decide)
    have d2 : q ≠ [46, 46] := fun h => by rw [h] at h3; exact absurd h3 (by decide)
    refine Ev.congr (fun k => if_neg h2) ?_
    refine Ev.congr (fun k => if_neg d1) ?_
    exact Ev.congr (f := fun _ => some true) (fun k => by rw [bne_iff_ne.2 d2]; rfl) (Ev.now _)
  · have e : (if faultV ((bs x).take J) ≥ 0 then (([] : List ByteArray), (50 : Int), faultV ((bs x).take J)) else (pr, 0, 0)) = ([], 50, faultV ((bs x).take J)) := if_pos (by omega)
    rw [e]
    exact Ev.congr (f := fun _ => some true) (fun k => if_pos h2) (Ev.now _)
  · have e : (if faultV ((bs x).take J) ≥ 0 then (([] : List ByteArray), (50 : Int), faultV ((bs x).take J)) else (pr, 0, 0)) = ([], 50, faultV ((bs x).take J)) := if_pos (by omega)
    rw [e]
    by_cases e1 : q = []
    · exact Ev.congr (f := fun _ => some true) (fun k => if_pos e1) (Ev.now _)
    refine Ev.congr (fun k => if_neg e1) ?_
    by_cases e2 : q = [46]
    · exact Ev.congr (f := fun _ => some true) (fun k => if_pos e2) (Ev.now _)
    refine Ev.congr (fun k => if_neg e2) ?_
    have e3 : q = [46, 46] := by
      unfold dotP at h4
      simp only [Bool.or_eq_true, beq_iff_eq] at h4
      exact h4.resolve_left e2
    exact Ev.congr (f := fun _ => some true) (fun k => by rw [e3]; rfl) (Ev.now _)
theorem PathPlace_true (a0 : ByteArray) (n : Int) (hb : -9223372036854775808 ≤ n ∧ n ≤ 9223372036854775807) : ∃ k, kilnlaw5_PathPlace.f k a0 n = some true := by
  refine Ev.rounds ?_
  unfold kilnlaw5_PathPlace.f
  rw [cut_is]
  have hx := cut_le a0
  generalize mk ((bs a0).take 2000) = x at *
  have hlen := bs_length x
  refine Ev.bind (Ev.now x) ?_
  refine Ev.bind Told_ev ?_
  refine Ev.congr (fun k => if_pos rfl) ?_
  refine Ev.bind (Parse_ev x (by omega)) ?_
  have hbd := faultV_bd (bs x)
  by_cases hf : faultV (bs x) ≥ 0
  · have e : (if faultV (bs x) ≥ 0 then (([] : List ByteArray), (50 : Int), faultV (bs x)) else ((partsB (bs x)).map mk, 0, 0)) = ([], 50, faultV (bs x)) := if_pos hf
    rw [e]
    refine Ev.congr (fun k => if_neg (show ¬ (50 : Int) = 0 by decide)) ?_
    refine Ev.congr (fun k => if_neg (show ¬ faultV (bs x) < 0 by omega)) ?_
    refine Ev.congr (fun k => if_neg (show ¬ faultV (bs x) > (x.size : Int) by omega)) ?_
    refine Ev.congr (fun k => if_pos hf) ?_
    refine Ev.congr (fun k => if_pos (show faultV (bs x) ≤ (x.size : Int) by omega)) ?_
    obtain ⟨m, hm⟩ : ∃ m : Nat, faultV (bs x) = (m : Int) := ⟨(faultV (bs x)).toNat, by omega⟩
    have hm5 : m ≤ 255 ∧ ∀ v, badG 0 0 (partsB (bs x)) = some v → m ≤ v := by
      have hm' := hm
      unfold faultV faultF at hm'
      cases hg : badG 0 0 (partsB (bs x)) with
      | none =>
        rw [hg] at hm'
        simp only at hm'
        split at hm'
        · exact ⟨by omega, fun v h => by cases h⟩
        · omega
      | some g =>
        have hgb := (badG_ge _ _ _ _ hg).2
        rw [join_parts] at hgb
        rw [hg] at hm'
        simp only at hm'
        split at hm'
        · exact ⟨by omega, fun v h => by cases h; omega⟩
        · exact ⟨by omega, fun v h => by cases h; omega⟩
    show Ev (fun k => (path_Parse.f k (x.extract 0 (faultV (bs x)).toNat)).bind fun bt231 => (if bt231.2.1 = 0 then (some true) else (if bt231.2.2 = faultV (bs x) then (some true) else (if bt231.2.2 < faultV (bs x) then (if 0 ≤ bt231.2.2 then (if bt231.2.2 < (x.size : Int) then (some ((bt x bt231.2.2) == 46)) else (none)) else (none)) else (some false))))) true
    rw [hm]
    have hy : x.extract 0 ((m : Int)).toNat = mk ((bs x).take m) := mk_of _ _ (by rw [bs_extract, Int.toNat_natCast]; simp)
    rw [hy]
    refine Ev.bind (Parse_ev _ (by rw [mk_size, List.length_take]; omega)) ?_
    rw [bs_mk]
    have hpre := pre_fault (bs x) m (by omega) hm5.1 hm5.2
    generalize (partsB ((bs x).take m)).map mk = pr
    rcases hpre with ⟨h1, _, _⟩ | ⟨h1, _⟩ | ⟨d, h1, h2, h3, _⟩
    · have e : (if faultV ((bs x).take m) ≥ 0 then (([] : List ByteArray), (50 : Int), faultV ((bs x).take m)) else (pr, 0, 0)) = (pr, 0, 0) := if_neg (by omega)
      rw [e]
      exact Ev.congr (f := fun _ => some true) (fun k => if_pos rfl) (Ev.now _)
    · have e : (if faultV ((bs x).take m) ≥ 0 then (([] : List ByteArray), (50 : Int), faultV ((bs x).take m)) else (pr, 0, 0)) = ([], 50, faultV ((bs x).take m)) := if_pos (by omega)
      rw [e]
      refine Ev.congr (fun k => if_neg (show ¬ (50 : Int) = 0 by decide)) ?_
      exact Ev.congr (f := fun _ => some true) (fun k => if_pos h1) (Ev.now _)
    · have e : (if faultV ((bs x).take m) ≥ 0 then (([] : List ByteArray), (50 : Int), faultV ((bs x).take m)) else (pr, 0, 0)) = ([], 50, faultV ((bs x).take m)) := if_pos (by omega)
      rw [e, h1]
      refine Ev.congr (fun k => if_neg (show ¬ (50 : Int) = 0 by decide)) ?_
      refine Ev.congr (fun k => if_neg (show ¬ ((d : Nat) : Int) = (m : Int) by omega)) ?_
      refine Ev.congr (fun k => if_pos (show ((d : Nat) : Int) < (m : Int) by omega)) ?_
      refine Ev.congr (fun k => if_pos (show 0 ≤ ((d : Nat) : Int) by omega)) ?_
      have hdl : ((d : Nat) : Int) < (x.size : Int) := by omega
      refine Ev.congr (fun k => if_pos hdl) ?_
      obtain ⟨c, hc1, hc2⟩ := drop_at x ((d : Nat) : Int) (by omega) hdl
      have hc : (bs x)[d]? = some c := by
        rw [Int.toNat_natCast] at hc1
        have := congrArg List.head? hc1
        rw [List.head?_drop] at this
        simpa using this
      rw [hc] at h3
      have hc46 : c = 46 := Option.some.inj h3
      exact Ev.congr (f := fun _ => some true) (fun k => by show some (bt x ((d : Nat) : Int) == 46) = _; rw [hc2, hc46]; rfl) (Ev.now _)
  · have hf1 : faultV (bs x) = -1 := by omega
    have e : (if faultV (bs x) ≥ 0 then (([] : List ByteArray), (50 : Int), faultV (bs x)) else ((partsB (bs x)).map mk, 0, 0)) = ((partsB (bs x)).map mk, 0, 0) := if_neg hf
    rw [e]
    refine Ev.congr (fun k => if_pos rfl) ?_
    have hpos : ¬ (x.size : Int) = 0 := by
      intro h
      have h0 : bs x = [] := List.eq_nil_of_length_eq_zero (by omega)
      rw [h0] at hf1
      exact absurd hf1 (by decide)
    refine Ev.congr (fun k => if_neg hpos) ?_
    by_cases hneg : n < 0
    · refine Ev.congr (fun k => if_pos hneg) ?_
      have hw : wrap64 (-(wrap64 (n + 1))) = -(n + 1) := by rw [IntWalk.wrap64_in (n + 1) (by omega), IntWalk.wrap64_in _ (by omega)]
      rw [hw]
      exact place_ok x hx hf1 _ (by omega) (by omega)
    · refine Ev.congr (fun k => if_neg hneg) ?_
      exact place_ok x hx hf1 n (by omega) (by omega)
end Go.Proofs.YtlcnhhpleiamhaaDoor.G

/- The place that Parse tells is the first one, and a path that is cut off behind a name is a path: law PathPlace returns true. For all arguments that can be read; the library's tables unicode/utf8.acceptRanges and unicode/utf8.first are as their texts lay them. -/
set_option linter.unusedVariables false
set_option linter.unusedSimpArgs false
namespace Go.Proofs.YtlcnhhpleiamhaaDoor.pathPlace
open Go.ChangeShapes Go.WideShapes Go.ChangeAt Go.RowKit

theorem own : ownKnob Tryd.prog.godebug = none := by kernel_rfl
theorem laidOut : laidOutB Tryd.prog = true := by kernel_rfl

theorem contract (H : Type) (enc : TypeId × Value → H) (W : World) (base : Nat) (args : Array Value) (ds gs : List (DataW H)) (before : List MemPlace)
    (hval : ∀ (j : Nat) t v, Tryd.f7.params[j]? = some t → args[j]? = some v → Value.okWide Tryd.prog W .any base t v)
    (hW : DataW.Whole enc Tryd.prog Tryd.f7.params.toList Rows.pathPlaceSpec.vars false W args.toList ds gs before) :
    Calls Tryd.prog 7 args W fun e W' => ∃ v, e = .returned v ∧ Rows.pathPlaceSpec.post enc Tryd.prog Tryd.f7 false true false false W args v W' := by
  have hW' := hW
  obtain ⟨p, q, hA0, hV, rfl, hfz, hnd⟩ := hW
  have hA : DataW.TrodAll enc Tryd.prog W 0 (fun _ => true) true Tryd.f7.params.toList args.toList ds p := hA0
  rw [Tryd.params7] at hA hval
  obtain ⟨v0, vs0, d0, ds0, p0, q0, hargs, rfl, rfl, h0, r0⟩ := trodAll_cons hA
  obtain ⟨v1, vs1, d1, ds1, p1, q1, rfl, rfl, rfl, h1, r1⟩ := trodAll_cons r0
  obtain ⟨rfl, rfl, rfl⟩ := trodAll_nil r1
  obtain rfl : args = #[v0, v1] := by cases args; simp_all
  obtain ⟨rfl, rfl⟩ := trodVars_none hV
  obtain ⟨a0, rfl, rfl, rfl, _⟩ := Go.ChangeMaps.open_string Tryd.underlying9 (hval 0 9 v0 rfl rfl) h0
  obtain ⟨a1, rfl, rfl, rfl, b1⟩ := open_int Tryd.underlying3 (hval 1 3 v1 rfl rfl) h1
  clear hA0
  obtain ⟨k, hk⟩ := G.PathPlace_true a0 a1 (bounds_i64 b1)
  refine (G.kilnlaw5_PathPlace.calls k a0 a1 true W hk).mono fun e W' ⟨he, hg⟩ => ?_
  subst he
  exact ⟨_, rfl, law_post laidOut Tryd.underlying4 (by kernel_rfl) (fun t ht => by rw [Tryd.params7] at ht; simp at ht; rcases ht with rfl | rfl <;> exact ⟨by kernel_rfl, of_decide_eq_true (by kernel_rfl)⟩) rfl rfl hW' hg⟩

/-- A WORLD FOR THE WITNESS: the settled one, the tables (blocks 1 and 2) holding what their texts lay. -/
def lay1 : Obj → Obj
  | .cells _ t frozen => .cells (([128, 191, 160, 191, 128, 159, 144, 191, 128, 143] ++ List.replicate 22 0).map fun (x : Nat) => Value.int .u8 (x : Int)).toArray t frozen
  | o => o
def lay2 : Obj → Obj
  | .cells _ t frozen => .cells (Go.Pinned.utf8FirstZ.map fun (x : Nat) => Value.int .u8 (x : Int)).toArray t frozen
  | o => o
noncomputable def laidWorld (os : Os) : World :=
  { World.holding Tryd.prog os ⟨#[], #[], []⟩ with heap := ((World.holding Tryd.prog os ⟨#[], #[], []⟩).heap.modify 1 lay2).modify 2 lay1 }
theorem laid_met (os : Os) : laidMet Tryd.prog Rows.pathPlaceRow.laid ((laidWorld os).forCall (fun _ _ => 0) ⟨#[], #[Value.string .empty, Value.int .i64 0], []⟩).memory :=
  laidMet_of_run' 8 (by kernel_rfl) (by kernel_rfl)
theorem reads (os : Os) {H : Type} (enc : TypeId × Value → H) : ∃ places, DataW.whole enc Tryd.prog ((laidWorld os).forCall (fun _ _ => 0) ⟨#[], #[Value.string .empty, Value.int .i64 0], []⟩).memory Tryd.f7.params.toList Rows.pathPlaceSpec.vars false #[Value.string .empty, Value.int .i64 0].toList 8 = some ([.lit (.string []), .lit (.int .i64 0)], [], places) :=
  ⟨[], by kernel_rfl⟩

set_option maxRecDepth 100000 in
theorem lifted (os : Os) (started : os.Started) (H : Type) (enc : TypeId × Value → H) (F : Stop.Interp) :
    ReturnsInHanded {} Tryd.checked os 7 .any ((OpenSpec.ofChange Rows.pathPlaceSpec).preRow enc Tryd.prog Tryd.f7 Rows.pathPlaceRow.domain false Rows.pathPlaceRow.laid) (((OpenSpec.ofChange Rows.pathPlaceSpec).at F).post enc Tryd.prog Tryd.f7 false true false false) := by
  obtain ⟨places, hx⟩ := reads os enc
  refine returnsInHanded_of_row (C := Tryd.checked) (s := OpenSpec.ofChange Rows.pathPlaceSpec) own started (by kernel_rfl) Tryd.func7
    (witness_row_at (enc := enc) (C := Tryd.checked) false (laidWorld os) #[Value.string .empty, Value.int .i64 0] rfl (by kernel_rfl) (by kernel_rfl) (by kernel_rfl)
      (OpenSpec.preRow_of_cond 8 hx (by kernel_rfl) (fun k hk => by cases hk) (by kernel_rfl) (laid_met os))) ?_
  intro W base args ds gs before hval hW _ _ _ hL _ _
  exact contract H enc W base args ds gs before hval hW

theorem said : Rows.PathPlaceSaid :=
  OpenClaim.holds_of_cond 7 Tryd.f7 rfl rfl rfl rfl rfl rfl rfl ⟨rfl, rfl, rfl, rfl, rfl⟩ rfl rfl rfl rfl rfl (by kernel_rfl) Tryd.func7 (by kernel_rfl)
    (of_decide_eq_true (by kernel_rfl)) (by unfold Func.isWrapper; first | (rw [if_pos (by decide +kernel)]; kernel_rfl) | (rw [if_neg (by decide +kernel)]; exact ⟨rfl, rfl⟩))
    (fun os started H enc _ F => by rw [OpenClaim.pre_eq_preRow]; exact lifted os started H enc F)

/-- No parameter wants a stand-in; the program's own looks are off: what the card asks. -/
theorem plain (f : FuncId) (fn : Func) (hf : Tryd.pinned.checked.prog.funcNamed "kiln/kilnlaw5.PathPlace" = some f) (hfn : Tryd.pinned.checked.prog.funcs[f]? = some fn) :
    false = Tryd.pinned.checked.prog.looks [] ∧ ∀ (j : Nat) t, fn.params[j]? = some t → Tryd.pinned.checked.prog.wantsStandIn t = false := by
  obtain rfl : f = 7 := Option.some.inj ((show Tryd.prog.funcNamed "kiln/kilnlaw5.PathPlace" = some 7 by kernel_rfl).symm.trans hf) |>.symm
  obtain rfl : fn = Tryd.f7 := (Option.some.inj (Tryd.func7.symm.trans hfn)).symm
  refine ⟨by kernel_rfl, fun j t ht => ?_⟩
  rw [Tryd.params7] at ht
  have hm := Array.mem_of_getElem? ht
  simp at hm
  rcases hm with rfl | rfl
  · exact (show Tryd.prog.wantsStandIn 9 = false by kernel_rfl)
  · exact (show Tryd.prog.wantsStandIn 3 = false by kernel_rfl)

theorem card : Rows.PathPlaceCardSaid :=
  Claim7.holds_tied_plain_at .later [] _ _ _ _ said (fun _ h => by cases h) (by kernel_rfl) (fun _ h => by cases h) pathPlace_row_tie rfl ⟨rfl, rfl⟩ (by kernel_rfl) rfl plain (by kernel_rfl)
end Go.Proofs.YtlcnhhpleiamhaaDoor.pathPlace
