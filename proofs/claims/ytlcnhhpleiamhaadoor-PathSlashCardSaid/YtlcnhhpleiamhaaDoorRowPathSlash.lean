/- Of two texts the first unlike bytes decide, a slash being below all others; and Under goes by a beginning and a slash: law PathSlash returns true. For all arguments that can be read; the library's tables unicode/utf8.acceptRanges and unicode/utf8.first are as their texts lay them. -/
import Derived.Test.YtlcnhhpleiamhaaDoorKit
import Derived.ProofKit
import Derived.OpenShut
import Derived.Carry
import Derived.Deep.Slices
import Derived.Test.YtlcnhhpleiamhaaDoorPl
import Derived.Test.YtlcnhhpleiamhaaDoorGx12
import Derived.Test.YtlcnhhpleiamhaaDoorCards
import Derived.Test.YtlcnhhpleiamhaaDoorTie
import Derived.Deep.DeepHandedRow
import Derived.Lib.LaidTab
/- General words for a law's row: what the row asks behind the call, where nothing below the call's own blocks has turned; arguments that are slices of structs of whole numbers. -/
set_option linter.unusedVariables false
set_option linter.unusedSimpArgs false
namespace Go.Proofs.YtlcnhhpleiamhaaDoor
open Go.ChangeShapes Go.WideShapes Go.ChangeAt Go.RowKit

section
variable {H : Type} {enc : TypeId × Value → H} {P : Program}
theorem trodAll_stay (hl : laidOutB P = true) {W W' : World} {sp : Nat → Bool} : ∀ (ts : List TypeId) (vs : List Value) (ds : List (DataW H)) (ps : List MemPlace), (∀ t ∈ ts, P.readableRec t = true ∧ t < P.types.size) →
    DataW.TrodAll enc P W 0 (fun _ => true) true ts vs ds ps → (∀ p ∈ ps, W.sameAt W' p) → (∀ p ∈ ps, sp p.block = true) → DataW.TrodAll enc P W' 0 sp true ts vs ds ps
  | [], [], [], ps, _, h, _, _ => h
  | t :: ts, v :: vs, d :: ds, ps, hr, h, hs, hp => by
    obtain ⟨p, q, h1, h2, rfl⟩ := h
    refine ⟨p, q, ?_, trodAll_stay hl ts vs ds q (fun x hx => hr x (List.mem_cons_of_mem _ hx)) h2 (fun x hx => hs x (List.mem_append_right _ hx)) (fun x hx => hp x (List.mem_append_right _ hx)), rfl⟩
    exact WideElems.Trod_stays hl (hr t (by simp)).1 (hr t (by simp)).2 h1 (fun x hx => hs x (List.mem_append_left _ hx)) (fun x hx => hp x (List.mem_append_left _ hx))
  | [], _ :: _, _, _, _, h, _, _ => h.elim
  | [], [], _ :: _, _, _, h, _, _ => h.elim
  | _ :: _, [], _, _, _, h, _, _ => h.elim
  | _ :: _, _ :: _, [], _, _, h, _, _ => h.elim

/-- a law with no variable among what it is asked of: the arguments read as they read, the answer is true, the old blocks are as they were -/
theorem law_post (hl : laidOutB P = true) {f : Func} {s : ChangeSpec} {W W' : World} {args : Array Value} {ds : List (DataW H)} {before : List MemPlace} {T : TypeId} (hT : P.underlying T = some .bool) (hres : f.resultTypes = #[T])
    (hr : ∀ t ∈ f.params.toList, P.readableRec t = true ∧ t < P.types.size)
    (hspec : s.fn H (ds ++ []) = { results := [.lit (.bool true)], args := ds }) (hvars : s.vars = [])
    (hW : DataW.Whole enc P f.params.toList s.vars false W args.toList ds [] before)
    (hb : Below W.heap.size W W') : s.post enc P f false true false false W args (.bool true) W' := by
  have old : ∀ p ∈ before, p.block < W.heap.size := fun p hp => hW.lt p hp
  have inOld : ∀ p ∈ before, (fun b => decide (b < W.heap.size)) p.block = true := fun p hp => by simpa using old p hp
  have R : ∀ (b : Nat) (sp : Nat → Bool) (hd : Bool), DataW.TrodAll enc P W' b sp hd f.resultTypes.toList ((Value.bool true).resultList f.resultTypes.size) (s.fn H (ds ++ [])).results [] := by
    intro b sp hd
    rw [hspec, hres]
    exact trodAll_cons_mk (shut_bool hT true) trodAll_mk0
  have A : ∀ sp : Nat → Bool, (∀ p ∈ before, sp p.block = true) → DataW.TrodAll enc P W' 0 sp true f.params.toList args.toList (s.fn H (ds ++ [])).args before := by
    intro sp hsp
    rw [hspec]
    obtain ⟨p, q, h1, h2, h3, _, _⟩ := hW
    rw [hvars] at h2
    obtain rfl : q = [] := h2
    rw [List.append_nil] at h3
    subst h3
    exact trodAll_stay hl _ _ _ _ hr h1 (fun x hx => hb.same (old x hx)) hsp
  have V : ∀ sp : Nat → Bool, DataW.TrodVars enc P W' sp s.vars (s.fn H (ds ++ [])).vars [] := by
    intro sp
    rw [hspec, hvars]
    rfl
  refine ⟨ds, [], before, [], before, [], hW, R _ _ _, A _ inOld, V _, World.keptBut_mono (fun p hp => ⟨hp, .inr (by simpa using hp)⟩) (hb.frame (· ∈ before)), fun _ => ⟨fun j t r ht hr => ?_, ?_⟩⟩
  · rw [hres] at ht hr
    match j, ht, hr with
    | 0, ht, hr =>
      simp at ht
      simp [Value.resultList] at hr
      subst ht
      subst hr
      exact okWide_bool_mk hT true
  · obtain ⟨_, _, _, _, _, hz, hn⟩ := hW
    refine ⟨_, _, ([] ++ before) ++ [], ⟨[] ++ before, [], trodAll_append (A _ (fun _ _ => rfl)) (R _ _ _), V _, rfl, ?_, ?_⟩, ?_⟩
    · intro b off hp
      have hin : MemPlace.cell b off ∈ before := by simpa using hp
      exact (hb.frozen (p := ⟨b, off, none⟩) (old _ hin)).trans (hz b off hin)
    · intro ha
      simpa using hn ha
    · intro p hp _
      simpa using hp

/-- a struct of n whole numbers: its cells -/
theorem open_numbers {w : World} {base : Nat} {sp : Nat → Bool} {held : Bool} {e : TypeId} {fs : Array Field} {fuel : Nat} {cs : List Value} {x : DataW H × List MemPlace} (he : P.underlying e = some (.struct fs)) (hC : P.cellsOf e = fs.size)
    (hf : ∀ (j : Nat) (f : Field), fs[j]? = some f → f.offset = j ∧ P.underlying f.type = some (.int .i64) ∧ P.cellsOf f.type = 1) (h : DataW.trod enc P w base sp held fuel e cs = some x) : ∀ j, j < fs.size → ∃ z, cs[j]? = some (.int .i64 z) := by
  intro j hj
  obtain ⟨xs, n, _, _, hlen, hxl, hat⟩ := DataW.trod_struct he h
  obtain ⟨ho, hu, hc⟩ := hf j fs[j] (Array.getElem?_eq_getElem hj)
  have h1 := hat j fs[j] (Array.getElem?_eq_getElem hj)
  rw [ho, hc, List.getElem?_eq_getElem (show j < xs.length by omega)] at h1
  obtain ⟨z, hz, _⟩ := DataW.trod_int hu h1
  refine ⟨z, ?_⟩
  have h2 : ((cs.drop j).take 1)[0]? = some (.int .i64 z) := by rw [hz]; rfl
  simpa [List.getElem?_take, List.getElem?_drop] using h2
/-- a slice of such structs that came in -/
theorem open_numberRows {w : World} {t e : TypeId} {fs : Array Field} {v : Value} {d : DataW H} {ps : List MemPlace} {r : Reach} {b0 : Nat} (ht : P.underlying t = some (.slice e)) (he : P.underlying e = some (.struct fs)) (hC : P.cellsOf e = fs.size)
    (hf : ∀ (j : Nat) (f : Field), fs[j]? = some f → f.offset = j ∧ P.underlying f.type = some (.int .i64) ∧ P.cellsOf f.type = 1)
    (hv : Value.okWide P w r b0 t v) (h : DataW.Trod enc P w 0 (fun _ => true) true t v d ps) :
    (v = .slice none 0 0) ∨ ∃ (a : Addr) (len cap : Nat), v = .slice (some a) len cap ∧ len ≤ cap ∧ cap ≤ maxLen ∧ ∀ i j, i < len → j < fs.size → ∃ z, w.cell? (a.add (i * fs.size + j)) = some (.int .i64 z) := by
  obtain ⟨fuel, hx⟩ := h
  rcases Go.Deep.open_slice ht hx with ⟨h1, _⟩ | ⟨a, len, cap, m, n, D, Pl, h1, _, h2, h3, h4, _, h6⟩
  · left
    obtain ⟨a, n, c, rfl⟩ := okWide_slice ht hv
    simpa [Value.cells] using h1
  · right
    obtain ⟨a', n', c', rfl⟩ := okWide_slice ht hv
    simp [Value.cells] at h1
    obtain ⟨rfl, rfl, rfl⟩ := h1
    refine ⟨a, _, _, rfl, h2, h3, fun i j hi hj => ?_⟩
    simp at h4
    obtain ⟨cs', hc, hr⟩ := h6 i (by omega)
    rw [hC] at hc
    obtain ⟨z, hz⟩ := open_numbers he hC hf hr j hj
    obtain ⟨_, _, hat⟩ := World.cells?_some hc
    have := hat j hj
    rw [hz] at this
    exact ⟨z, by rw [← Go.Deep.add_add]; exact this⟩
end
end Go.Proofs.YtlcnhhpleiamhaaDoor

-- PathSlash: what the law's own function tells is true for every two texts.
namespace Go.Proofs.YtlcnhhpleiamhaaDoor.G
open Go.RowKit Go.Proofs.YtlcnhhpleiamhaaDoorW.PrintWords Go.Proofs.YtlcnhhpleiamhaaDoorW.PrintLast Go.Proofs.YtlcnhhpleiamhaaDoorW.PrintMore
set_option linter.unusedVariables false
set_option linter.unusedSimpArgs false
def blw (c : UInt8) : Int := if c = 47 then -1 else cI c
theorem below_is (c : UInt8) : kilnlaw5_below.f (cI c) = some (blw c) := by
  unfold kilnlaw5_below.f blw
  have hb := cI_bd c
  by_cases h : c = 47
  · rw [if_pos (by rw [h]; rfl), if_pos h]
  · have h47 : ¬ cI c = 47 := fun e => h (cI_inj (b := 47) e)
    rw [if_neg h47, if_neg h, IntWalk.wrap64_in _ (by omega)]
theorem blw_lt (c d : UInt8) : blw c < blw d ↔ wc c < wc d := by
  have h1 := cI_bd c
  have h2 := cI_bd d
  unfold blw wc
  by_cases e1 : c = 47
  · by_cases e2 : d = 47
    · simp [e1, e2]
    · rw [if_pos e1, if_neg e2, if_pos e1, if_neg e2]; omega
  · by_cases e2 : d = 47
    · rw [if_neg e1, if_pos e2, if_neg e1, if_pos e2]; omega
    · rw [if_neg e1, if_neg e2, if_neg e1, if_neg e2]; omega
section
variable (a b : ByteArray) (ha : a.size ≤ 10000) (hb : b.size ≤ 10000)
include ha hb
theorem slash_fin (v : Int) (u : Bool) (hv : cmpW (bs a) (bs b) = v) (hu : underB (bs a) (bs b) = u) : Ev (fun k => (kilnlaw5_Told.f k).bind fun t => (if t = true then ((path_Order.f k a b).bind fun o => (if o = v then ((path_Under.f a b).bind fun z => (some (z == u))) else (some false))) else (some false))) true := by
  refine Ev.bind Told_ev ?_
  refine Ev.congr (fun k => if_pos rfl) ?_
  refine Ev.bind (Order_ev a b (by omega) (by omega)) ?_
  refine Ev.congr (fun k => if_pos hv) ?_
  exact Ev.congr (f := fun _ => some true) (fun k => by rw [Under_is, hu, Option.bind_some, beq_self_eq_true]) (Ev.now _)
theorem slash_j5 (x5 v : Int) (fl : Bool) (hv : cmpW (bs a) (bs b) = v) (h : fl = true ∧ v = 1 ∨ fl = false ∧ v = x5) : Ev (fun k => kilnlaw5_PathSlash.j5 k a b x5 fl) true := by
  have la := bs_length a
  have lb := bs_length b
  have key : ∀ v' : Int, v' = v → Ev (fun k => (if a.toList = ([] : List UInt8) then ((kilnlaw5_Told.f k).bind fun t283 => (if t283 = true then ((path_Order.f k a b).bind fun t284 => (if t284 = v' then ((path_Under.f a b).bind fun t285 => (some (t285 == true))) else (some false))) else (some false))) else (if a.toList = b.toList then ((kilnlaw5_Told.f k).bind fun t286 => (if t286 = true then ((path_Order.f k a b).bind fun t287 => (if t287 = v' then ((path_Under.f a b).bind fun t288 => (some (t288 == true))) else (some false))) else (some false))) else (if (b.size : Int) > (a.size : Int) then (if 0 ≤ (a.size : Int) then (if (a.size : Int) ≤ (b.size : Int) then (if (b.extract 0 ((a.size : Int) : Int).toNat).toList = a.toList then (if (a.size : Int) < (b.size : Int) then ((kilnlaw5_Told.f k).bind fun t289 => (if t289 = true then ((path_Order.f k a b).bind fun t290 => (if t290 = v' then ((path_Under.f a b).bind fun t291 => (some (t291 == ((bt b (a.size : Int)) == 47)))) else (some false))) else (some false))) else (none)) else ((kilnlaw5_Told.f k).bind fun t292 => (if t292 = true then ((path_Order.f k a b).bind fun t293 => (if t293 = v' then ((path_Under.f a b).bind fun t294 => (some (t294 == false))) else (some false))) else (some false)))) else (none)) else (none)) else ((kilnlaw5_Told.f k).bind fun t295 => (if t295 = true then ((path_Order.f k a b).bind fun t296 => (if t296 = v' then ((path_Under.f a b).bind fun t297 => (some (t297 == false))) else (some false))) else (some false))))))) true := by
    rintro v' rfl
    by_cases h1 : bs a = []
    · refine Ev.congr (fun k => if_pos (by rw [toList_data]; exact h1)) ?_
      exact slash_fin a b ha hb _ true hv (by rw [h1]; rfl)
    refine Ev.congr (fun k => if_neg (by rw [toList_data]; exact h1)) ?_
    by_cases h2 : bs a = bs b
    · refine Ev.congr (fun k => if_pos (by rw [toList_data, toList_data]; exact h2)) ?_
      exact slash_fin a b ha hb _ true hv (by rw [h2]; unfold underB; simp)
    refine Ev.congr (fun k => if_neg (by rw [toList_data, toList_data]; exact h2)) ?_
    have hun : underB (bs a) (bs b) = (bs a ++ [47]).isPrefixOf (bs b) := by
      unfold underB
      rw [beq_false_of_ne h1, beq_false_of_ne h2]; rfl
    have hp := pre_iff (bs a) (bs b)
    have hpn : ¬ ((bs b).length > (bs a).length ∧ (bs b)[(bs a).length]? = some 47 ∧ (bs b).take (bs a).length = bs a) → underB (bs a) (bs b) = false := fun hh => by
      rw [hun]; exact Bool.eq_false_iff.2 (fun e => hh (hp.1 e))
    by_cases h3 : (b.size : Int) > (a.size : Int)
    case neg =>
      refine Ev.congr (fun k => if_neg h3) ?_
      exact slash_fin a b ha hb _ false hv (hpn (fun hh => by omega))
    refine Ev.congr (fun k => if_pos h3) ?_
    refine Ev.congr (fun k => if_pos (by omega)) ?_
    refine Ev.congr (fun k => if_pos (by omega)) ?_
    have ex : bs (b.extract 0 ((a.size : Int) : Int).toNat) = (bs b).take (bs a).length := by rw [bs_extract, Int.toNat_natCast, la]; simp
    by_cases h4 : (bs b).take (bs a).length = bs a
    case neg =>
      refine Ev.congr (fun k => if_neg (by rw [toList_data, toList_data, ex]; exact h4)) ?_
      exact slash_fin a b ha hb _ false hv (hpn (fun hh => h4 hh.2.2))
    refine Ev.congr (fun k => if_pos (by rw [toList_data, toList_data, ex]; exact h4)) ?_
    refine Ev.congr (fun k => if_pos h3) ?_
    obtain ⟨c, hd, hbt⟩ := drop_at b (a.size : Int) (by omega) h3
    have hc : (bs b)[(bs a).length]? = some c := by
      rw [Int.toNat_natCast] at hd
      have := congrArg List.head? hd
      rw [List.head?_drop] at this
      rw [la]; simpa using this
    rw [hbt]
    by_cases h5 : c = 47
    · have e : (cI c == 47) = true := by rw [h5]; rfl
      rw [e]
      exact slash_fin a b ha hb _ true hv (by rw [hun]; exact hp.2 ⟨by omega, by rw [hc, h5], h4⟩)
    · have e : (cI c == 47) = false := beq_false_of_ne (fun e => h5 (cI_inj (b := 47) e))
      rw [e]
      exact slash_fin a b ha hb _ false hv (hpn (fun hh => h5 (by have := hh.2.1; rw [hc] at this; exact Option.some.inj this)))
  rcases h with ⟨rfl, rfl⟩ | ⟨rfl, rfl⟩
  · refine Ev.step (fun k => ?_) (key 1 rfl)
    rw [kilnlaw5_PathSlash.j5, if_pos rfl]
  · refine Ev.step (fun k => ?_) (key v rfl)
    rw [kilnlaw5_PathSlash.j5, if_neg (by decide)]
/-- behind the loop -/
theorem slash_end (x5 x6 v : Int) (hv : cmpW (bs a) (bs b) = v) (h : x5 ≠ 0 ∧ x5 = v ∨ x5 = 0 ∧ v = (if (a.size : Int) < b.size then -1 else if (a.size : Int) > b.size then 1 else 0)) : Ev (fun k => kilnlaw5_PathSlash.j1 k a b x5 x6 false) true := by
  rcases h with ⟨h0, rfl⟩ | ⟨rfl, h⟩
  · have h5 := slash_j5 a b ha hb x5 x5 false hv (.inr ⟨rfl, rfl⟩)
    have h4 : Ev (fun k => kilnlaw5_PathSlash.j4 k a b x5) true := Ev.step (fun k => by rw [kilnlaw5_PathSlash.j4, if_neg h0]) h5
    have h3 : Ev (fun k => kilnlaw5_PathSlash.j3 k a b x5 false) true := Ev.step (fun k => by rw [kilnlaw5_PathSlash.j3, if_neg (by decide)]) h4
    exact Ev.step (fun k => by rw [kilnlaw5_PathSlash.j1, if_neg (by decide), if_neg h0]) h3
  · by_cases h1 : (a.size : Int) < b.size
    · rw [if_pos h1] at h
      have h5 := slash_j5 a b ha hb (-1) v false hv (.inr ⟨rfl, h⟩)
      have h4 : Ev (fun k => kilnlaw5_PathSlash.j4 k a b (-1)) true := Ev.step (fun k => by rw [kilnlaw5_PathSlash.j4, if_neg (by decide)]) h5
      have h3 : Ev (fun k => kilnlaw5_PathSlash.j3 k a b 0 true) true := Ev.step (fun k => by rw [kilnlaw5_PathSlash.j3, if_pos rfl]) h4
      exact Ev.step (fun k => by rw [kilnlaw5_PathSlash.j1, if_neg (by decide), if_pos rfl, decide_eq_true h1]) h3
    · rw [if_neg h1] at h
      have h5 : Ev (fun k => kilnlaw5_PathSlash.j5 k a b 0 (decide ((a.size : Int) > b.size))) true := by
        by_cases h2 : (a.size : Int) > b.size
        · rw [if_pos h2] at h
          rw [decide_eq_true h2]
          exact slash_j5 a b ha hb 0 v true hv (.inl ⟨rfl, h⟩)
        · rw [if_neg h2] at h
          rw [decide_eq_false h2]
          exact slash_j5 a b ha hb 0 v false hv (.inr ⟨rfl, h⟩)
      have h4 : Ev (fun k => kilnlaw5_PathSlash.j4 k a b 0) true := Ev.step (fun k => by rw [kilnlaw5_PathSlash.j4, if_pos rfl]) h5
      have h3 : Ev (fun k => kilnlaw5_PathSlash.j3 k a b 0 false) true := Ev.step (fun k => by rw [kilnlaw5_PathSlash.j3, if_neg (by decide)]) h4
      exact Ev.step (fun k => by rw [kilnlaw5_PathSlash.j1, if_neg (by decide), if_pos rfl, decide_eq_false h1]) h3
theorem slash_found (x5 x6 : Int) (h0 : x5 ≠ 0) (hv : cmpW (bs a) (bs b) = x5) : Ev (fun k => kilnlaw5_PathSlash.l0 k a b x5 x6) true := by
  refine Ev.step (fun k => ?_) (slash_end a b ha hb x5 x6 x5 hv (.inl ⟨h0, rfl⟩))
  have e : (x5 == 0) = false := beq_false_of_ne h0
  rw [kilnlaw5_PathSlash.l0, e]
  split
  · split <;> rfl
  · rfl
theorem slash_ev : ∀ (n : Nat) (i : Int), n = (a.size - i).toNat → 0 ≤ i → i ≤ a.size → i ≤ b.size → cmpW (bs a) (bs b) = cmpW ((bs a).drop i.toNat) ((bs b).drop i.toNat) → Ev (fun k => kilnlaw5_PathSlash.l0 k a b 0 i) true := by
  have hend : ∀ i : Int, 0 ≤ i → i ≤ a.size → i ≤ b.size → (i = a.size ∨ i = b.size) → cmpW (bs a) (bs b) = cmpW ((bs a).drop i.toNat) ((bs b).drop i.toNat) → Ev (fun k => kilnlaw5_PathSlash.j1 k a b 0 i false) true := by
    intro i h0 h1 h2 hor hc
    refine slash_end a b ha hb 0 i _ rfl (.inr ⟨rfl, ?_⟩)
    rw [hc]
    by_cases e1 : i = a.size
    · rw [drop_end a i (by omega)]
      by_cases e2 : i = b.size
      · rw [drop_end b i (by omega), if_neg (by omega), if_neg (by omega)]; rfl
      · obtain ⟨d, he, _⟩ := drop_at b i h0 (by omega)
        rw [he, if_pos (by omega)]; rfl
    · obtain ⟨c, hd, _⟩ := drop_at a i h0 (by omega)
      rw [hd, drop_end b i (by omega), if_neg (by omega), if_pos (by omega)]; rfl
  intro n
  induction n with
  | zero =>
    intro i hn h0 h1 h2 hc
    refine Ev.step (fun k => ?_) (hend i h0 h1 h2 (.inl (by omega)) hc)
    rw [kilnlaw5_PathSlash.l0, if_neg (by omega)]
  | succ n ih =>
    intro i hn h0 h1 h2 hc
    have hlt : i < (a.size : Int) := by omega
    by_cases hb2 : i < (b.size : Int)
    case neg =>
      refine Ev.step (fun k => ?_) (hend i h0 h1 h2 (.inr (by omega)) hc)
      rw [kilnlaw5_PathSlash.l0, if_pos hlt, if_neg hb2]
    obtain ⟨c, hd, hbc⟩ := drop_at a i h0 hlt
    obtain ⟨d, he, hbd⟩ := drop_at b i h0 hb2
    have hw : wrap64 (i + 1) = i + 1 := IntWalk.wrap64_in _ (by omega)
    have hrec := fun hc2 => ih (i + 1) (by omega) (by omega) (by omega) (by omega) hc2
    rw [hd, he, cmpW] at hc
    have hj2 : ∀ (x5 : Int) (k : Nat), kilnlaw5_PathSlash.j2 (k + 1) a b x5 i = (if blw c > blw d then (kilnlaw5_PathSlash.l0 k a b 1 (i + 1)) else (kilnlaw5_PathSlash.l0 k a b x5 (i + 1))) := by
      intro x5 k
      rw [kilnlaw5_PathSlash.j2, if_pos h0, if_pos hlt, hbc, hbd, below_is, below_is, Option.bind_some, if_pos hb2, Option.bind_some, hw]
    have hj1 : ∀ k, kilnlaw5_PathSlash.j1 (k + 1) a b 0 i true = (if blw c < blw d then (kilnlaw5_PathSlash.j2 k a b (-1) i) else (kilnlaw5_PathSlash.j2 k a b 0 i)) := by
      intro k
      rw [kilnlaw5_PathSlash.j1, if_pos rfl, if_pos h0, if_pos hlt, hbc, hbd, below_is, below_is, Option.bind_some, if_pos hb2, Option.bind_some]
    have hl : ∀ k, kilnlaw5_PathSlash.l0 (k + 1) a b 0 i = kilnlaw5_PathSlash.j1 k a b 0 i true := by
      intro k
      rw [kilnlaw5_PathSlash.l0, if_pos hlt, if_pos hb2]; rfl
    have b1 := blw_lt c d
    have b2 := blw_lt d c
    refine Ev.step hl ?_
    by_cases l1 : wc c < wc d
    · rw [if_pos l1] at hc
      refine Ev.step (fun k => (hj1 k).trans (if_pos (b1.2 l1))) ?_
      refine Ev.step (fun k => (hj2 (-1) k).trans (if_neg (fun h => by have := b2.1 h; omega))) ?_
      exact slash_found a b ha hb (-1) (i + 1) (by decide) hc
    · rw [if_neg l1] at hc
      refine Ev.step (fun k => (hj1 k).trans (if_neg (fun h => l1 (b1.1 h)))) ?_
      by_cases l2 : wc c > wc d
      · rw [if_pos l2] at hc
        refine Ev.step (fun k => (hj2 0 k).trans (if_pos (b2.2 l2))) ?_
        exact slash_found a b ha hb 1 (i + 1) (by decide) hc
      · rw [if_neg l2] at hc
        refine Ev.step (fun k => (hj2 0 k).trans (if_neg (fun h => l2 (b2.1 h)))) ?_
        exact hrec hc
end
theorem PathSlash_true (a0 a1 : ByteArray) : ∃ k, kilnlaw5_PathSlash.f k a0 a1 = some true := by
  refine Ev.rounds ?_
  unfold kilnlaw5_PathSlash.f
  rw [cut_is, cut_is]
  have hx := cut_le a0
  have hy := cut_le a1
  generalize mk ((bs a0).take 2000) = x at *
  generalize mk ((bs a1).take 2000) = y at *
  refine Ev.bind (Ev.now x) ?_
  refine Ev.bind (Ev.now y) ?_
  exact slash_ev x y (by omega) (by omega) x.size 0 (by omega) (Int.le_refl _) (by omega) (by omega) rfl
end Go.Proofs.YtlcnhhpleiamhaaDoor.G

/- Of two texts the first unlike bytes decide, a slash being below all others; and Under goes by a beginning and a slash: law PathSlash returns true. For all arguments that can be read; the library's tables unicode/utf8.acceptRanges and unicode/utf8.first are as their texts lay them. -/
set_option linter.unusedVariables false
set_option linter.unusedSimpArgs false
namespace Go.Proofs.YtlcnhhpleiamhaaDoor.pathSlash
open Go.ChangeShapes Go.WideShapes Go.ChangeAt Go.RowKit

theorem own : ownKnob Tryd.prog.godebug = none := by kernel_rfl
theorem laidOut : laidOutB Tryd.prog = true := by kernel_rfl

theorem contract (H : Type) (enc : TypeId × Value → H) (W : World) (base : Nat) (args : Array Value) (ds gs : List (DataW H)) (before : List MemPlace)
    (hval : ∀ (j : Nat) t v, Tryd.f10.params[j]? = some t → args[j]? = some v → Value.okWide Tryd.prog W .any base t v)
    (hW : DataW.Whole enc Tryd.prog Tryd.f10.params.toList Rows.pathSlashSpec.vars false W args.toList ds gs before) :
    Calls Tryd.prog 10 args W fun e W' => ∃ v, e = .returned v ∧ Rows.pathSlashSpec.post enc Tryd.prog Tryd.f10 false true false false W args v W' := by
  have hW' := hW
  obtain ⟨p, q, hA0, hV, rfl, hfz, hnd⟩ := hW
  have hA : DataW.TrodAll enc Tryd.prog W 0 (fun _ => true) true Tryd.f10.params.toList args.toList ds p := hA0
  rw [Tryd.params10] at hA hval
  obtain ⟨v0, vs0, d0, ds0, p0, q0, hargs, rfl, rfl, h0, r0⟩ := trodAll_cons hA
  obtain ⟨v1, vs1, d1, ds1, p1, q1, rfl, rfl, rfl, h1, r1⟩ := trodAll_cons r0
  obtain ⟨rfl, rfl, rfl⟩ := trodAll_nil r1
  obtain rfl : args = #[v0, v1] := by cases args; simp_all
  obtain ⟨rfl, rfl⟩ := trodVars_none hV
  obtain ⟨a0, rfl, rfl, rfl, _⟩ := Go.ChangeMaps.open_string Tryd.underlying9 (hval 0 9 v0 rfl rfl) h0
  obtain ⟨a1, rfl, rfl, rfl, _⟩ := Go.ChangeMaps.open_string Tryd.underlying9 (hval 1 9 v1 rfl rfl) h1
  clear hA0
  obtain ⟨k, hk⟩ := G.PathSlash_true a0 a1
  refine (G.kilnlaw5_PathSlash.calls k a0 a1 true W hk).mono fun e W' ⟨he, hg⟩ => ?_
  subst he
  exact ⟨_, rfl, law_post laidOut Tryd.underlying4 (by kernel_rfl) (fun t ht => by rw [Tryd.params10] at ht; simp at ht; subst ht; exact ⟨by kernel_rfl, of_decide_eq_true (by kernel_rfl)⟩) rfl rfl hW' hg⟩

/-- A WORLD FOR THE WITNESS: the settled one, the tables (blocks 1 and 2) holding what their texts lay. -/
def lay1 : Obj → Obj
  | .cells _ t frozen => .cells (([128, 191, 160, 191, 128, 159, 144, 191, 128, 143] ++ List.replicate 22 0).map fun (x : Nat) => Value.int .u8 (x : Int)).toArray t frozen
  | o => o
def lay2 : Obj → Obj
  | .cells _ t frozen => .cells (Go.Pinned.utf8FirstZ.map fun (x : Nat) => Value.int .u8 (x : Int)).toArray t frozen
  | o => o
noncomputable def laidWorld (os : Os) : World :=
  { World.holding Tryd.prog os ⟨#[], #[], []⟩ with heap := ((World.holding Tryd.prog os ⟨#[], #[], []⟩).heap.modify 1 lay2).modify 2 lay1 }
theorem laid_met (os : Os) : laidMet Tryd.prog Rows.pathSlashRow.laid ((laidWorld os).forCall (fun _ _ => 0) ⟨#[], #[Value.string .empty, Value.string .empty], []⟩).memory :=
  laidMet_of_run' 8 (by kernel_rfl) (by kernel_rfl)
theorem reads (os : Os) {H : Type} (enc : TypeId × Value → H) : ∃ places, DataW.whole enc Tryd.prog ((laidWorld os).forCall (fun _ _ => 0) ⟨#[], #[Value.string .empty, Value.string .empty], []⟩).memory Tryd.f10.params.toList Rows.pathSlashSpec.vars false #[Value.string .empty, Value.string .empty].toList 8 = some ([.lit (.string []), .lit (.string [])], [], places) :=
  ⟨[], by kernel_rfl⟩

set_option maxRecDepth 100000 in
theorem lifted (os : Os) (started : os.Started) (H : Type) (enc : TypeId × Value → H) (F : Stop.Interp) :
    ReturnsInHanded {} Tryd.checked os 10 .any ((OpenSpec.ofChange Rows.pathSlashSpec).preRow enc Tryd.prog Tryd.f10 Rows.pathSlashRow.domain false Rows.pathSlashRow.laid) (((OpenSpec.ofChange Rows.pathSlashSpec).at F).post enc Tryd.prog Tryd.f10 false true false false) := by
  obtain ⟨places, hx⟩ := reads os enc
  refine returnsInHanded_of_row (C := Tryd.checked) (s := OpenSpec.ofChange Rows.pathSlashSpec) own started (by kernel_rfl) Tryd.func10
    (witness_row_at (enc := enc) (C := Tryd.checked) false (laidWorld os) #[Value.string .empty, Value.string .empty] rfl (by kernel_rfl) (by kernel_rfl) (by kernel_rfl)
      (OpenSpec.preRow_of_cond 8 hx (by kernel_rfl) (fun k hk => by cases hk) (by kernel_rfl) (laid_met os))) ?_
  intro W base args ds gs before hval hW _ _ _ hL _ _
  exact contract H enc W base args ds gs before hval hW

theorem said : Rows.PathSlashSaid :=
  OpenClaim.holds_of_cond 10 Tryd.f10 rfl rfl rfl rfl rfl rfl rfl ⟨rfl, rfl, rfl, rfl, rfl⟩ rfl rfl rfl rfl rfl (by kernel_rfl) Tryd.func10 (by kernel_rfl)
    (of_decide_eq_true (by kernel_rfl)) (by unfold Func.isWrapper; first | (rw [if_pos (by decide +kernel)]; kernel_rfl) | (rw [if_neg (by decide +kernel)]; exact ⟨rfl, rfl⟩))
    (fun os started H enc _ F => by rw [OpenClaim.pre_eq_preRow]; exact lifted os started H enc F)

/-- No parameter wants a stand-in; the program's own looks are off: what the card asks. -/
theorem plain (f : FuncId) (fn : Func) (hf : Tryd.pinned.checked.prog.funcNamed "kiln/kilnlaw5.PathSlash" = some f) (hfn : Tryd.pinned.checked.prog.funcs[f]? = some fn) :
    false = Tryd.pinned.checked.prog.looks [] ∧ ∀ (j : Nat) t, fn.params[j]? = some t → Tryd.pinned.checked.prog.wantsStandIn t = false := by
  obtain rfl : f = 10 := Option.some.inj ((show Tryd.prog.funcNamed "kiln/kilnlaw5.PathSlash" = some 10 by kernel_rfl).symm.trans hf) |>.symm
  obtain rfl : fn = Tryd.f10 := (Option.some.inj (Tryd.func10.symm.trans hfn)).symm
  refine ⟨by kernel_rfl, fun j t ht => ?_⟩
  rw [Tryd.params10] at ht
  have hm := Array.mem_of_getElem? ht
  simp at hm
  subst hm
  exact (show Tryd.prog.wantsStandIn 9 = false by kernel_rfl)

theorem card : Rows.PathSlashCardSaid :=
  Claim7.holds_tied_plain_at .later [] _ _ _ _ said (fun _ h => by cases h) (by kernel_rfl) (fun _ h => by cases h) pathSlash_row_tie rfl ⟨rfl, rfl⟩ (by kernel_rfl) rfl plain (by kernel_rfl)
end Go.Proofs.YtlcnhhpleiamhaaDoor.pathSlash
