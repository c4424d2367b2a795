/- lists, plays: one call of a space beside the document's. -/
import Derived.Test.YtnjjijkcenhebaaDoorLaw2
set_option linter.unusedVariables false
set_option linter.unusedSimpArgs false
namespace Go.Proofs.YtnjjijkcenhebaaDoor
open Go.RowKit
set_option maxRecDepth 10000

/-- the two sides tell the same -/
def Match (ss rs : List SI) : Prop := ss.length = rs.length ∧ ∀ (i : Nat) (x y : SI), ss[i]? = some x → rs[i]? = some y → x.fr = y.fr ∧ x.to = y.to ∧ x.is = y.is
theorem Match.set {ss rs : List SI} (h : Match ss rs) {i : Nat} {x y : SI} (hx : ss[i]? = some x) (hy : rs[i]? = some y) (is : List Bool) : Match (ss.set i { x with is := is }) (rs.set i { y with is := is }) := by
  refine ⟨by simpa using h.1, fun j u v hu hv => ?_⟩
  rw [List.getElem?_set] at hu hv
  by_cases e : i = j
  · subst e
    obtain ⟨h1, h2, _⟩ := h.2 i x y hx hy
    have hi1 := (List.getElem?_eq_some_iff.1 hx).1
    have hi2 := (List.getElem?_eq_some_iff.1 hy).1
    simp [hi1] at hu
    simp [hi2] at hv
    subst hu
    subst hv
    exact ⟨h1, h2, rfl⟩
  · simp [e] at hu hv
    exact h.2 j u v hu hv
theorem Match.add {ss rs : List SI} (h : Match ss rs) {x y : SI} (h1 : x.fr = y.fr) (h2 : x.to = y.to) (h3 : x.is = y.is) : Match (ss ++ [x]) (rs ++ [y]) := by
  refine ⟨by simp [h.1], fun j u v hu hv => ?_⟩
  rw [List.getElem?_append] at hu hv
  rw [← h.1] at hv
  by_cases e : j < ss.length
  · simp only [e, if_true] at hu hv
    exact h.2 j u v hu hv
  · simp only [e, if_false] at hu hv
    have : j - ss.length = 0 := by
      by_cases e2 : j - ss.length = 0
      · exact e2
      · rw [List.getElem?_eq_none (by simp; omega)] at hu
        cases hu
    rw [this] at hu hv
    simp at hu hv
    subst hu
    subst hv
    exact ⟨h1, h2, h3⟩

/-- where the spaces stand among the things -/
theorem WL_sp {wb : Nat} {L : List Thing} {Sv Rv Lv Wv : Value} {n : Int} {ss rs : List SI} {es : List EI} {i : Nat} {x : SI} (hx : ss[i]? = some x) : (WL wb Sv Rv Lv Wv n ss rs es L)[5 + i]? = some (spT x) := by
  have hi := (List.getElem?_eq_some_iff.1 hx).1
  rw [Nat.add_comm]
  show (ss.map spT ++ _)[i]? = _
  rw [List.getElem?_append_left (by simpa using hi), List.getElem?_map, hx]
  rfl
theorem WL_rf {wb : Nat} {L : List Thing} {Sv Rv Lv Wv : Value} {n : Int} {ss rs : List SI} {es : List EI} {i : Nat} {y : SI} (hy : rs[i]? = some y) : (WL wb Sv Rv Lv Wv n ss rs es L)[5 + (ss.length + i)]? = some (rfT y) := by
  have hi := (List.getElem?_eq_some_iff.1 hy).1
  rw [Nat.add_comm]
  show (ss.map spT ++ (rs.map rfT ++ _))[ss.length + i]? = _
  rw [List.getElem?_append_right (by simp), List.length_map, Nat.add_sub_cancel_left, List.getElem?_append_left (by simpa using hi), List.getElem?_map, hy]
  rfl
theorem ptrs_set {ss : List SI} {i : Nat} {x : SI} (hx : ss[i]? = some x) (is : List Bool) : ptrs (ss.set i { x with is := is }) = ptrs ss := by
  have hi := (List.getElem?_eq_some_iff.1 hx).1
  refine List.ext_getElem? fun j => ?_
  simp only [ptrs, List.getElem?_map, List.getElem?_set]
  by_cases e : i = j
  · subst e
    rw [if_pos rfl, if_pos hi, hx]
    rfl
  · simp [e]
theorem WL_set_sp {wb : Nat} {L : List Thing} {Sv Rv Lv Wv : Value} {n : Int} {ss rs : List SI} {es : List EI} {i : Nat} {x : SI} (hx : ss[i]? = some x) (is : List Bool) :
    (WL wb Sv Rv Lv Wv n ss rs es L).set (5 + i) (spT { x with is := is }) = WL wb Sv Rv Lv Wv n (ss.set i { x with is := is }) rs es L := by
  have hi := (List.getElem?_eq_some_iff.1 hx).1
  have e1 := ptrs_set hx is
  unfold WL
  rw [e1, List.length_set, Nat.add_comm 5 i]
  simp only [List.set_cons_succ]
  rw [List.set_append_left _ _ (by simpa using hi), List.map_set]
theorem WL_set_rf {wb : Nat} {L : List Thing} {Sv Rv Lv Wv : Value} {n : Int} {ss rs : List SI} {es : List EI} {i : Nat} {y : SI} (hy : rs[i]? = some y) (is : List Bool) :
    (WL wb Sv Rv Lv Wv n ss rs es L).set (5 + (ss.length + i)) (rfT { y with is := is }) = WL wb Sv Rv Lv Wv n ss (rs.set i { y with is := is }) es L := by
  have hi := (List.getElem?_eq_some_iff.1 hy).1
  have e1 := ptrs_set hy is
  unfold WL
  rw [e1, List.length_set, Nat.add_comm 5 (ss.length + i)]
  simp only [List.set_cons_succ]
  rw [List.set_append_right _ _ (by simp), List.length_map, Nat.add_sub_cancel_left, List.set_append_left _ _ (by simpa using hi), List.map_set]

theorem WL_rf' {wb : Nat} {L : List Thing} {Sv Rv Lv Wv : Value} {n : Int} {ss ss' rs : List SI} {es : List EI} (hl : ss'.length = ss.length) {i : Nat} {y : SI} (hy : rs[i]? = some y) : (WL wb Sv Rv Lv Wv n ss' rs es L)[5 + (ss.length + i)]? = some (rfT y) := by
  rw [← hl]
  exact WL_rf hy
/-- a space has been changed -/
theorem Has.sp {B wb : Nat} {L : List Thing} {w w' : World} {Sv Rv Lv Wv : Value} {n : Int} {ss rs : List SI} {es : List EI} (h : Has B w (WL wb Sv Rv Lv Wv n ss rs es L)) {i : Nat} {x : SI} (hx : ss[i]? = some x) {is : List Bool}
    (hs : Sp w' x.b x.g x.cap x.fr x.to is) (hk : Keeps [x.b, x.g] w w') : Has B w' (WL wb Sv Rv Lv Wv n (ss.set i { x with is := is }) rs es L) ∧ Below B w w' := by
  have := h.upd (5 + i) (spT { x with is := is }) (WL_sp hx) hk hs (by have := hs.facts; simp [spT]; omega) (fun k hk => .inl hk)
  rw [WL_set_sp hx] at this
  exact this
theorem Has.rf {B wb : Nat} {L : List Thing} {w w' : World} {Sv Rv Lv Wv : Value} {n : Int} {ss rs : List SI} {es : List EI} (h : Has B w (WL wb Sv Rv Lv Wv n ss rs es L)) {i : Nat} {y : SI} (hy : rs[i]? = some y) {is : List Bool}
    (hs : Rf w' y.b y.g y.cap y.fr y.to is) (hk : Keeps [y.b, y.g] w w') : Has B w' (WL wb Sv Rv Lv Wv n ss (rs.set i { y with is := is }) es L) ∧ Below B w w' := by
  have := h.upd (5 + (ss.length + i)) (rfT { y with is := is }) (WL_rf hy) hk hs (by have := hs.facts; simp [rfT]; omega) (fun k hk => .inl hk)
  rw [WL_set_rf hy] at this
  exact this
theorem TabW.below {w w' : World} {B : Nat} (h : TabW w) (hb : Below B w w') (h0 : 0 < B) : TabW w' := fun j hj => (hb.cell (p := ⟨0, j, none⟩) h0).trans (h j hj)

/-- the number of the operation's list -/
def opN (kind n : Int) (is : List Bool) : Int := if kind = 9 then ((trues is).length : Nat) else n
def ListsPost (L : List Thing) (B wb : Nat) (Sv Rv : Value) (n : Int) (ss rs : List SI) (ne : Nat) (w : World) (e : Ending) (w' : World) : Prop :=
  e = .returned (.bool true) ∧ ∃ Lv Wv n' es ss' rs', Has B w' (WL wb Sv Rv Lv Wv n' ss' rs' es L) ∧ Match ss' rs' ∧ ss'.length = ss.length ∧ Below B w w' ∧ n ≤ n' ∧ n' ≤ n + 65537 ∧ es.length ≤ ne + 1

set_option maxHeartbeats 2000000 in
theorem lists_list {B wb : Nat} {L : List Thing} {w : World} {Sv Rv Lv Wv : Value} {n : Int} {ss rs : List SI} {es : List EI} (h : Has B w (WL wb Sv Rv Lv Wv n ss rs es L)) (hm : Match ss rs)
    {i : Nat} {x y : SI} (hx : ss[i]? = some x) (hy : rs[i]? = some y) (k2 k3 : Int)
    (hn0 : 0 ≤ n) (hn1 : n ≤ 900000000000) (hes : es.length ≤ 900000) :
    Calls Tryd.prog 32 #[.pointer (some ⟨wb, 0, none⟩), .agg #[.int .i64 7, .int .i64 k2, .int .i64 k3], .pointer (some ⟨x.b, 0, none⟩), .pointer (some ⟨y.b, 0, none⟩)] w (ListsPost L B wb Sv Rv n ss rs es.length w) := by
  obtain ⟨m1, m2, m3⟩ := hm.2 i x y hx hy
  have hsp0 := h.get _ (WL_sp hx)
  have hfc := Sp.facts hsp0
  have htl : (trues x.is).length ≤ 65536 := by have := trues_len_le x.is; omega
  go_enter Tryd.func32, Tryd.ntmps32
  go_wp2_with fail
  have hb0 := keeps_below (B := B) ((Keeps.refl [] w).alloc (.cells #[.int .i64 7, .int .i64 k2, .int .i64 k3] 39)) (by simp) h.le
  have h1 := h.keeps0 ((Keeps.refl [] w).alloc (.cells #[.int .i64 7, .int .i64 k2, .int .i64 k3] 39))
  refine (list_calls (h1.get _ (WL_sp hx))).mono ?_
  rintro e w1 ⟨v, rfl, hown, hf, hk1⟩
  obtain ⟨h2, hb1⟩ := h1.cons (t' := intsT v (nums x.fr (trues x.is))) hk1 hown (rowT_nodup ..) (fun k hk => hf k (by simpa [intsT, rowT] using hk))
  go_wp2_with fail
  refine (keep_calls h2 hn0 (by omega) (by omega) (by rw [nums_length]; omega)).mono ?_
  rintro e w2 ⟨rfl, Lv2, Wv2, n2, es2, h3, hb2, hn2, he2, hv2⟩
  go_wp2_with fail
  refine (rlist_calls (h3.get _ (WL_rf hy))).mono ?_
  rintro e w3 ⟨u, rfl, hu, _, hk3⟩
  rw [← m1, ← m3] at hu
  go_wp2_with fail
  refine (same_calls (hv2.keeps hk3 (by simp)) hu).mono ?_
  rintro e w4 ⟨rfl, hk4⟩
  rw [nums_length] at hn2
  go_wp2
  go_ret
  refine ⟨by simp, Lv2, Wv2, n2, es2, ss, rs, (h3.keeps0 hk3).keeps0 hk4, hm, rfl, ?_, by omega, by omega, he2⟩
  exact hb0.trans (hb1.trans (hb2.trans (keeps_below (hk3.trans' hk4) (by simp) h3.le)))

theorem takeAllOut_len (fr : Nat) (is : List Bool) (k : Int) : (takeAllOut fr is k).length ≤ is.length := by
  unfold takeAllOut
  split
  · rw [nums_length, List.length_take]
    have := trues_len_le is
    omega
  · simp
/-- a space has been changed, and a list has been handed out -/
theorem Has.spNew {B wb : Nat} {L : List Thing} {w w' : World} {Sv Rv Lv Wv v : Value} {n : Int} {ss rs : List SI} {es : List EI} (h : Has B w (WL wb Sv Rv Lv Wv n ss rs es L)) {i : Nat} {x : SI} (hx : ss[i]? = some x) {is : List Bool} {l : List Int}
    (hs : Sp w' x.b x.g x.cap x.fr x.to is) (hk : Keeps [x.b, x.g] w w') (hv : IntsAt w' v l) (hf : Fresh w v) : Has B w' (intsT v l :: WL wb Sv Rv Lv Wv n (ss.set i { x with is := is }) rs es L) ∧ Below B w w' := by
  obtain ⟨h1, h2⟩ := h.updNew (5 + i) (spT { x with is := is }) (intsT v l) (WL_sp hx) hk hs (by have := hs.facts; simp [spT]; omega) (fun k hk => .inl hk) hv (rowT_nodup ..) (fun k hk => hf k (by simpa [intsT, rowT] using hk)) (fun k hk hm => by
    have h3 := hf k (by simpa [intsT, rowT] using hk)
    have h4 := h.lt k (mem_fps (List.mem_of_getElem? (WL_sp hx)) hm)
    omega)
  rw [WL_set_sp hx] at h1
  exact ⟨h1, h2⟩

set_option maxHeartbeats 2000000 in
theorem lists_take {B wb : Nat} {L : List Thing} {w : World} {Sv Rv Lv Wv : Value} {n : Int} {ss rs : List SI} {es : List EI} (h : Has B w (WL wb Sv Rv Lv Wv n ss rs es L)) (hm : Match ss rs) (hT : TabW w) (hB0 : 0 < B)
    {i : Nat} {x y : SI} (hx : ss[i]? = some x) (hy : rs[i]? = some y) (k2 k3 : Int)
    (hn0 : 0 ≤ n) (hn1 : n ≤ 900000000000) (hes : es.length ≤ 900000) :
    Calls Tryd.prog 32 #[.pointer (some ⟨wb, 0, none⟩), .agg #[.int .i64 2, .int .i64 k2, .int .i64 k3], .pointer (some ⟨x.b, 0, none⟩), .pointer (some ⟨y.b, 0, none⟩)] w (ListsPost L B wb Sv Rv n ss rs es.length w) := by
  obtain ⟨m1, m2, m3⟩ := hm.2 i x y hx hy
  have M1 := Lib.hid m1
  have M3 := Lib.hid m3
  clear m1 m2 m3
  have hsp0 := h.get _ (WL_sp hx)
  have hfc := Sp.facts hsp0
  have hrf0 := h.get _ (WL_rf hy)
  have hfr := Rf.facts hrf0
  go_enter Tryd.func32, Tryd.ntmps32
  go_wp2_with fail
  have hb0 := keeps_below (B := B) ((Keeps.refl [] w).alloc (.cells #[.int .i64 2, .int .i64 k2, .int .i64 k3] 39)) (by simp) h.le
  have h1 := h.keeps0 ((Keeps.refl [] w).alloc (.cells #[.int .i64 2, .int .i64 k2, .int .i64 k3] 39))
  refine (takeAll_calls (h1.get _ (WL_sp hx)) (hT.below hb0 hB0) _).mono ?_
  rintro e w1 ⟨v, rfl, hown, hf, hsp, hk1⟩
  obtain ⟨h2, hb1⟩ := h1.spNew hx hsp hk1 hown hf
  go_wp2_with fail
  refine (keep_calls h2 hn0 (by omega) (by omega) (by have := takeAllOut_len x.fr x.is k3; omega)).mono ?_
  rintro e w2 ⟨rfl, Lv2, Wv2, n2, es2, h3, hb2, hn2, he2, hv2⟩
  go_wp2_with fail
  refine (rtakeAll_calls (h3.get _ (WL_rf' (ss := ss) (by simp) hy)) _).mono ?_
  rintro e w3 ⟨u, rfl, hu, hfu, hrf, hk3⟩
  rw [← M3.out]
  have hne := hv2.keeps hk3 (by
    intro k hk hm
    have h5 := hf k hk
    have h6 := Rf.facts hrf0
    simp at hm
    simp at h5
    omega)
  obtain ⟨h4, hb3⟩ := h3.rf hy hrf hk3
  rw [← M1.out, ← M3.out] at hu
  rw [← M3.out] at h4
  go_wp2_with fail
  refine (same_calls hne hu).mono ?_
  rintro e w4 ⟨rfl, hk4⟩
  have hlen := takeAllOut_len x.fr x.is k3
  go_wp2
  go_ret
  refine ⟨by simp, Lv2, Wv2, n2, es2, _, _, h4.keeps0 hk4, hm.set hx hy _, by simp, ?_, by omega, by omega, he2⟩
  exact hb0.trans (hb1.trans (hb2.trans (hb3.trans (keeps_below hk4 (by simp) h4.le))))

set_option maxHeartbeats 2000000 in
theorem lists_fill {B wb : Nat} {L : List Thing} {w : World} {Sv Rv Lv Wv : Value} {n : Int} {ss rs : List SI} {es : List EI} (h : Has B w (WL wb Sv Rv Lv Wv n ss rs es L)) (hm : Match ss rs) (hT : TabW w) (hB0 : 0 < B)
    {i : Nat} {x y : SI} (hx : ss[i]? = some x) (hy : rs[i]? = some y) (k2 k3 : Int)
    (hn0 : 0 ≤ n) (hn1 : n ≤ 900000000000) (hes : es.length ≤ 900000) :
    Calls Tryd.prog 32 #[.pointer (some ⟨wb, 0, none⟩), .agg #[.int .i64 9, .int .i64 k2, .int .i64 k3], .pointer (some ⟨x.b, 0, none⟩), .pointer (some ⟨y.b, 0, none⟩)] w (ListsPost L B wb Sv Rv n ss rs es.length w) := by
  obtain ⟨m1, m2, m3⟩ := hm.2 i x y hx hy
  have M1 := Lib.hid m1
  have M3 := Lib.hid m3
  clear m1 m2 m3
  have hsp0 := h.get _ (WL_sp hx)
  have hfc := Sp.facts hsp0
  have hrf0 := h.get _ (WL_rf hy)
  have hfr := Rf.facts hrf0
  go_enter Tryd.func32, Tryd.ntmps32
  go_wp2_with fail
  have hb0 := keeps_below (B := B) ((Keeps.refl [] w).alloc (.cells #[.int .i64 9, .int .i64 k2, .int .i64 k3] 39)) (by simp) h.le
  have h1 := h.keeps0 ((Keeps.refl [] w).alloc (.cells #[.int .i64 9, .int .i64 k2, .int .i64 k3] 39))
  refine (sp_free (h1.get _ (WL_sp hx))).mono ?_
  rintro e w0 ⟨rfl, rfl⟩
  go_wp2_with fail
  refine (takeAll_calls (h1.get _ (WL_sp hx)) (hT.below hb0 hB0) _).mono ?_
  rintro e w1 ⟨v, rfl, hown, hf, hsp, hk1⟩
  obtain ⟨h2, hb1⟩ := h1.spNew hx hsp hk1 hown hf
  go_wp2_with fail
  refine (keep_calls h2 hn0 (by omega) (by omega) (by have := takeAllOut_len x.fr x.is ((trues x.is).length : Int); omega)).mono ?_
  rintro e w2 ⟨rfl, Lv2, Wv2, n2, es2, h3, hb2, hn2, he2, hv2⟩
  go_wp2_with fail
  refine (rtakeAll_calls (h3.get _ (WL_rf' (ss := ss) (by simp) hy)) _).mono ?_
  rintro e w3 ⟨u, rfl, hu, hfu, hrf, hk3⟩
  rw [← M3.out]
  have hne := hv2.keeps hk3 (by
    intro k hk hm
    have h5 := hf k hk
    have h6 := Rf.facts hrf0
    simp at hm
    simp at h5
    omega)
  obtain ⟨h4, hb3⟩ := h3.rf hy hrf hk3
  rw [← M1.out, ← M3.out] at hu
  rw [← M3.out] at h4
  go_wp2_with fail
  refine (same_calls hne hu).mono ?_
  rintro e w4 ⟨rfl, hk4⟩
  have hlen := takeAllOut_len x.fr x.is ((trues x.is).length : Int)
  go_wp2
  go_ret
  refine ⟨by simp, Lv2, Wv2, n2, es2, _, _, h4.keeps0 hk4, hm.set hx hy _, by simp, ?_, by omega, by omega, he2⟩
  exact hb0.trans (hb1.trans (hb2.trans (hb3.trans (keeps_below hk4 (by simp) h4.le))))
end Go.Proofs.YtnjjijkcenhebaaDoor
