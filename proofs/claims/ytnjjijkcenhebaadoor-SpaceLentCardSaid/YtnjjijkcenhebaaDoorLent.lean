/- The walk of SpaceLent. -/
import Derived.Test.YtnjjijkcenhebaaDoorSetB
set_option linter.unusedVariables false
set_option linter.unusedSimpArgs false
namespace Go.Proofs.YtnjjijkcenhebaaDoor
open Go.RowKit
set_option maxRecDepth 10000

def lentOps (p : Int) : List (Int × Int × Int) := [(7, 0, 0), (7, 0, 0), (2, 0, p), (2, 0, p), (7, 0, 0), (2, 0, 0), (7, 0, 0), (2, 0, 3), (2, 0, 3)]
def LentRel (w : World) (B g wb : Nat) (p : Int) (i : Value) (wr : World) : Prop :=
  ∃ (j : Nat) (Sv Rv Lv Wv : Value) (n : Int) (ss rs : List SI) (es : List EI), j ≤ 18 ∧ i = .int .i64 (j : Int) ∧ Has B wr (WL wb Sv Rv Lv Wv n ss rs es [rowT (.slice (some ⟨g, 0, none⟩) 9 9) 39 3 9 (opV (lentOps p))]) ∧ Match ss rs ∧ 2 ≤ ss.length ∧ ss.length ≤ 6 ∧ 0 ≤ n ∧ n ≤ 65537 * (j + 1) ∧ es.length ≤ j + 1 ∧ Below B w wr
theorem settle_rest' {B wb : Nat} {cs : Array Value} {w : World} {Sv Rv : Value} {ss rs : List SI} (h : Has B w (strT wb cs 34 :: frameOf Sv Rv ss rs)) :
    StrAt w wb cs 34 ∧ (w.ownsRow 0 35 1 Sv ss.length (ptrs ss)) ∧ (w.ownsRow 0 36 1 Rv rs.length (ptrs rs)) ∧ (∀ x ∈ ss, Sp w x.b x.g x.cap x.fr x.to x.is) ∧ (∀ y ∈ rs, Rf w y.b y.g y.cap y.fr y.to y.is) :=
  ⟨h.get 0 rfl, h.get 1 rfl, h.get 2 rfl, fun x hx => h.all (spT x) (by simp only [frameOf, List.mem_cons, List.mem_append, List.mem_map]; exact .inr (.inr (.inr (.inl ⟨x, hx, rfl⟩)))), fun y hy => h.all (rfT y) (by simp only [frameOf, List.mem_cons, List.mem_append, List.mem_map]; exact .inr (.inr (.inr (.inr ⟨y, hy, rfl⟩))))⟩

def SL (wb gS cS gR cR : Nat) (x y x1 y1 : SI) (ss rs : List SI) (W : World) : Prop :=
  W.cell? ⟨wb, 0, none⟩ = some (.slice (some ⟨gS, 0, none⟩) ss.length cS) ∧ W.cell? ⟨wb, 1, none⟩ = some (.slice (some ⟨gR, 0, none⟩) rs.length cR) ∧ W.cell? ⟨gS, 0, none⟩ = some (.pointer (some ⟨x.b, 0, none⟩)) ∧ W.cell? ⟨gS, 1, none⟩ = some (.pointer (some ⟨x1.b, 0, none⟩)) ∧ W.cell? ⟨gR, 0, none⟩ = some (.pointer (some ⟨y.b, 0, none⟩)) ∧ W.cell? ⟨gR, 1, none⟩ = some (.pointer (some ⟨y1.b, 0, none⟩))
theorem SL.of {B wb gS cS gR cR : Nat} {x y x1 y1 : SI} {ss rs : List SI} {w : World} {Lv Wv : Value} {n : Int} (h : Has B w (strT wb (wCells (.slice (some ⟨gS, 0, none⟩) ss.length cS) (.slice (some ⟨gR, 0, none⟩) rs.length cR) Lv Wv n) 34 :: frameOf (.slice (some ⟨gS, 0, none⟩) ss.length cS) (.slice (some ⟨gR, 0, none⟩) rs.length cR) ss rs))
    (hx : ss[0]? = some x ∧ ss[1]? = some x1 ∧ rs[0]? = some y ∧ rs[1]? = some y1) : SL wb gS cS gR cR x y x1 y1 ss rs w := by
  obtain ⟨kS, kSr, kRr, kx, ky⟩ := settle_rest' h
  obtain ⟨h1, h2, h3, h4⟩ := hx
  have l1 := (List.getElem?_eq_some_iff.1 h2).1
  have l2 := (List.getElem?_eq_some_iff.1 h4).1
  refine ⟨(kS.cell 0).trans rfl, (kS.cell 1).trans rfl, (RowAt.cell kSr 0 (by omega)).trans ?_, (RowAt.cell kSr 1 (by omega)).trans ?_, (RowAt.cell kRr 0 (by omega)).trans ?_, (RowAt.cell kRr 1 (by omega)).trans ?_⟩ <;> simp [ptrs, h1, h2, h3, h4]
theorem SL.keeps {wb gS cS gR cR : Nat} {x y x1 y1 : SI} {ss rs : List SI} {w w' : World} (h : SL wb gS cS gR cR x y x1 y1 ss rs w) (hk : Keeps [] w w') : SL wb gS cS gR cR x y x1 y1 ss rs w' :=
  ⟨hk.cell h.1 (by simp), hk.cell h.2.1 (by simp), hk.cell h.2.2.1 (by simp), hk.cell h.2.2.2.1 (by simp), hk.cell h.2.2.2.2.1 (by simp), hk.cell h.2.2.2.2.2 (by simp)⟩
set_option maxHeartbeats 4000000 in
theorem lent_walk (a b k : Int) (w : World) (hT : TabW w) (hw0 : 0 < w.heap.size) :
    Calls Tryd.prog 5 #[.int .i64 a, .int .i64 b, .int .i64 k] w fun e w' => e = .returned (.bool true) ∧ Below w.heap.size w w' := by
  cases hb : badNew a b with
  | true =>
    have HB := Lib.hid hb
    clear hb
    go_enter Tryd.func5, Tryd.ntmps5
    go_wp2_with fail
    refine (made_bad _ _ _ HB.out).mono ?_
    rintro e w' ⟨rfl, rfl⟩
    go_wp2_with fail
    refine (started_calls _ hw0 hT).mono ?_
    rintro e w' ⟨rfl, hB⟩
    go_wp2
    go_ret
    exact ⟨rfl, hB⟩
  | false =>
    simp [badNew] at hb
    obtain ⟨fr, rfl⟩ := Int.eq_ofNat_of_zero_le hb.1
    obtain ⟨t9, rfl⟩ := Int.eq_ofNat_of_zero_le (show 0 ≤ b by omega)
    have h1 : fr < t9 := by omega
    have h2 : t9 ≤ 65536 := by omega
    clear hb
    go_enter Tryd.func5, Tryd.ntmps5
    go_wp2_with fail
    refine (made_good fr t9 w (Has.new w) hw0 h1 h2).mono ?_
    rintro e w1 ⟨wb, Sv, Rv, x, y, rfl, H1, hm1, hx1, hx2, hB1⟩
    clear hx1 hx2
    go_wp2_with fail
    refine (plays_copy H1 hm1 (hT.below hB1 hw0) hw0 0 0 (by simp) (by simp) (by omega) (by omega) (by simp) (by simp)).mono ?_
    rintro e w2 ⟨rfl, Sv2, Rv2, Lv2, Wv2, n2, es2, ss2, rs2, H2, hm2, l1, l2, hB2, n3, n4, e2⟩
    replace hB2 := hB1.trans hB2
    clear H1 hm1 hB1
    simp only [List.length_cons, List.length_nil] at l1 l2 e2
    obtain ⟨p, hp⟩ : ∃ p, p = k % ((9 : Nat) : Int) := ⟨_, rfl⟩
    have HPL := Lib.hid hp
    clear hp
    go_wp2_with fail
    refine (place_calls w2 k 9 (by omega) (by omega)).mono ?_
    rintro e w' ⟨rfl, rfl⟩
    rw [← HPL.out]
    go_wp2_with fail
    refine (place_calls _ k 9 (by omega) (by omega)).mono ?_
    rintro e w' ⟨rfl, rfl⟩
    rw [← HPL.out]
    go_wp2_with fail
    have hr : RowAt (w2.alloc (.cells (opV (lentOps p)).toArray 39)) w2.heap.size 39 3 9 9 (opV (lentOps p)) := by
      have := RowAt.lit w2 (opV (lentOps p)).toArray 39 3 9 rfl (by simp [maxLen])
      simpa using this
    obtain ⟨H3, hB3⟩ := H2.cons (t' := rowT (.slice (some ⟨w2.heap.size, 0, none⟩) 9 9) 39 3 9 (opV (lentOps p))) ((Keeps.refl [] w2).alloc (.cells (opV (lentOps p)).toArray 39)) hr (rowT_nodup ..) (fun k hk => by simp [rowT, Value.ownBlock] at hk; omega)
    have H4 : Has w.heap.size (w2.alloc (.cells (opV (lentOps p)).toArray 39)) (WL wb Sv2 Rv2 Lv2 Wv2 n2 ss2 rs2 es2 [rowT (.slice (some ⟨w2.heap.size, 0, none⟩) 9 9) 39 3 9 (opV (lentOps p))]) := by
      refine H3.perm ?_
      rw [WL_tail (L := [rowT _ _ _ _ _])]
      exact (List.perm_append_singleton _ _).symm
    have HF := Lib.hid (show LentRel w w.heap.size w2.heap.size wb p (.int .i64 0) (w2.alloc (.cells (opV (lentOps p)).toArray 39)) from ⟨0, Sv2, Rv2, Lv2, Wv2, n2, ss2, rs2, es2, by omega, rfl, H4, hm2, by omega, by omega, by omega, by omega, by omega, hB2.trans hB3⟩)
    clear H2 hm2 hB2 hr H3 H4 hB3
    go_loopw [10] (fun i wr => LentRel w w.heap.size w2.heap.size wb p i wr) (fun i _ => 18 - (intOf i).toNat)
    case atStart => exact HF.out
    case round =>
      obtain ⟨j, Sv, Rv, Lv, Wv, n, ss, rs, es, hj, rfl, H, hm, s1, s2, n0, n1, e1, hB⟩ := hrel
      by_cases hlt : j < 18
      · have hlt' : (j : Int) < 18 := by omega
        have hrow : RowAt wr w2.heap.size 39 3 9 9 (opV (lentOps p)) := H.last (t := rowT (.slice (some ⟨w2.heap.size, 0, none⟩) 9 9) 39 3 9 (opV (lentOps p))) (by simp)
        obtain ⟨o, ho⟩ : ∃ o, (lentOps p)[j % 9]? = some o := ⟨_, List.getElem?_eq_getElem (by simp [lentOps]; omega)⟩
        obtain ⟨p1, p2, p3⟩ := opV_get (lentOps p) (j % 9) o ho
        have c1 := (hrow.cell (j % 9 * 3) (by omega)).trans p1
        have c2 := (hrow.cell (j % 9 * 3 + 1) (by omega)).trans p2
        have c3 := (hrow.cell (j % 9 * 3 + 2) (by omega)).trans p3
        obtain ⟨o1, o2, o3⟩ := o
        clear p1 p2 p3 ho
        have hkb := (Keeps.refl [] wr).alloc (.cells #[.int .i64 o1, .int .i64 ((j : Int) / 9), .int .i64 o3] 39)
        have hBb := keeps_below (B := w.heap.size) hkb (by simp) H.le
        have H5 := H.keeps0 hkb
        go_wp2_with fail
        refine (plays_calls H5 hm (hT.below (hB.trans hBb) hw0) hw0 o1 ((j : Int) / 9) o3 (by omega) (by omega) n0 (by omega) (by omega)).mono ?_
        rintro e w3 ⟨rfl, Sv3, Rv3, Lv3, Wv3, n3, es3, ss3, rs3, H6, hm3, l3, l4, hB3, n5, n6, e3⟩
        have HR := Lib.hid (show LentRel w w.heap.size w2.heap.size wb p (.int .i64 ((j + 1 : Nat) : Int)) w3 from ⟨j + 1, Sv3, Rv3, Lv3, Wv3, n3, ss3, rs3, es3, by omega, rfl, H6, hm3, by omega, by omega, by omega, by omega, by omega, hB.trans (hBb.trans hB3)⟩)
        clear H6 hm3 c1 c2 c3 hrow H H5
        go_wp2
        go_roundw
        case rel => exact HR.out
        case measure => simp [intOf]; omega
      · have hlt' : ¬ (j : Int) < 18 := by omega
        have hrl := hm.1
        have hx : ss[0]? = some (ss[0]'(by omega)) := List.getElem?_eq_getElem (by omega)
        have hy : rs[0]? = some (rs[0]'(by omega)) := List.getElem?_eq_getElem (by omega)
        have hx1 : ss[1]? = some (ss[1]'(by omega)) := List.getElem?_eq_getElem (by omega)
        have hy1 : rs[1]? = some (rs[1]'(by omega)) := List.getElem?_eq_getElem (by omega)
        generalize ss[0]'(by omega) = x at hx
        generalize rs[0]'(by omega) = y at hy
        generalize ss[1]'(by omega) = x1 at hx1
        generalize rs[1]'(by omega) = y1 at hy1
        obtain ⟨m1, m2, m3⟩ := hm.2 0 x y hx hy
        obtain ⟨m4, m5, m6⟩ := hm.2 1 x1 y1 hx1 hy1
        obtain ⟨gS, cS, rfl, rS⟩ := own_some (H.get 1 rfl) (by omega)
        obtain ⟨gR, cR, rfl, rR⟩ := own_some (H.get 2 rfl) (by omega)
        have cx := (rS.cell 0 (by omega)).trans (show (ptrs ss)[0]? = some (.pointer (some ⟨x.b, 0, none⟩)) by simp [ptrs, hx])
        have cy := (rR.cell 0 (by omega)).trans (show (ptrs rs)[0]? = some (.pointer (some ⟨y.b, 0, none⟩)) by simp [ptrs, hy])
        have cx1 := (rS.cell 1 (by omega)).trans (show (ptrs ss)[1]? = some (.pointer (some ⟨x1.b, 0, none⟩)) by simp [ptrs, hx1])
        have cy1 := (rR.cell 1 (by omega)).trans (show (ptrs rs)[1]? = some (.pointer (some ⟨y1.b, 0, none⟩)) by simp [ptrs, hy1])
        have c0 := StrAt.cell (H.get 0 rfl) 0
        have c1 := StrAt.cell (H.get 0 rfl) 1
        simp [wCells] at c0 c1
        have hr0 : 0 < rs.length := by omega
        have hs0 : 0 < ss.length := by omega
        have hr1 : 1 < rs.length := by omega
        have hs1 : 1 < ss.length := by omega
        have hr1' : 1 < (rs.length : Int) := by omega
        have hs1' : 1 < (ss.length : Int) := by omega
        have mx : x ∈ ss := List.mem_of_getElem? hx
        have my : y ∈ rs := List.mem_of_getElem? hy
        have mx1 : x1 ∈ ss := List.mem_of_getElem? hx1
        have my1 : y1 ∈ rs := List.mem_of_getElem? hy1
        have HRL := Lib.hid hrl
        have HX := Lib.hid (And.intro hx (And.intro hx1 (And.intro hy hy1)))
        have M1 := Lib.hid (And.intro m1 (And.intro m2 m3))
        have M2 := Lib.hid (And.intro m4 (And.intro m5 m6))
        have hn9 : es.length ≤ 900000 := by omega
        have HD := H.keeps0 (drew_keeps wr)
        have hle := H.le
        have hS : ∀ W, Keeps [] wr W → SL wb gS cS gR cR x y x1 y1 ss rs W := fun W hk => ⟨hk.cell c0 (by simp), hk.cell c1 (by simp), hk.cell cx (by simp), hk.cell cx1 (by simp), hk.cell cy (by simp), hk.cell cy1 (by simp)⟩
        clear hrl m1 m2 m3 m4 m5 m6 hx hy hx1 hy1 H rS rR hm
        have hHS := Lib.hid hS
        clear hS
        go_wp2_with fail
        have S0 : wr.drew.cell? ⟨wb, 0, none⟩ = some (.slice (some ⟨gS, 0, none⟩) ss.length cS) ∧ wr.drew.cell? ⟨wb, 1, none⟩ = some (.slice (some ⟨gR, 0, none⟩) rs.length cR) ∧ wr.drew.cell? ⟨gS, 0, none⟩ = some (.pointer (some ⟨x.b, 0, none⟩)) ∧ wr.drew.cell? ⟨gS, 1, none⟩ = some (.pointer (some ⟨x1.b, 0, none⟩)) ∧ wr.drew.cell? ⟨gR, 0, none⟩ = some (.pointer (some ⟨y.b, 0, none⟩)) ∧ wr.drew.cell? ⟨gR, 1, none⟩ = some (.pointer (some ⟨y1.b, 0, none⟩)) := hHS.out _ (drew_keeps wr)
        go_region_held3 (fun W => W.cell? ⟨wb, 0, none⟩ = some (.slice (some ⟨gS, 0, none⟩) ss.length cS) ∧ W.cell? ⟨wb, 1, none⟩ = some (.slice (some ⟨gR, 0, none⟩) rs.length cR) ∧ W.cell? ⟨gS, 0, none⟩ = some (.pointer (some ⟨x.b, 0, none⟩)) ∧ W.cell? ⟨gS, 1, none⟩ = some (.pointer (some ⟨x1.b, 0, none⟩)) ∧ W.cell? ⟨gR, 0, none⟩ = some (.pointer (some ⟨y.b, 0, none⟩)) ∧ W.cell? ⟨gR, 1, none⟩ = some (.pointer (some ⟨y1.b, 0, none⟩))) (first | with_reducible exact S0 | with_reducible assumption) (first | (go_at_call 13; refine (settle_calls HD hn9).mono ?_; rintro e w5 ⟨rfl, H5, hB5⟩; have S5 := SL.of H5 HX.out; have S5' : w5.cell? ⟨wb, 0, none⟩ = some (.slice (some ⟨gS, 0, none⟩) ss.length cS) ∧ w5.cell? ⟨wb, 1, none⟩ = some (.slice (some ⟨gR, 0, none⟩) rs.length cR) ∧ w5.cell? ⟨gS, 0, none⟩ = some (.pointer (some ⟨x.b, 0, none⟩)) ∧ w5.cell? ⟨gS, 1, none⟩ = some (.pointer (some ⟨x1.b, 0, none⟩)) ∧ w5.cell? ⟨gR, 0, none⟩ = some (.pointer (some ⟨y.b, 0, none⟩)) ∧ w5.cell? ⟨gR, 1, none⟩ = some (.pointer (some ⟨y1.b, 0, none⟩)) := S5; obtain ⟨kS, kSr, kRr, kx, ky⟩ := settle_rest' H5; have spA := kx x mx; have rfA : Rf w5 y.b y.g y.cap x.fr x.to x.is := (by rw [M1.out.1, M1.out.2.1, M1.out.2.2]; exact ky y my); have hle5 := H5.le) | (go_at_call 14; refine (told_calls spB rfB).mono ?_; rintro e w7 ⟨rfl, hk7⟩; have S7 := S6.keeps hk7; have S7' : w7.cell? ⟨wb, 0, none⟩ = some (.slice (some ⟨gS, 0, none⟩) ss.length cS) ∧ w7.cell? ⟨wb, 1, none⟩ = some (.slice (some ⟨gR, 0, none⟩) rs.length cR) ∧ w7.cell? ⟨gS, 0, none⟩ = some (.pointer (some ⟨x.b, 0, none⟩)) ∧ w7.cell? ⟨gS, 1, none⟩ = some (.pointer (some ⟨x1.b, 0, none⟩)) ∧ w7.cell? ⟨gR, 0, none⟩ = some (.pointer (some ⟨y.b, 0, none⟩)) ∧ w7.cell? ⟨gR, 1, none⟩ = some (.pointer (some ⟨y1.b, 0, none⟩)) := S7; have hB7 : Below w.heap.size w w7 := hB.trans ((keeps_below (drew_keeps wr) (by simp) hle).trans (hB5.trans (keeps_below (hk6.trans' hk7) (by simp) hle5)))) | (go_at_call 14; refine (told_calls spA rfA).mono ?_; rintro e w6 ⟨rfl, hk6⟩; have S6 := S5.keeps hk6; have S6' : w6.cell? ⟨wb, 0, none⟩ = some (.slice (some ⟨gS, 0, none⟩) ss.length cS) ∧ w6.cell? ⟨wb, 1, none⟩ = some (.slice (some ⟨gR, 0, none⟩) rs.length cR) ∧ w6.cell? ⟨gS, 0, none⟩ = some (.pointer (some ⟨x.b, 0, none⟩)) ∧ w6.cell? ⟨gS, 1, none⟩ = some (.pointer (some ⟨x1.b, 0, none⟩)) ∧ w6.cell? ⟨gR, 0, none⟩ = some (.pointer (some ⟨y.b, 0, none⟩)) ∧ w6.cell? ⟨gR, 1, none⟩ = some (.pointer (some ⟨y1.b, 0, none⟩)) := S6; have spB := Sp.keeps (kx x1 mx1) hk6 (by simp) (by simp); have rfB : Rf w6 y1.b y1.g y1.cap x1.fr x1.to x1.is := (by rw [M2.out.1, M2.out.2.1, M2.out.2.2]; exact (ky y1 my1).keeps hk6 (by simp) (by simp))) | (go_at_call 10; refine (started_calls w7 (by have := hB7.size; omega) (hT.below hB7 hw0)).mono ?_; rintro e w8 ⟨rfl, hB8⟩; have S8 := S7.keeps (Keeps.of_below hB8); have S8' : w8.cell? ⟨wb, 0, none⟩ = some (.slice (some ⟨gS, 0, none⟩) ss.length cS) ∧ w8.cell? ⟨wb, 1, none⟩ = some (.slice (some ⟨gR, 0, none⟩) rs.length cR) ∧ w8.cell? ⟨gS, 0, none⟩ = some (.pointer (some ⟨x.b, 0, none⟩)) ∧ w8.cell? ⟨gS, 1, none⟩ = some (.pointer (some ⟨x1.b, 0, none⟩)) ∧ w8.cell? ⟨gR, 0, none⟩ = some (.pointer (some ⟨y.b, 0, none⟩)) ∧ w8.cell? ⟨gR, 1, none⟩ = some (.pointer (some ⟨y1.b, 0, none⟩)) := S8) | fail)
        all_goals
          go_wp2
          go_ret
          exact ⟨rfl, hB7.trans (hB8.mono hB7.size)⟩
end Go.Proofs.YtnjjijkcenhebaaDoor
