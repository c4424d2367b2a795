/- plays of any kind; made; started. -/
import Derived.Test.YtnjjijkcenhebaaDoorLaw4
set_option linter.unusedVariables false
set_option linter.unusedSimpArgs false
namespace Go.Proofs.YtnjjijkcenhebaaDoor
open Go.RowKit
set_option maxRecDepth 10000

theorem PlaysPost.weaken {L : List Thing} {B wb : Nat} {n : Int} {nn ne : Nat} {w : World} {e : Ending} {w' : World} (h : PlaysPost L B wb n (nn + 1) ne w e w') (hn : nn < 6) : PlaysPost L B wb n nn ne w e w' := by
  obtain ⟨h0, Sv, Rv, Lv, Wv, n', es, ss, rs, h1, h2, h3, h4, h5⟩ := h
  exact ⟨h0, Sv, Rv, Lv, Wv, n', es, ss, rs, h1, h2, by omega, by omega, h5⟩
theorem plays_calls {B wb : Nat} {L : List Thing} {w : World} {Sv Rv Lv Wv : Value} {n : Int} {ss rs : List SI} {es : List EI} (h : Has B w (WL wb Sv Rv Lv Wv n ss rs es L)) (hm : Match ss rs) (hT : TabW w) (hB0 : 0 < B)
    (kk k2 k3 : Int) (hl0 : 1 ≤ ss.length) (hl1 : ss.length ≤ 100) (hn0 : 0 ≤ n) (hn1 : n ≤ 900000000000) (hes : es.length ≤ 900000) :
    Calls Tryd.prog 11 #[.pointer (some ⟨wb, 0, none⟩), .agg #[.int .i64 kk, .int .i64 k2, .int .i64 k3]] w (PlaysPost L B wb n ss.length es.length w) := by
  by_cases a1 : kk = 1
  · subst a1; exact plays_take h hm hT hB0 k2 k3 hl0 hl1 hn0 hn1 hes
  by_cases a2 : kk = 2
  · subst a2; exact plays_takeAll h hm hT hB0 k2 k3 hl0 hl1 hn0 hn1 hes
  by_cases a3 : kk = 3
  · subst a3; exact plays_claim h hm hT hB0 k2 k3 hl0 hl1 hn0 hn1 hes
  by_cases a4 : kk = 4
  · subst a4; exact plays_give h hm hT hB0 k2 k3 hl0 hl1 hn0 hn1 hes
  by_cases a5 : kk = 5
  · subst a5; exact plays_has h hm hT hB0 k2 k3 hl0 hl1 hn0 hn1 hes
  by_cases a6 : kk = 6
  · subst a6; exact plays_free h hm hT hB0 k2 k3 hl0 hl1 hn0 hn1 hes
  by_cases a7 : kk = 7
  · subst a7; exact plays_list h hm hT hB0 k2 k3 hl0 hl1 hn0 hn1 hes
  by_cases a8 : kk = 8
  · subst a8
    by_cases h6 : ss.length < 6
    · exact (plays_copy h hm hT hB0 k2 k3 hl0 hl1 hn0 hn1 hes h6).mono fun e w' hh => hh.weaken h6
    · exact plays_copyNo h hm hT hB0 k2 k3 hl0 hl1 hn0 hn1 hes (by omega)
  by_cases a9 : kk = 9
  · subst a9; exact plays_fill h hm hT hB0 k2 k3 hl0 hl1 hn0 hn1 hes
  exact plays_none h hm hT hB0 kk k2 k3 hl0 hl1 hn0 hn1 hes (by simpa using a1) (by simpa using a2) (by simpa using a3) (by simpa using a4) (by simpa using a5) (by simpa using a6) (by simpa using a7) (by simpa using a8) (by simpa using a9)

theorem num_calls (w : World) (k : Int) : Calls Tryd.prog 17 #[.int .i64 k] w fun e w' => e = .returned (.int .i64 k) ∧ w = w' := by
  go_enter Tryd.func17, Tryd.ntmps17
  go_wp2
  go_ret
  exact ⟨rfl, rfl⟩
theorem made_bad (fr to : Int) (w : World) (h : badNew fr to = true) :
    Calls Tryd.prog 9 #[.int .i64 fr, .int .i64 to] w fun e w' => e = .returned (.tuple #[.pointer none, .bool true]) ∧ w = w' := by
  go_enter Tryd.func9, Tryd.ntmps9
  go_wp2_with (first | (go_at_call 16; refine (new_bad _ _ _ h).mono ?_; rintro e w' ⟨rfl, rfl⟩) | (go_at_call 30; refine (rnew_bad _ _ _ h).mono ?_; rintro e w' ⟨rfl, rfl⟩) | (go_at_call 17; refine (num_calls _ _).mono ?_; rintro e w' ⟨rfl, rfl⟩))
  go_ret2
  exact ⟨rfl, rfl⟩

theorem perm_made {α : Type} (p q s r S y x : α) (L : List α) : (p :: q :: s :: r :: S :: y :: x :: L).Perm (s :: S :: r :: p :: q :: x :: y :: L) := by
  classical
  rw [List.perm_iff_count]
  intro a
  simp only [List.count_cons]
  omega
def MadePost (B fr to : Nat) (L : List Thing) (w : World) (e : Ending) (w' : World) : Prop :=
  ∃ wb Sv Rv x y, e = .returned (.tuple #[.pointer (some ⟨wb, 0, none⟩), .bool true]) ∧ Has B w' (WL wb Sv Rv (.slice none 0 0) (.slice none 0 0) 0 [x] [y] [] L) ∧ Match [x] [y] ∧ x.fr = fr ∧ x.to = to ∧ Below B w w'
set_option maxHeartbeats 2000000 in
theorem made_good {B : Nat} {L : List Thing} (fr to : Nat) (w : World) (h : Has B w L) (hB0 : 0 < B) (h1 : fr < to) (h2 : to ≤ 65536) :
    Calls Tryd.prog 9 #[.int .i64 (fr : Int), .int .i64 (to : Int)] w (MadePost B fr to L w) := by
  have hw0 : 0 < w.heap.size := by have := h.le; omega
  go_enter Tryd.func9, Tryd.ntmps9
  go_wp2_with fail
  refine (new_good fr to w h1 h2 hw0).mono ?_
  rintro e w1 ⟨b, g, cap, rfl, hs1, hb1, hg1, hk1⟩
  obtain ⟨H1, hB1⟩ := h.cons (t' := spT ⟨b, g, cap, fr, to, List.replicate (to - fr) true⟩) hk1 hs1 (by have := hs1.facts; simp [spT]; omega) (fun k hk => by simp [spT] at hk; omega)
  go_wp2_with fail
  refine (rnew_good fr to w1 h1 h2 (by have := hk1.size; omega)).mono ?_
  rintro e w2 ⟨rb, rg, rcap, rfl, hs2, hb2, hg2, hk2⟩
  obtain ⟨H2, hB2⟩ := H1.cons (t' := rfT ⟨rb, rg, rcap, fr, to, List.replicate (to - fr) true⟩) hk2 hs2 (by have := hs2.facts; simp [rfT]; omega) (fun k hk => by simp [rfT] at hk; omega)
  go_wp2_with (first | (go_at_call 17; refine (num_calls _ _).mono ?_; rintro e w' ⟨rfl, rfl⟩) | fail)
  obtain ⟨H3, hB3⟩ := H2.cons (w' := w2.alloc (.cells #[.pointer (some ⟨b, 0, none⟩)] 35)) (t' := rowT (.slice (some ⟨w2.heap.size, 0, none⟩) 1 1) 35 1 1 [.pointer (some ⟨b, 0, none⟩)]) ((Keeps.refl [] w2).alloc _) (RowAt.lit w2 #[.pointer (some ⟨b, 0, none⟩)] 35 1 1 rfl (by simp [maxLen])) (rowT_nodup ..) (fun k hk => by simp [rowT, Value.ownBlock] at hk; omega)
  obtain ⟨H4, hB4⟩ := H3.cons (w' := (w2.alloc (.cells #[.pointer (some ⟨b, 0, none⟩)] 35)).alloc (.cells #[.pointer (some ⟨rb, 0, none⟩)] 36)) (t' := rowT (.slice (some ⟨w2.heap.size + 1, 0, none⟩) 1 1) 36 1 1 [.pointer (some ⟨rb, 0, none⟩)]) ((Keeps.refl [] _).alloc _) (by have := RowAt.lit (w2.alloc (.cells #[.pointer (some ⟨b, 0, none⟩)] 35)) #[.pointer (some ⟨rb, 0, none⟩)] 36 1 1 rfl (by simp [maxLen]); simp at this; exact this) (rowT_nodup ..) (fun k hk => by simp [rowT, Value.ownBlock] at hk; simp; omega)
  obtain ⟨H5, hB5⟩ := H4.cons (w' := ((w2.alloc (.cells #[.pointer (some ⟨b, 0, none⟩)] 35)).alloc (.cells #[.pointer (some ⟨rb, 0, none⟩)] 36)).alloc (.cells (wCells (.slice (some ⟨w2.heap.size, 0, none⟩) 1 1) (.slice (some ⟨w2.heap.size + 1, 0, none⟩) 1 1) (.slice none 0 0) (.slice none 0 0) 0) 34)) (t' := strT (w2.heap.size + 1 + 1) (wCells (.slice (some ⟨w2.heap.size, 0, none⟩) 1 1) (.slice (some ⟨w2.heap.size + 1, 0, none⟩) 1 1) (.slice none 0 0) (.slice none 0 0) 0) 34) ((Keeps.refl [] _).alloc _) (by have := StrAt.new ((w2.alloc (.cells #[.pointer (some ⟨b, 0, none⟩)] 35)).alloc (.cells #[.pointer (some ⟨rb, 0, none⟩)] 36)) (wCells (.slice (some ⟨w2.heap.size, 0, none⟩) 1 1) (.slice (some ⟨w2.heap.size + 1, 0, none⟩) 1 1) (.slice none 0 0) (.slice none 0 0) 0) 34; simp at this; exact this) (strT_nodup ..) (fun k hk => by simp [strT] at hk; simp; omega)
  change Has B (((w2.alloc (.cells #[.pointer (some ⟨b, 0, none⟩)] 35)).alloc (.cells #[.pointer (some ⟨rb, 0, none⟩)] 36)).alloc (.cells #[.slice (some ⟨w2.heap.size, 0, none⟩) 1 1, .slice (some ⟨w2.heap.size + 1, 0, none⟩) 1 1, .slice none 0 0, .slice none 0 0, .int .i64 0] 34)) _ at H5
  refine (told_calls (H5.get 4 rfl) (H5.get 3 rfl)).mono ?_
  rintro e w6 ⟨rfl, hk6⟩
  have H6 := H5.keeps0 hk6
  have hB6 := keeps_below (B := B) hk6 (by simp) H5.le
  go_wp2
  go_ret2
  obtain ⟨H7, hB7⟩ := H6.cons (t' := rowT (.slice none 0 0) 49 1 0 []) (Keeps.refl _ _) (World.ownsRow_nil _ _ _ _) (rowT_nodup ..) (fun k hk => by simp [rowT, Value.ownBlock] at hk)
  obtain ⟨H8, hB8⟩ := H7.cons (t' := rowT (.slice none 0 0) 49 1 0 []) (Keeps.refl _ _) (World.ownsRow_nil _ _ _ _) (rowT_nodup ..) (fun k hk => by simp [rowT, Value.ownBlock] at hk)
  refine ⟨w2.heap.size + 1 + 1, .slice (some ⟨w2.heap.size, 0, none⟩) 1 1, .slice (some ⟨w2.heap.size + 1, 0, none⟩) 1 1, ⟨b, g, cap, fr, to, List.replicate (to - fr) true⟩, ⟨rb, rg, rcap, fr, to, List.replicate (to - fr) true⟩, rfl, H8.perm ?_, ⟨rfl, fun i u v hu hv => ?_⟩, rfl, rfl, hB1.trans (hB2.trans (hB3.trans (hB4.trans (hB5.trans hB6))))⟩
  · exact perm_made _ _ _ _ _ _ _ _
  · match i, hu, hv with
    | 0, hu, hv => cases hu; cases hv; exact ⟨rfl, rfl, rfl⟩

/-- operations in a row -/
def opV (l : List (Int × Int × Int)) : List Value := l.flatMap fun o => [.int .i64 o.1, .int .i64 o.2.1, .int .i64 o.2.2]
theorem opV_len (l : List (Int × Int × Int)) : (opV l).length = l.length * 3 := by
  induction l with
  | nil => rfl
  | cons a l ih => simp only [opV, List.flatMap_cons, List.length_append, List.length_cons, List.length_nil] at *; omega
theorem opV_get (l : List (Int × Int × Int)) : ∀ (j : Nat) (o : Int × Int × Int), l[j]? = some o → (opV l)[j * 3]? = some (.int .i64 o.1) ∧ (opV l)[j * 3 + 1]? = some (.int .i64 o.2.1) ∧ (opV l)[j * 3 + 2]? = some (.int .i64 o.2.2) := by
  induction l with
  | nil => intro j o h; simp at h
  | cons a l ih =>
    intro j o h
    cases j with
    | zero => simp at h; subst h; exact ⟨rfl, rfl, rfl⟩
    | succ j =>
      obtain ⟨h1, h2, h3⟩ := ih j o (by simpa using h)
      have e : opV (a :: l) = [.int .i64 a.1, .int .i64 a.2.1, .int .i64 a.2.2] ++ opV l := rfl
      rw [e, List.getElem?_append_right (by simp; omega), List.getElem?_append_right (by simp; omega), List.getElem?_append_right (by simp; omega)]
      simp only [List.length_cons, List.length_nil]
      rw [show (j + 1) * 3 - (0 + 1 + 1 + 1) = j * 3 by omega, show (j + 1) * 3 + 1 - (0 + 1 + 1 + 1) = j * 3 + 1 by omega, show (j + 1) * 3 + 2 - (0 + 1 + 1 + 1) = j * 3 + 2 by omega]
      exact ⟨h1, h2, h3⟩
def startOps : List (Int × Int × Int) := [(1, 0, 0), (1, 0, 0), (4, 0, 3), (2, 0, 4), (2, 0, 3), (1, 0, 0), (4, 0, 9), (2, 0, -1), (2, 0, 0)]

theorem Has.new (w : World) : Has w.heap.size w [] := Has.nil _ w (Nat.le_refl _)
/-- the rounds of the nine calls -/
def StartRel (w : World) (g wb : Nat) (i : Value) (wr : World) : Prop :=
  ∃ (j : Nat) (Sv Rv Lv Wv : Value) (n : Int) (ss rs : List SI) (es : List EI), j ≤ 9 ∧ i = .int .i64 (j : Int) ∧ Has w.heap.size wr (WL wb Sv Rv Lv Wv n ss rs es [rowT (.slice (some ⟨g, 0, none⟩) 9 9) 39 3 9 (opV startOps)]) ∧ Match ss rs ∧ 1 ≤ ss.length ∧ ss.length ≤ 6 ∧ 0 ≤ n ∧ n ≤ 65537 * j ∧ es.length ≤ j ∧ Below w.heap.size w wr
theorem WL_tail (wb : Nat) (Sv Rv Lv Wv : Value) (n : Int) (ss rs : List SI) (es : List EI) (L : List Thing) : WL wb Sv Rv Lv Wv n ss rs es L = WL wb Sv Rv Lv Wv n ss rs es [] ++ L := by simp [WL]
theorem Has.last {B : Nat} {w : World} {wb : Nat} {Sv Rv Lv Wv : Value} {n : Int} {ss rs : List SI} {es : List EI} {L : List Thing} (h : Has B w (WL wb Sv Rv Lv Wv n ss rs es L)) {t : Thing} (ht : t ∈ L) : t.P w :=
  h.all t (by rw [WL_tail]; exact List.mem_append_right _ ht)
set_option maxHeartbeats 2000000 in
theorem started_calls (w : World) (hw0 : 0 < w.heap.size) (hT : TabW w) :
    Calls Tryd.prog 10 #[] w fun e w' => e = .returned (.bool true) ∧ Below w.heap.size w w' := by
  go_enter Tryd.func10, Tryd.ntmps10
  go_wp2_with fail
  refine (made_good 3 7 w (Has.new w) hw0 (by omega) (by omega)).mono ?_
  rintro e w1 ⟨wb, Sv, Rv, x, y, rfl, H1, hm, hx1, hx2, hB1⟩
  clear hx1 hx2
  go_wp2_with fail
  have hr : RowAt (w1.alloc (.cells (opV startOps).toArray 39)) w1.heap.size 39 3 9 9 (opV startOps) := by
    have := RowAt.lit w1 (opV startOps).toArray 39 3 9 rfl (by simp [maxLen])
    simpa using this
  obtain ⟨H2, hB2⟩ := H1.cons (t' := rowT (.slice (some ⟨w1.heap.size, 0, none⟩) 9 9) 39 3 9 (opV startOps)) ((Keeps.refl [] w1).alloc (.cells (opV startOps).toArray 39)) hr (rowT_nodup ..) (fun k hk => by simp [rowT, Value.ownBlock] at hk; omega)
  have H3 : Has w.heap.size (w1.alloc (.cells (opV startOps).toArray 39)) (WL wb Sv Rv (.slice none 0 0) (.slice none 0 0) 0 [x] [y] [] [rowT (.slice (some ⟨w1.heap.size, 0, none⟩) 9 9) 39 3 9 (opV startOps)]) := by
    refine H2.perm ?_
    rw [WL_tail (L := [rowT _ _ _ _ _])]
    exact (List.perm_append_singleton _ _).symm
  have HF := Lib.hid (show StartRel w w1.heap.size wb (.int .i64 0) (w1.alloc (.cells (opV startOps).toArray 39)) from ⟨0, Sv, Rv, _, _, 0, [x], [y], [], by omega, rfl, H3, hm, by simp, by simp, by omega, by omega, by simp, hB1.trans hB2⟩)
  clear H1 H2 H3 hr hm hB1 hB2
  go_loopw [4] (fun i wr => StartRel w w1.heap.size wb i wr) (fun i _ => 9 - (intOf i).toNat)
  case atStart => exact HF.out
  case round =>
    obtain ⟨j, Sv, Rv, Lv, Wv, n, ss, rs, es, hj, rfl, H, hm, s1, s2, n0, n1, e1, hB⟩ := hrel
    by_cases hlt : j < 9
    · have hlt' : (j : Int) < 9 := by omega
      have hrow : RowAt wr w1.heap.size 39 3 9 9 (opV startOps) := H.last (t := rowT (.slice (some ⟨w1.heap.size, 0, none⟩) 9 9) 39 3 9 (opV startOps)) (by simp)
      obtain ⟨o, ho⟩ : ∃ o, startOps[j]? = some o := ⟨_, List.getElem?_eq_getElem (by simpa [startOps] using hlt)⟩
      obtain ⟨p1, p2, p3⟩ := opV_get startOps j o ho
      have c1 := (hrow.cell (j * 3) (by omega)).trans p1
      have c2 := (hrow.cell (j * 3 + 1) (by omega)).trans p2
      have c3 := (hrow.cell (j * 3 + 2) (by omega)).trans p3
      obtain ⟨o1, o2, o3⟩ := o
      clear p1 p2 p3 ho
      go_wp2_with fail
      refine (plays_calls H hm (hT.below hB hw0) hw0 o1 o2 o3 s1 (by omega) n0 (by omega) (by omega)).mono ?_
      rintro e w2 ⟨rfl, Sv2, Rv2, Lv2, Wv2, n2, es2, ss2, rs2, H2, hm2, l1, l2, hB2, n3, n4, e2⟩
      have HR := Lib.hid (show StartRel w w1.heap.size wb (.int .i64 ((j + 1 : Nat) : Int)) w2 from ⟨j + 1, Sv2, Rv2, Lv2, Wv2, n2, ss2, rs2, es2, by omega, rfl, H2, hm2, by omega, by omega, by omega, by omega, by omega, hB.trans hB2⟩)
      clear H2 hm2 c1 c2 c3 hrow H
      go_wp2
      go_roundw
      case rel => exact HR.out
      case measure => simp [intOf]; omega
    · obtain rfl : j = 9 := by omega
      have hrl := hm.1
      have hx : ss[0]? = some ss[0] := List.getElem?_eq_getElem (by omega)
      have hy : rs[0]? = some (rs[0]'(by omega)) := List.getElem?_eq_getElem (by omega)
      generalize ss[0] = x at hx
      generalize rs[0]'(by omega) = y at hy
      obtain ⟨m1, m2, m3⟩ := hm.2 0 x y hx hy
      obtain ⟨gS, cS, rfl, rS⟩ := own_some (H.get 1 rfl) s1
      obtain ⟨gR, cR, rfl, rR⟩ := own_some (H.get 2 rfl) (by omega)
      have cx := (rS.cell 0 (by omega)).trans (show (ptrs ss)[0]? = some (.pointer (some ⟨x.b, 0, none⟩)) by simp [ptrs, hx])
      have cy := (rR.cell 0 (by omega)).trans (show (ptrs rs)[0]? = some (.pointer (some ⟨y.b, 0, none⟩)) by simp [ptrs, hy])
      have c0 := StrAt.cell (H.get 0 rfl) 0
      have c1 := StrAt.cell (H.get 0 rfl) 1
      simp [wCells] at c0 c1
      have hsp := H.get _ (WL_sp hx)
      have hrf : Rf wr y.b y.g y.cap x.fr x.to x.is := by rw [m1, m2, m3]; exact H.get _ (WL_rf hy)
      have hle := H.le
      have HRL := Lib.hid hrl
      have hr1 : 0 < rs.length := by omega
      have hs1 : 0 < ss.length := by omega
      clear hrl m1 m2 m3 hx hy H rS rR
      have hS : ∀ W, Keeps [] wr W → W.cell? ⟨wb, 0, none⟩ = some (.slice (some ⟨gS, 0, none⟩) ss.length cS) ∧ W.cell? ⟨wb, 1, none⟩ = some (.slice (some ⟨gR, 0, none⟩) rs.length cR) ∧ W.cell? ⟨gS, 0, none⟩ = some (.pointer (some ⟨x.b, 0, none⟩)) ∧ W.cell? ⟨gR, 0, none⟩ = some (.pointer (some ⟨y.b, 0, none⟩)) ∧ Keeps [] wr W := fun W hk => ⟨hk.cell c0 (by simp), hk.cell c1 (by simp), hk.cell cx (by simp), hk.cell cy (by simp), hk⟩
      have hspD : Sp wr.drew x.b x.g x.cap x.fr x.to x.is := Sp.keeps hsp (drew_keeps wr) (by simp) (by simp)
      have hrfD := hrf.keeps (drew_keeps wr) (by simp) (by simp)
      go_wp2_with fail
      go_region_held3 (fun W => W.cell? ⟨wb, 0, none⟩ = some (.slice (some ⟨gS, 0, none⟩) ss.length cS) ∧ W.cell? ⟨wb, 1, none⟩ = some (.slice (some ⟨gR, 0, none⟩) rs.length cR) ∧ W.cell? ⟨gS, 0, none⟩ = some (.pointer (some ⟨x.b, 0, none⟩)) ∧ W.cell? ⟨gR, 0, none⟩ = some (.pointer (some ⟨y.b, 0, none⟩)) ∧ Keeps [] wr W) (first | exact hS _ (drew_keeps wr) | assumption | exact hS _ ((drew_keeps wr).trans' (by assumption))) (first | (go_at_call 14; refine (told_calls hspD hrfD).mono ?_; rintro e w' ⟨rfl, hk14⟩) | fail)
      go_wp2
      go_ret
      exact ⟨rfl, hB.trans (keeps_below ((drew_keeps wr).trans' hk14) (by simp) hle)⟩
end Go.Proofs.YtnjjijkcenhebaaDoor
