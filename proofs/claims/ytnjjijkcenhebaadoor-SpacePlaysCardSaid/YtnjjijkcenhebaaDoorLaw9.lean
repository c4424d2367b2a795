/- The walk of SpacePlays. -/
import Derived.Test.YtnjjijkcenhebaaDoorSetB
import Derived.Test.YtnjjijkcenhebaaDoorLaw6
import Derived.Deep.DeepCutAuto
set_option linter.unusedVariables false
set_option linter.unusedSimpArgs false
namespace Go.Proofs.YtnjjijkcenhebaaDoor
open Go.RowKit
set_option maxRecDepth 10000

theorem half_div (fr t9 : Nat) : ((fr : Int) + (t9 : Int) + 1) / 2 = (((fr + t9 + 1) / 2 : Nat) : Int) := by omega
def PlayRel (w : World) (B wb : Nat) (L : List Thing) (len : Nat) (i : Value) (wr : World) : Prop :=
  ∃ (j : Nat) (Sv Rv Lv Wv : Value) (n : Int) (ss rs : List SI) (es : List EI), j ≤ 400 ∧ j ≤ len ∧ i = .int .i64 (j : Int) ∧ Has B wr (WL wb Sv Rv Lv Wv n ss rs es L) ∧ Match ss rs ∧ 2 ≤ ss.length ∧ ss.length ≤ 6 ∧ 0 ≤ n ∧ n ≤ 65537 * j ∧ es.length ≤ j ∧ Below B w wr
def mid (wb wb2 : Nat) (Sv Rv : Value) (gS2 cS2 gR2 cR2 : Nat) (nS nR : Nat) (ps pr : List Value) (x y x2 y2 : SI) : List Thing :=
  [strT wb2 (wCells (.slice (some ⟨gS2, 0, none⟩) 1 cS2) (.slice (some ⟨gR2, 0, none⟩) 1 cR2) (.slice none 0 0) (.slice none 0 0) 0) 34, rowT (.slice (some ⟨gS2, 0, none⟩) 1 cS2) 35 1 1 (ptrs [x2]), rowT (.slice (some ⟨gR2, 0, none⟩) 1 cR2) 36 1 1 (ptrs [y2]), strT wb (wCells Sv Rv (.slice none 0 0) (.slice none 0 0) 0) 34, rowT Sv 35 1 nS ps, rowT Rv 36 1 nR pr, rowT (.slice none 0 0) 49 1 0 [], rowT (.slice none 0 0) 49 1 0 [], spT x, rfT y, spT x2, rfT y2]
def Mid1 (B wb wb2 gS2 cS2 gR2 cR2 gR cR : Nat) (x y x2 y2 : SI) (w2 wx : World) : Prop :=
  ∃ gS' pS, Has B wx (mid wb wb2 (.slice (some ⟨gS', 0, none⟩) (1 + 1) pS) (.slice (some ⟨gR, 0, none⟩) 1 cR) gS2 cS2 gR2 cR2 (1 + 1) 1 (ptrs [x] ++ [.pointer (some ⟨x2.b, 0, none⟩)]) (ptrs [y]) x y x2 y2) ∧ Below B w2 wx
def Mid2 (B wb wb2 gS2 cS2 gR2 cR2 gS pS : Nat) (x y x2 y2 : SI) (w2 wx : World) : Prop :=
  ∃ gR' pR, Has B wx (mid wb wb2 (.slice (some ⟨gS, 0, none⟩) (1 + 1) pS) (.slice (some ⟨gR', 0, none⟩) (1 + 1) pR) gS2 cS2 gR2 cR2 (1 + 1) (1 + 1) (ptrs [x] ++ [.pointer (some ⟨x2.b, 0, none⟩)]) (ptrs [y] ++ [.pointer (some ⟨y2.b, 0, none⟩)]) x y x2 y2) ∧ Below B w2 wx
theorem perm_mid {α : Type} (s2 S2 R2 s S R l x y x2 y2 : α) : ([s2, S2, R2, s, S, R, l, l, x, y, x2, y2] : List α).Perm ([s2, S2, R2] ++ (s :: S :: R :: l :: l :: ([x, x2] ++ ([y, y2] ++ ([] ++ ([] ++ [])))))) := by
  classical
  rw [List.perm_iff_count]
  intro a
  simp only [List.count_append, List.count_cons, List.count_nil]
  omega
theorem Match.two {x y x2 y2 : SI} (h : Match [x] [y]) (g : Match [x2] [y2]) : Match [x, x2] [y, y2] :=
  ⟨rfl, fun i u v hu hv => match i, hu, hv with
    | 0, hu, hv => h.2 0 u v hu hv
    | 1, hu, hv => g.2 0 u v hu hv⟩
theorem settle_rest {B wb : Nat} {cs : Array Value} {w : World} {Sv Rv : Value} {ss rs : List SI} (h : Has B w (strT wb cs 34 :: frameOf Sv Rv ss rs)) :
    StrAt w wb cs 34 ∧ (w.ownsRow 0 35 1 Sv ss.length (ptrs ss)) ∧ (w.ownsRow 0 36 1 Rv rs.length (ptrs rs)) ∧ (∀ x ∈ ss, Sp w x.b x.g x.cap x.fr x.to x.is) ∧ (∀ y ∈ rs, Rf w y.b y.g y.cap y.fr y.to y.is) :=
  ⟨h.get 0 rfl, h.get 1 rfl, h.get 2 rfl, fun x hx => h.all (spT x) (by simp only [frameOf, List.mem_cons, List.mem_append, List.mem_map]; exact .inr (.inr (.inr (.inl ⟨x, hx, rfl⟩)))), fun y hy => h.all (rfT y) (by simp only [frameOf, List.mem_cons, List.mem_append, List.mem_map]; exact .inr (.inr (.inr (.inr ⟨y, hy, rfl⟩))))⟩

set_option maxHeartbeats 4000000 in
theorem plays_walk (a b : Int) (ao : Option Addr) (la ca : Nat) (w : World) (hT : TabW w) (hw0 : 0 < w.heap.size) (ho : OpsArg w.heap.size w ao la) :
    Calls Tryd.prog 4 #[.int .i64 a, .int .i64 b, .slice ao la ca] w fun e w' => e = .returned (.bool true) ∧ Below w.heap.size w w' := by
  cases hb : badNew a b with
  | true =>
    have HB := Lib.hid hb
    clear hb
    go_enter Tryd.func4, Tryd.ntmps4
    go_wp2_with fail
    refine (made_bad _ _ _ HB.out).mono ?_
    rintro e w' ⟨rfl, rfl⟩
    go_wp2_with fail
    refine (started_calls _ hw0 hT).mono ?_
    rintro e w' ⟨rfl, hB⟩
    go_wp2
    go_ret
    exact ⟨rfl, hB⟩
  | false =>
    simp [badNew] at hb
    obtain ⟨fr, rfl⟩ := Int.eq_ofNat_of_zero_le hb.1
    obtain ⟨t9, rfl⟩ := Int.eq_ofNat_of_zero_le (show 0 ≤ b by omega)
    have h1 : fr < t9 := by omega
    have h2 : t9 ≤ 65536 := by omega
    have hlen := ho.1
    clear hb
    have HD := Lib.hid (half_div fr t9)
    go_enter Tryd.func4, Tryd.ntmps4
    go_wp2_with fail
    refine (made_good fr t9 w (Has.new w) hw0 h1 h2).mono ?_
    rintro e w1 ⟨wb, Sv, Rv, x, y, rfl, H1, hm1, hx1, hx2, hB1⟩
    clear hx1 hx2
    go_wp2_with fail
    rw [HD.out]
    refine (made_good fr ((fr + t9 + 1) / 2) w1 H1 hw0 (by omega) (by omega)).mono ?_
    rintro e w2 ⟨wb2, Sv2, Rv2, x2, y2, rfl, H2, hm2, hx3, hx4, hB2⟩
    clear hx3 hx4
    replace hm1 := Lib.hid hm1
    replace hm2 := Lib.hid hm2
    have H3 : Has w.heap.size w2 [strT wb2 (wCells Sv2 Rv2 (.slice none 0 0) (.slice none 0 0) 0) 34, rowT Sv2 35 1 1 (ptrs [x2]), rowT Rv2 36 1 1 (ptrs [y2]), strT wb (wCells Sv Rv (.slice none 0 0) (.slice none 0 0) 0) 34, rowT Sv 35 1 1 (ptrs [x]), rowT Rv 36 1 1 (ptrs [y]), rowT (.slice none 0 0) 49 1 0 [], rowT (.slice none 0 0) 49 1 0 [], spT x, rfT y, spT x2, rfT y2] := by
      refine (Has.drops [rowT (.slice none 0 0) 49 1 0 [], rowT (.slice none 0 0) 49 1 0 []] (H2.perm ?_))
      show List.Perm (strT wb2 _ 34 :: rowT Sv2 35 1 1 _ :: rowT Rv2 36 1 1 _ :: rowT _ 49 1 0 _ :: rowT _ 49 1 0 _ :: spT x2 :: rfT y2 :: strT wb _ 34 :: rowT Sv 35 1 1 _ :: rowT Rv 36 1 1 _ :: rowT _ 49 1 0 _ :: rowT _ 49 1 0 _ :: spT x :: rfT y :: []) _
      classical
      rw [List.perm_iff_count]
      intro a
      simp only [List.count_append, List.count_cons, List.count_nil, WL, List.map_nil]
      omega
    obtain ⟨gS2, cS2, rfl, rS2⟩ := own_some (H3.get 1 rfl) (by omega)
    obtain ⟨gR2, cR2, rfl, rR2⟩ := own_some (H3.get 2 rfl) (by omega)
    obtain ⟨gS, cS, rfl, rS⟩ := own_some (H3.get 4 rfl) (by omega)
    obtain ⟨gR, cR, rfl, rR⟩ := own_some (H3.get 5 rfl) (by omega)
    have s0 := StrAt.cell (H3.get 3 rfl) 0
    have f0 := StrAt.frozen (H3.get 3 rfl) 0
    have t0 := StrAt.cell (H3.get 0 rfl) 0
    have q0 := rS2.cell 0 (by omega)
    simp [wCells, ptrs] at s0 t0 q0
    have H3D := H3.keeps0 (drew_keeps w2)
    have hle3 := H3.le
    have lwb := StrAt.lt (H3.get 3 rfl)
    clear rS2 rR2 rS rR H1 H2 H3
    go_upto_region 7 with fail
    go_cut [7] (fun s7 wx => s7 = .pointer (some ⟨wb, 0, none⟩) ∧ Mid1 w.heap.size wb wb2 gS2 cS2 gR2 cR2 gR cR x y x2 y2 w2 wx)
    case first =>
      go_region_law (first | (refine step_push rfl _ _ 28 35 (.pointer none) 1 8 rfl Tryd.underlying28 info35 rfl (by omega) (by omega) (.slice (some ⟨gS, 0, none⟩) 1 cS) 1 (ptrs [x]) #[.pointer (some ⟨x2.b, 0, none⟩)] rfl rfl (by simp) rfl (by simp [Value.oneCell']) (H3D.get 4 rfl) (by omega) ?_; intro v6 w6 hown6 hk6 hf6; obtain ⟨gS', pS, rfl, hrow6⟩ := own_some hown6 (by omega); obtain ⟨h6', hB6⟩ := H3D.row 4 rfl hown6 hk6 hf6; have c1F := (StrAt.cell (h6'.get 3 rfl) 0).trans (show _ = some (.slice (some ⟨gS, 0, none⟩) 1 cS) from rfl); have f1F := StrAt.frozen (h6'.get 3 rfl) 0) | fail)
      all_goals
        obtain ⟨h7, hB7⟩ := h6'.store 3 rfl 0 (.slice (some ⟨gS', 0, none⟩) (1 + 1) pS)
        go_wp2_with fail
        go_meet
        exact ⟨rfl, gS', pS, h7, (keeps_below (drew_keeps w2) (by simp) hle3).trans (hB6.trans hB7)⟩
    case rest =>
      obtain ⟨rfl, gS', pS, H4, hB4⟩ := hcut
      have s1 := StrAt.cell (H4.get 3 rfl) 1
      have f1 := StrAt.frozen (H4.get 3 rfl) 1
      have t1 := StrAt.cell (H4.get 0 rfl) 1
      have q1 := RowAt.cell (H4.get 2 rfl) 0 (by omega)
      simp [wCells, ptrs] at s1 t1 q1
      have H4D := H4.keeps0 (drew_keeps wc)
      have hle4 := H4.le
      have lwb4 := StrAt.lt (H4.get 3 rfl)
      clear H4 s0 f0 t0 q0 H3D lwb
      replace hB4 := hB1.trans (hB2.trans hB4)
      clear hB1 hB2
      go_upto_region 8 with fail
      generalize wc = w3 at *
      go_cut [7] (fun s7 wx => s7 = .pointer (some ⟨wb, 0, none⟩) ∧ Mid2 w.heap.size wb wb2 gS2 cS2 gR2 cR2 gS' pS x y x2 y2 w3 wx)
      case first =>
        go_region_law (first | (refine step_push rfl _ _ 29 36 (.pointer none) 1 8 rfl Tryd.underlying29 info36 rfl (by omega) (by omega) (.slice (some ⟨gR, 0, none⟩) 1 cR) 1 (ptrs [y]) #[.pointer (some ⟨y2.b, 0, none⟩)] rfl rfl (by simp) rfl (by simp [Value.oneCell']) (H4D.get 5 rfl) (by omega) ?_; intro v6 w6 hown6 hk6 hf6; obtain ⟨gR', pR, rfl, hrow6⟩ := own_some hown6 (by omega); obtain ⟨h6', hB6⟩ := H4D.row 5 rfl hown6 hk6 hf6; have c1F := (StrAt.cell (h6'.get 3 rfl) 1).trans (show _ = some (.slice (some ⟨gR, 0, none⟩) 1 cR) from rfl); have f1F := StrAt.frozen (h6'.get 3 rfl) 1) | fail)
        all_goals
          obtain ⟨h7, hB7⟩ := h6'.store 3 rfl 1 (.slice (some ⟨gR', 0, none⟩) (1 + 1) pR)
          go_wp2_with fail
          go_meet
          exact ⟨rfl, gR', pR, h7, (keeps_below (drew_keeps w3) (by simp) hle4).trans (hB6.trans hB7)⟩
      case rest =>
        obtain ⟨rfl, gR', pR, H5, hB5⟩ := hcut
        have H6 : Has w.heap.size wc (WL wb (.slice (some ⟨gS', 0, none⟩) (1 + 1) pS) (.slice (some ⟨gR', 0, none⟩) (1 + 1) pR) (.slice none 0 0) (.slice none 0 0) 0 [x, x2] [y, y2] [] []) :=
          (H5.perm (M := [strT wb2 _ 34, rowT _ 35 1 1 _, rowT _ 36 1 1 _] ++ _) (perm_mid ..)).drops
        have HF := Lib.hid (show PlayRel w w.heap.size wb [] la (.int .i64 0) wc from ⟨0, _, _, _, _, 0, [x, x2], [y, y2], [], by omega, by omega, rfl, H6, hm1.out.two hm2.out, by simp, by simp, by omega, by omega, by simp, hB4.trans hB5⟩)
        clear H5 H6 hB4 hB5 H4D s1 f1 t1 q1 lwb4 hm1 hm2
        go_wp2_with fail
        go_loopw [11] (fun i wr => PlayRel w w.heap.size wb [] la i wr) (fun i _ => 400 - (intOf i).toNat)
        case atStart => exact HF.out
        case round =>
          obtain ⟨j, Sv, Rv, Lv, Wv, n, ss, rs, es, hj1, hj2, rfl, H, hm, hs1, hs2, hn0, hn1, he1, hB⟩ := hrel
          by_cases hlt : j < la
          · have a1 : decide (j < la) = true := by simpa using hlt
            by_cases hlt2 : j < 400
            · have a2 : decide ((j : Int) < 400) = true := by simp; omega
              have hlt' : (j : Int) < (la : Int) := by omega
              obtain ⟨b, off, z0, z1, z2, rfl, hbB, p0, p1, p2⟩ := (ho.below hB).2 j hlt
              go_wp2_with fail
              refine (plays_calls H hm (hT.below hB hw0) hw0 z0 z1 z2 (by omega) (by omega) hn0 (by omega) (by omega)).mono ?_
              rintro e w2 ⟨rfl, Sv2, Rv2, Lv2, Wv2, n2, es2, ss2, rs2, H2, hm2, l1, l2, hB2, n3, n4, e2⟩
              go_wp2_with fail
              refine (untouched_calls H2 (by omega)).mono ?_
              rintro e w3 ⟨rfl, hk3⟩
              have HR := Lib.hid (show PlayRel w w.heap.size wb [] la (.int .i64 ((j + 1 : Nat) : Int)) w3 from ⟨j + 1, Sv2, Rv2, Lv2, Wv2, n2, ss2, rs2, es2, by omega, by omega, rfl, H2.keeps0 hk3, hm2, by omega, by omega, by omega, by omega, by omega, hB.trans (hB2.trans (keeps_below hk3 (by simp) H2.le))⟩)
              clear H2 hm2 hk3 H hm p0 p1 p2
              go_wp2
              go_roundw
              case rel => exact HR.out
              case measure => simp [intOf]; omega
            · have a2 : decide ((j : Int) < 400) = false := by simp; omega
              go_wp2_with fail
              refine (settle_calls H (by omega)).mono ?_
              rintro e w5 ⟨rfl, H5, hB5⟩
              obtain ⟨kS, kSr, kRr, kx, ky⟩ := settle_rest H5
              have hrl := hm.1
              obtain ⟨gS9, cS9, rfl, rS9⟩ := own_some kSr (by omega)
              obtain ⟨gR9, cR9, rfl, rR9⟩ := own_some kRr (by omega)
              have s0 := StrAt.cell kS 0
              have s1 := StrAt.cell kS 1
              simp [wCells] at s0 s1
              have HMT := Lib.hid hm.2
              have HRL := Lib.hid hrl
              have hle5 := H5.le
              have hB6 := hB.trans hB5
              clear hm hrl H H5 hB hB5 kS kSr kRr
              have C5 := Lib.hid (And.intro s0 s1)
              clear s0 s1
              go_wp2_with fail
              go_loopw [12] (fun i wr => ∃ q : Nat, q ≤ ss.length ∧ i = .int .i64 (q : Int) ∧ Keeps [] w5 wr) (fun i _ => ss.length - (intOf i).toNat)
              case atStart => exact ⟨0, by omega, rfl, Keeps.refl _ _⟩
              case round =>
                obtain ⟨q, hq, rfl, hk⟩ := hrel
                have s0 := hk.cell C5.out.1 (by simp)
                have s1 := hk.cell C5.out.2 (by simp)
                by_cases hqs : q < ss.length
                · have hqs' : (q : Int) < (ss.length : Int) := by omega
                  have hqr : q < rs.length := by have := HRL.out; omega
                  have hqr' : (q : Int) < (rs.length : Int) := by omega
                  have hx : ss[q]? = some (ss[q]'hqs) := List.getElem?_eq_getElem hqs
                  have hy : rs[q]? = some (rs[q]'hqr) := List.getElem?_eq_getElem hqr
                  generalize ss[q]'hqs = x9 at hx
                  generalize rs[q]'hqr = y9 at hy
                  obtain ⟨m1, m2, m3⟩ := HMT.out q x9 y9 hx hy
                  have hsp := kx x9 (List.mem_of_getElem? hx)
                  have hrf : Rf w5 y9.b y9.g y9.cap x9.fr x9.to x9.is := by rw [m1, m2, m3]; exact ky y9 (List.mem_of_getElem? hy)
                  have cx := hk.cell ((rS9.cell q (by omega)).trans (show (ptrs ss)[q]? = some (.pointer (some ⟨x9.b, 0, none⟩)) by simp [ptrs, hx])) (by simp)
                  have cy := hk.cell ((rR9.cell q (by omega)).trans (show (ptrs rs)[q]? = some (.pointer (some ⟨y9.b, 0, none⟩)) by simp [ptrs, hy])) (by simp)
                  clear m1 m2 m3 hx hy
                  have hkD : Keeps [] w5 wr.drew := hk.trans' (drew_keeps wr)
                  have hspD : Sp wr.drew x9.b x9.g x9.cap x9.fr x9.to x9.is := Sp.keeps hsp hkD (by simp) (by simp)
                  have hrfD := hrf.keeps hkD (by simp) (by simp)
                  have hS : ∀ W, Keeps [] wr W → W.cell? ⟨wb, 0, none⟩ = some (.slice (some ⟨gS9, 0, none⟩) ss.length cS9) ∧ W.cell? ⟨wb, 1, none⟩ = some (.slice (some ⟨gR9, 0, none⟩) rs.length cR9) ∧ W.cell? ⟨gS9, q, none⟩ = some (.pointer (some ⟨x9.b, 0, none⟩)) ∧ W.cell? ⟨gR9, q, none⟩ = some (.pointer (some ⟨y9.b, 0, none⟩)) ∧ Keeps [] wr W := fun W hk => ⟨hk.cell s0 (by simp), hk.cell s1 (by simp), hk.cell cx (by simp), hk.cell cy (by simp), hk⟩
                  go_wp2_with fail
                  go_region_held3 (fun W => W.cell? ⟨wb, 0, none⟩ = some (.slice (some ⟨gS9, 0, none⟩) ss.length cS9) ∧ W.cell? ⟨wb, 1, none⟩ = some (.slice (some ⟨gR9, 0, none⟩) rs.length cR9) ∧ W.cell? ⟨gS9, q, none⟩ = some (.pointer (some ⟨x9.b, 0, none⟩)) ∧ W.cell? ⟨gR9, q, none⟩ = some (.pointer (some ⟨y9.b, 0, none⟩)) ∧ Keeps [] wr W) (first | exact hS _ (drew_keeps wr) | assumption | exact hS _ ((drew_keeps wr).trans' (by assumption))) (first | (go_at_call 14; refine (told_calls hspD hrfD).mono ?_; rintro e w' ⟨rfl, hk14⟩) | fail)
                  all_goals
                    go_wp2
                    go_roundw
                  case rel => exact ⟨q + 1, by omega, by go_num, hk.trans' ((drew_keeps wr).trans' (by assumption))⟩
                  case measure => simp [intOf]; omega
                · have hqs' : ¬ (q : Int) < (ss.length : Int) := by omega
                  have hB7 := hB6.trans (keeps_below (B := w.heap.size) hk (by simp) hle5)
                  go_wp2_with fail
                  refine (started_calls wr (by have := hB7.size; omega) (hT.below hB7 hw0)).mono ?_
                  rintro e w' ⟨rfl, hB8⟩
                  go_wp2
                  go_ret
                  exact ⟨rfl, hB7.trans (hB8.mono hB7.size)⟩
          · have a1 : decide (j < la) = false := by simpa using hlt
            go_wp2_with fail
            refine (settle_calls H (by omega)).mono ?_
            rintro e w5 ⟨rfl, H5, hB5⟩
            obtain ⟨kS, kSr, kRr, kx, ky⟩ := settle_rest H5
            have hrl := hm.1
            obtain ⟨gS9, cS9, rfl, rS9⟩ := own_some kSr (by omega)
            obtain ⟨gR9, cR9, rfl, rR9⟩ := own_some kRr (by omega)
            have s0 := StrAt.cell kS 0
            have s1 := StrAt.cell kS 1
            simp [wCells] at s0 s1
            have HMT := Lib.hid hm.2
            have HRL := Lib.hid hrl
            have hle5 := H5.le
            have hB6 := hB.trans hB5
            clear hm hrl H H5 hB hB5 kS kSr kRr
            have C5 := Lib.hid (And.intro s0 s1)
            clear s0 s1
            go_wp2_with fail
            go_loopw [12] (fun i wr => ∃ q : Nat, q ≤ ss.length ∧ i = .int .i64 (q : Int) ∧ Keeps [] w5 wr) (fun i _ => ss.length - (intOf i).toNat)
            case atStart => exact ⟨0, by omega, rfl, Keeps.refl _ _⟩
            case round =>
              obtain ⟨q, hq, rfl, hk⟩ := hrel
              have s0 := hk.cell C5.out.1 (by simp)
              have s1 := hk.cell C5.out.2 (by simp)
              by_cases hqs : q < ss.length
              · have hqs' : (q : Int) < (ss.length : Int) := by omega
                have hqr : q < rs.length := by have := HRL.out; omega
                have hqr' : (q : Int) < (rs.length : Int) := by omega
                have hx : ss[q]? = some (ss[q]'hqs) := List.getElem?_eq_getElem hqs
                have hy : rs[q]? = some (rs[q]'hqr) := List.getElem?_eq_getElem hqr
                generalize ss[q]'hqs = x9 at hx
                generalize rs[q]'hqr = y9 at hy
                obtain ⟨m1, m2, m3⟩ := HMT.out q x9 y9 hx hy
                have hsp := kx x9 (List.mem_of_getElem? hx)
                have hrf : Rf w5 y9.b y9.g y9.cap x9.fr x9.to x9.is := by rw [m1, m2, m3]; exact ky y9 (List.mem_of_getElem? hy)
                have cx := hk.cell ((rS9.cell q (by omega)).trans (show (ptrs ss)[q]? = some (.pointer (some ⟨x9.b, 0, none⟩)) by simp [ptrs, hx])) (by simp)
                have cy := hk.cell ((rR9.cell q (by omega)).trans (show (ptrs rs)[q]? = some (.pointer (some ⟨y9.b, 0, none⟩)) by simp [ptrs, hy])) (by simp)
                clear m1 m2 m3 hx hy
                have hkD : Keeps [] w5 wr.drew := hk.trans' (drew_keeps wr)
                have hspD : Sp wr.drew x9.b x9.g x9.cap x9.fr x9.to x9.is := Sp.keeps hsp hkD (by simp) (by simp)
                have hrfD := hrf.keeps hkD (by simp) (by simp)
                have hS : ∀ W, Keeps [] wr W → W.cell? ⟨wb, 0, none⟩ = some (.slice (some ⟨gS9, 0, none⟩) ss.length cS9) ∧ W.cell? ⟨wb, 1, none⟩ = some (.slice (some ⟨gR9, 0, none⟩) rs.length cR9) ∧ W.cell? ⟨gS9, q, none⟩ = some (.pointer (some ⟨x9.b, 0, none⟩)) ∧ W.cell? ⟨gR9, q, none⟩ = some (.pointer (some ⟨y9.b, 0, none⟩)) ∧ Keeps [] wr W := fun W hk => ⟨hk.cell s0 (by simp), hk.cell s1 (by simp), hk.cell cx (by simp), hk.cell cy (by simp), hk⟩
                go_wp2_with fail
                go_region_held3 (fun W => W.cell? ⟨wb, 0, none⟩ = some (.slice (some ⟨gS9, 0, none⟩) ss.length cS9) ∧ W.cell? ⟨wb, 1, none⟩ = some (.slice (some ⟨gR9, 0, none⟩) rs.length cR9) ∧ W.cell? ⟨gS9, q, none⟩ = some (.pointer (some ⟨x9.b, 0, none⟩)) ∧ W.cell? ⟨gR9, q, none⟩ = some (.pointer (some ⟨y9.b, 0, none⟩)) ∧ Keeps [] wr W) (first | exact hS _ (drew_keeps wr) | assumption | exact hS _ ((drew_keeps wr).trans' (by assumption))) (first | (go_at_call 14; refine (told_calls hspD hrfD).mono ?_; rintro e w' ⟨rfl, hk14⟩) | fail)
                all_goals
                  go_wp2
                  go_roundw
                case rel => exact ⟨q + 1, by omega, by go_num, hk.trans' ((drew_keeps wr).trans' (by assumption))⟩
                case measure => simp [intOf]; omega
              · have hqs' : ¬ (q : Int) < (ss.length : Int) := by omega
                have hB7 := hB6.trans (keeps_below (B := w.heap.size) hk (by simp) hle5)
                go_wp2_with fail
                refine (started_calls wr (by have := hB7.size; omega) (hT.below hB7 hw0)).mono ?_
                rintro e w' ⟨rfl, hB8⟩
                go_wp2
                go_ret
                exact ⟨rfl, hB7.trans (hB8.mono hB7.size)⟩
end Go.Proofs.YtnjjijkcenhebaaDoor
