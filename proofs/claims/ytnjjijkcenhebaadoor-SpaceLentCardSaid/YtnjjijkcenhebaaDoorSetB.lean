/- Settle. -/
import Derived.Test.YtnjjijkcenhebaaDoorSetA
set_option linter.unusedVariables false
set_option linter.unusedSimpArgs false
namespace Go.Proofs.YtnjjijkcenhebaaDoor
open Go.RowKit
set_option maxRecDepth 10000

def frameOf (Sv Rv : Value) (ss rs : List SI) : List Thing := rowT Sv 35 1 ss.length (ptrs ss) :: rowT Rv 36 1 rs.length (ptrs rs) :: (ss.map spT ++ rs.map rfT)
def ML (wb : Nat) (cs : Array Value) (Lv : Value) (vs : List Value) (es : List EI) (F : List Thing) : List Thing := strT wb cs 34 :: rowT Lv 49 1 vs.length vs :: (es.map (fun e => intsT e.v e.l) ++ F)
theorem perm_settle {α : Type} (s S R Lr Wr : α) (A Rr V C T : List α) : (s :: S :: R :: Lr :: Wr :: (A ++ (Rr ++ (V ++ (C ++ T))))).Perm ((Wr :: (C ++ T)) ++ (s :: Lr :: (V ++ (S :: R :: (A ++ Rr))))) := by
  classical
  rw [List.perm_iff_count]
  intro a
  simp only [List.count_append, List.count_cons, List.count_nil]
  omega
theorem WL_ML {B wb : Nat} {L : List Thing} {w : World} {Sv Rv Lv Wv : Value} {n : Int} {ss rs : List SI} {es : List EI} (h : Has B w (WL wb Sv Rv Lv Wv n ss rs es L)) : Has B w (ML wb (wCells Sv Rv Lv Wv n) Lv (es.map EI.v) es (frameOf Sv Rv ss rs)) := by
  have := (h.perm (perm_settle _ _ _ _ _ _ _ _ _ _)).drops
  simpa [ML, frameOf] using this
theorem ML_set (wb : Nat) (cs : Array Value) (Lv : Value) (vs : List Value) (es : List EI) (F : List Thing) (k : Nat) (hk : k < es.length) (e : EI) : (ML wb cs Lv vs es F).set (2 + k) (intsT e.v e.l) = ML wb cs Lv vs (es.set k e) F := by
  unfold ML
  rw [show 2 + k = k + 1 + 1 by omega, List.set_cons_succ, List.set_cons_succ, List.set_append_left _ _ (by simpa using hk), List.map_set]
theorem ML_get (wb : Nat) (cs : Array Value) (Lv : Value) (vs : List Value) (es : List EI) (F : List Thing) (k : Nat) (e : EI) (he : es[k]? = some e) : (ML wb cs Lv vs es F)[2 + k]? = some (intsT e.v e.l) := by
  have hk := (List.getElem?_eq_some_iff.1 he).1
  unfold ML
  rw [show 2 + k = k + 1 + 1 by omega, List.getElem?_cons_succ, List.getElem?_cons_succ, List.getElem?_append_left (by simpa using hk)]
  simp [he]
/-- the lists below the k-th hold their marks -/
def Marked (k : Nat) (es : List EI) : Prop := ∀ (j : Nat) (e : EI), j < k → es[j]? = some e → ∀ x ∈ e.l, x = -1 - (j : Int)
def MRel (w : World) (B wb : Nat) (cs : Array Value) (Lv : Value) (vs : List Value) (F : List Thing) (k : Nat) (es : List EI) (wr : World) : Prop :=
  es.map EI.v = vs ∧ Marked k es ∧ Has B wr (ML wb cs Lv vs es F) ∧ Below B w wr
def SettlePost (B wb : Nat) (cs : Array Value) (F : List Thing) (w : World) (e : Ending) (w' : World) : Prop :=
  e = .returned (.bool true) ∧ Has B w' (strT wb cs 34 :: F) ∧ Below B w w'
theorem int_lit (x : Int) : Value.int .i64 x = .int .i64 x := rfl
/-- one cell of the k-th list is marked -/
theorem MRel.store {w : World} {B wb : Nat} {cs : Array Value} {Lv : Value} {vs : List Value} {F : List Thing} {k : Nat} {es : List EI} {wr : World} (h : MRel w B wb cs Lv vs F k es wr)
    {e : EI} (he : es[k]? = some e) {g cap : Nat} (hv : e.v = .slice (some ⟨g, 0, none⟩) e.l.length cap) (q : Nat) (x : Int) :
    MRel w B wb cs Lv vs F k (es.set k ⟨e.v, e.c, e.l.set q x, by simpa using e.le⟩) (wr.setCell ⟨g, q, none⟩ (.int .i64 x)) := by
  obtain ⟨h1, h2, h3, h4⟩ := h
  have hk := (List.getElem?_eq_some_iff.1 he).1
  have ht : (ML wb cs Lv vs es F)[2 + k]? = some (rowT (.slice (some ⟨g, 0, none⟩) e.l.length cap) 3 1 e.l.length (ints e.l)) := by rw [ML_get _ _ _ _ _ _ _ _ he, hv]; rfl
  obtain ⟨H1, hB1⟩ := h3.storeRow (2 + k) ht q (.int .i64 x)
  refine ⟨?_, ?_, ?_, h4.trans hB1⟩
  · rw [List.map_set]
    refine Eq.trans ?_ h1
    refine List.ext_getElem? fun i => ?_
    by_cases e1 : i = k
    · subst e1; simp [hk]; rw [(List.getElem?_eq_some_iff.1 he).2]
    · rw [List.getElem?_set_ne (by omega)]
  · intro j e' hj he'
    rw [List.getElem?_set_ne (by omega)] at he'
    exact h2 j e' hj he'
  · rw [← ML_set _ _ _ _ _ _ _ hk]
    have e2 : intsT e.v (e.l.set q x) = rowT (.slice (some ⟨g, 0, none⟩) e.l.length cap) 3 1 e.l.length ((ints e.l).set q (.int .i64 x)) := by
      rw [hv]
      simp [intsT, ints, List.map_set]
    show Has B _ ((ML wb cs Lv vs es F).set (2 + k) (intsT e.v (e.l.set q x)))
    rw [e2]
    exact H1
/-- the rounds within the k-th list -/
def InRel (w : World) (B wb : Nat) (cs : Array Value) (Lv : Value) (vs : List Value) (F : List Thing) (k N : Nat) (c : Value) (wr : World) : Prop :=
  ∃ (q : Nat) (es : List EI) (e : EI), q ≤ N ∧ e.l.length = N ∧ c = .int .i64 (q : Int) ∧ es[k]? = some e ∧ (∀ j, j < q → e.l[j]? = some (-1 - (k : Int))) ∧ MRel w B wb cs Lv vs F k es wr
/-- the rounds over the lists -/
def OutRel (w : World) (B wb : Nat) (cs : Array Value) (Lv : Value) (vs : List Value) (F : List Thing) (i : Value) (wr : World) : Prop :=
  ∃ (k : Nat) (es : List EI), k ≤ vs.length ∧ i = .int .i64 (k : Int) ∧ MRel w B wb cs Lv vs F k es wr
/-- the lists that have been lengthened -/
def PL (wb : Nat) (cs : Array Value) (Lv mv : Value) (vs : List Value) (ps : List PI) (es : List EI) (F : List Thing) : List Thing :=
  strT wb cs 34 :: rowT Lv 49 1 vs.length vs :: rowT mv 49 1 ps.length (ps.map PI.g) :: (ps.map pT ++ (es.map (fun e => intsT e.v e.l) ++ F))
def Paired (vs : List Value) (ps : List PI) : Prop := ∀ (j : Nat) (p : PI), ps[j]? = some p → vs[j]? = some p.v ∧ p.x = -1 - (j : Int) ∧ p.m ≤ 1000270
def PRel (w : World) (B wb : Nat) (cs : Array Value) (Lv : Value) (vs : List Value) (es : List EI) (F : List Thing) (mv i : Value) (wr : World) : Prop :=
  ∃ (k : Nat) (ps : List PI), k ≤ vs.length ∧ ps.length = k ∧ i = .int .i64 (k : Int) ∧ Paired vs ps ∧ Has B wr (PL wb cs Lv mv vs ps (es.drop k) F) ∧ Below B w wr
def QRel (w : World) (B wb : Nat) (cs : Array Value) (Lv mv : Value) (vs : List Value) (ps : List PI) (es : List EI) (F : List Thing) (v : Value) (n : Nat) (x : Int) (g c : Value) (wr : World) : Prop :=
  ∃ (m r : Nat), m + r ≤ 1000270 ∧ c = .int .i64 (r : Int) ∧ Has B wr (pT ⟨v, g, n, m, x⟩ :: PL wb cs Lv mv vs ps es F) ∧ Below B w wr
theorem perm_pair {α : Type} (s Lr M p : α) (P E F : List α) : (p :: s :: Lr :: M :: (P ++ (E ++ F))).Perm (s :: Lr :: M :: ((P ++ [p]) ++ (E ++ F))) := by
  classical
  rw [List.perm_iff_count]
  intro a
  simp only [List.count_append, List.count_cons, List.count_nil]
  omega
theorem perm_rest {α : Type} (s Lr M : α) (P E F : List α) : (s :: Lr :: M :: (P ++ (E ++ F))).Perm ((Lr :: M :: (P ++ E)) ++ (s :: F)) := by
  classical
  rw [List.perm_iff_count]
  intro a
  simp only [List.count_append, List.count_cons, List.count_nil]
  omega
theorem perm_take {α : Type} (s Lr M p : α) (P E F : List α) : (s :: Lr :: M :: (P ++ ((p :: E) ++ F))).Perm (p :: s :: Lr :: M :: (P ++ (E ++ F))) := by
  classical
  rw [List.perm_iff_count]
  intro a
  simp only [List.count_append, List.count_cons, List.count_nil]
  omega

set_option maxHeartbeats 4000000 in
theorem settle_calls {B wb : Nat} {L : List Thing} {w : World} {Sv Rv Lv Wv : Value} {n : Int} {ss rs : List SI} {es : List EI} (h : Has B w (WL wb Sv Rv Lv Wv n ss rs es L)) (hes : es.length ≤ 900000) :
    Calls Tryd.prog 13 #[.pointer (some ⟨wb, 2, none⟩)] w (SettlePost B wb (wCells Sv Rv Lv Wv n) (frameOf Sv Rv ss rs) w) := by
  have H0 := WL_ML h
  obtain ⟨aL, cL, rfl⟩ := own_len (h.get 3 rfl)
  have hcs : (wCells Sv Rv (.slice aL es.length cL) Wv n)[2]? = some (.slice aL es.length cL) := by simp [wCells]
  generalize frameOf Sv Rv ss rs = F at H0
  obtain ⟨vs, hvs⟩ : ∃ vs, vs = es.map EI.v := ⟨_, rfl⟩
  have hN : vs.length = es.length := by simp [hvs]
  rw [← hvs] at H0
  have HV := Lib.hid hvs
  clear hvs
  go_enter Tryd.func13, Tryd.ntmps13
  go_wp2_with fail
  refine (untouched_calls h (by omega)).mono ?_
  rintro e w0 ⟨rfl, hk0⟩
  have H1 := H0.keeps0 hk0
  have hB0 := keeps_below (B := B) hk0 (by simp) h.le
  clear h H0
  generalize wCells Sv Rv (.slice aL es.length cL) Wv n = cs at *
  rw [← hN] at hcs H1
  have HS := Lib.hid (show OutRel w B wb cs (.slice aL vs.length cL) vs F (.int .i64 0) w0 from ⟨0, es, by omega, rfl, HV.out.symm, fun j e hj => by omega, H1, hB0⟩)
  clear H1 hB0 hk0 HV
  have hes' : vs.length ≤ 900000 := by omega
  clear hN hes
  go_wp2
  go_loopw [3] (fun i wr => OutRel w B wb cs (.slice aL vs.length cL) vs F i wr) (fun i _ => vs.length - (intOf i).toNat)
  case atStart => exact HS.out
  case round =>
    obtain ⟨k, es, hk, rfl, hM⟩ := hrel
    have H := hM.2.2.1
    have c2 := (StrAt.cell (H.get 0 rfl) 2).trans hcs
    by_cases hlt : k < vs.length
    · have hlt' : (k : Int) < (vs.length : Int) := by omega
      have hl : es.length = vs.length := by rw [← hM.1]; simp
      have he : es[k]? = some es[k] := List.getElem?_eq_getElem (by omega)
      generalize es[k] = e at he
      have HR := Lib.hid (show InRel w B wb cs (.slice aL vs.length cL) vs F k e.l.length (.int .i64 0) wr from ⟨0, es, e, by omega, rfl, rfl, he, fun j hj => by omega, hM⟩)
      have hle := e.le
      generalize e.l.length = N at HR hle
      clear hM H he hl
      go_wp2
      clear c2
      go_loopw [4] (fun c wr => InRel w B wb cs (.slice aL vs.length cL) vs F k N c wr) (fun c _ => N - (intOf c).toNat)
      case atStart => exact HR.out
      case round =>
        obtain ⟨q, es, e, hq, hN, rfl, he, hpre, hM⟩ := hrel
        have H := hM.2.2.1
        have c2 := (StrAt.cell (H.get 0 rfl) 2).trans hcs
        obtain ⟨gL, c9, hL, rL⟩ := own_some (H.get 1 rfl) (by omega)
        cases hL
        have hvk : vs[k]? = some e.v := by rw [← hM.1]; simp [he]
        have cv := (rL.cell k (by omega)).trans hvk
        have hr := H.get (2 + k) (ML_get _ _ _ _ _ _ _ _ he)
        by_cases hlq : q < N
        · have hlq' : (q : Int) < (N : Int) := by omega
          obtain ⟨g, cap, hv, hrow⟩ := own_some hr (by omega)
          have cq := hrow.cell q (by omega)
          have fq := hrow.frozen q
          have hx : (ints e.l)[q]? = some (.int .i64 (e.l[q]'(by omega))) := by simp [ints]
          have hM2 := hM.store he hv q (-1 - (k : Int))
          have HR2 := Lib.hid (show InRel w B wb cs (.slice (some ⟨gL, 0, none⟩) vs.length cL) vs F k N (.int .i64 ((q + 1 : Nat) : Int)) (wr.setCell ⟨g, q, none⟩ (.int .i64 (-1 - (k : Int)))) from ⟨q + 1, es.set k ⟨e.v, e.c, e.l.set q (-1 - (k : Int)), by simpa using e.le⟩, ⟨e.v, e.c, e.l.set q (-1 - (k : Int)), by simpa using e.le⟩, by omega, by simpa using hN, rfl, by rw [List.getElem?_set_self (List.getElem?_eq_some_iff.1 he).1], by
            intro j hj
            by_cases e1 : j = q
            · subst e1; simp only; rw [List.getElem?_set_self (by omega)]
            · simp only; rw [List.getElem?_set_ne (by omega)]; exact hpre j (by omega), hM2⟩)
          clear hM2 hM H hrow hr hpre rL
          rw [hv, hN] at cv
          rw [hx] at cq
          generalize e.l[q]'(by omega) = y at *
          clear hv hx he hvk
          go_wp2
          go_roundw
          case rel => exact HR2.out
          case measure => simp [intOf]; omega
        · have hlq' : ¬ (q : Int) < (N : Int) := by omega
          obtain ⟨ao, cap, hv⟩ := own_len hr
          rw [hv, hN] at cv
          have HO := Lib.hid (show OutRel w B wb cs (.slice (some ⟨gL, 0, none⟩) vs.length cL) vs F (.int .i64 ((k + 1 : Nat) : Int)) wr from ⟨k + 1, es, by omega, rfl, hM.1, by
            intro j e' hj he' x hx
            by_cases e1 : j = k
            · subst e1
              rw [he] at he'
              cases he'
              obtain ⟨i, hi, rfl⟩ := List.getElem_of_mem hx
              have := hpre i (by omega)
              rw [List.getElem?_eq_getElem hi] at this
              simpa using this
            · exact hM.2.1 j e' (by omega) he' x hx, hM.2.2⟩)
          clear hM H hr hpre rL hv he hvk
          go_wp2
          go_roundw
          case rel => exact HO.out
          case measure => simp [intOf]; omega
    · have hlt' : ¬ (k : Int) < (vs.length : Int) := by omega
      obtain rfl : k = vs.length := by omega
      have hm := hM.2.1
      have hB := hM.2.2.2
      have hev := hM.1
      have hP0 := Lib.hid (show PRel w B wb cs (.slice aL vs.length cL) vs es F (.slice none 0 0) (.int .i64 0) wr from by
        obtain ⟨G, hG⟩ := H.cons (t' := rowT (.slice none 0 0) 49 1 0 []) (Keeps.refl _ _) (World.ownsRow_nil _ _ _ _) (rowT_nodup ..) (fun k hk => by simp [rowT, Value.ownBlock] at hk)
        refine ⟨0, [], by omega, rfl, rfl, fun j p hp => by simp at hp, ?_, hB⟩
        refine G.perm ?_
        unfold PL ML
        simp only [List.map_nil, List.nil_append, List.drop_zero, List.length_nil]
        exact (List.Perm.swap _ _ _).trans ((List.Perm.swap _ _ _).cons _))
      clear hM H hB
      have hl : es.length = vs.length := by rw [← hev]; simp
      have HM := Lib.hid hm
      have HE := Lib.hid hev
      clear hm hev
      go_wp2
      clear c2
      go_loopw [5, 6] (fun mv i wr => PRel w B wb cs (.slice aL vs.length cL) vs es F mv i wr) (fun _ i _ => vs.length - (intOf i).toNat)
      case atStart => exact hP0.out
      case round =>
        obtain ⟨k, ps, hk, hpl, rfl, hP, H, hB⟩ := hrel
        have c2 := (StrAt.cell (H.get 0 rfl) 2).trans hcs
        by_cases hlt : k < vs.length
        · have hlt' : (k : Int) < (vs.length : Int) := by omega
          obtain ⟨gL, c9, hL, rL⟩ := own_some (H.get 1 rfl) (by omega)
          cases hL
          have hkes : k < es.length := by omega
          have he : es[k]? = some es[k] := List.getElem?_eq_getElem hkes
          have hd : es.drop k = es[k] :: es.drop (k + 1) := List.drop_eq_getElem_cons hkes
          rw [hd] at H
          generalize es[k] = e at he H
          clear hd
          have hvk : vs[k]? = some e.v := by rw [← HE.out]; simp [he]
          have cv := (rL.cell k (by omega)).trans hvk
          have H2 : Has B wr (rowT e.v 3 1 e.l.length (same e.l.length (-1 - (k : Int))) :: PL wb cs (.slice (some ⟨gL, 0, none⟩) vs.length cL) u5 vs ps (es.drop (k + 1)) F) := by
            have e1 : ints e.l = same e.l.length (-1 - (k : Int)) := by
              unfold ints same
              rw [List.eq_replicate_iff]
              refine ⟨by simp, fun u hu => ?_⟩
              obtain ⟨x, hx, rfl⟩ := List.mem_map.1 hu
              rw [HM.out k e hlt he x hx]
            rw [← e1]
            exact H.perm (perm_take _ _ _ (intsT e.v e.l) _ _ _)
          have hle := e.le
          obtain ⟨av, cv', hv⟩ := own_len (H2.get 0 rfl)
          rw [hv] at cv
          have HQ : ∀ r : Nat, r ≤ 270 → QRel w B wb cs (.slice (some ⟨gL, 0, none⟩) vs.length cL) u5 vs ps (es.drop (k + 1)) F e.v e.l.length (-1 - (k : Int)) e.v (.int .i64 (r : Int)) wr := fun r hr => ⟨e.l.length, r, by omega, rfl, pT_start H2, hB⟩
          rw [hv] at HQ
          have HV := Lib.hid (show vs[k]? = some (.slice av e.l.length cv') by rw [hvk, hv])
          clear hv hvk H2 H he rL hB
          generalize e.l.length = n at *
          have HQ := Lib.hid HQ
          go_wp2
          all_goals
            clear c2 cv
            go_loopw [7, 8] (fun g c wr => QRel w B wb cs (.slice (some ⟨gL, 0, none⟩) vs.length cL) u5 vs ps (es.drop (k + 1)) F (.slice av n cv') n (-1 - (k : Int)) g c wr) (fun _ c _ => (intOf c).toNat)
            case atStart => first | exact HQ.out 270 (by omega) | (have h9 := HQ.out (n + 70) (by omega); rw [show ((n + 70 : Nat) : Int) = (n : Int) + 70 by omega] at h9; exact h9)
            case round =>
              obtain ⟨m, r, hmr, rfl, H, hB⟩ := hrel
              by_cases hr : 0 < r
              · have hr' : 0 < (r : Int) := by omega
                go_wp2_with (refine wp_push_pair H rfl _ _ 49 rfl Tryd.underlying49 info3 rfl rfl ?c1 (by simp only; omega) ?_)
                case c1 => simp
                intro g1 w1 H1 hB1
                have HR2 := Lib.hid (show QRel w B wb cs (.slice (some ⟨gL, 0, none⟩) vs.length cL) u5 vs ps (es.drop (k + 1)) F (.slice av n cv') n (-1 - (k : Int)) g1 (.int .i64 ((r - 1 : Nat) : Int)) w1 from ⟨m + 1, r - 1, by omega, rfl, H1, hB.trans hB1⟩)
                have e1 : (r : Int) - 1 = ((r - 1 : Nat) : Int) := by omega
                clear H1 hB1 H hB
                go_wp2
                go_roundw
                case rel => first | exact HR2.out | (rw [e1]; exact HR2.out)
                case measure => simp [intOf]; omega
              · have hr' : ¬ 0 < (r : Int) := by omega
                obtain rfl : r = 0 := by omega
                obtain ⟨ag, cg, hg⟩ := own_len (H.get 0 rfl).2.1
                simp only at hg
                subst hg
                go_wp2_with (refine wp_push rfl _ _ 30 49 (.slice none 0 0) 1 24 rfl Tryd.underlying30 info49 rfl (by omega) (by omega) u5 ps.length (ps.map PI.g) #[.slice ag m cg] rfl rfl (by simp) rfl ?d1 (H.get 3 rfl) ?d2 ?_)
                case d1 => simp [Value.oneCell']
                case d2 => omega
                intro vL w2 hown hkL hfL
                obtain ⟨H2, hB2⟩ := H.row 3 rfl hown hkL hfL
                have HR := Lib.hid (show PRel w B wb cs (.slice (some ⟨gL, 0, none⟩) vs.length cL) vs es F vL (.int .i64 ((k + 1 : Nat) : Int)) w2 from by
                  refine ⟨k + 1, ps ++ [⟨.slice av n cv', .slice ag m cg, n, m, -1 - (k : Int)⟩], by omega, by simp [hpl], rfl, fun j p hp => ?_, ?_, hB.trans hB2⟩
                  · by_cases hj : j < ps.length
                    · rw [List.getElem?_append_left hj] at hp
                      exact hP j p hp
                    · have hj2 : j = k := by have := (List.getElem?_eq_some_iff.1 hp).1; simp at this; omega
                      subst hj2
                      rw [List.getElem?_append_right (by omega), hpl] at hp
                      simp at hp
                      subst hp
                      exact ⟨HV.out, rfl, by show m ≤ _; omega⟩
                  · have := H2.perm (perm_pair _ _ _ _ _ _ _)
                    unfold PL
                    simp only [List.map_append, List.map_cons, List.map_nil, List.length_append, List.length_cons, List.length_nil, hpl, Nat.zero_add]
                    exact this)
                clear H2 hB2 hown hkL hfL H hB
                go_wp2
                go_roundw
                case rel => exact HR.out
                case measure => simp [intOf]; omega
        · have hlt' : ¬ (k : Int) < (vs.length : Int) := by omega
          obtain rfl : k = vs.length := by omega
          obtain ⟨am, cm, hmv⟩ := own_len (H.get 2 rfl)
          subst hmv
          obtain ⟨w3, hw3⟩ : ∃ w3, w3 = wr := ⟨_, rfl⟩
          have hk3 : Keeps [] w3 wr := by rw [hw3]; exact Keeps.refl _ _
          rw [← hw3] at H hB
          clear hw3
          have HF : Hid (Has B w3 (strT wb cs 34 :: F) ∧ Below B w w3) := Lib.hid ⟨(H.perm (perm_rest _ _ _ _ _ _)).drops, hB⟩
          have HP := Lib.hid hP
          have HK := Lib.hid hk3
          clear hP hk3 hB
          rw [hpl]
          go_wp2
          clear c2
          go_loopw [9] (fun i wr => ∃ j : Nat, j ≤ vs.length ∧ i = .int .i64 (j : Int) ∧ Keeps [] w3 wr) (fun i _ => vs.length - (intOf i).toNat)
          case atStart => exact ⟨0, by omega, rfl, HK.out⟩
          case round =>
            obtain ⟨j, hj, rfl, hk⟩ := hrel
            by_cases hlj : j < vs.length
            · have hlj' : (j : Int) < (vs.length : Int) := by omega
              have hp : ps[j]? = some (ps[j]'(by omega)) := List.getElem?_eq_getElem (by omega)
              generalize ps[j]'(by omega) = p at hp
              obtain ⟨hvj, hx, hm9⟩ := HP.out j p hp
              have hpt : (pT p).P w3 := H.all (pT p) (by simp only [PL, List.mem_cons, List.mem_append, List.mem_map]; exact .inr (.inr (.inr (.inl ⟨p, List.mem_of_getElem? hp, rfl⟩))))
              obtain ⟨o1, o2, _⟩ := hpt
              obtain ⟨gL, c9, hL, rL⟩ := own_some (H.get 1 rfl) (by omega)
              cases hL
              obtain ⟨gM, c9, hM9, rM⟩ := own_some (H.get 2 rfl) (by omega)
              cases hM9
              have kL := (rL.cell j (by omega)).trans hvj
              have kM := (rM.cell j (by omega)).trans (show (ps.map PI.g)[j]? = some p.g by simp [hp])
              have k2 := (StrAt.cell (H.get 0 rfl) 2).trans hcs
              obtain ⟨v, g, n, m, x⟩ := p
              simp only at hvj hx hm9 o1 o2 kL kM
              subst hx
              obtain ⟨av, cv, hv⟩ := own_len o1
              subst hv
              obtain ⟨ag, cg, hg⟩ := own_len o2
              subst hg
              clear rL rM hvj hp
              have C3 := Lib.hid (And.intro k2 (And.intro kL kM))
              have c2 := hk.cell k2 (by simp)
              have cM := hk.cell kM (by simp)
              clear k2 kL kM
              have HK := Lib.hid hk
              clear hk
              have hj9 : ¬ ((j : Int) < 0) := by omega
              go_wp2
              clear c2 cM
              go_loopw [10] (fun c wr => ∃ q : Nat, q ≤ m ∧ c = .int .i64 (q : Int) ∧ Keeps [] w3 wr) (fun c _ => m - (intOf c).toNat)
              case atStart => exact ⟨0, by omega, rfl, HK.out⟩
              case round =>
                obtain ⟨q, hq, rfl, hk⟩ := hrel
                have c2 := hk.cell C3.out.1 (by simp)
                have cL1 := hk.cell C3.out.2.1 (by simp)
                have cM := hk.cell C3.out.2.2 (by simp)
                by_cases hqm : q < m
                · have hqm' : (q : Int) < (m : Int) := by omega
                  obtain ⟨b, c9, hb, rb⟩ := own_some o2 (by omega)
                  cases hb
                  have kg := hk.cell ((rb.cell q (by omega)).trans (show (same m (-1 - (j : Int)))[q]? = some (.int .i64 (-1 - (j : Int))) by unfold same; rw [List.getElem?_replicate, if_pos hqm])) (by simp)
                  by_cases hqn : q < n
                  · have hqn' : (q : Int) < (n : Int) := by omega
                    obtain ⟨b', c9, hb, rb'⟩ := own_some o1 (by omega)
                    cases hb
                    have kv := hk.cell ((rb'.cell q (by omega)).trans (show (same n (-1 - (j : Int)))[q]? = some (.int .i64 (-1 - (j : Int))) by unfold same; rw [List.getElem?_replicate, if_pos hqn])) (by simp)
                    clear rb rb'
                    go_wp2
                    go_roundw
                    case rel => exact ⟨q + 1, by omega, by go_num, hk⟩
                    case measure => simp [intOf]; omega
                  · have hqn' : ¬ (q : Int) < (n : Int) := by omega
                    clear rb
                    go_wp2
                    go_roundw
                    case rel => exact ⟨q + 1, by omega, by go_num, hk⟩
                    case measure => simp [intOf]; omega
                · have hqm' : ¬ (q : Int) < (m : Int) := by omega
                  go_wp2
                  go_roundw
                  case rel => exact ⟨j + 1, by omega, by go_num, hk⟩
                  case measure => simp [intOf]; omega
            · have hlj' : ¬ (j : Int) < (vs.length : Int) := by omega
              go_wp2
              go_ret
              exact ⟨rfl, HF.out.1.keeps0 hk, HF.out.2.trans (keeps_below hk (by simp) HF.out.1.le)⟩
end Go.Proofs.YtnjjijkcenhebaaDoor
