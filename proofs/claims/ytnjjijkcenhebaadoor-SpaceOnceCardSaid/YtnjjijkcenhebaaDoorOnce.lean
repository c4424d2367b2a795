/- The walk of SpaceOnce. (Printed by genonce.py.) -/
import Derived.Test.YtnjjijkcenhebaaDoorPlainO
import Derived.Test.YtnjjijkcenhebaaDoorWay
import Derived.Deep.DeepCutAuto
import Derived.Deep.CutBlock
set_option linter.unusedVariables false
set_option linter.unusedSimpArgs false
namespace Go.Proofs.YtnjjijkcenhebaaDoor
open Go.RowKit
set_option maxRecDepth 100000

def OnceRel (w : World) (B b g cap fr N gH len : Nat) (q : Nat) (f i : Value) (wr : World) : Prop :=
  ∃ (j : Nat) (is : List Bool), 300 ≤ j + q ∧ j ≤ 300 ∧ j ≤ len ∧ i = .int .i64 (j : Int) ∧ is.length = N ∧ f = .int .i64 ((trues is).length : Int) ∧ Has B wr [spT ⟨b, g, cap, fr, fr + N, is⟩, goneT gH (negs is)] ∧ Below B w wr
/-- behind the switch: v holds the first c numbers that were free, and they are no longer the space's -/
def CutRel (w : World) (B b g cap fr N gH : Nat) (f v : Value) (wr : World) : Prop :=
  ∃ (is : List Bool) (c : Nat) (ao : Option Addr) (cv : Nat), is.length = N ∧ c ≤ (trues is).length ∧ f = .int .i64 ((trues is).length : Int) ∧ v = .slice ao c cv ∧
    Has B wr [spT ⟨b, g, cap, fr, fr + N, clear is ((trues is).take c)⟩, goneT gH (negs is), intsT v (nums fr ((trues is).take c))] ∧ Below B w wr
/-- the rounds over what was told: k of c are marked -/
def MarkRel (w : World) (B b g cap fr N gH : Nat) (is : List Bool) (c : Nat) (v f at_ i : Value) (wr : World) : Prop :=
  ∃ k a : Nat, k ≤ c ∧ a ≤ N ∧ i = .int .i64 (k : Int) ∧ at_ = .int .i64 (a : Int) ∧ f = .int .i64 (((trues is).length - k : Nat) : Int) ∧ (∀ i, i < a → (clear is ((trues is).take k)).getD i false = false) ∧
    Has B wr [spT ⟨b, g, cap, fr, fr + N, clear is ((trues is).take c)⟩, goneT gH (negs (clear is ((trues is).take k))), intsT v (nums fr ((trues is).take c))] ∧ Below B w wr
def AtRel (wo : World) (m : Nat) (x : Value) (wr : World) : Prop := ∃ a : Nat, a ≤ m ∧ x = .int .i64 (a : Int) ∧ wr = wo
theorem perm_once {α : Type} (l x a b : α) : [l, x, a, b].Perm ([x] ++ [a, b, l]) := by
  classical
  rw [List.perm_iff_count]
  intro y
  simp only [List.cons_append, List.nil_append, List.count_cons, List.count_nil]
  omega
set_option maxHeartbeats 40000000 in
theorem once_walk (a0 a1 : Int) (bo : Option Addr) (lb cb : Nat) (w : World) (hT : TabW w) (hw0 : 0 < w.heap.size) (hob : OpsArg w.heap.size w bo lb) :
    Calls Tryd.prog 6 #[.int .i64 a0, .int .i64 a1, .slice bo lb cb] w fun e w' => e = .returned (.bool true) ∧ Below w.heap.size w w' := by
  obtain ⟨fr, e1, f1⟩ := emod_nat a0 60000 (by omega)
  obtain ⟨m, e2, f2⟩ := emod_nat a1 500 (by omega)
  have E1 := Lib.hid e1
  have E2 := Lib.hid e2
  clear e1 e2
  have hC := Has.new w
  have hlen2 := hob.1
  go_enter Tryd.func6, Tryd.ntmps6
  go_wp2_with fail
  refine (place_int w a0 60000 (by omega) (by omega)).mono ?_
  rw [E1.out]
  rintro e w1 ⟨rfl, rfl⟩
  go_wp2_with fail
  refine (place_int w a1 500 (by omega) (by omega)).mono ?_
  rw [E2.out]
  rintro e w1 ⟨rfl, rfl⟩
  obtain ⟨N, hN⟩ : ∃ N, N = 1 + m := ⟨_, rfl⟩
  have hN1 : 1 ≤ N := by omega
  have hN2 : N ≤ 500 := by omega
  have HN := Lib.hid (show (1 + (m : Int)) = (N : Int) by omega)
  have HF := Lib.hid (show (fr : Int) + (N : Int) = ((fr + N : Nat) : Int) by omega)
  clear hN E1 E2
  go_wp2_with fail
  rw [HN.out, HF.out]
  refine (new_good fr (fr + N) w (by omega) (by omega) hw0).mono ?_
  rintro e w1 ⟨b, g, cap, rfl, hs1, hb1, hg1, hk1⟩
  rw [show fr + N - fr = N by omega] at hs1
  obtain ⟨H1, hB1⟩ := hC.cons (t' := spT ⟨b, g, cap, fr, fr + N, List.replicate N true⟩) hk1 hs1 (by have := hs1.facts; simp [spT]; omega) (fun k hk => by simp [spT] at hk; omega)
  clear hC hs1 hk1
  go_wp2_with (first | (go_at_call 17; refine (num_calls _ _).mono ?_; rintro e w' ⟨rfl, rfl⟩) | (refine wp_make rfl _ _ 48 4 (.bool false) 1 1 rfl Tryd.underlying48 info4 N rfl rfl rfl rfl (by omega) (by simp [maxLen]; omega) ?_) | fail)
  intro w3 hr3 hk3
  have hr3' : RowAt w3 w1.heap.size 4 1 N N (bools (List.replicate N false)) := by
    rw [made_bools] at hr3
    exact hr3
  obtain ⟨H3, hB3⟩ := H1.cons (t' := goneT w1.heap.size (List.replicate N false)) hk3 (by simp [goneT, rowT]; exact hr3') (rowT_nodup ..) (fun k hk => by simp [goneT, rowT, Value.ownBlock] at hk; omega)
  have HA := Lib.hid (show OnceRel w w.heap.size b g cap fr N w1.heap.size lb 300 (.int .i64 (N : Int)) (.int .i64 0) w3 from ⟨0, List.replicate N true, by omega, by omega, by omega, rfl, by simp, by rw [trues_full]; simp, by
    have : negs (List.replicate N true) = List.replicate N false := by simp [negs]
    rw [this]
    exact H3.perm (List.Perm.swap _ _ _), hB1.trans hB3⟩)
  clear H1 H3 hr3 hr3' hk3 hB1 hB3
  generalize w1.heap.size = gH at *
  go_wp2_with fail
  go_loopg [10, 11] 300 (fun q f i wr => OnceRel w w.heap.size b g cap fr N gH lb q f i wr)
  case atStart => exact HA.out
  case round =>
    obtain ⟨j, is, hq, hj1, hj2, rfl, hil, rfl, H, hB⟩ := hrel
    by_cases hlt : j < lb
    · have b1 : decide (j < lb) = true := by simpa using hlt
      by_cases hlt2 : j < 300
      · have b2 : decide ((j : Int) < 300) = true := by simp; omega
        have hlt' : (j : Int) < (lb : Int) := by omega
        obtain ⟨b', off, z0, z1, z2, rfl, hbB, p0, p1, p2⟩ := (hob.below hB).2 j hlt
        obtain ⟨H1, hB1⟩ := H.cons (w' := wr.alloc (.cells #[.int .i64 z0, .int .i64 z1, .int .i64 z2] 39)) (t' := strT wr.heap.size #[.int .i64 z0, .int .i64 z1, .int .i64 z2] 39) ((Keeps.refl [] wr).alloc _) (StrAt.new wr _ 39) (strT_nodup ..) (fun k hk => by simp [strT] at hk; omega)
        have hBB := hB.trans hB1
        have hT1 := hT.below hBB hw0
        have hBox := Lib.hid (StrAt.new wr #[.int .i64 z0, .int .i64 z1, .int .i64 z2] 39)
        have HIL := Lib.hid hil
        have hTL : (trues is).length ≤ N := by rw [← hil]; exact trues_len_le is
        clear H hil
        go_upto_block 2 with fail
        go_cut [10, 13] (fun f v wx => CutRel w w.heap.size b g cap fr N gH f v wx)
        case first =>
          by_cases k1 : z0 = 1
          · as_aux_lemma =>
              subst k1
              go_wp2_with fail
              generalize hW : World.alloc wr _ = W at *
              have hsp : Sp W b g cap fr (fr + N) is := H1.get 1 rfl
              refine (take_calls hsp hT1).mono ?_
              rintro e w2 ⟨rfl, hs2, hk2⟩
              obtain ⟨H2, hB2⟩ := H1.upd 1 (spT ⟨b, g, cap, fr, fr + N, takeS is⟩) rfl hk2 hs2 (by have := hs2.facts; simp [spT]; omega) (fun k hk => .inl hk)
              clear hs2 hsp H1
              generalize hTN : (trues is).length = TN at hTL
              cases ht : trues is with
              | nil =>
                obtain ⟨e1, e2, e3⟩ := take_nil (fr := fr) ht
                obtain rfl : TN = 0 := by rw [← hTN, ht]; rfl
                rw [e1, e2]
                rw [e3] at H2
                obtain ⟨H4, _⟩ := H2.cons (t' := intsT (.slice none 0 0) []) (Keeps.refl _ _) (World.ownsRow_nil _ _ _ _) (rowT_nodup ..) (fun k hk => by simp [intsT, rowT, Value.ownBlock] at hk)
                have HC := Lib.hid (show CutRel w w.heap.size b g cap fr N gH (.int .i64 ((0 : Nat) : Int)) (.slice none 0 0) w2 from ⟨is, 0, none, 0, HIL.out, Nat.zero_le _, by rw [hTN], rfl, (H4.perm (perm_once _ _ _ _)).drops (D := [_]), hBB.trans hB2⟩)
                clear H2 H4 ht hTN e1 e2 e3 hW
                go_wp2_with fail
                go_meet
                case rel => exact HC.out
              | cons m t =>
                obtain ⟨e1, e2, e3⟩ := take_cons (fr := fr) ht
                have hT0 : 0 < TN := by rw [← hTN, ht]; simp
                rw [e1, e2]
                rw [e3] at H2
                have HT := Lib.hid ht
                have HTN := Lib.hid hTN
                have g2 := (show Sp w2 b g cap fr (fr + N) (is.set m false) from H2.get 1 rfl).facts
                clear ht hTN e1 e2 e3 hW
                go_wp2_with (at_builtin; refine wp_push rfl _ _ 49 3 (.int .i64 0) 1 8 rfl Tryd.underlying49 info3 rfl (by omega) (by omega) (.slice none 0 0) 0 [] #[.int .i64 ((fr : Int) + (m : Int))] rfl rfl (by simp) rfl ?d1 (World.ownsRow_nil _ _ _ _) ?d2 ?_)
                case d1 => simp [Value.oneCell']
                case d2 => omega
                intro vL w3 hownL hkL hfL
                obtain ⟨ao, cv, rfl⟩ := own_len hownL
                obtain ⟨H3, hB3⟩ := H2.cons (t' := intsT (.slice ao 1 cv) [(fr : Int) + (m : Int)]) hkL hownL (rowT_nodup ..) (fun k hk => by
                  rcases hfL k (by simpa [intsT, rowT] using hk) with h | h
                  · simp [Value.ownBlock] at h
                  · exact h)
                have HC := Lib.hid (show CutRel w w.heap.size b g cap fr N gH (.int .i64 (TN : Int)) (.slice ao 1 cv) w3 from ⟨is, 1, ao, cv, HIL.out, by rw [HT.out]; simp, by rw [HTN.out], rfl, by
                  have h9 := (H3.perm (perm_once _ _ _ _)).drops (D := [_])
                  rw [show (trues is).take 1 = [m] by rw [HT.out]; rfl]
                  exact h9, hBB.trans (hB2.trans hB3)⟩)
                clear H2 H3 hownL hkL hfL
                go_wp2_with fail
                go_meet
                case rel => exact HC.out
          by_cases k2 : z0 = 2
          · as_aux_lemma =>
              subst k2
              go_wp2_with fail
              generalize hW : World.alloc wr _ = W at *
              have hsp : Sp W b g cap fr (fr + N) is := H1.get 1 rfl
              refine (takeAll_calls hsp hT1 z2).mono ?_
              rintro e w2 ⟨v2, rfl, hv2, hf2, hs2, hk2⟩
              have lW : W.heap.size = wr.heap.size + 1 := by rw [← hW]; simp
              obtain ⟨H2, hB2⟩ := H1.updNew 1 (spT ⟨b, g, cap, fr, fr + N, takeAllS is z2⟩) (intsT v2 (takeAllOut fr is z2)) rfl hk2 hs2 (by have := hs2.facts; simp [spT]; omega) (fun k hk => .inl hk) hv2 (rowT_nodup ..) (fun k hk => hf2 k (by simpa [intsT, rowT] using hk)) (fun k hk hm => by have := hf2 k (by simpa [intsT, rowT] using hk); have := hsp.facts; simp [spT] at hm; omega)
              clear hs2 hsp H1 hf2 hW
              have q2 := (StrAt.cell (H2.get 1 rfl) 2).trans (show _ = some (.int .i64 z2) from rfl)
              by_cases hok : takeAllOk is z2 = true
              · have hz := hok
                simp only [takeAllOk, Bool.and_eq_true, decide_eq_true_eq] at hz
                obtain ⟨n, rfl⟩ := Int.eq_ofNat_of_zero_le hz.1
                have hn : n ≤ (trues is).length := by omega
                have e1 : takeAllOut fr is (n : Int) = nums fr ((trues is).take n) := by unfold takeAllOut; rw [if_pos hok]; rfl
                have e2 : takeAllS is (n : Int) = clear is ((trues is).take n) := by unfold takeAllS; rw [if_pos hok]; rfl
                have e3 : (nums fr ((trues is).take n)).length = n := by rw [nums_length, List.length_take]; omega
                rw [e1, e2] at H2
                rw [e1] at hv2
                have hv3 : w2.ownsRow 0 3 1 v2 n (ints (nums fr ((trues is).take n))) := by have h9 : w2.ownsRow 0 3 1 v2 (nums fr ((trues is).take n)).length (ints (nums fr ((trues is).take n))) := hv2; rw [e3] at h9; exact h9
                obtain ⟨ao, cv, rfl⟩ := own_len hv3
                rw [hok]
                generalize hTN : (trues is).length = TN at hn hTL
                have hd : decide (n ≤ TN) = true := by simpa using hn
                have HC := Lib.hid (show CutRel w w.heap.size b g cap fr N gH (.int .i64 (TN : Int)) (.slice ao n cv) w2 from ⟨is, n, ao, cv, HIL.out, by rw [hTN]; exact hn, by rw [hTN], rfl, (H2.perm (perm_once _ _ _ _)).drops (D := [_]), hBB.trans hB2⟩)
                clear H2 hv2 hv3 e1 e2 e3 hz hTN hok
                go_wp2_with fail
                go_meet
                case rel => exact HC.out
              · have hok' : takeAllOk is z2 = false := by simpa using hok
                have e1 : takeAllOut fr is z2 = [] := by unfold takeAllOut; rw [if_neg hok]
                have e2 : takeAllS is z2 = is := by unfold takeAllS; rw [if_neg hok]
                rw [e1, e2] at H2
                rw [e1] at hv2
                obtain ⟨ao, cv, rfl⟩ := own_len (show w2.ownsRow 0 3 1 v2 0 (ints []) from hv2)
                rw [hok']
                have hz : 0 ≤ z2 → ¬ z2 ≤ ((trues is).length : Int) := fun h1 h2 => hok (by simp [takeAllOk, h1, h2])
                generalize hTN : (trues is).length = TN at hz hTL
                have HC := Lib.hid (show CutRel w w.heap.size b g cap fr N gH (.int .i64 (TN : Int)) (.slice ao 0 cv) w2 from ⟨is, 0, ao, cv, HIL.out, Nat.zero_le _, by rw [hTN], rfl, (H2.perm (perm_once _ _ _ _)).drops (D := [_]), hBB.trans hB2⟩)
                clear H2 hv2 e1 e2 hTN hok hok'
                by_cases h1 : 0 ≤ z2
                · have d1 : decide (0 ≤ z2) = true := decide_eq_true h1
                  have d2 : decide (z2 ≤ (TN : Int)) = false := decide_eq_false (hz h1)
                  clear hz h1
                  go_wp2_with fail
                  go_meet
                  case rel => exact HC.out
                · have d1 : decide (0 ≤ z2) = false := decide_eq_false h1
                  clear hz h1
                  go_wp2_with fail
                  go_meet
                  case rel => exact HC.out
          by_cases k3 : z0 = 3
          · as_aux_lemma =>
              subst k3
              by_cases hin : (fr : Int) ≤ z2 ∧ z2 < (fr : Int) + N
              · obtain ⟨k, rfl, hkN⟩ := inside fr N z2 hin.1 hin.2
                have hw1 := Lib.hid (IntWalk.i64_in ((fr : Int) + (k : Int)) (by omega))
                have c1 : (fr : Int) ≤ (fr : Int) + (k : Int) := by omega
                have c2 : (fr : Int) + (k : Int) < (fr : Int) + (N : Int) := by omega
                clear hin
                go_wp2_with fail
                generalize hW : World.alloc wr _ = W at *
                have lW : wr.heap.size < W.heap.size := by rw [← hW]; simp
                have bq := (StrAt.cell (H1.get 0 rfl) 2).trans (show _ = some (.int .i64 ((fr : Int) + (k : Int))) from rfl)
                have hsp : Sp W b g cap fr (fr + N) is := H1.get 1 rfl
                have gA := hsp.facts
                refine (claim_calls hsp _).mono ?_
                rw [has_at]
                rintro e w2 ⟨rfl, hs2, hk2⟩
                obtain ⟨H2, hB2⟩ := H1.upd 1 (spT ⟨b, g, cap, fr, fr + N, claimS fr is ((fr : Int) + (k : Int))⟩) rfl hk2 hs2 (by have := hs2.facts; simp [spT]; omega) (fun k hk => .inl hk)
                have q2 := (StrAt.cell (H2.get 0 rfl) 2).trans (show _ = some (.int .i64 ((fr : Int) + (k : Int))) from rfl)
                have hrow : RowAt w2 gH 4 1 N N (bools (negs is)) := by have h9 : RowAt w2 gH 4 1 (negs is).length (negs is).length (bools (negs is)) := H2.get 2 rfl; rw [negs_len, HIL.out] at h9; exact h9
                have hx := (hrow.cell k (by omega)).trans (show (bools (negs is))[k]? = some (.bool (!is.getD k false)) by simp only [bools, List.getElem?_map]; rw [negs_at is k (by have := HIL.out; omega)]; rfl)
                have fx := hrow.frozen k
                clear hrow bq hsp H1
                cases hb : is.getD k false with
                | true =>
                  have HB := Lib.hid hb
                  rw [hb] at hx
                  clear hb
                  have EK := Lib.hid (show ((fr : Int) + (k : Int) - (fr : Int)) % (N : Int) = (k : Int) by rw [show (fr : Int) + (k : Int) - (fr : Int) = (k : Int) by omega]; exact Int.emod_eq_of_lt (by omega) (by omega))
                  have e9 : ((fr : Int) + (k : Int) - (fr : Int)).toNat = k := by omega
                  have i9 : 0 ≤ (fr : Int) + (k : Int) - (fr : Int) := by omega
                  have j9 : (fr : Int) + (k : Int) - (fr : Int) < (N : Int) := by omega
                  go_wp2_with fail
                  refine (place_int _ _ N (by omega) (by omega)).mono ?_
                  rw [EK.out]
                  rintro e w3 ⟨rfl, rfl⟩
                  obtain ⟨H3, hB3⟩ := goneT_set H2 2 rfl k true
                  obtain ⟨H4, _⟩ := H3.cons (t' := intsT (.slice none 0 0) []) (Keeps.refl _ _) (World.ownsRow_nil _ _ _ _) (rowT_nodup ..) (fun k hk => by simp [intsT, rowT, Value.ownBlock] at hk)
                  have HC := Lib.hid (show CutRel w w.heap.size b g cap fr N gH (.int .i64 (((trues is).length : Int) - 1)) (.slice none 0 0) (w2.setCell ⟨gH, k, none⟩ (.bool true)) from ⟨is.set k false, 0, none, 0, by rw [List.length_set]; exact HIL.out, Nat.zero_le _, by congr 1; have := trues_len_clear HB.out; omega, rfl, by
                    have := (H4.perm (perm_once _ _ _ _)).drops (D := [_])
                    rw [claim_at fr is k HB.out, ← (show negs (is.set k false) = (negs is).set k true from negs_set is k false)] at this
                    exact this, hBB.trans (hB2.trans hB3)⟩)
                  have hT0 : 1 ≤ (trues is).length := by have := trues_len_clear HB.out; omega
                  clear H2 H3 H4 hs2
                  go_wp2_with fail
                  go_meet
                  case rel => exact HC.out
                | false =>
                  rw [hb] at hx
                  have HB := Lib.hid hb
                  clear hb
                  have EK := Lib.hid (show ((fr : Int) + (k : Int) - (fr : Int)) % (N : Int) = (k : Int) by rw [show (fr : Int) + (k : Int) - (fr : Int) = (k : Int) by omega]; exact Int.emod_eq_of_lt (by omega) (by omega))
                  go_wp2_with fail
                  refine (place_int _ _ N (by omega) (by omega)).mono ?_
                  rw [EK.out]
                  rintro e w3 ⟨rfl, rfl⟩
                  obtain ⟨H4, _⟩ := H2.cons (t' := intsT (.slice none 0 0) []) (Keeps.refl _ _) (World.ownsRow_nil _ _ _ _) (rowT_nodup ..) (fun k hk => by simp [intsT, rowT, Value.ownBlock] at hk)
                  have HC := Lib.hid (show CutRel w w.heap.size b g cap fr N gH (.int .i64 ((trues is).length : Int)) (.slice none 0 0) w2 from ⟨is, 0, none, 0, HIL.out, Nat.zero_le _, rfl, rfl, by
                    have := (H4.perm (perm_once _ _ _ _)).drops (D := [_])
                    rw [claim_no fr is _ ((has_at fr is k).trans HB.out)] at this
                    exact this, hBB.trans hB2⟩)
                  clear H2 H4 hs2
                  go_wp2_with fail
                  go_meet
                  case rel => exact HC.out
              · have hno := has_out fr N is HIL.out z2 hin
                have HNO := Lib.hid hno
                have hd : (decide ((fr : Int) ≤ z2) && decide (z2 < (fr : Int) + (N : Int))) = false := by
                  by_cases h1 : (fr : Int) ≤ z2
                  · have h2 : ¬ z2 < (fr : Int) + (N : Int) := fun h => hin ⟨h1, h⟩
                    simp [h2]
                  · simp [h1]
                have hlast : ∀ W, Has w.heap.size W [strT wr.heap.size #[.int .i64 3, .int .i64 z1, .int .i64 z2] 39, spT ⟨b, g, cap, fr, fr + N, is⟩, goneT gH (negs is)] → Below w.heap.size w W → CutRel w w.heap.size b g cap fr N gH (.int .i64 ((trues is).length : Int)) (.slice none 0 0) W := fun W HW hW => by
                  obtain ⟨H4, _⟩ := HW.cons (t' := intsT (.slice none 0 0) []) (Keeps.refl _ _) (World.ownsRow_nil _ _ _ _) (rowT_nodup ..) (fun k hk => by simp [intsT, rowT, Value.ownBlock] at hk)
                  exact ⟨is, 0, none, 0, HIL.out, Nat.zero_le _, rfl, rfl, (H4.perm (perm_once _ _ _ _)).drops (D := [_]), hW⟩
                have HL := Lib.hid hlast
                clear hlast hno
                by_cases h1 : (fr : Int) ≤ z2
                all_goals
                  first
                  | have h2 : ¬ z2 < (fr : Int) + (N : Int) := fun h => hin ⟨h1, h⟩
                  | skip
                  clear hin hd
                  go_wp2_with fail
                  generalize hW : World.alloc wr _ = W at *
                  have hsp : Sp W b g cap fr (fr + N) is := H1.get 1 rfl
                  refine (claim_calls hsp _).mono ?_
                  rw [HNO.out, claim_no fr is _ HNO.out]
                  rintro e w2 ⟨rfl, hs2, hk2⟩
                  obtain ⟨H2, hB2⟩ := H1.upd 1 (spT ⟨b, g, cap, fr, fr + N, is⟩) rfl hk2 hs2 (by have := hs2.facts; simp [spT]; omega) (fun k hk => .inl hk)
                  have HC := Lib.hid (HL.out w2 H2 (hBB.trans hB2))
                  clear H1 H2 hs2 hsp
                  go_wp2_with fail
                  go_meet
                  case rel => exact HC.out
          by_cases k4 : z0 = 4
          · as_aux_lemma =>
              subst k4
              by_cases hin : (fr : Int) ≤ z2 ∧ z2 < (fr : Int) + N
              · obtain ⟨k, rfl, hkN⟩ := inside fr N z2 hin.1 hin.2
                have hw1 := Lib.hid (IntWalk.i64_in ((fr : Int) + (k : Int)) (by omega))
                have c1 : (fr : Int) ≤ (fr : Int) + (k : Int) := by omega
                have c2 : (fr : Int) + (k : Int) < (fr : Int) + (N : Int) := by omega
                clear hin
                go_wp2_with fail
                generalize hW : World.alloc wr _ = W at *
                have lW : wr.heap.size < W.heap.size := by rw [← hW]; simp
                have bq := (StrAt.cell (H1.get 0 rfl) 2).trans (show _ = some (.int .i64 ((fr : Int) + (k : Int))) from rfl)
                have hsp : Sp W b g cap fr (fr + N) is := H1.get 1 rfl
                have gA := hsp.facts
                refine (give_calls hsp _).mono ?_
                rw [give_at fr N is k hkN]
                rintro e w2 ⟨rfl, hs2, hk2⟩
                obtain ⟨H2, hB2⟩ := H1.upd 1 (spT ⟨b, g, cap, fr, fr + N, giveS fr (fr + N) is ((fr : Int) + (k : Int))⟩) rfl hk2 hs2 (by have := hs2.facts; simp [spT]; omega) (fun k hk => .inl hk)
                have q2 := (StrAt.cell (H2.get 0 rfl) 2).trans (show _ = some (.int .i64 ((fr : Int) + (k : Int))) from rfl)
                have hrow : RowAt w2 gH 4 1 N N (bools (negs is)) := by have h9 : RowAt w2 gH 4 1 (negs is).length (negs is).length (bools (negs is)) := H2.get 2 rfl; rw [negs_len, HIL.out] at h9; exact h9
                have hx := (hrow.cell k (by omega)).trans (show (bools (negs is))[k]? = some (.bool (!is.getD k false)) by simp only [bools, List.getElem?_map]; rw [negs_at is k (by have := HIL.out; omega)]; rfl)
                have fx := hrow.frozen k
                clear hrow bq hsp H1
                cases hb : is.getD k false with
                | true =>
                  rw [hb] at hx
                  have HB := Lib.hid hb
                  clear hb
                  have EK := Lib.hid (show ((fr : Int) + (k : Int) - (fr : Int)) % (N : Int) = (k : Int) by rw [show (fr : Int) + (k : Int) - (fr : Int) = (k : Int) by omega]; exact Int.emod_eq_of_lt (by omega) (by omega))
                  go_wp2_with fail
                  refine (place_int _ _ N (by omega) (by omega)).mono ?_
                  rw [EK.out]
                  rintro e w3 ⟨rfl, rfl⟩
                  obtain ⟨H4, _⟩ := H2.cons (t' := intsT (.slice none 0 0) []) (Keeps.refl _ _) (World.ownsRow_nil _ _ _ _) (rowT_nodup ..) (fun k hk => by simp [intsT, rowT, Value.ownBlock] at hk)
                  have HC := Lib.hid (show CutRel w w.heap.size b g cap fr N gH (.int .i64 ((trues is).length : Int)) (.slice none 0 0) w2 from ⟨is, 0, none, 0, HIL.out, Nat.zero_le _, rfl, rfl, by
                    have := (H4.perm (perm_once _ _ _ _)).drops (D := [_])
                    rw [giveS_no fr (fr + N) is _ (by rw [give_at fr N is k hkN, HB.out]; rfl)] at this
                    exact this, hBB.trans hB2⟩)
                  clear H2 H4 hs2
                  go_wp2_with fail
                  go_meet
                  case rel => exact HC.out
                | false =>
                  have HB := Lib.hid hb
                  rw [hb] at hx
                  clear hb
                  have EK := Lib.hid (show ((fr : Int) + (k : Int) - (fr : Int)) % (N : Int) = (k : Int) by rw [show (fr : Int) + (k : Int) - (fr : Int) = (k : Int) by omega]; exact Int.emod_eq_of_lt (by omega) (by omega))
                  have e9 : ((fr : Int) + (k : Int) - (fr : Int)).toNat = k := by omega
                  have i9 : 0 ≤ (fr : Int) + (k : Int) - (fr : Int) := by omega
                  have j9 : (fr : Int) + (k : Int) - (fr : Int) < (N : Int) := by omega
                  go_wp2_with fail
                  refine (place_int _ _ N (by omega) (by omega)).mono ?_
                  rw [EK.out]
                  rintro e w3 ⟨rfl, rfl⟩
                  obtain ⟨H3, hB3⟩ := goneT_set H2 2 rfl k false
                  obtain ⟨H4, _⟩ := H3.cons (t' := intsT (.slice none 0 0) []) (Keeps.refl _ _) (World.ownsRow_nil _ _ _ _) (rowT_nodup ..) (fun k hk => by simp [intsT, rowT, Value.ownBlock] at hk)
                  have HC := Lib.hid (show CutRel w w.heap.size b g cap fr N gH (.int .i64 (((trues is).length : Int) + 1)) (.slice none 0 0) (w2.setCell ⟨gH, k, none⟩ (.bool false)) from ⟨is.set k true, 0, none, 0, by rw [List.length_set]; exact HIL.out, Nat.zero_le _, by congr 1; have := trues_len_give (show k < is.length by have := HIL.out; omega) HB.out; omega, rfl, by
                    have := (H4.perm (perm_once _ _ _ _)).drops (D := [_])
                    rw [giveS_at fr N is k hkN HB.out, ← (show negs (is.set k true) = (negs is).set k false from negs_set is k true)] at this
                    exact this, hBB.trans (hB2.trans hB3)⟩)
                  clear H2 H3 H4 hs2
                  go_wp2_with fail
                  go_meet
                  case rel => exact HC.out
              · have hno := give_out fr N is z2 hin
                have HNO := Lib.hid hno
                have hd : (decide ((fr : Int) ≤ z2) && decide (z2 < (fr : Int) + (N : Int))) = false := by
                  by_cases h1 : (fr : Int) ≤ z2
                  · have h2 : ¬ z2 < (fr : Int) + (N : Int) := fun h => hin ⟨h1, h⟩
                    simp [h2]
                  · simp [h1]
                have hlast : ∀ W, Has w.heap.size W [strT wr.heap.size #[.int .i64 4, .int .i64 z1, .int .i64 z2] 39, spT ⟨b, g, cap, fr, fr + N, is⟩, goneT gH (negs is)] → Below w.heap.size w W → CutRel w w.heap.size b g cap fr N gH (.int .i64 ((trues is).length : Int)) (.slice none 0 0) W := fun W HW hW => by
                  obtain ⟨H4, _⟩ := HW.cons (t' := intsT (.slice none 0 0) []) (Keeps.refl _ _) (World.ownsRow_nil _ _ _ _) (rowT_nodup ..) (fun k hk => by simp [intsT, rowT, Value.ownBlock] at hk)
                  exact ⟨is, 0, none, 0, HIL.out, Nat.zero_le _, rfl, rfl, (H4.perm (perm_once _ _ _ _)).drops (D := [_]), hW⟩
                have HL := Lib.hid hlast
                clear hlast hno
                by_cases h1 : (fr : Int) ≤ z2
                all_goals
                  first
                  | have h2 : ¬ z2 < (fr : Int) + (N : Int) := fun h => hin ⟨h1, h⟩
                  | skip
                  clear hin hd
                  go_wp2_with fail
                  generalize hW : World.alloc wr _ = W at *
                  have hsp : Sp W b g cap fr (fr + N) is := H1.get 1 rfl
                  refine (give_calls hsp _).mono ?_
                  rw [HNO.out, giveS_no fr (fr + N) is _ HNO.out]
                  rintro e w2 ⟨rfl, hs2, hk2⟩
                  obtain ⟨H2, hB2⟩ := H1.upd 1 (spT ⟨b, g, cap, fr, fr + N, is⟩) rfl hk2 hs2 (by have := hs2.facts; simp [spT]; omega) (fun k hk => .inl hk)
                  have HC := Lib.hid (HL.out w2 H2 (hBB.trans hB2))
                  clear H1 H2 hs2 hsp
                  go_wp2_with fail
                  go_meet
                  case rel => exact HC.out
          have d1 : (z0 == 1) = false := by simpa using k1
          have d2 : (z0 == 2) = false := by simpa using k2
          have d3 : (z0 == 3) = false := by simpa using k3
          have d4 : (z0 == 4) = false := by simpa using k4
          obtain ⟨H2, hB2⟩ := H1.cons (t' := intsT (.slice none 0 0) []) (Keeps.refl _ _) (World.ownsRow_nil _ _ _ _) (rowT_nodup ..) (fun k hk => by simp [intsT, rowT, Value.ownBlock] at hk)
          have HC := Lib.hid (show CutRel w w.heap.size b g cap fr N gH (.int .i64 ((trues is).length : Int)) (.slice none 0 0) (wr.alloc (.cells #[.int .i64 z0, .int .i64 z1, .int .i64 z2] 39)) from ⟨is, 0, none, 0, HIL.out, Nat.zero_le _, rfl, rfl, (H2.perm (perm_once _ _ _ _)).drops, hBB⟩)
          clear H1 H2 hB2
          go_wp2_with fail
          go_meet
          case rel => exact HC.out
        case rest =>
          clear p0 p1 p2 hBox hT1 hBB hB1 H1 HIL hTL
          obtain ⟨is, c, ao, cv, hil, hc, rfl, rfl, HL, hBZ⟩ := hcut
          have hcl : ∀ l, (clear is l).length = N := fun l => by rw [clear_length]; exact hil
          have HCL := Lib.hid hcl
          have HM := Lib.hid (show MarkRel w w.heap.size b g cap fr N gH is c (.slice ao c cv) (.int .i64 ((trues is).length : Int)) (.int .i64 0) (.int .i64 0) wc from ⟨0, 0, by omega, by omega, rfl, rfl, rfl, fun i hi => by omega, HL, hBZ⟩)
          have hTL : (trues is).length ≤ N := by rw [← hil]; exact trues_len_le is
          clear HL hBZ hil hcl
          go_wp2_with fail
          go_loopw [10, 21, 22] (fun f a k wr => MarkRel w w.heap.size b g cap fr N gH is c (.slice ao c cv) f a k wr) (fun _ _ k _ => c - (intOf k).toNat)
          case atStart => exact HM.out
          case round =>
            obtain ⟨k, a, hk, ha, rfl, rfl, rfl, hlow, H, hB⟩ := hrel
            by_cases hkc : k < c
            · as_aux_lemma =>
                have hkc' : (k : Int) < (c : Int) := by omega
                have hlen : (clear is ((trues is).take k)).length = N := HCL.out _
                obtain ⟨m, t, ht, hkm⟩ := told_at (is := is) (k := k) (by omega)
                obtain ⟨hm1, hm2, hm3⟩ := trues_first ht
                have hcell := told_num fr hkc hkm
                obtain ⟨hs1, hs2⟩ := clear_take_succ ht
                rw [hlen] at hm2
                have ham : a ≤ m := by
                  rcases Nat.lt_or_ge m a with h | h
                  · have := hlow m h
                    rw [hm1] at this
                    cases this
                  · exact h
                have hrow : RowAt wr gH 4 1 N N (bools (negs (clear is ((trues is).take k)))) := by have h9 : RowAt wr gH 4 1 _ _ (bools (negs (clear is ((trues is).take k)))) := H.get 1 rfl; rw [negs_len, hlen] at h9; exact h9
                have hints : wr.ownsRow 0 3 1 (.slice ao c cv) (nums fr ((trues is).take c)).length (ints (nums fr ((trues is).take c))) := H.get 2 rfl
                have hnl : (nums fr ((trues is).take c)).length = c := by rw [nums_length, List.length_take]; omega
                rw [hnl] at hints
                obtain ⟨gL, pL, hv, hrowL⟩ := own_some hints (by omega)
                cases hv
                have hl := (hrowL.cell k (by omega)).trans hcell
                have HX := Lib.hid (show ∀ i, i < N → wr.cell? ⟨gH, i, none⟩ = some (.bool (!(clear is ((trues is).take k)).getD i false)) from fun i hi => (hrow.cell i (by omega)).trans (by simp only [bools, List.getElem?_map]; rw [negs_at _ i (by rw [hlen]; exact hi)]; rfl))
                have fx := hrow.frozen m
                have HT := Lib.hid (show trues (clear is ((trues is).take k)) = m :: t from ht)
                have HS1 := Lib.hid hs1
                have HS2 := Lib.hid hs2
                have HM1 := Lib.hid hm1
                have HM3 := Lib.hid hm3
                have HLN := Lib.hid hlen
                have HH := Lib.hid H
                clear ht hkm hcell hs1 hs2 hlow hm1 hm3 hlen hrow hints hnl hrowL HCL H
                obtain ⟨wo, rfl⟩ : ∃ wo : World, wo = wr := ⟨_, rfl⟩
                have hq1 : 1 ≤ (trues is).length - k := by omega
                have hq2 : (trues is).length - k ≤ 1000 := by omega
                generalize hq9 : (trues is).length - k = q9 at hq1 hq2
                have HQ := Lib.hid (show (trues is).length - (k + 1) = q9 - 1 by omega)
                clear hq9
                go_wp2_with fail
                go_loopw [21] (fun x wr => AtRel wo m x wr) (fun x _ => m - (intOf x).toNat)
                case atStart => exact ⟨a, ham, rfl, rfl⟩
                case round =>
                  obtain ⟨a, ha, rfl, rfl⟩ := hrel
                  have haN : decide (a < N) = true := decide_eq_true (by omega)
                  have hx := HX.out a (by omega)
                  by_cases hlt : a < m
                  · rw [HM3.out a hlt] at hx
                    simp only [Bool.not_false] at hx
                    go_wp2
                    go_roundw
                    case rel => exact ⟨a + 1, by omega, by go_num, rfl⟩
                    case measure => simp [intOf]; omega
                  · obtain rfl : a = m := by omega
                    rw [HM1.out] at hx
                    simp only [Bool.not_true] at hx
                    obtain ⟨H3, hB3⟩ := goneT_set HH.out 1 rfl a true
                    have HR := Lib.hid (show MarkRel w w.heap.size b g cap fr N gH is c (.slice (some ⟨gL, 0, none⟩) c cv) (.int .i64 ((q9 : Int) - 1)) (.int .i64 (a : Int)) (.int .i64 ((k + 1 : Nat) : Int)) (wr.setCell ⟨gH, a, none⟩ (.bool true)) from ⟨k + 1, a, by omega, by omega, rfl, rfl, by rw [HQ.out]; congr 1; omega, fun i hi => by
                      rw [HS2.out, getD_set, if_neg (by omega)]
                      exact HM3.out i hi, by rw [HS2.out, show negs ((clear is ((trues is).take k)).set a false) = (negs (clear is ((trues is).take k))).set a true from negs_set _ a false]; exact H3, hB.trans hB3⟩)
                    have haN2 : ((a : Int) == (N : Int)) = false := by simp; omega
                    clear H3 hB3 hlt ha ham
                    have hsum : (0:Int) ≤ (fr : Int) + (a : Int) := by omega
                    have hsum2 : (fr : Int) + (a : Int) ≤ 70000 := by omega
                    go_wp2
                    go_roundw
                    case rel => exact HR.out
                    case measure => simp [intOf]; omega
            · obtain rfl : k = c := by omega
              have hkc' : ¬ (k : Int) < (k : Int) := by omega
              have hs9 : Sp wr b g cap fr (fr + N) (clear is ((trues is).take k)) := H.get 0 rfl
              have hfree : (trues (clear is ((trues is).take k))).length = (trues is).length - k := by rw [trues_clear_take, List.length_drop]
              have HFR := Lib.hid hfree
              have HR := Lib.hid (show OnceRel w w.heap.size b g cap fr N gH lb (gk - 1) (.int .i64 (((trues is).length - k : Nat) : Int)) (.int .i64 ((j + 1 : Nat) : Int)) wr from ⟨j + 1, _, by omega, by omega, by omega, rfl, HCL.out _, by rw [hfree], (H.perm (perm_last _ _ _)).drops (D := [_]), hB⟩)
              have HS9 := Lib.hid hs9
              clear H hfree hlow hs9
              go_wp2_with fail
              refine (sp_free HS9.out).mono ?_
              rw [HFR.out]
              rintro e w' ⟨rfl, rfl⟩
              go_wp2
              go_roundg (gk - 1)
              case measure => omega
              case rel => exact HR.out
      · have b2 : decide ((j : Int) < 300) = false := by simp; omega
        go_wp2_with fail
        refine (started_calls wr (by have := hB.size; omega) (hT.below hB hw0)).mono ?_
        rintro e w2 ⟨rfl, hB2⟩
        go_wp2
        go_ret
        exact ⟨rfl, hB.trans (hB2.mono hB.size)⟩
    · have b1 : decide (j < lb) = false := by simpa using hlt
      go_wp2_with fail
      refine (started_calls wr (by have := hB.size; omega) (hT.below hB hw0)).mono ?_
      rintro e w2 ⟨rfl, hB2⟩
      go_wp2
      go_ret
      exact ⟨rfl, hB.trans (hB2.mono hB.size)⟩
end Go.Proofs.YtnjjijkcenhebaaDoor
