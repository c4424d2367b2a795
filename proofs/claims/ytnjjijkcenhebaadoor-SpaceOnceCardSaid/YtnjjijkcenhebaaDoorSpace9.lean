/- The contracts of the document's own answer: TakeAll, Take, Copy, New. -/
import Derived.Test.YtnjjijkcenhebaaDoorSpace8
import Derived.Deep.RegionHeld3
set_option linter.unusedVariables false
set_option linter.unusedSimpArgs false
namespace Go.Proofs.YtnjjijkcenhebaaDoor
open Go.RowKit

def RTakeAllPost (fr to b g cap : Nat) (is : List Bool) (k : Int) (w : World) (e : Ending) (w' : World) : Prop :=
  ∃ v, e = .returned (.tuple #[v, .bool (takeAllOk is k)]) ∧ IntsAt w' v (takeAllOut fr is k) ∧ Fresh w v ∧ Rf w' b g cap fr to (takeAllS is k) ∧ Keeps [b, g] w w'
theorem nums_getD (fr : Nat) (l : List Nat) (j : Nat) (h : j < l.length) : (nums fr l).getD j 0 = (fr : Int) + (l.getD j 0 : Nat) := by
  simp [nums, List.getD_eq_getElem?_getD, List.getElem?_eq_getElem h]
theorem getD_mem (l : List Nat) (j : Nat) (h : j < l.length) : l.getD j 0 ∈ l := by
  simp [List.getD_eq_getElem?_getD, List.getElem?_eq_getElem h]
theorem take_succ_getD (l : List Nat) (j : Nat) (h : j < l.length) : l.take (j + 1) = l.take j ++ [l.getD j 0] := by
  rw [List.take_succ_eq_append_getElem h]
  simp [List.getD_eq_getElem?_getD, List.getElem?_eq_getElem h]

theorem rtakeAll_no {w : World} {b g cap fr to : Nat} {is : List Bool} (h : Rf w b g cap fr to is) (k : Int) (hk : takeAllOk is k = false) :
    Calls Tryd.prog 42 #[.pointer (some ⟨b, 0, none⟩), .int .i64 k] w (RTakeAllPost fr to b g cap is k w) := by
  have hfin : ∀ w1, Keeps [] w w1 → RTakeAllPost fr to b g cap is k w (.returned (.tuple #[.slice none 0 0, .bool false])) w1 := fun w1 hk1 =>
    ⟨_, by rw [hk], by simp [takeAllOut, hk]; exact World.ownsRow_nil _ _ _ _, Fresh.nil w, by simpa [takeAllS, hk] using h.keeps hk1 (by simp) (by simp), hk1.mono (by simp)⟩
  simp [takeAllOk] at hk
  by_cases c : k < 0
  · have c1 : decide (k < 0) = true := by simpa using c
    clear hk
    go_enter Tryd.func42, Tryd.ntmps42
    go_wp2_with fail
    refine (rlist_calls h).mono ?_
    rintro e w1 ⟨v, rfl, hown, hf, hk⟩
    go_wp2
    go_ret2
    exact hfin _ hk
  · have c1 : decide (k < 0) = false := by simpa using c
    have c2 : decide (((trues is).length : Int) < k) = true := by simp; exact hk (by omega)
    clear hk
    go_enter Tryd.func42, Tryd.ntmps42
    go_wp2_with fail
    refine (rlist_calls h).mono ?_
    rintro e w1 ⟨v, rfl, hown, hf, hk⟩
    obtain ⟨ao, c, rfl⟩ := own_len hown
    rw [nums_length]
    go_wp2
    go_ret2
    exact hfin _ hk

set_option maxHeartbeats 1000000 in
theorem rtakeAll_yes {w : World} {b g cap fr to : Nat} {is : List Bool} (h : Rf w b g cap fr to is) (k : Int) (hk : takeAllOk is k = true) :
    Calls Tryd.prog 42 #[.pointer (some ⟨b, 0, none⟩), .int .i64 k] w (RTakeAllPost fr to b g cap is k w) := by
  have HK := Lib.hid hk
  simp [takeAllOk] at hk
  obtain ⟨n, rfl⟩ := Int.eq_ofNat_of_zero_le hk.1
  have hn : n ≤ (trues is).length := by omega
  have c1 : decide ((n : Int) < 0) = false := by simp
  have c2 : decide (((trues is).length : Int) < (n : Int)) = false := by simp; omega
  clear hk
  have hbl := h.blk.lt
  have hgl := h.row.lt
  have htl : (trues is).length ≤ 65536 := by have := trues_len_le is; have := h.len; have := h.le; omega
  go_enter Tryd.func42, Tryd.ntmps42
  go_wp2_with fail
  refine (rlist_calls h).mono ?_
  rintro e w1 ⟨v, rfl, hown, hf, hk1⟩
  obtain ⟨ao, c, rfl, hl, hcell⟩ := hown.at
  rw [nums_length] at hcell ⊢
  go_wp2
  go_loopw [7] (fun i wr => ∃ j : Nat, j ≤ n ∧ i = .int .i64 (j : Int) ∧ Rf wr b g cap fr to (clear is ((trues is).take j)) ∧ Keeps [b, g] w1 wr) (fun i _ => n - (intOf i).toNat)
  case atStart => exact ⟨0, Nat.zero_le _, rfl, by simpa [clear] using h.keeps hk1 (by simp) (by simp), Keeps.refl _ _⟩
  case round =>
    obtain ⟨j, hj, rfl, hs, hk⟩ := hrel
    by_cases hlt : j < n
    · have hlt' : (j : Int) < (n : Int) := by omega
      have hjl : j < (trues is).length := by omega
      obtain ⟨gl, rfl, cl⟩ := hcell j hjl
      have hgl' := hf gl rfl
      replace cl := hk.cell cl (by simp; omega)
      rw [nums_getD fr _ j hjl] at cl
      have hm := trues_lt (getD_mem _ j hjl)
      have HT : Hid (clear is ((trues is).take (j + 1)) = (clear is ((trues is).take j)).set ((trues is).getD j 0) false) := by
        show _ = _
        rw [take_succ_getD _ j hjl, clear_append]
      generalize (trues is).getD j 0 = m at cl hm HT
      have hcl := clear_length ((trues is).take j) is
      have h0 := hs.blk.cell 0
      have h2 := hs.blk.cell 2
      simp at h0 h2
      rw [hcl] at h2
      have hc := (hs.row.cell m (by omega)).trans (bools_get _ m (by omega))
      generalize (clear is ((trues is).take j)).getD m false = x at hc
      have fw := hs.row.frozen m
      have hm2 : fr + m < to := by have := h.len; have := h.lt; omega
      have hle := h.le
      have e3 : ((fr : Int) + m - fr) = m := by omega
      have hm3 : (m : Int) < is.length := by omega
      have HE : Hid (is.length ≤ 65536) := by show _ ≤ _; have := h.len; omega
      go_wp2_with fail
      go_region
      go_wp2
      go_roundw
      case rel => exact ⟨j + 1, by omega, by go_num, by rw [HT.out]; exact (hs.set m false).drew, (hk.setCell (by simp) _).drew⟩
      case measure => simp [intOf]; omega
    · have hlt' : ¬ (j : Int) < (n : Int) := by omega
      obtain rfl : j = n := by omega
      have hown' := hown.keeps hk (fun k e => by have := hf k e; simp; omega)
      rcases own_form hown' with ⟨h1, h2, _⟩ | ⟨gl, cp, h1, hr⟩
      · injection h1 with a1 a2 a3
        subst a1
        subst a3
        rw [nums_length] at h2
        have hj0 : j = 0 := by omega
        subst hj0
        have HK0 : Hid (takeAllOk is 0 = true) := by show _ = _; simpa using HK.out
        go_wp2
        go_ret2
        refine ⟨_, by rw [HK0.out]; rfl, ?_, Fresh.nil w, ?_, (hk1.mono (by simp)).trans' hk⟩
        · unfold IntsAt takeAllOut
          rw [if_pos HK0.out]
          simp only [nums_length, List.length_take]
          exact World.ownsRow_nil _ _ _ _
        · unfold takeAllS
          rw [if_pos HK0.out]
          exact hs
      · injection h1 with a1 a2 a3
        subst a1
        subst a3
        have hcp := hr.capLe
        unfold maxLen at hcp
        have hcp1 := hcp.1
        have hcp2 := hcp.2
        rw [nums_length] at hcp1
        have hgl' := hf gl rfl
        go_wp2
        go_ret2
        refine ⟨_, by rw [HK.out]; rfl, ?_, fun k e => by cases e; exact hgl', ?_, (hk1.mono (by simp)).trans' hk⟩
        · unfold IntsAt takeAllOut
          rw [if_pos HK.out]
          have hr2 := hr.take j (by rw [nums_length]; exact hn)
          simp only [nums_length, List.length_take, Int.toNat_natCast, Nat.min_eq_left hn]
          have e : (ints (nums fr (trues is))).take (j * 1) = ints (nums fr ((trues is).take j)) := by simp [ints, nums, List.map_take]
          rw [e] at hr2
          exact hr2
        · unfold takeAllS
          rw [if_pos HK.out]
          exact hs

theorem rtakeAll_calls {w : World} {b g cap fr to : Nat} {is : List Bool} (h : Rf w b g cap fr to is) (k : Int) :
    Calls Tryd.prog 42 #[.pointer (some ⟨b, 0, none⟩), .int .i64 k] w (RTakeAllPost fr to b g cap is k w) := by
  cases hk : takeAllOk is k with
  | true => exact rtakeAll_yes h k hk
  | false => exact rtakeAll_no h k hk
theorem takeAll_calls {w : World} {b g cap fr to : Nat} {is : List Bool} (h : Sp w b g cap fr to is) (hT : TabW w) (k : Int) :
    Calls Tryd.prog 19 #[.pointer (some ⟨b, 0, none⟩), .int .i64 k] w (TakeAllPost fr to b g cap is k w) := by
  cases hk : takeAllOk is k with
  | true => exact takeAll_yes h hT k hk
  | false => exact takeAll_no h k hk

def RTakePost (fr to b g cap : Nat) (is : List Bool) (w : World) (e : Ending) (w' : World) : Prop :=
  e = .returned (.tuple #[.int .i64 (takeOut fr is), .bool (takeOk is)]) ∧ Rf w' b g cap fr to (takeS is) ∧ Keeps [b, g] w w'
theorem rtake_calls {w : World} {b g cap fr to : Nat} {is : List Bool} (h : Rf w b g cap fr to is) :
    Calls Tryd.prog 31 #[.pointer (some ⟨b, 0, none⟩)] w (RTakePost fr to b g cap is w) := by
  cases ht : trues is with
  | nil =>
    have e1 : takeAllOk is 1 = false := by simp [takeAllOk, ht]
    have e2 : takeAllS is 1 = is := by simp [takeAllS, e1]
    obtain ⟨t1, t2, t3⟩ := take_nil (fr := fr) ht
    have H1 := Lib.hid t1
    have H2 := Lib.hid t2
    have H3 := Lib.hid t3
    have HE1 := Lib.hid e1
    have HE2 := Lib.hid e2
    clear t1 t2 t3 e1 e2 ht
    go_enter Tryd.func31, Tryd.ntmps31
    go_wp2_with fail
    refine (rtakeAll_calls h _).mono ?_
    rintro e w1 ⟨v, he, hown, hf, hr, hk⟩
    rw [HE1.out] at he
    rw [HE2.out] at hr
    subst he
    go_wp2
    go_ret2
    unfold RTakePost
    rw [H1.out, H2.out, H3.out]
    exact ⟨rfl, hr, hk⟩
  | cons m t =>
    have e1 : takeAllOk is 1 = true := by simp [takeAllOk, ht]; omega
    have e2 : takeAllS is 1 = is.set m false := by simp [takeAllS, e1, ht, clear]
    have e3 : takeAllOut fr is 1 = [(fr : Int) + m] := by simp [takeAllOut, e1, ht, nums]
    obtain ⟨t1, t2, t3⟩ := take_cons (fr := fr) ht
    have H1 := Lib.hid t1
    have H2 := Lib.hid t2
    have H3 := Lib.hid t3
    have HE1 := Lib.hid e1
    have HE2 := Lib.hid e2
    have HE3 := Lib.hid e3
    clear t1 t2 t3 e1 e2 e3 ht
    go_enter Tryd.func31, Tryd.ntmps31
    go_wp2_with fail
    refine (rtakeAll_calls h _).mono ?_
    rintro e w1 ⟨v, he, hown, hf, hr, hk⟩
    rw [HE1.out] at he
    rw [HE2.out] at hr
    rw [HE3.out] at hown
    subst he
    obtain ⟨ao, c, rfl, hl, hcell⟩ := hown.at
    obtain ⟨gl, rfl, cl⟩ := hcell 0 (by simp)
    simp at cl
    go_wp2
    go_ret2
    unfold RTakePost
    rw [H1.out, H2.out, H3.out]
    exact ⟨rfl, hr, hk⟩

def RCopyPost (fr to : Nat) (is : List Bool) (w : World) (e : Ending) (w' : World) : Prop :=
  ∃ b g cap, e = .returned (.pointer (some ⟨b, 0, none⟩)) ∧ Rf w' b g cap fr to is ∧ w.heap.size ≤ b ∧ w.heap.size ≤ g ∧ Keeps [] w w'
set_option maxHeartbeats 1000000 in
theorem rcopy_calls {w : World} {b g cap fr to : Nat} {is : List Bool} (h : Rf w b g cap fr to is) :
    Calls Tryd.prog 37 #[.pointer (some ⟨b, 0, none⟩)] w (RCopyPost fr to is w) := by
  have h0 := h.blk.cell 0
  have h1 := h.blk.cell 1
  simp at h0 h1
  have hbl := h.blk.lt
  have hgl := h.row.lt
  go_enter Tryd.func37, Tryd.ntmps37
  go_wp2_with fail
  go_region
  go_wp2_with fail
  have hs0 := (StrAt.new w #[.int .i64 (fr : Int), .int .i64 (to : Int), .slice none 0 0] 68).drewN 1
  have hr0 := h.keeps (((Keeps.refl [] w).alloc (.cells #[.int .i64 (fr : Int), .int .i64 (to : Int), .slice none 0 0] 68)).drew) (by simp) (by simp)
  have hk0 := ((Keeps.refl [] w).alloc (.cells #[.int .i64 (fr : Int), .int .i64 (to : Int), .slice none 0 0] 68)).drew
  have hz0 : w.heap.size < (w.alloc (.cells #[.int .i64 (fr : Int), .int .i64 (to : Int), .slice none 0 0] 68)).drew.heap.size := hs0.lt
  change StrAt (w.alloc (.cells #[.int .i64 (fr : Int), .int .i64 (to : Int), .slice none 0 0] 68)).drew _ _ _ at hs0
  generalize (World.alloc w _).drew = W at *
  have q2 := hs0.cell 2
  have p2 := hr0.blk.cell 2
  simp at q2 p2
  have hle : is.length ≤ 65536 := by have := h.len; have := h.le; omega
  have hl1 : 1 ≤ is.length := by have := h.len; have := h.lt; omega
  have hnb : w.heap.size ≠ g := by omega
  have hs0' : StrAt W.drew w.heap.size #[.int .i64 (fr : Int), .int .i64 (to : Int), .slice none 0 0] 68 := hs0
  have hk0' : Keeps [] w W.drew := hk0.drew
  go_region_law (refine step_append rfl _ _ 48 4 (.bool false) 1 1 rfl Tryd.underlying48 info4 rfl (by omega) (by omega) (.slice none 0 0) 0 [] g is.length cap (bools is) rfl rfl (show RowAt _ g 4 1 is.length cap (bools is) from hr0.row) (by intro u hu; simp [bools] at hu; rcases hu with ⟨_, rfl⟩ | ⟨_, rfl⟩ <;> rfl) (World.ownsRow_nil _ _ _ _) (by omega) ?_; intro v1 w1 hown hk hf _; obtain ⟨g', cap', rfl, hrow⟩ := own_some hown (by omega); have hs1 := hs0'.keeps hk (by simp [Value.ownBlock]); have c2 := hs1.cell 2; have f2 := hs1.frozen 2; simp at c2)
  all_goals
    go_wp2
    go_ret
    have hgg := hf g' rfl
    simp [Value.ownBlock] at hgg
    rw [Nat.zero_add, List.nil_append] at hrow
    refine ⟨w.heap.size, g', cap', rfl, ⟨?_, hrow.other (a := ⟨w.heap.size, 2, none⟩) (by show g' ≠ w.heap.size; omega) _, by omega, by omega, by omega, h.lt, h.le, h.len⟩, Nat.le_refl _, by omega, ?_⟩
    · have := hs1.set 2 (.slice (some ⟨g', 0, none⟩) is.length cap')
      simpa using this
    · exact (hk0'.trans' (hk.mono (by simp [Value.ownBlock]))).setCell (.inr (Nat.le_refl _)) _

def RNewPost (fr to : Nat) (w : World) (e : Ending) (w' : World) : Prop :=
  ∃ b g cap, e = .returned (.tuple #[.pointer (some ⟨b, 0, none⟩), .int .i64 0]) ∧ Rf w' b g cap fr to (List.replicate (to - fr) true) ∧ w.heap.size ≤ b ∧ w.heap.size ≤ g ∧ Keeps [] w w'
def RNewRel (fr to : Nat) (w : World) (i : Value) (wr : World) : Prop :=
  ∃ (j : Nat) (v : Value), fr + j ≤ to ∧ i = .int .i64 ((fr : Int) + j) ∧ StrAt wr w.heap.size #[Value.int .i64 (fr : Int), Value.int .i64 (to : Int), v] 68 ∧ wr.ownsRow 0 4 1 v j (bools (List.replicate j true)) ∧ (∀ k, v.ownBlock = some k → w.heap.size < k) ∧ Keeps [] w wr
theorem rnew_bad (fr to : Int) (w : World) (h : badNew fr to = true) :
    Calls Tryd.prog 30 #[.int .i64 fr, .int .i64 to] w fun e w' => e = .returned (.tuple #[.pointer none, .int .i64 40]) ∧ w = w' := by
  simp [badNew] at h
  by_cases c1 : fr < 0
  · have e1 : decide (fr < 0) = true := by simpa using c1
    clear h
    go_enter Tryd.func30, Tryd.ntmps30
    go_wp2
    go_ret2
    exact ⟨rfl, rfl⟩
  · have e1 : decide (fr < 0) = false := by simpa using c1
    by_cases c2 : to ≤ fr
    · have e2 : decide (to ≤ fr) = true := by simpa using c2
      clear h
      go_enter Tryd.func30, Tryd.ntmps30
      go_wp2
      go_ret2
      exact ⟨rfl, rfl⟩
    · have e2 : decide (to ≤ fr) = false := by simpa using c2
      have e3 : decide (65536 < to) = true := by simp; omega
      clear h
      go_enter Tryd.func30, Tryd.ntmps30
      go_wp2
      go_ret2
      exact ⟨rfl, rfl⟩
set_option maxHeartbeats 1000000 in
theorem rnew_good (fr to : Nat) (w : World) (h1 : fr < to) (h2 : to ≤ 65536) (hw0 : 0 < w.heap.size) :
    Calls Tryd.prog 30 #[.int .i64 (fr : Int), .int .i64 (to : Int)] w (RNewPost fr to w) := by
  have e1 : decide ((fr : Int) < 0) = false := by simp
  have e2 : decide (to ≤ fr) = false := by simp; omega
  have e3 : decide (65536 < (to : Int)) = false := by simp; omega
  go_enter Tryd.func30, Tryd.ntmps30
  go_wp2
  have HS0 := Lib.hid (StrAt.new w #[Value.int .i64 (fr : Int), Value.int .i64 (to : Int), Value.slice none 0 0] 68)
  have HK0 := Lib.hid ((Keeps.refl [] w).alloc (.cells #[Value.int .i64 (fr : Int), Value.int .i64 (to : Int), Value.slice none 0 0] 68))
  go_loopw [7] (fun i wr => RNewRel fr to w i wr) (fun i _ => to - (intOf i).toNat)
  case atStart => exact ⟨0, .slice none 0 0, by omega, by simp, HS0.out, World.ownsRow_nil _ _ _ _, fun k h => by (cases h), HK0.out⟩
  case round =>
    obtain ⟨j, v, hj, rfl, hs, hown, hf, hk⟩ := hrel
    have c2 := hs.cell 2
    simp at c2
    have f2 := hs.frozen 2
    have hzz := hs.lt
    by_cases hlt : fr + j < to
    · have hlt' : (fr : Int) + j < (to : Int) := by omega
      obtain ⟨ao, c, rfl⟩ := own_len hown
      go_wp2_with (refine wp_push rfl _ _ 48 4 (.bool false) 1 1 rfl Tryd.underlying48 info4 rfl (by omega) (by omega) (.slice ao j c) j (bools (List.replicate j true)) #[.bool true] rfl rfl (by simp) rfl ?c1 hown ?c2 ?_)
      case c1 => simp [Value.oneCell']
      case c2 => omega
      intro v1 w3 hown3 hk3 hb3
      obtain ⟨g', cap', rfl, hrow⟩ := own_some hown3 (by omega)
      have hs3 := hs.keeps hk3 (by intro hm; have := hf w.heap.size (by simpa using hm); omega)
      have c2' := hs3.cell 2
      have f2' := hs3.frozen 2
      simp at c2'
      clear c2 f2
      have hgg : w.heap.size < g' := by rcases hb3 g' rfl with h | h; exact hf g' h; omega
      have hnb : g' ≠ w.heap.size := by omega
      go_wp2
      go_roundw
      case rel =>
        refine ⟨j + 1, .slice (some ⟨g', 0, none⟩) (j + 1) cap', by omega, by go_num, ?_, ?_, fun k e => by (cases e; exact hgg), ?_⟩
        · have := hs3.set 2 (.slice (some ⟨g', 0, none⟩) (j + 1) cap')
          simpa using this
        · have := hrow.other (a := ⟨w.heap.size, 2, none⟩) hnb (.slice (some ⟨g', 0, none⟩) (j + 1) cap')
          have e : bools (List.replicate (j + 1) true) = bools (List.replicate j true) ++ [.bool true] := by simp [bools, List.replicate_succ']
          rw [e]
          exact this
        · exact (keeps_row hk hk3 fun k e => .inr (by have := hf k e; omega)).setCell (.inr (Nat.le_refl _)) _
      case measure => simp [intOf]; omega
    · have hlt' : ¬ (fr : Int) + j < (to : Int) := by omega
      obtain ⟨g', cap', rfl, hrow⟩ := own_some hown (by omega)
      have hgg := hf g' rfl
      have e : to - fr = j := by omega
      go_wp2
      go_ret2
      exact ⟨_, g', cap', rfl, ⟨by rw [e]; simpa using hs, by rw [e]; simpa using hrow, by omega, by omega, by omega, h1, h2, by simp⟩, Nat.le_refl _, by omega, hk⟩
end Go.Proofs.YtnjjijkcenhebaaDoor
