/- The contracts of TakeAll and List. -/
import Derived.Test.YtnjjijkcenhebaaDoorSpace3
import Derived.Test.YtnjjijkcenhebaaDoorKit2
set_option linter.unusedVariables false
set_option linter.unusedSimpArgs false
namespace Go.Proofs.YtnjjijkcenhebaaDoor
open Go.RowKit

def ints (l : List Int) : List Value := l.map (Value.int .i64)
theorem ints_length (l : List Int) : (ints l).length = l.length := by simp [ints]
def nums (fr : Nat) (l : List Nat) : List Int := l.map fun (m : Nat) => (fr : Int) + m
theorem nums_length (fr : Nat) (l : List Nat) : (nums fr l).length = l.length := by simp [nums]
theorem ints_append (l m : List Int) : ints (l ++ m) = ints l ++ ints m := by simp [ints]
theorem nums_append (fr : Nat) (l m : List Nat) : nums fr (l ++ m) = nums fr l ++ nums fr m := by simp [nums]
/-- a list of whole numbers that was handed out -/
def IntsAt (w : World) (v : Value) (l : List Int) : Prop := w.ownsRow 0 3 1 v l.length (ints l)
theorem info3 : (Tryd.prog.info? 3).map (fun i => (i.zero, i.size, i.bytes)) = some (some (.int .i64 0), 1, 8) := by kernel_rfl

def takeAllOk (is : List Bool) (k : Int) : Bool := decide (0 ≤ k) && decide (k ≤ (trues is).length)
def takeAllOut (fr : Nat) (is : List Bool) (k : Int) : List Int := if takeAllOk is k then nums fr ((trues is).take k.toNat) else []
def takeAllS (is : List Bool) (k : Int) : List Bool := if takeAllOk is k then clear is ((trues is).take k.toNat) else is
def TakeAllPost (fr to b g cap : Nat) (is : List Bool) (k : Int) (w : World) (e : Ending) (w' : World) : Prop :=
  ∃ v, e = .returned (.tuple #[v, .bool (takeAllOk is k)]) ∧ IntsAt w' v (takeAllOut fr is k) ∧ Fresh w v ∧ Sp w' b g cap fr to (takeAllS is k) ∧ Keeps [b, g] w w'

theorem clip_calls (w : World) (g n : Nat) : Calls Tryd.prog 40 #[.slice (some ⟨g, 0, none⟩) n n] w fun e w' => e = .returned (.slice (some ⟨g, 0, none⟩) n n) ∧ w = w' := by
  go_enter Tryd.func40, Tryd.ntmps40
  go_wp2
  go_ret
  exact ⟨rfl, rfl⟩

theorem takeAll_no {w : World} {b g cap fr to : Nat} {is : List Bool} (h : Sp w b g cap fr to is) (k : Int) (hk : takeAllOk is k = false) :
    Calls Tryd.prog 19 #[.pointer (some ⟨b, 0, none⟩), .int .i64 k] w (TakeAllPost fr to b g cap is k w) := by
  obtain ⟨free, low, ws, h⟩ := h
  have h2 := h.blk.cell 2
  simp [spCells] at h2
  have HK := Lib.hid hk
  have hfin : TakeAllPost fr to b g cap is k w (.returned (.tuple #[.slice none 0 0, .bool false])) w :=
    ⟨_, by rw [hk], by simp [takeAllOut, hk]; exact World.ownsRow_nil _ _ _ _, Fresh.nil w, ⟨free, low, ws, by simpa [takeAllS, hk] using h⟩, Keeps.refl _ _⟩
  have hfree := h.inv.free
  simp [takeAllOk] at hk
  by_cases c : k < 0
  · have c1 : decide (k < 0) = true := by simpa using c
    clear hk hfree
    go_enter Tryd.func19, Tryd.ntmps19
    go_wp2
    go_ret2
    exact hfin
  · have c1 : decide (k < 0) = false := by simpa using c
    have c2 : decide (free < k) = true := by simp; have := hk (by omega); omega
    clear hk hfree
    go_enter Tryd.func19, Tryd.ntmps19
    go_wp2
    go_ret2
    exact hfin

set_option maxHeartbeats 1000000 in
theorem takeAll_yes {w : World} {b g cap fr to : Nat} {is : List Bool} (h : Sp w b g cap fr to is) (hT : TabW w) (k : Int) (hk : takeAllOk is k = true) :
    Calls Tryd.prog 19 #[.pointer (some ⟨b, 0, none⟩), .int .i64 k] w (TakeAllPost fr to b g cap is k w) := by
  have hsp := h
  obtain ⟨free, low, ws, h⟩ := h
  have h2 := h.blk.cell 2
  simp [spCells] at h2
  obtain ⟨hf0, hf1, _, _⟩ := h.bounds
  have HK := Lib.hid hk
  have hfree := h.inv.free
  simp [takeAllOk] at hk
  obtain ⟨n, rfl⟩ := Int.eq_ofNat_of_zero_le hk.1
  have hn : n ≤ (trues is).length := by omega
  have c1 : decide ((n : Int) < 0) = false := by simp
  have c2 : decide (free < (n : Int)) = false := by simp; omega
  have hn1 : n ≤ 65536 := by omega
  clear hk
  have HF := Lib.hid hfree
  clear hfree
  have hb0 := h.b0
  have hg0 := h.g0
  have hbl := h.blk.lt
  have hgl := h.row.lt
  go_enter Tryd.func19, Tryd.ntmps19
  go_wp2_with (refine wp_make0 rfl _ _ 49 3 (.int .i64 0) 1 8 rfl Tryd.underlying49 info3 n rfl rfl rfl ?c1 ?c2 ?_)
  case c1 => omega
  case c2 => unfold maxLen; omega
  intro w1 hr1 hk1
  go_wp2
  have HH : Hid (w.heap.size < w1.heap.size) := hr1.lt
  go_loopw [6, 22] (fun out i wr => ∃ j : Nat, j ≤ n ∧ i = .int .i64 j ∧ out = .slice (some ⟨w.heap.size, 0, none⟩) j n ∧ RowAt wr w.heap.size 3 1 j n (ints (nums fr ((trues is).take j))) ∧ Sp wr b g cap fr to (clear is ((trues is).take j)) ∧ Keeps [b, g] w wr) (fun _ i _ => n - (intOf i).toNat)
  case atStart => exact ⟨0, Nat.zero_le _, rfl, rfl, by simpa [ints, nums] using hr1, hsp.keeps hk1 (by simp) (by simp), hk1.mono (by simp)⟩
  case round =>
    obtain ⟨j, hj, rfl, rfl, hrow, hs, hk⟩ := hrel
    by_cases hlt : j < n
    · have hT' : TabW wr := hT.keeps hk (by simp; omega)
      obtain ⟨m, t, ht⟩ : ∃ m t, trues (clear is ((trues is).take j)) = m :: t := by
        cases hh : trues (clear is ((trues is).take j)) with
        | nil => rw [trues_clear_take] at hh; have := List.drop_eq_nil_iff.1 hh; omega
        | cons m t => exact ⟨m, t, rfl⟩
      obtain ⟨q1, q2⟩ := clear_take_succ ht
      obtain ⟨t1, t2, t3⟩ := take_cons (fr := fr) ht
      have HT1 := Lib.hid t1
      have HT2 := Lib.hid t2
      have HT3 := Lib.hid t3
      have HQ1 := Lib.hid q1
      have HQ2 := Lib.hid q2
      clear t1 t2 t3 q1 q2 ht
      go_wp2_with fail
      refine (take_calls hs hT').mono ?_
      rintro e w2 ⟨he, hs2, hk2⟩
      rw [HT1.out, HT2.out] at he
      rw [HT3.out, ← HQ2.out] at hs2
      subst he
      have hrow2 := hrow.keeps hk2 (by simp; omega)
      go_wp2_with (refine wp_push_fits rfl _ _ 49 3 (.int .i64 0) 1 8 rfl Tryd.underlying49 info3 w.heap.size j n (ints (nums fr ((trues is).take j))) #[.int .i64 ((fr : Int) + m)] rfl rfl (by simp) rfl ?c1 hrow2 (by omega) ?_)
      case c1 => simp [Value.oneCell']
      intro w3 hrow3 hk3
      go_wp2
      go_roundw
      case rel => exact ⟨j + 1, by omega, by go_num, rfl, by rw [HQ1.out]; simpa [ints, nums] using hrow3, hs2.keeps hk3 (by simp; omega) (by simp; omega), (hk.trans' hk2).trans hk3 (by simp)⟩
      case measure => simp [intOf]; omega
    · obtain rfl : j = n := by omega
      go_wp2_with fail
      refine (clip_calls _ _ _).mono ?_
      rintro e w2 ⟨rfl, rfl⟩
      go_wp2
      go_ret2
      refine ⟨_, by rw [HK.out]; rfl, ?_, ?_, ?_, hk⟩
      · unfold IntsAt takeAllOut
        rw [if_pos HK.out]
        simp only [nums_length, List.length_take, Int.toNat_natCast]
        rw [Nat.min_eq_left hn]
        exact hrow
      · intro k hk'; cases hk'; exact Nat.le_refl _
      · unfold takeAllS
        rw [if_pos HK.out]
        exact hs

def pre (is : List Bool) (j : Nat) : List Nat := (List.range j).filter fun i => is.getD i false
theorem pre_succ (is : List Bool) (j : Nat) : pre is (j + 1) = pre is j ++ (if is.getD j false then [j] else []) := by
  simp only [pre, List.range_succ, List.filter_append, List.filter_cons, List.filter_nil]
theorem pre_le (is : List Bool) (j : Nat) : (pre is j).length ≤ j := by
  have := List.length_filter_le (fun i => is.getD i false) (List.range j)
  simpa [pre] using this
def ListPost (fr : Nat) (is : List Bool) (w : World) (e : Ending) (w' : World) : Prop := ∃ v, e = .returned v ∧ IntsAt w' v (nums fr (trues is)) ∧ Fresh w v ∧ Keeps [] w w'

set_option maxHeartbeats 1000000 in
theorem list_calls {w : World} {b g cap fr to : Nat} {is : List Bool} (h : Sp w b g cap fr to is) :
    Calls Tryd.prog 26 #[.pointer (some ⟨b, 0, none⟩)] w (ListPost fr is w) := by
  obtain ⟨free, low, ws, h⟩ := h
  have h0 := h.blk.cell 0
  simp [spCells] at h0
  have hlt := h.lt
  have hle := h.le
  have HL := Lib.hid h.inv.len
  go_enter Tryd.func26, Tryd.ntmps26
  go_wp2
  clear h0
  go_loopw [3, 4] (fun v i wr => ∃ j : Nat, fr + j ≤ to ∧ i = .int .i64 ((fr : Int) + j) ∧ wr.ownsRow 0 3 1 v (pre is j).length (ints (nums fr (pre is j))) ∧ Fresh w v ∧ Keeps [] w wr) (fun _ i _ => to - (intOf i).toNat)
  case atStart => exact ⟨0, by omega, by simp, World.ownsRow_nil _ _ _ _, Fresh.nil w, Keeps.refl _ _⟩
  case round =>
    obtain ⟨j, hj, rfl, hown, hfr, hk⟩ := hrel
    have hs := h.keeps hk (by simp) (by simp)
    have h1 := hs.blk.cell 1
    simp [spCells] at h1
    by_cases hlt2 : fr + j < to
    · have hlt3 : (fr : Int) + j < to := by omega
      have hb := hasB_in fr is j
      have hps := pre_succ is j
      have hpl := pre_le is j
      cases hv : is.getD j false with
      | false =>
        rw [hv] at hb hps
        have HB := Lib.hid hb
        have HP := Lib.hid hps
        clear hb hps hv
        go_wp2_with fail
        refine (has_calls hs _).mono ?_
        rw [HB.out]
        rintro e w2 ⟨rfl, rfl⟩
        go_wp2
        go_roundw
        case rel => exact ⟨j + 1, by omega, by go_num, by rw [HP.out]; simpa using hown, hfr, hk⟩
        case measure => simp [intOf]; omega
      | true =>
        rw [hv] at hb hps
        have HB := Lib.hid hb
        have HP := Lib.hid hps
        clear hb hps hv
        go_wp2_with fail
        refine (has_calls hs _).mono ?_
        rw [HB.out]
        rintro e w2 ⟨rfl, rfl⟩
        go_wp2_with (refine wp_push rfl _ _ 49 3 (.int .i64 0) 1 8 rfl Tryd.underlying49 info3 rfl (by omega) (by omega) u3 (pre is j).length (ints (nums fr (pre is j))) #[.int .i64 ((fr : Int) + j)] rfl rfl (by simp) rfl ?c1 hown ?c2 ?_)
        case c1 => simp [Value.oneCell']
        case c2 => omega
        intro v1 w3 hown3 hk3 hb3
        go_wp2
        go_roundw
        case rel => exact ⟨j + 1, by omega, by go_num, by rw [HP.out]; simpa [ints, nums] using hown3, fun k e => (hb3 k e).elim (hfr k) (Nat.le_trans hk.size), keeps_row hk hk3 fun k e => .inr (hfr k e)⟩
        case measure => simp [intOf]; omega
    · have hlt3 : ¬ (fr : Int) + j < to := by omega
      have e : to - fr = j := by omega
      have HE : Hid (pre is j = trues is) := by show _ = _; rw [← e, ← HL.out]; rfl
      clear e
      go_wp2
      go_ret
      exact ⟨_, rfl, by unfold IntsAt; rw [nums_length, ← HE.out]; exact hown, hfr, hk⟩
end Go.Proofs.YtnjjijkcenhebaaDoor
