/- Plain words on bits in words of 64 and on lists of bools: what a space counts. No program in sight. -/
import Derived.Lib.TrailingZeros
set_option linter.unusedVariables false
namespace Go.Proofs.YtnjjijkcenhebaaDoor
open Go

def bitAt (ws : List Nat) (i : Nat) : Bool := (ws.getD (i / 64) 0).testBit (i % 64)
/-- the free ones' places, rising -/
def trues (is : List Bool) : List Nat := (List.range is.length).filter fun i => is.getD i false
def clear (is : List Bool) (l : List Nat) : List Bool := l.foldl (fun s i => s.set i false) is

theorem getD_set (is : List Bool) (m : Nat) (v : Bool) (i : Nat) : (is.set m v).getD i false = if i = m ∧ m < is.length then v else is.getD i false := by
  simp only [List.getD_eq_getElem?_getD, List.getElem?_set]
  by_cases h : m = i
  · subst h
    by_cases h2 : m < is.length <;> simp [h2]
  · simp [h, Ne.symm h]

theorem trues_nodup (is : List Bool) : (trues is).Nodup := List.Pairwise.filter _ List.nodup_range
theorem mem_trues (is : List Bool) (i : Nat) : i ∈ trues is ↔ is.getD i false = true := by
  simp only [trues, List.mem_filter, List.mem_range]
  constructor
  · exact fun h => h.2
  · intro h
    refine ⟨?_, h⟩
    by_cases hi : i < is.length
    · exact hi
    · simp [List.getD_eq_getElem?_getD, List.getElem?_eq_none (Nat.le_of_not_lt hi)] at h
theorem trues_lt {is : List Bool} {i : Nat} (h : i ∈ trues is) : i < is.length := by simpa using (List.mem_filter.1 h).1
theorem trues_clear_one (is : List Bool) (m : Nat) : trues (is.set m false) = (trues is).filter (· != m) := by
  simp only [trues, List.length_set, List.filter_filter]
  refine List.filter_congr fun i hi => ?_
  rw [getD_set]
  by_cases h : i = m
  · subst h
    by_cases h2 : i < is.length
    · simp [h2]
    · simp at hi; omega
  · simp [h]
theorem trues_cons {is : List Bool} {m : Nat} {t : List Nat} (h : trues is = m :: t) : trues (is.set m false) = t := by
  rw [trues_clear_one, h]
  have hn := trues_nodup is
  rw [h] at hn
  simp only [List.filter_cons, bne_self_eq_false, Bool.false_eq_true, if_false]
  refine List.filter_eq_self.2 fun x hx => ?_
  have := (List.nodup_cons.1 hn).1
  simp
  rintro rfl
  exact this hx
theorem trues_len_clear {is : List Bool} {m : Nat} (h : is.getD m false = true) : (trues (is.set m false)).length + 1 = (trues is).length := by
  have hm := (mem_trues is m).2 h
  rw [trues_clear_one, ← (trues_nodup is).erase_eq_filter, List.length_erase_of_mem hm]
  have := List.length_pos_of_mem hm
  omega
theorem set_getD_self (is : List Bool) (m : Nat) (h : is.getD m false = false) : is.set m false = is := by
  refine List.ext_getElem (by simp) fun i h1 h2 => ?_
  rw [List.getElem_set]
  split
  · rename_i e
    subst e
    simp only [List.getD_eq_getElem?_getD, List.getElem?_eq_getElem h2, Option.getD_some] at h
    exact h.symm
  · rfl
theorem trues_len_give {is : List Bool} {m : Nat} (hm : m < is.length) (h : is.getD m false = false) : (trues (is.set m true)).length = (trues is).length + 1 := by
  have h1 : (is.set m true).getD m false = true := by rw [getD_set]; simp [hm]
  have h2 := trues_len_clear h1
  rw [List.set_set, set_getD_self is m h] at h2
  omega
theorem trues_len_le (is : List Bool) : (trues is).length ≤ is.length := by
  have := List.length_filter_le (fun i => is.getD i false) (List.range is.length)
  simpa [trues] using this
theorem trues_head {is : List Bool} {m : Nat} (h1 : is.getD m false = true) (h2 : ∀ i, i < m → is.getD i false = false) : ∃ t, trues is = m :: t := by
  have hm : m < is.length := trues_lt ((mem_trues is m).2 h1)
  refine ⟨((List.range' (m + 1) (is.length - (m + 1))).filter fun i => is.getD i false), ?_⟩
  have e : List.range is.length = List.range m ++ m :: List.range' (m + 1) (is.length - (m + 1)) := by
    rw [List.range_eq_range', List.range_eq_range', show is.length = m + (1 + (is.length - (m + 1))) by omega, ← List.range'_append_1, Nat.add_comm 1, List.range'_succ]
    simp
    omega
  rw [trues, e, List.filter_append, List.filter_cons, if_pos h1, List.filter_eq_nil_iff.2 (fun i hi => by rw [h2 i (by simpa using hi)]; exact Bool.false_ne_true)]
  rfl
theorem trues_nil {is : List Bool} (h : ∀ i, is.getD i false = false) : trues is = [] := List.filter_eq_nil_iff.2 fun i _ => by rw [h i]; exact Bool.false_ne_true
theorem clear_length (l : List Nat) : ∀ is : List Bool, (clear is l).length = is.length := by
  induction l with
  | nil => intro is; rfl
  | cons a l ih => intro is; simp only [clear, List.foldl_cons]; exact (ih _).trans (by simp)
theorem clear_append (is : List Bool) (l : List Nat) (a : Nat) : clear is (l ++ [a]) = (clear is l).set a false := by simp [clear]
theorem trues_clear_take (k : Nat) : ∀ is : List Bool, trues (clear is ((trues is).take k)) = (trues is).drop k := by
  induction k with
  | zero => intro is; simp [clear]
  | succ k ih =>
    intro is
    cases h : trues is with
    | nil => simp [clear, h]
    | cons m t =>
      have h1 := trues_cons h
      have h2 := ih (is.set m false)
      rw [h1] at h2
      simp only [List.take_succ_cons, List.drop_succ_cons, clear, List.foldl_cons]
      exact h2
/-- the k-th step of taking one by one -/
theorem clear_take_succ {is : List Bool} {k m : Nat} {t : List Nat} (h : trues (clear is ((trues is).take k)) = m :: t) : (trues is).take (k + 1) = (trues is).take k ++ [m] ∧ clear is ((trues is).take (k + 1)) = (clear is ((trues is).take k)).set m false := by
  rw [trues_clear_take] at h
  have e : (trues is).take (k + 1) = (trues is).take k ++ [m] := by
    have hk : k < (trues is).length := by
      by_cases hk : k < (trues is).length
      · exact hk
      · rw [List.drop_eq_nil_of_le (by omega)] at h; cases h
    rw [List.take_succ_eq_append_getElem hk]
    rw [List.drop_eq_getElem_cons hk] at h
    cases h
    rfl
  exact ⟨e, by rw [e, clear_append]⟩

/-- what the words say -/
structure WInv (n : Nat) (free : Int) (low : Nat) (ws : List Nat) (is : List Bool) : Prop where
  len : is.length = n
  wlen : ws.length = (n + 63) / 64
  lt : ∀ x ∈ ws, x < 2 ^ 64
  bits : ∀ i, bitAt ws i = is.getD i false
  free : free = (trues is).length
  lowLe : low ≤ ws.length
  low0 : ∀ j, j < low → ws.getD j 0 = 0

theorem getD_lt {ws : List Nat} (h : ∀ x ∈ ws, x < 2 ^ 64) (j : Nat) : ws.getD j 0 < 2 ^ 64 := by
  rw [List.getD_eq_getElem?_getD]
  cases hj : ws[j]? with
  | none => simp
  | some x => simpa using h x (List.mem_of_getElem? hj)
theorem bitAt_set (ws : List Nat) (j y i : Nat) : bitAt (ws.set j y) i = if i / 64 = j ∧ j < ws.length then y.testBit (i % 64) else bitAt ws i := by
  simp only [bitAt, List.getD_eq_getElem?_getD, List.getElem?_set]
  by_cases h : j = i / 64
  · subst h
    by_cases h2 : i / 64 < ws.length <;> simp [h2]
  · simp [h, Ne.symm h]
theorem set_lt {ws : List Nat} (h : ∀ x ∈ ws, x < 2 ^ 64) (j y : Nat) (hy : y < 2 ^ 64) : ∀ x ∈ ws.set j y, x < 2 ^ 64 := by
  intro x hx
  rcases List.mem_or_eq_of_mem_set hx with h1 | h1
  · exact h x h1
  · omega
theorem WInv.inw {n : Nat} {free : Int} {low : Nat} {ws : List Nat} {is : List Bool} (h : WInv n free low ws is) {i : Nat} (hi : i < n) : i / 64 < ws.length := by
  rw [h.wlen]; omega
theorem mask_testBit (k i : Nat) (hk : k < 64) (hi : i < 64) : (18446744073709551615 - 2 ^ k).testBit i = decide (i ≠ k) := by
  have h := Nat.testBit_two_pow_sub_succ (x := 2 ^ k) (n := 64) (Nat.pow_lt_pow_right (by omega) hk) i
  rw [show 18446744073709551615 - 2 ^ k = 2 ^ 64 - (2 ^ k + 1) by omega, h, Nat.testBit_two_pow]
  simp [hi]
  omega
theorem and_lt {a b : Nat} (h : a < 2 ^ 64) : a &&& b < 2 ^ 64 := Nat.lt_of_le_of_lt Nat.and_le_left h

theorem WInv.claim {n : Nat} {free : Int} {low : Nat} {ws : List Nat} {is : List Bool} (h : WInv n free low ws is) {i : Nat} (hi : i < n) (ht : is.getD i false = true) :
    WInv n (free - 1) low (ws.set (i / 64) (ws.getD (i / 64) 0 &&& (18446744073709551615 - 2 ^ (i % 64)))) (is.set i false) := by
  refine ⟨by simpa using h.len, by simpa using h.wlen, set_lt h.lt _ _ (and_lt (getD_lt h.lt _)), fun k => ?_, ?_, by simpa using h.lowLe, fun j hj => ?_⟩
  · rw [bitAt_set, getD_set]
    by_cases hk : k / 64 = i / 64
    · rw [if_pos ⟨hk, h.inw hi⟩, Nat.testBit_and, mask_testBit _ _ (Nat.mod_lt _ (by omega)) (Nat.mod_lt _ (by omega))]
      have hb := h.bits k
      unfold bitAt at hb
      rw [hk] at hb
      rw [hb]
      by_cases e : k = i
      · subst e; simp [h.len, hi]
      · rw [if_neg (by omega)]
        have : k % 64 ≠ i % 64 := by omega
        simp [this]
    · rw [if_neg (by omega), if_neg (by rintro ⟨rfl, _⟩; exact hk rfl)]
      exact h.bits k
  · have := trues_len_clear ht
    rw [h.free]; omega
  · have h0 := h.low0 j hj
    have hlen := h.lowLe
    by_cases e : i / 64 = j
    · subst e
      simp only [List.getD_eq_getElem?_getD, List.getElem?_set_self (show i / 64 < ws.length by omega), Option.getD_some]
      rw [← List.getD_eq_getElem?_getD, h0]; simp
    · simp only [List.getD_eq_getElem?_getD, List.getElem?_set_ne e]
      rw [← List.getD_eq_getElem?_getD]; exact h0
theorem WInv.give {n : Nat} {free : Int} {low : Nat} {ws : List Nat} {is : List Bool} (h : WInv n free low ws is) {i : Nat} (hi : i < n) (ht : is.getD i false = false) :
    WInv n (free + 1) (min low (i / 64)) (ws.set (i / 64) (ws.getD (i / 64) 0 ||| 2 ^ (i % 64))) (is.set i true) := by
  have hp : 2 ^ (i % 64) < 2 ^ 64 := Nat.pow_lt_pow_right (by omega) (Nat.mod_lt _ (by omega))
  refine ⟨by simpa using h.len, by simpa using h.wlen, set_lt h.lt _ _ (Nat.or_lt_two_pow (getD_lt h.lt _) hp), fun k => ?_, ?_, ?_, fun j hj => ?_⟩
  · rw [bitAt_set, getD_set]
    by_cases hk : k / 64 = i / 64
    · rw [if_pos ⟨hk, h.inw hi⟩, Nat.testBit_or, Nat.testBit_two_pow]
      have hb := h.bits k
      unfold bitAt at hb
      rw [hk] at hb
      rw [hb]
      by_cases e : k = i
      · subst e; simp [h.len, hi]
      · rw [if_neg (by omega)]
        have : ¬ i % 64 = k % 64 := by omega
        simp [this]
    · rw [if_neg (by omega), if_neg (by rintro ⟨rfl, _⟩; exact hk rfl)]
      exact h.bits k
  · have := trues_len_give (by rw [h.len]; exact hi) ht
    rw [h.free]; omega
  · have := h.lowLe
    simp; omega
  · have h0 := h.low0 j (by omega)
    rw [List.getD_eq_getElem?_getD, List.getElem?_set_ne (by omega), ← List.getD_eq_getElem?_getD]; exact h0

theorem low_bit {x : Nat} (h0 : x ≠ 0) (h : x < 2 ^ 64) : Lib.ctz 64 x < 64 ∧ x.testBit (Lib.ctz 64 x) = true ∧ (∀ i, i < Lib.ctz 64 x → x.testBit i = false) ∧ ∀ i, (x &&& (x - 1)).testBit i = (x.testBit i && decide (i ≠ Lib.ctz 64 x)) := by
  obtain ⟨m, hm, hk⟩ := Lib.ctzFrom_spec 64 x (by omega) h
  have e : Lib.ctz 64 x = Lib.ctzFrom 64 x := by simp [Lib.ctz, h0]
  rw [e]
  generalize Lib.ctzFrom 64 x = k at hm hk
  have hb : ∀ i, x.testBit i = (decide (k ≤ i) && (2 * m + 1).testBit (i - k)) := by
    intro i
    rw [hm, Nat.testBit_two_pow_mul]
  refine ⟨hk, ?_, ?_, ?_⟩
  · rw [hb]; simp
  · intro i hi; rw [hb]; simp; omega
  · intro i
    have hx1 : x - 1 = 2 ^ k * (2 * m) + (2 ^ k - 1) := by
      have : 0 < 2 ^ k := Nat.two_pow_pos k
      rw [hm, Nat.mul_add]; omega
    rw [Nat.testBit_and, hb, hx1, Nat.testBit_two_pow_mul_add _ (by have : 0 < 2 ^ k := Nat.two_pow_pos k; omega)]
    by_cases h1 : i < k
    · have : ¬ k ≤ i := by omega
      simp [this]
    · rw [if_neg h1]
      by_cases h2 : i = k
      · subst h2; simp
      · have h3 : ∃ d, i - k = d + 1 := ⟨i - k - 1, by omega⟩
        obtain ⟨d, hd⟩ := h3
        rw [hd]
        have h4 : (2 * m + 1).testBit (d + 1) = (2 * m).testBit (d + 1) := by
          rw [Nat.testBit_succ, Nat.testBit_succ]
          congr 1; omega
        rw [h4]
        simp [h2]
theorem WInv.low_zero {n : Nat} {free : Int} {low : Nat} {ws : List Nat} {is : List Bool} (h : WInv n free low ws is) (hl : low < ws.length) (h0 : ws.getD low 0 = 0) : WInv n free (low + 1) ws is :=
  ⟨h.len, h.wlen, h.lt, h.bits, h.free, hl, fun j hj => by
    by_cases e : j = low
    · rw [e]; exact h0
    · exact h.low0 j (by omega)⟩
theorem WInv.none {n : Nat} {free : Int} {low : Nat} {ws : List Nat} {is : List Bool} (h : WInv n free low ws is) (hl : ws.length ≤ low) : trues is = [] := by
  refine trues_nil fun i => ?_
  rw [← h.bits, bitAt]
  by_cases hi : i / 64 < low
  · rw [h.low0 _ hi]; simp
  · rw [List.getD_eq_getElem?_getD, List.getElem?_eq_none (by omega)]; simp
theorem WInv.take {n : Nat} {free : Int} {low : Nat} {ws : List Nat} {is : List Bool} (h : WInv n free low ws is) (hl : low < ws.length) (h0 : ws.getD low 0 ≠ 0) :
    ∃ m t, trues is = m :: t ∧ m = 64 * low + Lib.ctz 64 (ws.getD low 0) ∧ m < n ∧ WInv n (free - 1) low (ws.set low (ws.getD low 0 &&& (ws.getD low 0 - 1))) (is.set m false) := by
  obtain ⟨hc, h1, h2, h3⟩ := low_bit h0 (getD_lt h.lt low)
  generalize hcz : Lib.ctz 64 (ws.getD low 0) = c at *
  have hb1 : is.getD (64 * low + c) false = true := by
    rw [← h.bits, bitAt, show (64 * low + c) / 64 = low by omega, show (64 * low + c) % 64 = c by omega]; exact h1
  have hb2 : ∀ i, i < 64 * low + c → is.getD i false = false := by
    intro i hi
    rw [← h.bits, bitAt]
    by_cases e : i / 64 < low
    · rw [h.low0 _ e]; simp
    · have : i / 64 = low := by omega
      rw [this]; exact h2 _ (by omega)
  obtain ⟨t, ht⟩ := trues_head hb1 hb2
  have hmn : 64 * low + c < n := by have := trues_lt ((mem_trues is _).2 hb1); rw [h.len] at this; exact this
  refine ⟨_, t, ht, rfl, hmn, ?_⟩
  refine ⟨by simpa using h.len, by simpa using h.wlen, set_lt h.lt _ _ (and_lt (getD_lt h.lt _)), fun k => ?_, ?_, by simpa using h.lowLe, fun j hj => ?_⟩
  · rw [bitAt_set, getD_set]
    by_cases hk : k / 64 = low
    · rw [if_pos ⟨hk, hl⟩, h3]
      have hb := h.bits k
      unfold bitAt at hb
      rw [hk] at hb
      rw [hb]
      by_cases e : k = 64 * low + c
      · rw [if_pos ⟨e, by rw [h.len]; exact hmn⟩]
        have : k % 64 = c := by omega
        simp [this]
      · rw [if_neg (by omega)]
        have : k % 64 ≠ c := by omega
        simp [this]
    · rw [if_neg (by omega), if_neg (by omega)]
      exact h.bits k
  · have := trues_len_clear hb1
    rw [h.free]; omega
  · rw [List.getD_eq_getElem?_getD, List.getElem?_set_ne (by omega), ← List.getD_eq_getElem?_getD]; exact h.low0 j hj
/-- a space of n free numbers -/
def fullWords (n : Nat) : List Nat := if n % 64 = 0 then List.replicate ((n + 63) / 64) 18446744073709551615 else (List.replicate ((n + 63) / 64) 18446744073709551615).set ((n + 63) / 64 - 1) (2 ^ (n % 64) - 1)
theorem trues_full (n : Nat) : trues (List.replicate n true) = List.range n := by
  simp only [trues, List.length_replicate]
  refine List.filter_eq_self.2 fun i hi => ?_
  simp at hi
  simp [List.getD_eq_getElem?_getD, hi]
theorem WInv.full (n : Nat) : WInv n n 0 (fullWords n) (List.replicate n true) := by
  have hall : ∀ i, i < 64 → (18446744073709551615 : Nat).testBit i = true := by
    intro i hi
    rw [show (18446744073709551615 : Nat) = 2 ^ 64 - 1 by decide, Nat.testBit_two_pow_sub_one]; simp [hi]
  refine ⟨by simp, ?_, ?_, fun i => ?_, by rw [trues_full]; simp, Nat.zero_le _, fun j hj => by omega⟩
  · unfold fullWords; split <;> simp
  · unfold fullWords
    have hr : ∀ x ∈ List.replicate ((n + 63) / 64) 18446744073709551615, x < 2 ^ 64 := by
      intro x hx
      have := (List.mem_replicate.1 hx).2
      omega
    split
    · exact hr
    · refine set_lt hr _ _ ?_
      have : 2 ^ (n % 64) < 2 ^ 64 := Nat.pow_lt_pow_right (by omega) (Nat.mod_lt _ (by omega))
      omega
  · have hR : (List.replicate n true).getD i false = decide (i < n) := by
      simp only [List.getD_eq_getElem?_getD, List.getElem?_replicate]
      by_cases h : i < n <;> simp [h]
    rw [hR]
    unfold fullWords
    have hF : bitAt (List.replicate ((n + 63) / 64) 18446744073709551615) i = decide (i / 64 < (n + 63) / 64) := by
      simp only [bitAt, List.getD_eq_getElem?_getD, List.getElem?_replicate]
      by_cases h : i / 64 < (n + 63) / 64
      · simp [h, hall (i % 64) (Nat.mod_lt _ (by omega))]
      · simp [h]
    split
    · rw [hF]
      by_cases h : i < n
      · simp only [h, decide_true, decide_eq_true_eq]; omega
      · simp only [h, decide_false, decide_eq_false_iff_not]; omega
    · rw [bitAt_set]
      simp only [List.length_replicate]
      split
      · rw [Nat.testBit_two_pow_sub_one]
        by_cases h : i < n
        · simp only [h, decide_true, decide_eq_true_eq]; omega
        · simp only [h, decide_false, decide_eq_false_iff_not]; omega
      · rw [hF]
        by_cases h : i < n
        · simp only [h, decide_true, decide_eq_true_eq]; omega
        · simp only [h, decide_false, decide_eq_false_iff_not]; omega
end Go.Proofs.YtnjjijkcenhebaaDoor
