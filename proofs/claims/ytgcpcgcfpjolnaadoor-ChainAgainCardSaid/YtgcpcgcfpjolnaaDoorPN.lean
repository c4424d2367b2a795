import Derived.Test.YtgcpcgcfpjolnaaDoorPC
import Derived.Test.YtgcpcgcfpjolnaaDoorPE
-- wire.Sum is the sum bit by bit.
namespace Go.Proofs.YtgcpcgcfpjolnaaDoor.G
open Go.RowKit Go.Proofs.YtgcpcgcfpjolnaaDoorW.PrintWords Go.Proofs.YtgcpcgcfpjolnaaDoorW.PrintLast Go.Proofs.YtgcpcgcfpjolnaaDoorW.PrintMore
set_option linter.unusedVariables false
set_option linter.unusedSimpArgs false
/-- one bit goes through -/
def bstep (c : Nat) : Nat := if c % 2 = 1 then (c / 2) ^^^ 3988292384 else c / 2
theorem xor_div2 (a b : Nat) : (a ^^^ b) / 2 = (a / 2) ^^^ (b / 2) := by
  have := Nat.shiftRight_xor_distrib (a := a) (b := b) (i := 1)
  simpa only [Nat.shiftRight_eq_div_pow, Nat.pow_one] using this
theorem bstep_xor (a b : Nat) : bstep (a ^^^ b) = bstep a ^^^ bstep b := by
  unfold bstep
  rw [xor_div2]
  have h := @Nat.xor_mod_two_eq_one a b
  by_cases ha : a % 2 = 1 <;> by_cases hb : b % 2 = 1
  · rw [if_neg (by rw [h]; simp [ha, hb]), if_pos ha, if_pos hb]
    rw [Nat.xor_assoc, Nat.xor_comm 3988292384, Nat.xor_assoc, Nat.xor_self, Nat.xor_zero]
  · rw [if_pos (by rw [h]; simp [ha, hb]), if_pos ha, if_neg hb]
    rw [Nat.xor_assoc, Nat.xor_assoc, Nat.xor_comm (b / 2)]
  · rw [if_pos (by rw [h]; simp [ha, hb]), if_neg ha, if_pos hb]
    rw [Nat.xor_assoc]
  · rw [if_neg (by rw [h]; simp [ha, hb]), if_neg ha, if_neg hb]
theorem bstep_even (q : Nat) : bstep (2 * q) = q := by
  unfold bstep; rw [if_neg (by omega)]; omega
def bstep4 (c : Nat) : Nat := bstep (bstep (bstep (bstep c)))
theorem bstep4_xor (a b : Nat) : bstep4 (a ^^^ b) = bstep4 a ^^^ bstep4 b := by
  unfold bstep4; simp only [bstep_xor]
theorem bstep4_16 (q : Nat) : bstep4 (16 * q) = q := by
  unfold bstep4
  rw [show 16 * q = 2 * (2 * (2 * (2 * q))) by omega, bstep_even, bstep_even, bstep_even, bstep_even]
theorem nib_xor (r : Nat) : r = (16 * (r / 16)) ^^^ (r % 16) := by
  have h1 : ((16 * (r / 16)) ^^^ (r % 16)) / 16 = r / 16 := by
    have := Nat.shiftRight_xor_distrib (a := 16 * (r / 16)) (b := r % 16) (i := 4)
    simp only [Nat.shiftRight_eq_div_pow] at this
    rw [show (2 : Nat) ^ 4 = 16 from rfl] at this
    rw [this, Nat.mul_div_cancel_left _ (by decide), Nat.div_eq_of_lt (Nat.mod_lt _ (by decide)), Nat.xor_zero]
  have h2 : ((16 * (r / 16)) ^^^ (r % 16)) % 16 = r % 16 := by
    have := Nat.xor_mod_two_pow (a := 16 * (r / 16)) (b := r % 16) (n := 4)
    rw [show (2 : Nat) ^ 4 = 16 from rfl] at this
    rw [this, Nat.mul_mod_right, Nat.mod_mod, Nat.zero_xor]
  have h3 := Nat.div_add_mod ((16 * (r / 16)) ^^^ (r % 16)) 16
  rw [h1, h2] at h3
  omega
def halfN : List Nat := [0x00000000, 0x1db71064, 0x3b6e20c8, 0x26d930ac, 0x76dc4190, 0x6b6b51f4, 0x4db26158, 0x5005713c, 0xedb88320, 0xf00f9344, 0xd6d6a3e8, 0xcb61b38c, 0x9b64c2b0, 0x86d3d2d4, 0xa00ae278, 0xbdbdf21c]
theorem half_is : ∀ m, m < 16 → bstep4 m = halfN.getD m 0 := by decide
theorem bstep4_eq (r : Nat) : bstep4 r = (r / 16) ^^^ halfN.getD (r % 16) 0 := by
  conv => lhs; rw [nib_xor r]
  rw [bstep4_xor, bstep4_16, half_is _ (Nat.mod_lt _ (by decide))]
theorem bits_xor_u32_nat (a b : Nat) (ha : a < 4294967296) (hb : b < 4294967296) : bits .xor .u32 (a : Int) (b : Int) = ((a ^^^ b : Nat) : Int) := by
  have hx : a ^^^ b < 2 ^ 32 := Nat.xor_lt_two_pow (by omega) (by omega)
  have h1 : (BitVec.ofInt 32 (a : Int)).toNat = a := by
    rw [BitVec.ofInt_natCast, BitVec.toNat_ofNat]; exact Nat.mod_eq_of_lt (by omega)
  have h2 : (BitVec.ofInt 32 (b : Int)).toNat = b := by
    rw [BitVec.ofInt_natCast, BitVec.toNat_ofNat]; exact Nat.mod_eq_of_lt (by omega)
  show IntKind.u32.wrap ((BitVec.ofInt 32 (a : Int) ^^^ BitVec.ofInt 32 (b : Int)).toNat : Int) = _
  rw [BitVec.toNat_xor, h1, h2]
  show (_ : Int) % 4294967296 = _
  omega
theorem bstep_lt (c : Nat) (h : c < 4294967296) : bstep c < 4294967296 := by
  unfold bstep
  have : c / 2 < 2 ^ 32 := by omega
  split
  · exact Nat.xor_lt_two_pow this (by decide)
  · omega
theorem half_both : ∀ m, m < 16 → halfL.getD m 0 = (halfN.getD m 0 : Int) := by decide
theorem halfN_lt : ∀ m, m < 16 → halfN.getD m 0 < 4294967296 := by decide
theorem crcHalf_nat (n : Nat) (h : n < 4294967296) : crcHalf (n : Int) = ((bstep4 n : Nat) : Int) := by
  unfold crcHalf
  have e1 : bits .and .u32 (n : Int) 15 = ((n % 16 : Nat) : Int) := by
    rw [show (15 : Int) = ((15 : Nat) : Int) from rfl, bits_and_u32_nat n 15 h (by decide), Nat.and_two_pow_sub_one_eq_mod n 4]
  have h16 : n % 16 < 16 := Nat.mod_lt _ (by decide)
  rw [e1, Int.toNat_natCast, half_both _ h16, show (n : Int) / 16 = ((n / 16 : Nat) : Int) by omega, bits_xor_u32_nat _ _ (by omega) (halfN_lt _ h16), bstep4_eq]
def bstep8 (c : Nat) : Nat := bstep4 (bstep4 c)
theorem bstep8_lt (c : Nat) (h : c < 4294967296) : bstep8 c < 4294967296 := by
  unfold bstep8 bstep4; exact bstep_lt _ (bstep_lt _ (bstep_lt _ (bstep_lt _ (bstep_lt _ (bstep_lt _ (bstep_lt _ (bstep_lt _ h)))))))
theorem bstep4_lt (c : Nat) (h : c < 4294967296) : bstep4 c < 4294967296 := by
  unfold bstep4; exact bstep_lt _ (bstep_lt _ (bstep_lt _ (bstep_lt _ h)))
theorem crcStep_nat (r c : Nat) (hr : r < 4294967296) (hc : c < 256) : crcStep (r : Int) (c : Int) = ((bstep8 (r ^^^ c) : Nat) : Int) := by
  have hx : r ^^^ c < 2 ^ 32 := Nat.xor_lt_two_pow (by omega) (by omega)
  unfold crcStep bstep8
  rw [show (c : Int) % 4294967296 = (c : Int) by omega, bits_xor_u32_nat _ _ hr (by omega), crcHalf_nat _ (by omega), crcHalf_nat _ (bstep4_lt _ (by omega))]
def crcN (r : Nat) : List Int → Nat
  | [] => r
  | x :: xs => crcN (bstep8 (r ^^^ x.toNat)) xs
theorem crc_fold (xs : List Int) (h : ∀ x ∈ xs, 0 ≤ x ∧ x < 256) (r : Nat) (hr : r < 4294967296) : xs.foldl crcStep (r : Int) = (crcN r xs : Int) ∧ crcN r xs < 4294967296 := by
  induction xs generalizing r with
  | nil => exact ⟨rfl, hr⟩
  | cons x xs ih =>
    obtain ⟨h0, h1⟩ := h x (List.mem_cons_self ..)
    obtain ⟨n, rfl⟩ := Int.eq_ofNat_of_zero_le h0
    have hx : r ^^^ n < 2 ^ 32 := Nat.xor_lt_two_pow (by omega) (by omega)
    rw [List.foldl_cons, crcStep_nat r n hr (by omega)]
    exact ih (fun y hy => h y (List.mem_cons_of_mem _ hy)) _ (bstep8_lt _ (by simpa using hx))
theorem crcF_nat (xs : List Int) (h : ∀ x ∈ xs, 0 ≤ x ∧ x < 256) : crcF xs = ((4294967295 ^^^ crcN 4294967295 xs : Nat) : Int) := by
  obtain ⟨h1, h2⟩ := crc_fold xs h 4294967295 (by decide)
  unfold crcF
  rw [show (4294967295 : Int) = ((4294967295 : Nat) : Int) from rfl, h1, bits_xor_u32_nat _ _ (by decide) h2]
end Go.Proofs.YtgcpcgcfpjolnaaDoor.G
-- A sector's bytes: formed if and only if they are the sector of what they tell.
namespace Go.Proofs.YtgcpcgcfpjolnaaDoor.G
set_option linter.unusedVariables false
set_option linter.unusedSimpArgs false
theorem le2_numB (a b : Int) (ha : 0 ≤ a ∧ a < 256) (hb : 0 ≤ b ∧ b < 256) : le 2 (numB [a, b]) = [a, b] := by
  simp [le, List.range_succ, numB]; omega
theorem le4_numB (a b c d : Int) (ha : 0 ≤ a ∧ a < 256) (hb : 0 ≤ b ∧ b < 256) (hc : 0 ≤ c ∧ c < 256) (hd : 0 ≤ d ∧ d < 256) : le 4 (numB [a, b, c, d]) = [a, b, c, d] := by
  simp [le, List.range_succ, numB]; omega
def Byt (xs : List Int) : Prop := ∀ x ∈ xs, 0 ≤ x ∧ x < 256
theorem Byt.part {xs : List Int} (h : Byt xs) (o k : Nat) : Byt ((xs.drop o).take k) := fun x hx => h x (List.mem_of_mem_drop (List.mem_of_mem_take hx))
theorem le2_is {l : List Int} (h : Byt l) (hl : l.length = 2) : le 2 (numB l) = l := by
  match l, hl with
  | [a, b], _ => exact le2_numB a b (h a (by simp)) (h b (by simp))
theorem le4_is {l : List Int} (h : Byt l) (hl : l.length = 4) : le 4 (numB l) = l := by
  match l, hl with
  | [a, b, c, d], _ => exact le4_numB a b c d (h a (by simp)) (h b (by simp)) (h c (by simp)) (h d (by simp))
theorem zs_is {l : List Int} {n : Nat} (h : l.all (· == 0) = true) (hl : l.length = n) : l = zs n := by
  subst hl
  unfold zs
  rw [List.eq_replicate_iff]
  refine ⟨rfl, fun x hx => ?_⟩
  have := (List.all_eq_true.1 h) x hx
  simpa using this
theorem numB_range {l : List Int} (h : Byt l) : 0 ≤ numB l ∧ numB l < 256 ^ l.length := by
  induction l with
  | nil => simp [numB]
  | cons x l ih =>
    obtain ⟨h0, h1⟩ := h x (List.mem_cons_self ..)
    obtain ⟨i0, i1⟩ := ih (fun y hy => h y (List.mem_cons_of_mem _ hy))
    simp only [numB, List.length_cons, Int.pow_succ]
    generalize (256 : Int) ^ l.length = q at i1 ⊢
    omega
theorem cut_next (xs : List Int) (o k : Nat) : xs.drop o = (xs.drop o).take k ++ xs.drop (o + k) := by
  rw [← List.drop_drop, List.take_append_drop]
theorem sec_cut (xs : List Int) (n : Nat) (hn : n ≤ 480) (hx : xs.length = 512) : xs = xs.take 4 ++ ((xs.drop 4).take 2 ++ ((xs.drop 6).take 2 ++ ((xs.drop 8).take 4 ++ ((xs.drop 12).take 8 ++ ((xs.drop 20).take 8 ++ ((xs.drop 28).take n ++ ((xs.drop (28 + n)).take (480 - n) ++ (xs.drop 508).take 4))))))) := by
  have e0 := cut_next xs 0 4
  rw [List.drop_zero, Nat.zero_add] at e0
  have e1 := cut_next xs 4 2
  have e2 := cut_next xs 6 2
  have e3 := cut_next xs 8 4
  have e4 := cut_next xs 12 8
  have e5 := cut_next xs 20 8
  have e6 := cut_next xs 28 n
  have e7 := cut_next xs (28 + n) (480 - n)
  rw [show 28 + n + (480 - n) = 508 by omega] at e7
  have e8 : (xs.drop 508).take 4 = xs.drop 508 := List.take_of_length_le (by simp; omega)
  rw [e8, ← e7, ← e6, ← e5, ← e4, ← e3, ← e2, ← e1, ← e0]
/-- bytes are a sector of that place if and only if they are the sector of what they tell -/
theorem formed_iff (xs h : List Int) (L j n : Nat) (hb : Byt xs) (hh : 8 ≤ h.length) (hL : L ≤ 1048576) (hj : 480 * j ≤ L) (hn : n = min 480 (L - 480 * j)) (hx : xs.length = 512) :
    formedB xs h (L : Int) (j : Int) = true ↔ secB h (j : Int) (numB (xs.take 4)) ((xs.drop 28).take n) = xs := by
  have hn480 : n ≤ 480 := by omega
  have hsz : sizeI (L : Int) (j : Int) = (n : Int) := by unfold sizeI; omega
  have hpl : ((xs.drop 28).take n).length = n := by simp; omega
  constructor
  · intro hf
    unfold formedB at hf
    simp only [Bool.and_eq_true, decide_eq_true_eq, beq_iff_eq, hsz, Int.toNat_natCast] at hf
    obtain ⟨_, f1, f2, f3, f4, f5, f6, f7⟩ := hf
    have hd : secHead h (j : Int) (numB (xs.take 4)) ((xs.drop 28).take n) = xs.take 508 := by
      unfold secHead
      rw [hpl, ← f1, ← f3, ← f4, le4_is (l := xs.take 4) (by have := hb.part 0 4; rwa [List.drop_zero] at this) (by simp; omega), le2_is (hb.part 4 2) (by simp; omega), le4_is (hb.part 8 4) (by simp; omega), ← zs_is f2 (n := 2) (by simp; omega), ← zs_is f5 (n := 8) (by simp; omega), ← zs_is f6 (n := 480 - n) (by simp; omega)]
      have e8 : xs.take 508 ++ (xs.drop 508).take 4 = xs := by rw [List.take_of_length_le (l := xs.drop 508) (by simp; omega), List.take_append_drop]
      have e9 := e8.trans (sec_cut xs n hn480 hx)
      simp only [← List.append_assoc] at e9
      have e10 := (List.append_cancel_right e9).symm
      simp only [← List.append_assoc]
      exact e10
    unfold secB
    rw [hd, ← f7, le4_is (hb.part 508 4) (by simp; omega), List.take_of_length_le (l := xs.drop 508) (by simp; omega), List.take_append_drop]
  · intro e
    have := formed_sec h (L : Int) (j : Int) (numB (xs.take 4)) ((xs.drop 28).take n) hh (by rw [hpl, hsz]) (by rw [hpl]; exact hn480) (by omega) (by omega)
    rw [e] at this
    exact this
end Go.Proofs.YtgcpcgcfpjolnaaDoor.G
-- A sector in which one byte is another one is none.
namespace Go.Proofs.YtgcpcgcfpjolnaaDoor.G
set_option linter.unusedVariables false
set_option linter.unusedSimpArgs false
theorem xor_cancel (a b c : Nat) (h : a ^^^ c = b ^^^ c) : a = b := by
  have := congrArg (· ^^^ c) h
  simpa only [Nat.xor_assoc, Nat.xor_self, Nat.xor_zero] using this
theorem xor_cancel_left (a b c : Nat) (h : c ^^^ a = c ^^^ b) : a = b := xor_cancel a b c (by rw [Nat.xor_comm a, Nat.xor_comm b]; exact h)
theorem bstep_odd_hi (c : Nat) (hc : c < 4294967296) : 2147483648 ≤ (c / 2) ^^^ 3988292384 := by
  have h1 : ((c / 2) ^^^ 3988292384).testBit 31 = true := by
    rw [Nat.testBit_xor, Nat.testBit_lt_two_pow (show c / 2 < 2 ^ 31 by omega)]
    decide
  have := Nat.ge_two_pow_of_testBit h1
  omega
theorem bstep_inj {a b : Nat} (ha : a < 4294967296) (hb : b < 4294967296) (h : bstep a = bstep b) : a = b := by
  have h1 := bstep_odd_hi a ha
  have h2 := bstep_odd_hi b hb
  unfold bstep at h
  by_cases pa : a % 2 = 1 <;> by_cases pb : b % 2 = 1
  · rw [if_pos pa, if_pos pb] at h
    have := xor_cancel _ _ _ h
    omega
  · rw [if_pos pa, if_neg pb] at h; omega
  · rw [if_neg pa, if_pos pb] at h; omega
  · rw [if_neg pa, if_neg pb] at h; omega
theorem bstep4_inj {a b : Nat} (ha : a < 4294967296) (hb : b < 4294967296) (h : bstep4 a = bstep4 b) : a = b := by
  unfold bstep4 at h
  have l := bstep_lt
  exact bstep_inj ha hb (bstep_inj (l _ ha) (l _ hb) (bstep_inj (l _ (l _ ha)) (l _ (l _ hb)) (bstep_inj (l _ (l _ (l _ ha))) (l _ (l _ (l _ hb))) h)))
theorem bstep8_inj {a b : Nat} (ha : a < 4294967296) (hb : b < 4294967296) (h : bstep8 a = bstep8 b) : a = b :=
  bstep4_inj ha hb (bstep4_inj (bstep4_lt _ ha) (bstep4_lt _ hb) h)
theorem xor_byte_lt {r : Nat} {x : Int} (hr : r < 4294967296) (hx : 0 ≤ x ∧ x < 256) : r ^^^ x.toNat < 4294967296 := by
  have := @Nat.xor_lt_two_pow r x.toNat 32 (by omega) (by omega); simpa using this
theorem crcN_lt {xs : List Int} (h : Byt xs) : ∀ {r : Nat}, r < 4294967296 → crcN r xs < 4294967296 := by
  induction xs with
  | nil => intro r hr; exact hr
  | cons x xs ih => intro r hr; exact ih (fun y hy => h y (List.mem_cons_of_mem _ hy)) (bstep8_lt _ (xor_byte_lt hr (h x (List.mem_cons_self ..))))
theorem crcN_inj {xs : List Int} (h : Byt xs) : ∀ {a b : Nat}, a < 4294967296 → b < 4294967296 → crcN a xs = crcN b xs → a = b := by
  induction xs with
  | nil => intro a b _ _ e; exact e
  | cons x xs ih =>
    intro a b ha hb e
    have hx := h x (List.mem_cons_self ..)
    have h1 := ih (fun y hy => h y (List.mem_cons_of_mem _ hy)) (bstep8_lt _ (xor_byte_lt ha hx)) (bstep8_lt _ (xor_byte_lt hb hx)) e
    exact xor_cancel _ _ _ (bstep8_inj (xor_byte_lt ha hx) (xor_byte_lt hb hx) h1)
theorem crcN_append (A B : List Int) : ∀ r, crcN r (A ++ B) = crcN (crcN r A) B := by
  induction A with
  | nil => intro r; rfl
  | cons x A ih => intro r; exact ih _
theorem crc_diff {A B : List Int} {a b : Int} (hA : Byt A) (hB : Byt B) (ha : 0 ≤ a ∧ a < 256) (hb : 0 ≤ b ∧ b < 256) (h : crcF (A ++ a :: B) = crcF (A ++ b :: B)) : a = b := by
  have b1 : ∀ c : Int, 0 ≤ c ∧ c < 256 → Byt (A ++ c :: B) := fun c hc x hx => by
    rcases List.mem_append.1 hx with h | h
    · exact hA x h
    · rcases List.mem_cons.1 h with rfl | h
      · exact hc
      · exact hB x h
  rw [crcF_nat _ (b1 a ha), crcF_nat _ (b1 b hb)] at h
  have h1 := xor_cancel_left _ _ _ (Int.ofNat.inj h)
  rw [crcN_append, crcN_append] at h1
  have hr : crcN 4294967295 A < 4294967296 := crcN_lt hA (by decide)
  have h2 := crcN_inj hB (bstep8_lt _ (xor_byte_lt hr ha)) (bstep8_lt _ (xor_byte_lt hr hb)) h1
  have h3 := xor_cancel_left _ _ _ (bstep8_inj (xor_byte_lt hr ha) (xor_byte_lt hr hb) h2)
  omega
theorem formedB_crc {xs h : List Int} {len place : Int} (hf : formedB xs h len place = true) : xs.length = 512 ∧ numB ((xs.drop 508).take 4) = crcF (xs.take 508) := by
  unfold formedB at hf
  simp only [Bool.and_eq_true, decide_eq_true_eq, beq_iff_eq] at hf
  exact ⟨hf.1, hf.2.2.2.2.2.2.2⟩
theorem formed_spoilt {xs h : List Int} {len place : Int} (hb : Byt xs) (hf : formedB xs h len place = true) (i : Nat) (hi : i < 508) (y : Int) (hy : 0 ≤ y ∧ y < 256) (hne : y ≠ xs.getD i 0) (h2 : List Int) (len2 place2 : Int) : formedB (xs.set i y) h2 len2 place2 = false := by
  obtain ⟨hl, hc⟩ := formedB_crc hf
  by_cases hf2 : formedB (xs.set i y) h2 len2 place2 = true
  · exfalso
    obtain ⟨_, hc2⟩ := formedB_crc hf2
    rw [List.drop_set_of_lt (by omega), hc, List.take_set] at hc2
    have hil : i < (xs.take 508).length := by simp; omega
    have e1 : xs.take 508 = (xs.take 508).take i ++ (xs.take 508)[i] :: (xs.take 508).drop (i + 1) := by
      rw [← List.drop_eq_getElem_cons hil, List.take_append_drop]
    have e2 : (xs.take 508).set i y = (xs.take 508).take i ++ y :: (xs.take 508).drop (i + 1) := List.set_eq_take_append_cons_drop.trans (by rw [if_pos hil])
    have hbt : Byt (xs.take 508) := fun x hx => hb x (List.mem_of_mem_take hx)
    rw [e2] at hc2
    have hc3 : crcF ((xs.take 508).take i ++ (xs.take 508)[i] :: (xs.take 508).drop (i + 1)) = crcF ((xs.take 508).take i ++ y :: (xs.take 508).drop (i + 1)) := by rw [← e1]; exact hc2
    have := crc_diff (fun x hx => hbt x (List.mem_of_mem_take hx)) (fun x hx => hbt x (List.mem_of_mem_drop hx)) (hbt _ (List.getElem_mem hil)) hy hc3
    apply hne
    rw [← this, List.getElem_take, List.getD_eq_getElem?_getD, List.getElem?_eq_getElem (by omega), Option.getD_some]
  · simpa using hf2
end Go.Proofs.YtgcpcgcfpjolnaaDoor.G
-- chain.zeros of any bytes; arrays of bytes compared.
namespace Go.Proofs.YtgcpcgcfpjolnaaDoor.G
open Go.RowKit Go.Proofs.YtgcpcgcfpjolnaaDoorW.PrintWords Go.Proofs.YtgcpcgcfpjolnaaDoorW.PrintLast Go.Proofs.YtgcpcgcfpjolnaaDoorW.PrintMore
set_option linter.unusedVariables false
set_option linter.unusedSimpArgs false
set_option maxRecDepth 10000
theorem zeros_any {w : World} {g o c : Nat} (xs : List Int) (n : Nat) (hx : w.rangeAt g o (by8 xs)) (hl : xs.length = n) (hn : n ≤ 1073741824) :
    Calls Tryd.prog 105 #[.slice (some ⟨g, o, none⟩) n c] w fun e w' => e = .returned (.bool (xs.all (· == 0))) ∧ w' = w := by
  have HX := Lib.hid (show ∀ j, j < n → w.cell? ⟨g, o + j, none⟩ = some (.int .u8 (xs.getD j 0)) from fun j hj => hx j _ (by rw [by8_get, List.getElem?_eq_getElem (by omega)]; simp [List.getD_eq_getElem?_getD, List.getElem?_eq_getElem (show j < xs.length by omega)]))
  have HN := Lib.hid (show ∀ j, j < n → xs.getD j 0 ≠ 0 → xs.all (· == 0) = false from fun j hj h0 => by
    rw [List.all_eq_false]
    refine ⟨xs.getD j 0, ?_, by simpa using h0⟩
    rw [List.getD_eq_getElem?_getD, List.getElem?_eq_getElem (by omega), Option.getD_some]
    exact List.getElem_mem _)
  have HY := Lib.hid (show (∀ j, j < n → xs.getD j 0 = 0) → xs.all (· == 0) = true from fun h => by
    rw [List.all_eq_true]
    intro x hx'
    obtain ⟨j, hj, rfl⟩ := List.getElem_of_mem hx'
    have := h j (by omega)
    rw [List.getD_eq_getElem?_getD, List.getElem?_eq_getElem hj, Option.getD_some] at this
    simpa using this)
  clear hx hl
  generalize xs.all (· == 0) = r at HN HY ⊢
  go_enter Tryd.func105, Tryd.ntmps105
  go_wp2
  go_loopw [7] (fun i W => W = w ∧ ∃ j : Nat, j ≤ n ∧ i = .int .i64 (j : Int) ∧ Hid (∀ k, k < j → xs.getD k 0 = 0)) (fun i _ => n - (intOf i).toNat)
  case atStart => exact ⟨rfl, 0, by omega, rfl, Lib.hid (fun k hk => absurd hk (Nat.not_lt_zero _))⟩
  case round =>
    obtain ⟨rfl, j, hj, rfl, HJ⟩ := hrel
    by_cases hlt : j < n
    · have b1 : ((j : Int) < (n : Int)) = True := eq_true (by omega)
      have y := HX.out j hlt
      by_cases h0 : xs.getD j 0 = 0
      · rw [h0] at y
        go_wp2
        go_roundw
        case rel => exact ⟨trivial, j + 1, by omega, by go_num, Lib.hid (fun k hk => if h : k < j then HJ.out k h else (show k = j by omega) ▸ h0)⟩
        case measure => simp [intOf]; omega
      · have hr : r = false := HN.out j hlt h0
        subst hr
        generalize xs.getD j 0 = x at y h0
        have b2 : (x = 0) = False := eq_false h0
        go_wp2
        go_ret
        exact ⟨rfl, rfl⟩
    · have b1 : ((j : Int) < (n : Int)) = False := eq_false (by omega)
      have hr : r = true := HY.out (fun k hk => HJ.out k (by omega))
      subst hr
      go_wp2
      go_ret
      exact ⟨rfl, rfl⟩
theorem forIn_all {P : Program} {w : World} {β : Type} (s s' : β) (p : Nat → Bool) (g : Nat → β → Sem (ForInStep β)) : ∀ l : List Nat, (∀ i ∈ l, (g i s).run P w = .ok (if p i then .yield s else .done s') w) → (forIn l s g).run P w = .ok (if l.all p then s else s') w
  | [], _ => by simp
  | i :: l, h => by
    rw [List.forIn_cons, Sem.run_bind, h i (by simp)]
    simp only [Result.andThen_ok]
    cases hp : p i with
    | true =>
      simp only [if_true, List.all_cons, hp, Bool.true_and]
      exact forIn_all s s' p g l fun j hj => h j (by simp [hj])
    | false => simp [List.all_cons, hp]
theorem eq_bytes2 {P : Program} (w : World) (d t e : Nat) (n : Nat) (xs ys : List Int) (hu : P.underlying t = some (.array n e)) (he : P.underlying e = some (.int .u8)) (hi : (P.info? e).map (·.size) = some 1) (hl : xs.length = n) (hl2 : ys.length = n) :
    (Op.equalIn (d + 2) t (.agg (by8 xs).toArray) (.agg (by8 ys).toArray)).run P w = .ok (decide (xs = ys)) w := by
  cases hq : P.info? e with
  | none => simp [hq] at hi
  | some i0 =>
    have hs : i0.size = 1 := by simpa [hq] using hi
    have hp : ∀ (zs : List Int), zs.length = n → ∀ i, i < n → (part e (by8 zs).toArray (i * 1)).run P w = .ok (.int .u8 (zs.getD i 0)) w := fun zs hz i hi => by
      have h1 : (by8 zs)[i]? = some (.int .u8 (zs.getD i 0)) := by
        rw [by8_get, List.getElem?_eq_getElem (by omega)]
        simp [List.getD_eq_getElem?_getD, List.getElem?_eq_getElem (show i < zs.length by omega)]
      simp [part, isAgg, run_underlying he, h1, Result.andThen]
    unfold Op.equalIn
    simp only [Sem.run_bind, run_underlying hu, Result.andThen_ok, sizeOf, typeInfo, hq, Sem.run_pure, hs]
    simp only [run_program, Result.andThen_ok, hq, Sem.run_pure, hs]
    have hf : (forIn [:n] ((none : Option Bool), ()) (fun i (__s : Option Bool × Unit) => do
              let a ← part e (by8 xs).toArray (i * 1)
              let b ← part e (by8 ys).toArray (i * 1)
              let c ← Op.equalIn (d + 1) e a b
              if (!c) = true then pure (ForInStep.done (some false, ())) else pure (ForInStep.yield ((none : Option Bool), ()))) : Sem (Option Bool × Unit)).run P w = .ok (if decide (xs = ys) then (none, ()) else (some false, ())) w := by
      rw [Std.Legacy.Range.forIn_eq_forIn_range']
      rw [forIn_all ((none : Option Bool), ()) (some false, ()) (fun i => decide (xs.getD i 0 = ys.getD i 0)) _ _ (fun i hi => ?_)]
      · congr 1
        have : (List.range' (0 : Nat) ([:n] : Std.Legacy.Range).size 1).all (fun i => decide (xs.getD i 0 = ys.getD i 0)) = decide (xs = ys) := by
          rw [Bool.eq_iff_iff, List.all_eq_true, decide_eq_true_eq]
          constructor
          · intro h
            refine List.ext_getElem (by omega) fun i h1 h2 => ?_
            have := h i (by simp [Std.Legacy.Range.size]; omega)
            simpa [List.getD_eq_getElem?_getD, List.getElem?_eq_getElem h1, List.getElem?_eq_getElem h2] using this
          · rintro rfl i _
            simp
        rw [this]
      · have hin : i < n := by simpa [Std.Legacy.Range.size] using hi
        simp only [Sem.run_bind, hp xs hl i hin, hp ys hl2 i hin, Result.andThen_ok, run_equalIn_int w d e .u8 .u8 _ _ he]
        simp only [List.getD_eq_getElem?_getD]
        by_cases h : xs[i]?.getD 0 = ys[i]?.getD 0 <;> simp [h]
    rw [hf]
    by_cases h : xs = ys <;> simp [h]
end Go.Proofs.YtgcpcgcfpjolnaaDoor.G
