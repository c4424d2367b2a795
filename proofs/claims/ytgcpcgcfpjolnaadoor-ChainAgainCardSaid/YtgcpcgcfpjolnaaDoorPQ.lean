import Derived.Test.YtgcpcgcfpjolnaaDoorPO
import Derived.Test.YtgcpcgcfpjolnaaDoorPN
import Derived.Test.YtgcpcgcfpjolnaaDoorPX
import Derived.Test.YtgcpcgcfpjolnaaDoorPX2
import Derived.Test.YtgcpcgcfpjolnaaDoorPE
import Derived.Test.YtgcpcgcfpjolnaaDoorPF
import Derived.Test.YtgcpcgcfpjolnaaDoorPG
import Derived.Lib.Bytes
-- chain.formed of any bytes.
namespace Go.Proofs.YtgcpcgcfpjolnaaDoor.G
open Go.RowKit Go.Proofs.YtgcpcgcfpjolnaaDoorW.PrintWords Go.Proofs.YtgcpcgcfpjolnaaDoorW.PrintLast Go.Proofs.YtgcpcgcfpjolnaaDoorW.PrintMore
set_option linter.unusedVariables false
set_option linter.unusedSimpArgs false
set_option maxRecDepth 10000
theorem byt_getD {xs : List Int} (hb : Byt xs) (j : Nat) : 0 ≤ xs.getD j 0 ∧ xs.getD j 0 < 256 := by
  rcases Nat.lt_or_ge j xs.length with h | h
  · rw [List.getD_eq_getElem?_getD, List.getElem?_eq_getElem h, Option.getD_some]; exact hb _ (List.getElem_mem h)
  · rw [List.getD_eq_getElem?_getD, List.getElem?_eq_none h]; simp
theorem Byt.drop {xs : List Int} (h : Byt xs) (o : Nat) : Byt (xs.drop o) := fun x hx => h x (List.mem_of_mem_drop hx)
theorem fc_of {w w1 : World} {g c rb n : Nat} {xs h : List Int} {fi L j : Int} (hx : w.rangeAt g 0 (by8 xs)) (hw1 : w1 = w.alloc (.cells (refC h fi L).toArray 52)) (hrb : rb = w.heap.size) (hN : xs.length = 512) (hb : Byt xs) (hh : h.length = 32) (hn : n ≤ 480) (hH : HalfW w)
    {a0 a1 a2 a3 a4 a5 a6 a7 b0 b1 b2 b3 b4 b5 b6 b7 : Int} (ha : (xs.drop 12).take 8 = [a0, a1, a2, a3, a4, a5, a6, a7]) (hb8 : h.take 8 = [b0, b1, b2, b3, b4, b5, b6, b7]) :
    FC w w1 g c rb n j (numB ((xs.drop 4).take 2)) (numB ((xs.drop 8).take 4)) (numB ((xs.drop 508).take 4)) (crcF (xs.take 508)) a0 a1 a2 a3 a4 a5 a6 a7 b0 b1 b2 b3 b4 b5 b6 b7 (((xs.drop 6).take 2).all (· == 0)) (((xs.drop 20).take 8).all (· == 0)) (((xs.drop (28 + n)).take (480 - n)).all (· == 0)) := by
  have hk1 : Keeps [] w w1 := by rw [hw1]; exact (Keeps.refl [] w).alloc _
  have HX : ∀ W, Keeps [] w1 W → W.rangeAt g 0 (by8 xs) := fun W hk => range_keeps hx (hk1.trans' hk) (by simp)
  have HD : ∀ W, Keeps [] w1 W → ∀ o, W.rangeAt g o (by8 (xs.drop o)) := fun W hk o => by have := range_drop (HX W hk) o; rwa [Nat.zero_add] at this
  have HR : w1.rangeAt rb 0 [.int .u8 b0, .int .u8 b1, .int .u8 b2, .int .u8 b3, .int .u8 b4, .int .u8 b5, .int .u8 b6, .int .u8 b7] := by
    have h1 := str_range (StrAt.new w (refC h fi L).toArray 52)
    rw [← hw1, ← hrb] at h1
    have h2 : w1.rangeAt rb 0 (by8 h) := fun i v hv => h1 i v (by simp only [refC]; rw [List.getElem?_append_left (List.getElem?_eq_some_iff.1 hv).1]; exact hv)
    have h3 := range_take h2 8
    rw [hb8] at h3
    exact h3
  refine ⟨fun W hk => ?_, fun W hk => ?_, fun W hk => ?_, fun W hk => ?_, fun W q hq hk => ?_, fun W hk => ?_, fun W hk p cp hp => ?_, fun W hk => ?_, ⟨crcF_lo _, crcF_hi _⟩⟩
  · exact number2 (HD W hk 4) (by simp [hN]) (by decide) (by decide) (fun i _ => byt_getD (hb.drop 4) i)
  · exact zeros_any _ 2 (range_take (HD W hk 6) 2) (by simp [hN]) (by decide)
  · exact number4 (HD W hk 8) (by simp [hN]) (by decide) (by decide) (fun i _ => byt_getD (hb.drop 8) i)
  · exact zeros_any _ 8 (range_take (HD W hk 20) 8) (by simp [hN]) (by decide)
  · subst hq
    rw [show 508 - (28 + n) = 480 - n by omega]
    exact zeros_any _ (480 - n) (range_take (HD W hk (28 + n)) (480 - n)) (by simp [hN]; omega) (by omega)
  · exact number4 (HD W hk 508) (by simp [hN]) (by decide) (by decide) (fun i _ => byt_getD (hb.drop 508) i)
  · have h1 := C_of_range (range_take (HX W hk) 508) (by simp; omega)
    rw [show (xs.take 508).length = 508 by simp [hN]] at h1
    exact sumN p cp _ c 508 _ (by simp [hN]) hp h1 (hH.keeps (hk1.trans' hk) (by simp))
  · have r := range_take (HD W hk 12) 8
    rw [ha] at r
    have q := range_keeps HR hk (by simp)
    exact ⟨r 0 _ rfl, r 1 _ rfl, r 2 _ rfl, r 3 _ rfl, r 4 _ rfl, r 5 _ rfl, r 6 _ rfl, r 7 _ rfl, by have := q 0 _ rfl; simpa using this, by have := q 1 _ rfl; simpa using this, by have := q 2 _ rfl; simpa using this, by have := q 3 _ rfl; simpa using this, by have := q 4 _ rfl; simpa using this, by have := q 5 _ rfl; simpa using this, by have := q 6 _ rfl; simpa using this, by have := q 7 _ rfl; simpa using this⟩
theorem formed_any {w : World} {g c N L j : Nat} {xs h : List Int} {fi : Int} (hx : w.rangeAt g 0 (by8 xs)) (hN : xs.length = N) (hb : Byt xs) (hh : h.length = 32) (hL : L ≤ 1048576) (hj : 480 * j ≤ L) (hc : N ≤ c) (hH : HalfW w) :
    Calls Tryd.prog 71 #[.slice (some ⟨g, 0, none⟩) N c, .agg (refC h fi (L : Int)).toArray, .int .i64 (j : Int)] w fun e w' => e = .returned (.bool (formedB xs h (L : Int) (j : Int))) ∧ Keeps [] w w' := by
  obtain ⟨n, hn⟩ : ∃ n, n = min 480 (L - 480 * j) := ⟨_, rfl⟩
  have hn480 : n ≤ 480 := by omega
  have HS68 := Lib.hid (show ∀ W, Calls Tryd.prog 68 #[.int .i64 (L : Int), .int .i64 (j : Int)] W fun e w' => e = .returned (.int .i64 (n : Int)) ∧ w' = W from fun W => by rw [hn]; exact size68 L j hL hj W)
  have hsz : sizeI (L : Int) (j : Int) = (n : Int) := by unfold sizeI; omega
  have r33 : (refC h fi (L : Int))[33]? = some (.int .i64 (L : Int)) := by simp [refC, by8_length, hh]
  by_cases h0 : N = 512
  · subst h0
    obtain ⟨a0, a1, a2, a3, a4, a5, a6, a7, ha⟩ := list8 (show ((xs.drop 12).take 8).length = 8 by simp; omega)
    obtain ⟨b0, b1, b2, b3, b4, b5, b6, b7, hb8⟩ := list8 (show (h.take 8).length = 8 by simp; omega)
    have F := Lib.hid (fc_of (c := c) (n := n) (j := (j : Int)) hx rfl rfl hN hb hh hn480 hH ha hb8 (fi := fi) (L := (L : Int)))
    have key : formedB xs h (L : Int) (j : Int) = (decide (numB ((xs.drop 4).take 2) = (n : Int)) && ((((xs.drop 6).take 2).all (· == 0)) && (decide (numB ((xs.drop 8).take 4) = (j : Int)) && (decide ([a0, a1, a2, a3, a4, a5, a6, a7] = [b0, b1, b2, b3, b4, b5, b6, b7]) && ((((xs.drop 20).take 8).all (· == 0)) && ((((xs.drop (28 + n)).take (480 - n)).all (· == 0)) && decide (numB ((xs.drop 508).take 4) = crcF (xs.take 508)))))))) := by
      unfold formedB
      rw [ha, hb8, hsz, Int.toNat_natCast, decide_eq_true hN, Bool.true_and]
      rw [Bool.eq_iff_iff]
      simp only [Bool.and_eq_true, decide_eq_true_eq, beq_iff_eq]
    rw [key]
    clear key
    generalize numB ((xs.drop 4).take 2) = v1 at F ⊢
    generalize numB ((xs.drop 8).take 4) = v2 at F ⊢
    generalize numB ((xs.drop 508).take 4) = v3 at F ⊢
    generalize crcF (xs.take 508) = sm at F ⊢
    generalize ((xs.drop 6).take 2).all (· == 0) = z1 at F ⊢
    generalize ((xs.drop 20).take 8).all (· == 0) = z2 at F ⊢
    generalize ((xs.drop (28 + n)).take (480 - n)).all (· == 0) = z3 at F ⊢
    by_cases h1 : v1 = (n : Int)
    rotate_left
    · rw [decide_eq_false h1, Bool.false_and]; exact formed_1 h1 F rfl rfl (L : Int) r33 HS68 hn480 hc
    rw [decide_eq_true h1, Bool.true_and]
    cases h2 : z1 with
    | false => rw [Bool.false_and]; exact formed_2 h1 h2 F rfl rfl (L : Int) r33 HS68 hn480 hc
    | true =>
    rw [Bool.true_and]
    by_cases h3 : (j : Int) = v2
    rotate_left
    · rw [decide_eq_false (fun h => h3 h.symm), Bool.false_and]; exact formed_3 h1 h2 h3 F rfl rfl (L : Int) r33 HS68 hn480 hc
    rw [decide_eq_true h3.symm, Bool.true_and]
    by_cases h4 : [a0, a1, a2, a3, a4, a5, a6, a7] = [b0, b1, b2, b3, b4, b5, b6, b7]
    rotate_left
    · rw [decide_eq_false h4, Bool.false_and]; exact formed_4 h1 h2 h3 h4 F rfl rfl (L : Int) r33 HS68 hn480 hc
    rw [decide_eq_true h4, Bool.true_and]
    have h4' : a0 = b0 ∧ a1 = b1 ∧ a2 = b2 ∧ a3 = b3 ∧ a4 = b4 ∧ a5 = b5 ∧ a6 = b6 ∧ a7 = b7 := by simpa using h4
    cases h5 : z2 with
    | false => rw [Bool.false_and]; exact formed_5 h1 h2 h3 h4' h5 F rfl rfl (L : Int) r33 HS68 hn480 hc
    | true =>
    rw [Bool.true_and]
    cases h6 : z3 with
    | false => rw [Bool.false_and]; exact formed_6 h1 h2 h3 h4' h5 h6 F rfl rfl (L : Int) r33 HS68 hn480 hc
    | true =>
    rw [Bool.true_and]
    by_cases h7 : sm = v3
    · rw [decide_eq_true h7.symm]; exact formed_8 h1 h2 h3 h4' h5 h6 h7 F rfl rfl (L : Int) r33 HS68 hn480 hc
    · rw [decide_eq_false (fun h => h7 h.symm)]; exact formed_7 h1 h2 h3 h4' h5 h6 h7 F rfl rfl (L : Int) r33 HS68 hn480 hc
  · have e : formedB xs h (L : Int) (j : Int) = false := by unfold formedB; rw [decide_eq_false (by omega), Bool.false_and]
    rw [e]
    exact formed_0 N h0 rfl rfl (L : Int) r33 HS68 hn480 hc
end Go.Proofs.YtgcpcgcfpjolnaaDoor.G
-- The document's numbers and sums (kilnref1), in plain Lean.
namespace Go.Proofs.YtgcpcgcfpjolnaaDoor.G
open Go.RowKit Go.Proofs.YtgcpcgcfpjolnaaDoorW.PrintWords Go.Proofs.YtgcpcgcfpjolnaaDoorW.PrintLast Go.Proofs.YtgcpcgcfpjolnaaDoorW.PrintMore
set_option linter.unusedVariables false
set_option linter.unusedSimpArgs false
set_option maxRecDepth 10000
theorem le_succ (n : Nat) (v : Int) : le (n + 1) v = (v % 256) :: le n (v / 256) := by
  unfold le
  rw [List.range_succ_eq_map, List.map_cons, List.map_map]
  congr 1
  · simp
  · refine List.map_congr_left fun i _ => ?_
    simp only [Function.comp]
    rw [show (256 : Int) ^ (i + 1) = 256 * 256 ^ i by rw [Int.pow_succ, Int.mul_comm], ← Int.ediv_ediv_of_nonneg (by decide : (0:Int) ≤ 256)]
theorem w64 (n : Nat) (h : n < 9223372036854775807) : wrap64 ((n : Int) + 1) = ((n + 1 : Nat) : Int) := by
  have e : (n : Int) + 1 = ((n + 1 : Nat) : Int) := by omega
  rw [e, ← i64_w]
  exact IntWalk.i64_in ((n + 1 : Nat) : Int) (by omega)
theorem w64_1 : wrap64 ((0 : Int) + 1) = 1 := w64 0 (by decide)
theorem fixed_l0 (m : Nat) : ∀ (K : Nat) (v : Int) (out : List Int) (i n : Nat), i + m = n → n ≤ 8 → out.length = i → 0 ≤ v → v < 256 ^ m → v < 18446744073709551616 → m + 1 ≤ K →
    kilnref1_Fixed.l0 K v (n : Int) out (i : Int) = some (out ++ le m v, 0) := by
  induction m with
  | zero =>
    intro K v out i n hi hn ho h0 h1 h2 hK
    obtain ⟨K, rfl⟩ : ∃ k, K = k + 1 := ⟨K - 1, by omega⟩
    have hv : v = 0 := by simp at h1; omega
    subst hv
    rw [kilnref1_Fixed.l0, if_neg (by omega), if_neg (by decide)]
    simp [le]
  | succ m ih =>
    intro K v out i n hi hn ho h0 h1 h2 hK
    obtain ⟨K, rfl⟩ : ∃ k, K = k + 1 := ⟨K - 1, by omega⟩
    have e1 : IntKind.u64.wrap (Int.tdiv v 256) = v / 256 := by
      rw [Int.tdiv_eq_ediv_of_nonneg h0, IntKind.wrap_u64]; omega
    have e2 : (Int.tmod v 256) % 256 = v % 256 := by rw [Int.tmod_eq_emod_of_nonneg h0]; omega
    have hd : v / 256 < 256 ^ m := by rw [Int.pow_succ] at h1; exact Int.ediv_lt_of_lt_mul (by decide) h1
    rw [kilnref1_Fixed.l0, if_pos (by omega), if_pos (by omega), e1, e2, w64 i (by omega), ih K (v / 256) (out ++ [v % 256]) (i + 1) n (by omega) hn (by simp [ho]) (by omega) hd (by omega) (by omega)]
    rw [le_succ, List.append_assoc]; rfl
theorem number_ev (K n : Nat) (v : Int) (hn : 1 ≤ n) (hn8 : n ≤ 8) (h0 : 0 ≤ v) (h1 : v < 256 ^ n) (h2 : v < 9223372036854775808) (hK : n + 2 ≤ K) : kilnref6_number.f K v (n : Int) = some (le n v) := by
  obtain ⟨K, rfl⟩ : ∃ k, K = k + 1 := ⟨K - 1, by omega⟩
  have e1 : IntKind.u64.wrap v = v := by rw [IntKind.wrap_u64]; omega
  unfold kilnref6_number.f kilnref1_Fixed.f
  have e : kilnref1_Fixed.l0 K v (n : Int) [] 0 = some ([] ++ le n v, 0) := fixed_l0 n K v [] 0 n (by omega) hn8 rfl h0 h1 (by omega) (by omega)
  rw [e1, if_neg (by omega), decide_eq_false (by omega), kilnref1_Fixed.j0, if_neg (by decide), e]
  rfl
theorem l2_step (K : Nat) (L : List (List Int)) (r : Nat) (hr : r < 4294967296) (x4 x5 : Int) (t : Nat) (ht : t < 8) :
    kilnref1_SumAll.l2 (K + 1) L (r : Int) x4 x5 (t : Int) = kilnref1_SumAll.l2 K L (bstep r : Nat) x4 x5 ((t + 1 : Nat) : Int) := by
  have e3 := w64 t (by omega)
  have e4 : Int.tdiv (r : Int) 2 % 4294967296 = ((r / 2 : Nat) : Int) := by rw [Int.tdiv_eq_ediv_of_nonneg (by omega)]; omega
  have e5 : Int.tmod (r : Int) 2 = ((r % 2 : Nat) : Int) := by rw [Int.tmod_eq_emod_of_nonneg (by omega)]; omega
  rw [kilnref1_SumAll.l2, if_pos (by omega), e3, e4, e5]
  unfold bstep
  by_cases h : r % 2 = 1
  · rw [if_pos (by omega), if_pos h, show (3988292384 : Int) = ((3988292384 : Nat) : Int) from rfl, bits_xor_u32_nat _ _ (by omega) (by decide)]
  · rw [if_neg (by omega), if_neg h]
theorem l2_all (K : Nat) (L : List (List Int)) (r : Nat) (hr : r < 4294967296) (x4 : Int) (j : Nat) (hj : j < 4611686018427387904) :
    kilnref1_SumAll.l2 (K + 9) L (r : Int) x4 (j : Int) 0 = kilnref1_SumAll.l1 K L (bstep8 r : Nat) x4 ((j + 1 : Nat) : Int) := by
  have e3 := w64 j (by omega)
  have b := bstep_lt
  rw [show (0 : Int) = ((0 : Nat) : Int) from rfl, show K + 9 = (K + 8) + 1 from rfl, l2_step _ _ _ hr _ _ 0 (by decide), show K + 8 = (K + 7) + 1 from rfl, l2_step _ _ _ (b _ hr) _ _ 1 (by decide), show K + 7 = (K + 6) + 1 from rfl, l2_step _ _ _ (b _ (b _ hr)) _ _ 2 (by decide), show K + 6 = (K + 5) + 1 from rfl, l2_step _ _ _ (b _ (b _ (b _ hr))) _ _ 3 (by decide), show K + 5 = (K + 4) + 1 from rfl, l2_step _ _ _ (b _ (b _ (b _ (b _ hr)))) _ _ 4 (by decide),
    show K + 4 = (K + 3) + 1 from rfl, l2_step _ _ _ (b _ (b _ (b _ (b _ (b _ hr))))) _ _ 5 (by decide), show K + 3 = (K + 2) + 1 from rfl, l2_step _ _ _ (b _ (b _ (b _ (b _ (b _ (b _ hr)))))) _ _ 6 (by decide), show K + 2 = (K + 1) + 1 from rfl, l2_step _ _ _ (b _ (b _ (b _ (b _ (b _ (b _ (b _ hr))))))) _ _ 7 (by decide)]
  rw [kilnref1_SumAll.l2, if_neg (by decide), e3]
  rfl
theorem crcN_nil (r : Nat) : crcN r [] = r := rfl
theorem crcN_cons (r : Nat) (x : Int) (xs : List Int) : crcN r (x :: xs) = crcN (bstep8 (r ^^^ x.toNat)) xs := rfl
theorem l1_all (xs : List Int) (hb : Byt xs) (hl : xs.length ≤ 1073741824) (m : Nat) : ∀ (K j : Nat) (r : Nat), j + m = xs.length → r < 4294967296 → 10 * m + 2 ≤ K →
    kilnref1_SumAll.l1 K [xs] (r : Int) 0 (j : Int) = some ((4294967295 ^^^ crcN r (xs.drop j) : Nat) : Int) := by
  have e0 : rd_L3 [xs] 0 = xs := rfl
  induction m with
  | zero =>
    intro K j r hj hr hK
    obtain ⟨K, rfl⟩ : ∃ k, K = k + 1 + 1 := ⟨K - 2, by omega⟩
    have e1 : ((1 : Int) < (([xs] : List (List Int)).length : Int)) = False := by simp
    rw [kilnref1_SumAll.l1, if_pos (by decide), if_pos (by simp), e0, if_neg (by omega), w64_1, kilnref1_SumAll.l0, if_neg (by rw [e1]; exact id)]
    have e2 := bits_xor_u32_nat r 4294967295 hr (by decide)
    have e3 : xs.drop j = [] := List.drop_eq_nil_of_le (by omega)
    rw [e3, crcN_nil, Nat.xor_comm]
    exact congrArg some e2
  | succ m ih =>
    intro K j r hj hr hK
    obtain ⟨K, rfl⟩ : ∃ k, K = k + 9 + 1 := ⟨K - 10, by omega⟩
    have hjl : j < xs.length := by omega
    have e1 : rd xs (j : Int) = xs[j] := by simp [rd, List.getD_eq_getElem?_getD, List.getElem?_eq_getElem hjl]
    obtain ⟨h0, h1⟩ := hb _ (List.getElem_mem hjl)
    obtain ⟨x, hx⟩ := Int.eq_ofNat_of_zero_le h0
    have hxr : r ^^^ x < 4294967296 := by
      have := @Nat.xor_lt_two_pow r x 32 (by omega) (by omega); simpa using this
    have e2 := bits_xor_u32_nat r x hr (by omega)
    rw [kilnref1_SumAll.l1, if_pos (by decide), if_pos (by simp), e0, if_pos (by omega), if_pos (by omega), e1, hx, show (x : Int) % 4294967296 = (x : Int) by omega, e2, l2_all K _ _ hxr _ j (by omega), ih K (j + 1) _ (by omega) (bstep8_lt _ hxr) (by omega)]
    rw [List.drop_eq_getElem_cons hjl, crcN_cons, hx, Int.toNat_natCast]
theorem sum_ev (K : Nat) (xs : List Int) (hb : Byt xs) (hl : xs.length ≤ 1073741824) (hK : 10 * xs.length + 3 ≤ K) : kilnref1_Sum.f K xs = some (crcF xs) := by
  obtain ⟨K, rfl⟩ : ∃ k, K = k + 1 := ⟨K - 1, by omega⟩
  have e : kilnref1_SumAll.l1 K [xs] 4294967295 0 0 = some ((4294967295 ^^^ crcN 4294967295 (xs.drop 0) : Nat) : Int) := l1_all xs hb hl xs.length K 0 4294967295 (by omega) (by decide) (by omega)
  unfold kilnref1_Sum.f kilnref1_SumAll.f
  rw [kilnref1_SumAll.l0, if_pos (by simp), e, List.drop_zero, crcF_nat xs hb]
  rfl
end Go.Proofs.YtgcpcgcfpjolnaaDoor.G
-- append of bytes; kilnref6.number, Sum, as contracts.
namespace Go.Proofs.YtgcpcgcfpjolnaaDoor.G
open Go.RowKit Go.Proofs.YtgcpcgcfpjolnaaDoorW.PrintWords Go.Proofs.YtgcpcgcfpjolnaaDoorW.PrintLast Go.Proofs.YtgcpcgcfpjolnaaDoorW.PrintMore
set_option linter.unusedVariables false
set_option linter.unusedSimpArgs false
set_option maxRecDepth 10000
section
variable {ops : Array Oper} {Q : Exit → Act → World → Prop} {o : Oper} {rest : List Oper} {a : Act}
theorem wp_app8 {W : World} (hgd : o.guard = none) (s x : Operand)
    (ho : o.op = .call { callee := .builtin .append, args := #[s, x], argTypes := #[22, 22] })
    (v : Value) (n : Nat) (xs : List Int) (g p m c : Nat) (ys : List Int) (hs : a.eval s = v) (hx : a.eval x = .slice (some ⟨g, p, none⟩) m c) (hr : W.rangeAt g p (by8 ys)) (hlen : ys.length = m)
    (HO : W.ownsRow 0 5 1 v n (by8 xs)) (hl : n + m ≤ 1073741824)
    (h : ∀ v1 w1, w1.ownsRow 0 5 1 v1 (n + m) (by8 (xs ++ ys)) → Keeps v.ownBlock.toList W w1 → (∀ k, v1.ownBlock = some k → v.ownBlock = some k ∨ W.heap.size ≤ k) → wpList Tryd.prog ops Q rest (a.put o.dst v1) w1) :
    wpList Tryd.prog ops Q (o :: rest) a W := by
  obtain ⟨i0, hi, hzz⟩ := Option.map_eq_some_iff.1 info5c
  simp only [Prod.mk.injEq] at hzz
  obtain ⟨hz0, hz1, hz2⟩ := hzz
  refine wpList_append_own_at W hgd s x 22 ho 0 5 i0 (.int .u8 0) 1 1 Tryd.underlying22 hi hz0 hz1 hz2 rfl (by decide) v n (by8 xs) hs HO ⟨g, p, none⟩ m c (by8 ys) hx (by rw [by8_length]; omega)
    ?_ (by8_one ys) (by simp only [maxLen]; omega) (by omega) (Nat.zero_le _) ?_
  · intro j u hj
    have e2 : (⟨g, p, none⟩ : Addr).add j = ⟨g, p + j, none⟩ := by unfold Addr.add; split <;> simp_all
    rw [e2]
    exact hr j u hj
  · intro v1 w1 hown hg hnil hat
    rw [← by8_append] at hown
    refine h v1 w1 hown (Keeps.of_grownBy hg) ?_
    intro k hk
    rcases hat with hat | hat
    · exact .inl (hat ▸ hk)
    · rw [hat] at hk
      cases hk
      exact .inr (Nat.le_refl _)
end
theorem num_contract {w : World} (n : Nat) (v : Int) (hn : 1 ≤ n) (hn8 : n ≤ 8) (h0 : 0 ≤ v) (h1 : v < 256 ^ n) (h2 : v < 9223372036854775808) :
    Calls Tryd.prog 110 #[.int .i64 v, .int .i64 (n : Int)] w fun e w' => ∃ v', e = .returned v' ∧ w'.ownsRow 0 5 1 v' n (by8 (le n v)) ∧ Fresh w v' ∧ Keeps [] w w' := by
  refine (kilnref6_number.calls (n + 2) v (n : Int) (le n v) w (number_ev _ n v hn hn8 h0 h1 h2 (Nat.le_refl _))).mono ?_
  rintro e w' ⟨v', rfl, hR, hB⟩
  have := R_row8 hR
  rw [le_length] at this
  exact ⟨v', rfl, this, fun k hk => (World.ownsRow.lt (Kd.own_of_R hR) k hk).1, Keeps.of_below hB⟩
theorem V_of_B {W : World} {A : Option Addr} {n c : Nat} {xs : List Int} (base : Nat) (h : BSl W A n c xs) (hl : n ≤ 9223372036854775807) : Kd.V (Kd.int .u8) 5 W base (fun _ => True) (.slice A xs.length c) xs := by
  have hn := h.1
  refine ⟨A, c, rfl, by have := h.2.1; omega, fun W' hW => ?_⟩
  have hb' : BSl W' A n c xs := by
    refine ⟨h.1, h.2.1, ?_⟩
    rcases h.2.2 with h1 | ⟨g, o, rfl, h2, h3, h4⟩
    · exact .inl h1
    · have e := hW g trivial h4
      refine .inr ⟨g, o, rfl, fun j v hj => ?_, h3, heap_lt e h4⟩
      have := h2 j v hj
      unfold World.cell? at this ⊢
      simp only at this ⊢
      rw [e]
      exact this
  have := hb'.C hl
  rwa [← hn] at this
theorem sum_contract {w : World} {A : Option Addr} {n c : Nat} {xs : List Int} (h : BSl w A n c xs) (hb : Byt xs) (hl : n ≤ 1073741824) :
    Calls Tryd.prog 111 #[.slice A n c] w fun e w' => e = .returned (.int .u32 (crcF xs)) ∧ Keeps [] w w' := by
  have hn := h.1
  have := kilnref1_Sum.calls (10 * xs.length + 3) (fun _ => True) A c xs (crcF xs) w (V_of_B _ h (by omega)) (sum_ev _ xs hb (by omega) (Nat.le_refl _))
  rw [hn] at this
  refine this.mono ?_
  rintro e w' ⟨rfl, hB⟩
  exact ⟨rfl, Keeps.of_below hB⟩
end Go.Proofs.YtgcpcgcfpjolnaaDoor.G
-- kilnref6.Sector.
namespace Go.Proofs.YtgcpcgcfpjolnaaDoor.G
open Go.RowKit Go.Proofs.YtgcpcgcfpjolnaaDoorW.PrintWords Go.Proofs.YtgcpcgcfpjolnaaDoorW.PrintLast Go.Proofs.YtgcpcgcfpjolnaaDoorW.PrintMore
set_option linter.unusedVariables false
set_option linter.unusedSimpArgs false
set_option maxRecDepth 10000
theorem num4 {w : World} (v : Int) (h0 : 0 ≤ v) (h1 : v < 4294967296) :
    Calls Tryd.prog 110 #[.int .i64 v, .int .i64 4] w fun e w' => ∃ v', e = .returned v' ∧ w'.ownsRow 0 5 1 v' 4 (by8 (le 4 v)) ∧ Fresh w v' ∧ Keeps [] w w' := num_contract 4 v (by decide) (by decide) h0 (by simpa using h1) (by omega)
theorem num2 {w : World} (v : Int) (h0 : 0 ≤ v) (h1 : v < 65536) :
    Calls Tryd.prog 110 #[.int .i64 v, .int .i64 2] w fun e w' => ∃ v', e = .returned v' ∧ w'.ownsRow 0 5 1 v' 2 (by8 (le 2 v)) ∧ Fresh w v' ∧ Keeps [] w w' := num_contract 2 v (by decide) (by decide) h0 (by simpa using h1) (by omega)
/-- what is made while a sector is laid: k bytes, l -/
def SQ (w : World) (h : List Int) (v : Value) (k : Nat) (l : List Int) (W : World) : Prop :=
  l.length = k ∧ W.ownsRow 0 5 1 v k (by8 l) ∧ (∀ b, v.ownBlock = some b → w.heap.size < b ∧ b < W.heap.size) ∧ Keeps [] w W ∧ W.rangeAt w.heap.size 0 (by8 h) ∧ w.heap.size < W.heap.size
theorem SQ.keep {w W W' : World} {h l : List Int} {v : Value} {k : Nat} (s : SQ w h v k l W) (hk : Keeps [] W W') : SQ w h v k l W' :=
  ⟨s.1, ownsRow_keeps s.2.1 hk (by simp), fun b hb => ⟨(s.2.2.1 b hb).1, Nat.lt_of_lt_of_le (s.2.2.1 b hb).2 hk.size⟩, s.2.2.2.1.trans' hk, range_keeps s.2.2.2.2.1 hk (by simp), Nat.lt_of_lt_of_le s.2.2.2.2.2 hk.size⟩
theorem SQ.app {w W w1 : World} {h l ys : List Int} {v v1 : Value} {k m : Nat} (s : SQ w h v k l W) (hm : ys.length = m) (h1 : w1.ownsRow 0 5 1 v1 (k + m) (by8 (l ++ ys))) (hk : Keeps v.ownBlock.toList W w1) (hf : ∀ b, v1.ownBlock = some b → v.ownBlock = some b ∨ W.heap.size ≤ b) : SQ w h v1 (k + m) (l ++ ys) w1 := by
  have hb : ∀ b ∈ v.ownBlock.toList, w.heap.size < b := fun b hb => (s.2.2.1 b (by simpa [eq_comm] using hb)).1
  refine ⟨by rw [List.length_append, s.1, hm], h1, fun b hb1 => ?_, s.2.2.2.1.trans hk (fun b hb1 => .inr (Nat.le_of_lt (hb b hb1))), range_keeps s.2.2.2.2.1 hk (fun hm => Nat.lt_irrefl _ (hb _ hm)), Nat.lt_of_lt_of_le s.2.2.2.2.2 hk.size⟩
  have hlt := (World.ownsRow.lt h1 b hb1).2
  rcases hf b hb1 with h2 | h2
  · exact ⟨(s.2.2.1 b h2).1, hlt⟩
  · exact ⟨Nat.lt_of_lt_of_le s.2.2.2.2.2 h2, hlt⟩
theorem SQ.start {w W w1 : World} {h l : List Int} {v : Value} {k : Nat} (hW : W = w.alloc (.cells (by8A h) 50)) (hl : l.length = k) (h1 : w1.ownsRow 0 5 1 v k (by8 l)) (hf : Fresh W v) (hk : Keeps [] W w1) : SQ w h v k l w1 := by
  have hs : W.heap.size = w.heap.size + 1 := by rw [hW]; simp
  have hr : W.rangeAt w.heap.size 0 (by8 h) := by rw [hW]; have := str_range (StrAt.new w (by8A h) 50); simpa [by8A] using this
  refine ⟨hl, h1, fun b hb => ⟨?_, (World.ownsRow.lt h1 b hb).2⟩, ?_, range_keeps hr hk (by simp), Nat.lt_of_lt_of_le (by omega) hk.size⟩
  · have := hf b hb; omega
  · exact (show Keeps [] w W from by rw [hW]; exact (Keeps.refl [] w).alloc _).trans' hk
theorem SQ.form {w W : World} {h l : List Int} {v : Value} {k : Nat} (s : SQ w h v k l W) : ∃ A c, v = .slice A k c := by
  rcases own_form s.2.1 with ⟨rfl, rfl, _⟩ | ⟨g, cap, rfl, _⟩
  · exact ⟨none, 0, rfl⟩
  · exact ⟨_, cap, rfl⟩
theorem SQ.B {w W : World} {h l : List Int} {A : Option Addr} {c k : Nat} (s : SQ w h (.slice A k c) k l W) : BSl W A k c l := by
  have hlen := s.1
  obtain ⟨A', c', e, hc, _, hf⟩ := own_C (k := .u8) s.2.1
  cases e
  refine ⟨hlen, hc, ?_⟩
  rcases hf with ⟨h1, h2, h3⟩ | ⟨g, h1, h2⟩
  · exact .inl ⟨h1, h3, h2⟩
  · exact .inr ⟨g, 0, h1, row_range8 h2, hlen, h2.lt⟩
theorem zs_more (k o : Nat) (h : o ≤ k) : zs (k + 1 - o) = zs (k - o) ++ zs 1 := by rw [← zs_add]; congr 1; omega
theorem Byt.app {a b : List Int} (h1 : Byt a) (h2 : Byt b) : Byt (a ++ b) := fun x hx => by rcases List.mem_append.1 hx with h | h; exact h1 x h; exact h2 x h
theorem byt_le (n : Nat) (v : Int) : Byt (le n v) := fun x hx => by
  unfold le at hx
  obtain ⟨i, _, rfl⟩ := List.mem_map.1 hx
  omega
theorem byt_zs (n : Nat) : Byt (zs n) := fun x hx => by
  have := List.eq_of_mem_replicate hx; omega
theorem Byt.take {l : List Int} (h : Byt l) (n : Nat) : Byt (l.take n) := fun x hx => h x (List.mem_of_mem_take hx)
section
variable {ops : Array Oper} {Q : Exit → Act → World → Prop} {o : Oper} {rest : List Oper} {a : Act}
/-- append of what a call made -/
theorem SQ.step {w W : World} {h l ys : List Int} {v y : Value} {k m : Nat} (S : SQ w h v k l W) (hgd : o.guard = none) (s x : Operand)
    (ho : o.op = .call { callee := .builtin .append, args := #[s, x], argTypes := #[22, 22] }) (hs : a.eval s = v) (hx : a.eval x = y) (hy : W.ownsRow 0 5 1 y m (by8 ys)) (hm : ys.length = m) (hl : k + m ≤ 1073741824)
    (h9 : ∀ v1 w1, SQ w h v1 (k + m) (l ++ ys) w1 → wpList Tryd.prog ops Q rest (a.put o.dst v1) w1) : wpList Tryd.prog ops Q (o :: rest) a W := by
  refine wp_append_any hgd s x 22 5 (.int .u8 0) 1 1 ho Tryd.underlying22 info5c rfl (by decide) (by decide) v k (by8 l) y m (by8 ys) hs hx hy (by8_one ys) S.2.1 (by omega) ?_
  intro v1 w1 h1 h2 h3 _
  rw [← by8_append] at h1
  exact h9 v1 w1 (S.app hm h1 h2 h3)
/-- append of bytes that lie somewhere -/
theorem SQ.stepR {w W : World} {h l ys : List Int} {v : Value} {k m g p c : Nat} (S : SQ w h v k l W) (hgd : o.guard = none) (s x : Operand)
    (ho : o.op = .call { callee := .builtin .append, args := #[s, x], argTypes := #[22, 22] }) (hs : a.eval s = v) (hx : a.eval x = .slice (some ⟨g, p, none⟩) m c) (hy : W.rangeAt g p (by8 ys)) (hm : ys.length = m) (hl : k + m ≤ 1073741824)
    (h9 : ∀ v1 w1, SQ w h v1 (k + m) (l ++ ys) w1 → wpList Tryd.prog ops Q rest (a.put o.dst v1) w1) : wpList Tryd.prog ops Q (o :: rest) a W :=
  wp_app8 hgd s x ho v k l g p m c ys hs hx hy hm S.2.1 hl fun v1 w1 h1 h2 h3 => h9 v1 w1 (S.app hm h1 h2 h3)
/-- append of bytes that are written out -/
theorem SQ.stepL {w W : World} {h l : List Int} {v : Value} {k m : Nat} (n : Nat) (S : SQ w h v k l W) (hgd : o.guard = none) (s x : Operand)
    (ho : o.op = .call { callee := .builtin .append, args := #[s, x], argTypes := #[22, 22] }) (hs : a.eval s = v) (cs : Array Value) (hcs : cs.toList = by8 (zs m)) {H : Nat} (hx : a.eval x = .slice (some ⟨H, 0, none⟩) m m) (hH : W.heap.size = H) (hl : k + m ≤ 1073741824) (hn : n = k + m)
    (h9 : ∀ v1 w1, SQ w h v1 n (l ++ zs m) w1 → wpList Tryd.prog ops Q rest (a.put o.dst v1) w1) : wpList Tryd.prog ops Q (o :: rest) a (W.alloc (.cells cs 5)) := by
  subst hH hn
  have S' := S.keep ((Keeps.refl [] W).alloc (.cells cs 5))
  refine SQ.stepR S' hgd s x ho hs hx ?_ (zs_length m) hl h9
  have := str_range (StrAt.new W cs 5)
  rw [hcs] at this
  exact this
end
end Go.Proofs.YtgcpcgcfpjolnaaDoor.G
-- kilnref6.Sector: the walk.
namespace Go.Proofs.YtgcpcgcfpjolnaaDoor.G
open Go.RowKit Go.Proofs.YtgcpcgcfpjolnaaDoorW.PrintWords Go.Proofs.YtgcpcgcfpjolnaaDoorW.PrintLast Go.Proofs.YtgcpcgcfpjolnaaDoorW.PrintMore
set_option linter.unusedVariables false
set_option linter.unusedSimpArgs false
set_option maxRecDepth 10000
set_option maxHeartbeats 4000000 in
theorem sector_ref {w : World} {h pc : List Int} {place next : Int} {g p n c : Nat} (hh : h.length = 32) (hhb : Byt h) (p0 : 0 ≤ place) (p1 : place < 4294967296) (n0 : 0 ≤ next) (n1 : next < 4294967296) (hr : w.rangeAt g p (by8 pc)) (hg : g < w.heap.size) (hl : pc.length = n) (hn : n ≤ 480) (hpb : Byt pc) :
    Calls Tryd.prog 84 #[.agg (by8A h), .int .i64 place, .int .i64 next, .slice (some ⟨g, p, none⟩) n c] w fun e w' => ∃ v, e = .returned v ∧ SQ w h v 512 (secB h place next pc) w' := by
  have HR := Lib.hid (show ∀ W, Keeps [] w W → W.rangeAt g p (by8 pc) from fun W hk => range_keeps hr hk (by simp))
  have HN1 := Lib.hid (show ∀ W, Calls Tryd.prog 110 #[.int .i64 next, .int .i64 4] W fun e w' => ∃ v', e = .returned v' ∧ w'.ownsRow 0 5 1 v' 4 (by8 (le 4 next)) ∧ Fresh W v' ∧ Keeps [] W w' from fun W => num4 next n0 n1)
  have HN2 := Lib.hid (show ∀ W, Calls Tryd.prog 110 #[.int .i64 (n : Int), .int .i64 2] W fun e w' => ∃ v', e = .returned v' ∧ w'.ownsRow 0 5 1 v' 2 (by8 (le 2 (n : Int))) ∧ Fresh W v' ∧ Keeps [] W w' from fun W => num2 (n : Int) (by omega) (by omega))
  have HN3 := Lib.hid (show ∀ W, Calls Tryd.prog 110 #[.int .i64 place, .int .i64 4] W fun e w' => ∃ v', e = .returned v' ∧ w'.ownsRow 0 5 1 v' 4 (by8 (le 4 place)) ∧ Fresh W v' ∧ Keeps [] W w' from fun W => num4 place p0 p1)
  have HRG := Lib.hid (And.intro hl hn)
  have HH := Lib.hid hh
  have HPB := Lib.hid (And.intro hhb hpb)
  clear hr hhb hpb n0 n1 p0 p1
  go_enter Tryd.func84, Tryd.ntmps84
  go_wp2_with (first | (go_at_call 110; with_reducible refine (HN1.out _).mono ?_; rintro e w1 ⟨v1, rfl, h1, h2, h3⟩; have S := Lib.hid (SQ.start (h := h) rfl (le_length 4 next) h1 h2 h3); clear h1 h2 h3) | (go_at_call 110; with_reducible refine (HN2.out _).mono ?_; rintro e w1 ⟨v1, rfl, h1, h2, h3⟩; have S' := Lib.hid (S.out.keep h3); have Y := Lib.hid h1; clear S h1 h2 h3; rename Hid (SQ _ _ _ _ _ _) => S) | (at_builtin; refine SQ.step S.out rfl _ _ rfl rfl rfl Y.out (le_length 2 _) (by decide) ?_; intro v9 w9 s9; have S' := Lib.hid s9; clear S Y s9; rename Hid (SQ _ _ _ _ _ _) => S) | (at_builtin; refine SQ.stepL 8 S.out rfl _ _ rfl rfl #[.int .u8 0, .int .u8 0] (m := 2) rfl rfl rfl (by decide) rfl ?_; intro v9 w9 s9; have S' := Lib.hid s9; clear S s9; rename Hid (SQ _ _ _ _ _ _) => S) | (go_at_call 110; with_reducible refine (HN3.out _).mono ?_; rintro e w1 ⟨v1, rfl, h1, h2, h3⟩; have S' := Lib.hid (S.out.keep h3); have Y := Lib.hid h1; clear S h1 h2 h3; rename Hid (SQ _ _ _ _ _ _) => S) | (at_builtin; refine SQ.step S.out rfl _ _ rfl rfl rfl Y.out (le_length 4 _) (by decide) ?_; intro v9 w9 s9; have S' := Lib.hid s9; clear S Y s9; rename Hid (SQ _ _ _ _ _ _) => S) | (at_builtin; refine SQ.stepR S.out rfl _ _ rfl rfl rfl (range_take S.out.2.2.2.2.1 8) (m := 8) (by simp [HH.out]) (by decide) ?_; intro v9 w9 s9; have S' := Lib.hid s9; clear S s9; rename Hid (SQ _ _ _ _ _ _) => S))
  obtain ⟨A0, c0, rfl⟩ := S.out.form
  obtain ⟨l20, hl20⟩ : ∃ l, l = (((le 4 next ++ le 2 (n : Int)) ++ zs 2) ++ le 4 place) ++ h.take 8 := ⟨_, rfl⟩
  rw [← hl20] at S
  have S1 : Hid (SQ w h (.slice A0 20 c0) 20 l20 _) := S
  have HL20 := Lib.hid hl20
  clear S hl20
  go_loopg [9] 8 (fun q v W => ∃ (k : Nat) (A : Option Addr) (c1 : Nat), 20 ≤ k ∧ k ≤ 28 ∧ 28 - k ≤ q ∧ v = .slice A k c1 ∧ Hid (SQ w h (.slice A k c1) k (l20 ++ zs (k - 20)) W))
  case atStart => exact ⟨20, A0, c0, by decide, by decide, by decide, rfl, Lib.hid (by have := S1.out; rw [show zs (20 - 20) = [] from rfl, List.append_nil]; exact this)⟩
  case round =>
    obtain ⟨k, A, c1, hk0, hk1, hkq, rfl, S⟩ := hrel
    clear S1
    by_cases hk : k < 28
    · have b1 : ((k : Int) < 28) = True := eq_true (by omega)
      go_wp2_with (at_builtin; refine SQ.stepL (k + 1) S.out rfl _ _ rfl rfl #[.int .u8 0] (m := 1) rfl rfl rfl (by omega) rfl ?_; intro v9 w9 s9; obtain ⟨A2, c2, rfl⟩ := s9.form; have S' := Lib.hid s9; clear S s9; rename Hid (SQ _ _ _ _ _ _) => S)
      go_roundg (28 - (k + 1))
      case measure => omega
      case rel => exact ⟨k + 1, A2, c2, by omega, by omega, by omega, rfl, Lib.hid (by have := S.out; rw [List.append_assoc, ← zs_more k 20 hk0] at this; exact this)⟩
    · have b1 : ((k : Int) < 28) = False := eq_false (by omega)
      have hk28 : k = 28 := by omega
      subst hk28
      have S' : Hid (SQ w h (.slice A 28 c1) 28 (l20 ++ zs 8) _) := S
      clear S hk0 hk1 hkq hk
      rename Hid (SQ _ _ _ _ _ _) => S
      go_wp2_with (at_builtin; refine SQ.stepR S.out rfl _ _ rfl rfl rfl (HR.out _ S.out.2.2.2.1) HRG.out.1 (by have := HRG.out.2; omega) ?_; intro v9 w9 s9; have S' := Lib.hid s9; clear S s9; rename Hid (SQ _ _ _ _ _ _) => S)
      obtain ⟨A0, c0, rfl⟩ := S.out.form
      obtain ⟨l2, hl2⟩ : ∃ l, l = l20 ++ zs 8 ++ pc := ⟨_, rfl⟩
      rw [← hl2] at S
      have S1 : Hid (SQ w h (.slice A0 (28 + n) c0) (28 + n) l2 _) := S
      have HL2 := Lib.hid hl2
      obtain ⟨q0, hq0⟩ : ∃ q, q = 28 + n := ⟨_, rfl⟩
      rw [← hq0] at S1 ⊢
      have HQ0 := Lib.hid hq0
      have hq508 : q0 ≤ 508 := by omega
      clear S hl2 hq0
      go_loopg [9] 480 (fun q v W => ∃ (k : Nat) (A : Option Addr) (c1 : Nat), q0 ≤ k ∧ k ≤ 508 ∧ 508 - k ≤ q ∧ v = .slice A k c1 ∧ Hid (SQ w h (.slice A k c1) k (l2 ++ zs (k - q0)) W))
      case atStart => exact ⟨q0, A0, c0, Nat.le_refl _, hq508, by have := HQ0.out; omega, rfl, Lib.hid (by have := S1.out; rw [Nat.sub_self, show zs 0 = [] from rfl, List.append_nil]; exact this)⟩
      case round =>
        obtain ⟨k, A, c1, hk0, hk1, hkq, rfl, S⟩ := hrel
        clear S1
        by_cases hk : k < 508
        · have b1 : ((k : Int) < 508) = True := eq_true (by omega)
          go_wp2_with (at_builtin; refine SQ.stepL (k + 1) S.out rfl _ _ rfl rfl #[.int .u8 0] (m := 1) rfl rfl rfl (by omega) rfl ?_; intro v9 w9 s9; obtain ⟨A2, c2, rfl⟩ := s9.form; have S' := Lib.hid s9; clear S s9; rename Hid (SQ _ _ _ _ _ _) => S)
          go_roundg (508 - (k + 1))
          case measure => omega
          case rel => exact ⟨k + 1, A2, c2, by omega, by omega, by omega, rfl, Lib.hid (by have := S.out; rw [List.append_assoc, ← zs_more k q0 hk0] at this; exact this)⟩
        · have b1 : ((k : Int) < 508) = False := eq_false (by omega)
          have hk28 : k = 508 := by omega
          subst hk28
          have e1 : l2 ++ zs (508 - q0) = secHead h place next pc := by
            have e0 := HRG.out.1
            rw [HL2.out, HL20.out, HQ0.out, show 508 - (28 + n) = 480 - n by omega]
            unfold secHead
            simp only [List.append_assoc, e0]
          rw [e1] at S
          have S' : Hid (SQ w h (.slice A 508 c1) 508 (secHead h place next pc) _) := S
          clear S hk0 hk1 hkq hk e1
          rename Hid (SQ _ _ _ _ _ _) => S
          have hby : Byt (secHead h place next pc) := by
            unfold secHead
            exact (byt_le 4 _).app ((byt_le 2 _).app ((byt_zs 2).app ((byt_le 4 _).app ((HPB.out.1.take 8).app ((byt_zs 8).app (HPB.out.2.app (byt_zs _)))))))
          obtain ⟨sm, hsm⟩ : ∃ s, s = crcF (secHead h place next pc) := ⟨_, rfl⟩
          have hs0 : 0 ≤ sm := by rw [hsm]; exact crcF_lo _
          have hs1 : sm < 4294967296 := by rw [hsm]; exact crcF_hi _
          have HS := Lib.hid (show ∀ W A c, BSl W A 508 c (secHead h place next pc) → Calls Tryd.prog 111 #[.slice A 508 c] W fun e w' => e = .returned (.int .u32 sm) ∧ Keeps [] W w' from fun W A c hB => by rw [hsm]; exact sum_contract hB hby (by decide))
          have HN := Lib.hid (show ∀ W, Calls Tryd.prog 110 #[.int .i64 sm, .int .i64 4] W fun e w' => ∃ v', e = .returned v' ∧ w'.ownsRow 0 5 1 v' 4 (by8 (le 4 sm)) ∧ Fresh W v' ∧ Keeps [] W w' from fun W => num4 sm hs0 hs1)
          have wsm : IntKind.i64.wrap sm = sm := IntWalk.i64_in _ (by omega)
          have HSM := Lib.hid hsm
          clear hby hsm
          go_wp2_with (first | (go_at_call 111; refine (HS.out _ _ _ S.out.B).mono ?_; rintro e w1 ⟨rfl, h3⟩; have S' := Lib.hid (S.out.keep h3); clear S h3; rename Hid (SQ _ _ _ _ _ _) => S) | (go_at_call 110; with_reducible refine (HN.out _).mono ?_; rintro e w1 ⟨v1, rfl, h1, h2, h3⟩; have S' := Lib.hid (S.out.keep h3); have Y := Lib.hid h1; clear S h1 h2 h3; rename Hid (SQ _ _ _ _ _ _) => S) | (at_builtin; refine SQ.step S.out rfl _ _ rfl rfl rfl Y.out (le_length 4 _) (by decide) ?_; intro v9 w9 s9; have S' := Lib.hid s9; clear S Y s9; rename Hid (SQ _ _ _ _ _ _) => S))
          go_ret
          refine ⟨_, rfl, ?_⟩
          have := S.out
          rw [HSM.out] at this
          exact this
end Go.Proofs.YtgcpcgcfpjolnaaDoor.G
-- Sectors of any number; kilnref6.length; ReadFixed of four bytes.
namespace Go.Proofs.YtgcpcgcfpjolnaaDoor.G
open Go.RowKit Go.Proofs.YtgcpcgcfpjolnaaDoorW.PrintWords Go.Proofs.YtgcpcgcfpjolnaaDoorW.PrintLast Go.Proofs.YtgcpcgcfpjolnaaDoorW.PrintMore
set_option linter.unusedVariables false
set_option linter.unusedSimpArgs false
set_option maxRecDepth 10000
theorem w64i (x : Int) (h : -9223372036854775808 ≤ x ∧ x ≤ 9223372036854775807) : wrap64 x = x := by
  rw [← i64_w]; exact IntWalk.i64_in x (by omega)
/-- how many sectors so many bytes have -/
def secsI (n : Int) : Int := if n < 0 then 0 else if n > 1048576 then 0 else max 1 ((n + 479) / 480)
theorem secs_inner (n : Int) (h0 : 0 ≤ n) (h1 : n ≤ 1048576) : wrap64 (Int.tdiv (wrap64 ((wrap64 (n + 480)) - 1)) 480) = (n + 479) / 480 := by
  rw [w64i (n + 480) (by omega), w64i (n + 480 - 1) (by omega), Int.tdiv_eq_ediv_of_nonneg (by omega), w64i _ (by omega)]
  omega
theorem secs33_ev (n : Int) : chain_Sectors.f n = some (secsI n) := by
  unfold chain_Sectors.f secsI
  by_cases h0 : n < 0
  · rw [if_pos h0, if_pos h0]
  · rw [if_neg h0, if_neg h0]
    by_cases h1 : n > 1048576
    · rw [if_pos h1, if_pos h1]
    · rw [if_neg h1, if_neg h1, secs_inner n (by omega) (by omega)]
      unfold mx
      congr 1
      split <;> omega
theorem secs34_ev (K : Nat) (n : Int) : kilnref6_Sectors.f (K + 1) n = some (secsI n) := by
  unfold kilnref6_Sectors.f secsI
  by_cases h0 : n < 0
  · rw [if_pos h0, if_pos h0, kilnref6_Sectors.j0, if_pos rfl]
  · rw [if_neg h0, if_neg h0]
    by_cases h1 : n > 1048576
    · rw [if_pos h1, decide_eq_true h1, kilnref6_Sectors.j0, if_pos rfl]
    · rw [if_neg h1, decide_eq_false h1, kilnref6_Sectors.j0, if_neg (by decide), secs_inner n (by omega) (by omega)]
      by_cases h2 : n = 0
      · rw [if_pos h2]; subst h2; rfl
      · rw [if_neg h2]; congr 1; omega
theorem secs33 (n : Int) (w : World) : Calls Tryd.prog 33 #[.int .i64 n] w fun e w' => e = .returned (.int .i64 (secsI n)) ∧ Keeps [] w w' := by
  refine (chain_Sectors.calls n (secsI n) w (secs33_ev n)).mono ?_
  rintro e w' ⟨rfl, h⟩
  exact ⟨rfl, Keeps.of_below h⟩
theorem secs34 (n : Int) (w : World) : Calls Tryd.prog 34 #[.int .i64 n] w fun e w' => e = .returned (.int .i64 (secsI n)) ∧ Keeps [] w w' := by
  refine (kilnref6_Sectors.calls 1 n (secsI n) w (secs34_ev 0 n)).mono ?_
  rintro e w' ⟨rfl, h⟩
  exact ⟨rfl, drawn0_keeps h⟩
theorem rf_l0 (K : Nat) (xs : List Int) (hb : Byt xs) (v : Int) (i : Nat) (hi : i < xs.length) (hi4 : i < 4) (v0 : 0 ≤ v) (v1 : v < 16777216) :
    kilnref1_ReadFixed.l0 (K + 1) xs 0 4 v (i : Int) = kilnref1_ReadFixed.l0 K xs 0 4 (256 * v + xs[i]) ((i : Int) - 1) := by
  obtain ⟨h0, h1⟩ := hb _ (List.getElem_mem hi)
  have e1 : wrap64 ((0 : Int) + (i : Int)) = (i : Int) := by rw [Int.zero_add]; exact w64i _ (by omega)
  have e2 : rd xs (i : Int) = xs[i] := by simp [rd, List.getD_eq_getElem?_getD, List.getElem?_eq_getElem hi]
  rw [kilnref1_ReadFixed.l0, if_pos (by omega), e1, if_pos (by omega), if_pos (by omega), e2, w64i ((i : Int) - 1) (by omega)]
  congr 1
  simp only [IntKind.wrap_u64]
  omega
theorem numB_take4 : ∀ (xs : List Int) (h : 4 ≤ xs.length), numB (xs.take 4) = xs[0] + 256 * (xs[1] + 256 * (xs[2] + 256 * (xs[3] + 256 * 0)))
  | x0 :: x1 :: x2 :: x3 :: t, _ => rfl
theorem rf4_ev (K : Nat) (xs : List Int) (hb : Byt xs) (hl : 4 ≤ xs.length) (hl2 : xs.length ≤ 1073741824) : kilnref1_ReadFixed.f (K + 6) xs 0 4 = some (numB (xs.take 4), 4, 0) := by
  have e0 : kilnref1_outside.f xs 0 = some false := by
    unfold kilnref1_outside.f; rw [if_neg (by decide), decide_eq_false (by omega)]
  have b0 := hb _ (List.getElem_mem (show 0 < xs.length by omega))
  have b1 := hb _ (List.getElem_mem (show 1 < xs.length by omega))
  have b2 := hb _ (List.getElem_mem (show 2 < xs.length by omega))
  have b3 := hb _ (List.getElem_mem (show 3 < xs.length by omega))
  have en := numB_take4 xs hl
  have s3 := rf_l0 (K + 4) xs hb 0 3 (by omega) (by decide) (by decide) (by decide)
  have s2 := rf_l0 (K + 3) xs hb (256 * 0 + xs[3]) 2 (by omega) (by decide) (by omega) (by omega)
  have s1 := rf_l0 (K + 2) xs hb (256 * (256 * 0 + xs[3]) + xs[2]) 1 (by omega) (by decide) (by omega) (by omega)
  have s0 := rf_l0 (K + 1) xs hb (256 * (256 * (256 * 0 + xs[3]) + xs[2]) + xs[1]) 0 (by omega) (by decide) (by omega) (by omega)
  have e5 : kilnref1_ReadFixed.l0 (K + 5) xs 0 4 0 3 = some (numB (xs.take 4), 4, 0) := by
    refine s3.trans (s2.trans (s1.trans (s0.trans ?_)))
    rw [kilnref1_ReadFixed.l0, if_neg (by decide), show wrap64 (0 + 4) = 4 from w64i 4 (by decide), en]
    congr 2
    omega
  unfold kilnref1_ReadFixed.f
  rw [e0, Option.bind_some, if_neg (by decide), if_neg (by decide), decide_eq_false (by decide), kilnref1_ReadFixed.j0, if_neg (by decide), Int.sub_zero, w64i _ (by omega), if_neg (by omega), show wrap64 (4 - 1) = 3 from w64i 3 (by decide)]
  exact e5
theorem ref82 {w : World} {A : Option Addr} {n c : Nat} {xs : List Int} (h : BSl w A n c xs) (hb : Byt xs) (h4 : 4 ≤ n) (hl : n ≤ 1073741824) :
    Calls Tryd.prog 82 #[.slice A n c, .int .i64 0, .int .i64 4] w fun e w' => e = .returned (.tuple #[.int .u64 (numB (xs.take 4)), .int .i64 4, .int .i64 0]) ∧ Keeps [] w w' := by
  have hn := h.1
  have := kilnref1_ReadFixed.calls 6 A c xs 0 4 (numB (xs.take 4)) 4 0 w (by have := h.C (by omega); rwa [← hn] at this) (by have := h.2.1; omega) (rf4_ev 0 xs hb (by omega) (by omega))
  rw [hn] at this
  refine this.mono ?_
  rintro e w' ⟨rfl, hd⟩
  exact ⟨rfl, drawn0_keeps hd⟩
theorem len83 {w : World} {r : List Value} {L j : Nat} (hr : r[33]? = some (.int .i64 (L : Int))) (h : L ≤ 1048576) (hj : 480 * j ≤ L) :
    Calls Tryd.prog 83 #[.agg r.toArray, .int .i64 (j : Int)] w fun e w' => e = .returned (.int .i64 ((min 480 (L - 480 * j) : Nat) : Int)) ∧ Keeps [] w w' := by
  have a33 : r.toArray[33]? = some (.int .i64 (L : Int)) := by rw [List.getElem?_toArray]; exact hr
  have w1 : IntKind.i64.wrap (480 * (j : Int)) = 480 * (j : Int) := IntWalk.i64_in _ (by omega)
  have w2 : IntKind.i64.wrap ((L : Int) - 480 * (j : Int)) = (L : Int) - 480 * (j : Int) := IntWalk.i64_in _ (by omega)
  have HK := Lib.hid (show Keeps [] w (w.alloc (.cells r.toArray 52)) from (Keeps.refl [] w).alloc _)
  have HR := Lib.hid hr
  obtain ⟨m, hm⟩ : ∃ m, m = min 480 (L - 480 * j) := ⟨_, rfl⟩
  clear hr
  go_enter Tryd.func83, Tryd.ntmps83
  go_wp2
  all_goals go_ret
  all_goals refine ⟨?_, HK.out⟩
  · rw [show ((min 480 (L - 480 * j) : Nat) : Int) = (L : Int) - 480 * (j : Int) by omega]; rfl
  · rw [show ((min 480 (L - 480 * j) : Nat) : Int) = 480 by omega]; rfl
end Go.Proofs.YtgcpcgcfpjolnaaDoor.G
-- kilnref6.Next.
namespace Go.Proofs.YtgcpcgcfpjolnaaDoor.G
open Go.RowKit Go.Proofs.YtgcpcgcfpjolnaaDoorW.PrintWords Go.Proofs.YtgcpcgcfpjolnaaDoorW.PrintLast Go.Proofs.YtgcpcgcfpjolnaaDoorW.PrintMore
set_option linter.unusedVariables false
set_option linter.unusedSimpArgs false
set_option maxRecDepth 10000
theorem strOf_inj {a b : List Int} (ha : Byt a) (hb : Byt b) (h : (strOfNums a).toList = (strOfNums b).toList) : a = b := by
  have h1 : (a.map fun n => UInt8.ofNat n.toNat) = b.map fun n => UInt8.ofNat n.toNat := by
    have := h
    rw [Lib.strOfNums_toList, Lib.strOfNums_toList] at this
    exact this
  have key : ∀ l : List Int, Byt l → (l.map fun n => UInt8.ofNat n.toNat).map (fun u => (u.toNat : Int)) = l := fun l hl => by
    rw [List.map_map]
    refine (List.map_congr_left fun x hx => ?_).trans (List.map_id l)
    obtain ⟨h0, h1⟩ := hl x hx
    simp only [Function.comp, id, UInt8.toNat_ofNat']
    omega
  rw [← key a ha, ← key b hb, h1]
/-- what a sector names, by the document; -1: it is no sector of that piece -/
def nextF (xs h : List Int) (len place : Int) : Int :=
  if xs.length = 512 ∧ 0 ≤ place ∧ place < secsI len ∧ formedB xs h len place = true then numB (xs.take 4) else -1
theorem secsI_le (n : Int) : secsI n ≤ 2185 := by unfold secsI; split; · omega
                                                  split <;> omega
theorem secsI_place {len place : Int} (h0 : 0 ≤ place) (h : place < secsI len) : 0 ≤ len ∧ len ≤ 1048576 ∧ 480 * place ≤ len := by
  unfold secsI at h
  split at h
  · omega
  · split at h
    · omega
    · omega
theorem refC_at33 {h : List Int} (hh : h.length = 32) (fi len : Int) : (refC h fi len)[33]? = some (.int .i64 len) := by simp [refC, by8_length, hh]
theorem byt_sec {h pc : List Int} (place next : Int) (hh : Byt h) (hp : Byt pc) : Byt (secB h place next pc) := by
  unfold secB secHead
  exact ((byt_le 4 _).app ((byt_le 2 _).app ((byt_zs 2).app ((byt_le 4 _).app ((hh.take 8).app ((byt_zs 8).app (hp.app (byt_zs _)))))))).app (byt_le 4 _)
theorem size50n : (Tryd.prog.info? 50).map (·.size) = some 32 := by kernel_rfl
theorem size52n : (Tryd.prog.info? 52).map (·.size) = some 34 := by kernel_rfl
set_option maxHeartbeats 4000000 in
theorem next_ref {w : World} {A : Option Addr} {N c : Nat} {xs h : List Int} {fi len place : Int} (hB : BSl w A N c xs) (hb : Byt xs) (hh : h.length = 32) (hhb : Byt h) (hlen : -9223372036854775808 ≤ len ∧ len ≤ 9223372036854775807) (hpl : -9223372036854775808 ≤ place ∧ place ≤ 9223372036854775807) :
    Calls Tryd.prog 41 #[.slice A N c, .agg (refC h fi len).toArray, .int .i64 place] w fun e w' => e = .returned (.int .i64 (nextF xs h len place)) ∧ Keeps [] w w' := by
  have r33 := refC_at33 hh fi len
  have a33 : (refC h fi len).toArray[33]? = some (.int .i64 len) := by rw [List.getElem?_toArray]; exact r33
  have HB := Lib.hid hB
  have HS := Lib.hid (show ∀ W, Calls Tryd.prog 34 #[.int .i64 len] W fun e w' => e = .returned (.int .i64 (secsI len)) ∧ Keeps [] W w' from fun W => secs34 len W)
  have HK0 := Lib.hid (show Keeps [] w (w.alloc (.cells (refC h fi len).toArray 52)) from (Keeps.refl [] w).alloc _)
  have hxl := hB.1
  by_cases h0 : N = 512 ∧ 0 ≤ place
  · obtain ⟨rfl, hp0⟩ := h0
    have b1 : (place < 0) = False := eq_false (by omega)
    by_cases h1 : place < secsI len
    · obtain ⟨g1, g2, g3⟩ := secsI_place hp0 h1
      have b2 : (secsI len ≤ place) = False := eq_false (by omega)
      obtain ⟨L, rfl⟩ := Int.eq_ofNat_of_zero_le g1
      obtain ⟨j, rfl⟩ := Int.eq_ofNat_of_zero_le hp0
      have hL : L ≤ 1048576 := by omega
      have hj : 480 * j ≤ L := by omega
      obtain ⟨g, o, rfl, hr, _, hg⟩ := hB.2.2.resolve_left (by rintro ⟨_, _, h9⟩; exact absurd h9 (by decide))
      obtain ⟨n, hn⟩ : ∃ n, n = min 480 (L - 480 * j) := ⟨_, rfl⟩
      have hc := hB.2.1
      obtain ⟨v, hv⟩ : ∃ v, v = numB (xs.take 4) := ⟨_, rfl⟩
      have hvr := numB_range (hb.take 4)
      rw [← hv, show (xs.take 4).length = 4 by simp; omega] at hvr
      obtain ⟨v0, v1⟩ := hvr
      have hv1 : v < 4294967296 := by simpa using v1
      have HF := Lib.hid (formed_iff xs h L j n hb (by omega) hL hj hn hxl)
      have HRF := Lib.hid (show ∀ W, Keeps [] w W → Calls Tryd.prog 82 #[.slice (some ⟨g, o, none⟩) 512 c, .int .i64 0, .int .i64 4] W fun e w' => e = .returned (.tuple #[.int .u64 v, .int .i64 4, .int .i64 0]) ∧ Keeps [] W w' from fun W hk => by
        rw [hv]; exact ref82 (hB.keeps hk (fun _ _ _ => by simp)) hb (by decide) (by decide))
      have HLN := Lib.hid (show ∀ W, Calls Tryd.prog 83 #[.agg (refC h fi (L : Int)).toArray, .int .i64 (j : Int)] W fun e w' => e = .returned (.int .i64 (n : Int)) ∧ Keeps [] W w' from fun W => by rw [hn]; exact len83 r33 hL hj)
      have HSEC := Lib.hid (show ∀ W, Keeps [] w W → Calls Tryd.prog 84 #[.agg (by8A h), .int .i64 (j : Int), .int .i64 v, .slice (some ⟨g, o + 28, none⟩) n (c - 28)] W fun e w' => ∃ u, e = .returned u ∧ SQ W h u 512 (secB h (j : Int) v ((xs.drop 28).take n)) w' from fun W hk =>
        sector_ref hh hhb (by omega) (by omega) v0 hv1 (range_take (range_drop (range_keeps hr hk (by simp)) 28) n) (Nat.lt_of_lt_of_le hg hk.size) (by simp; omega) (by omega) ((hb.drop 28).take n))
      have HXS := Lib.hid (show ∀ W, Keeps [] w W → Kd.C (Kd.int .u8) W (some ⟨g, o, none⟩) 512 xs from fun W hk => (hB.keeps hk (fun _ _ _ => by simp)).C (by decide))
      have HLD := Lib.hid (show ∀ W, Keeps [] (w.alloc (.cells (refC h fi (L : Int)).toArray 52)) W → W.rangeAt w.heap.size 0 (refC h fi (L : Int)) from fun W hk => by
        have := str_range (StrAt.new w (refC h fi (L : Int)).toArray 52)
        exact range_keeps (by simpa using this) hk (by simp))
      have HLH := Lib.hid (show ∀ W, Keeps [] (w.alloc (.cells (refC h fi (L : Int)).toArray 52)) W → W.rangeAt w.heap.size 0 (by8 h) from fun W hk i x hx => HLD.out W hk i x (by simp only [refC]; rw [List.getElem?_append_left (List.getElem?_eq_some_iff.1 hx).1]; exact hx))
      have HSZ := Lib.hid (show (Tryd.prog.info? 52).map (·.size) = some (refC h fi (L : Int)).length from by rw [show (refC h fi (L : Int)).length = 34 by simp [refC, by8_length, hh]]; exact size52n)
      have HS50 := Lib.hid (show (Tryd.prog.info? 50).map (·.size) = some (by8 h).length from by rw [by8_length, hh]; exact size50n)
      have HBY := Lib.hid (And.intro (byt_sec (j : Int) v hhb ((hb.drop 28).take n)) hb)
      have HV := Lib.hid (show nextF xs h (L : Int) (j : Int) = if formedB xs h (L : Int) (j : Int) = true then v else -1 from by
        unfold nextF
        by_cases hf : formedB xs h (L : Int) (j : Int) = true
        · rw [if_pos ⟨hxl, by omega, h1, hf⟩, if_pos hf, hv]
        · rw [if_neg (fun h9 => hf h9.2.2.2), if_neg hf])
      rw [HV.out]
      rw [← hv] at HF
      obtain ⟨Y, hY⟩ : ∃ Y, Y = secB h (j : Int) v ((xs.drop 28).take n) := ⟨_, rfl⟩
      rw [← hY] at HF HSEC HBY
      obtain ⟨q, hq⟩ : ∃ q, q = 28 + n := ⟨_, rfl⟩
      have eq28 : 28 + (n : Int) = (q : Int) := by omega
      have wq : IntKind.i64.wrap (q : Int) = (q : Int) := IntWalk.i64_in _ (by omega)
      have wv : IntKind.i64.wrap v = v := IntWalk.i64_in _ (by omega)
      have c28 : ¬ c = 28 := by omega
      have q28 : 28 ≤ q := by omega
      have qc : q ≤ c := by omega
      have i28 : ((28 : Int) ≤ (q : Int)) = True := eq_true (by omega)
      have iq : ((q : Int) ≤ (c : Int)) = True := eq_true (by omega)
      have hqn : q - 28 = n := by omega
      have b1 : ((j : Int) < 0) = False := eq_false (by omega)
      generalize secsI (L : Int) = sl at HS b2
      have HREF := Lib.hid (show refC h fi (L : Int) = refC h fi (L : Int) from rfl)
      generalize hrl : refC h fi (L : Int) = rl at *
      have HK1 := Lib.hid (Keeps.refl [] (w.alloc (.cells rl.toArray 52)))
      clear hr hB r33 hv v1 hn hY hq hxl hL hj g1 g2 g3 h1 hp0 hhb hrl HREF HV
      go_enter Tryd.func41, Tryd.ntmps41
      go_wp2_with (first | (go_at_call 34; refine (HS.out _).mono ?_; rintro e w1 ⟨rfl, h3⟩; have HK2 := Lib.hid (HK1.out.trans' h3); clear h3 HK1; rename Hid (Keeps [] (World.alloc _ _) _) => HK1) | (go_at_call 82; refine (HRF.out _ (HK0.out.trans' HK1.out)).mono ?_; rintro e w2 ⟨rfl, h3⟩; have HK2 := Lib.hid (HK1.out.trans' h3); clear h3 HK1; rename Hid (Keeps [] (World.alloc _ _) _) => HK1) | (refine wpList_load_mid rfl 52 (.tmp 4) rfl w.heap.size 0 rfl rl _ (HLD.out _ HK1.out) Tryd.underlying52 rfl HSZ.out ?_) | (go_at_call 83; refine (HLN.out _).mono ?_; rintro e w3 ⟨rfl, h3⟩; have HK2 := Lib.hid (HK1.out.trans' h3); clear h3 HK1; rename Hid (Keeps [] (World.alloc _ _) _) => HK1))
      have HK2 := Lib.hid (HK1.out.drew)
      refine wp_region_any (by kernel_rfl) ?_
      change wpAny _ _ _ _ _ _ _ (World.drew _)
      refine wpAny_take (i := 0) (oi := { dst := some 35, op := Op.fieldAddr 52 (Operand.tmp 4) 0, type := 0, pos := "kilnref6.go:83", after := #[], guard := none }) (v := ?_) rfl (by kernel_rfl) (by kernel_rfl) (by kernel_rfl) (fun _ _ _ h => h) (Or.inl ⟨by kernel_rfl, ?_⟩) ?_
      rotate_left
      · (intro w9; go_simp; try with_reducible rfl)
      try simp only [Act.put, List.setIfInBounds_toArray, List.set_cons_zero, List.set_cons_succ]
      refine wpAny_take (i := 2) (oi := { dst := some 37, op := Op.move (Operand.tmp 2), type := 3, pos := "kilnref6.go:83", after := #[], guard := none }) (v := ?_) rfl (by kernel_rfl) (by kernel_rfl) (by kernel_rfl) (fun _ _ _ h => h) (Or.inl ⟨by kernel_rfl, ?_⟩) ?_
      rotate_left
      · (intro w9; go_simp; try with_reducible rfl)
      try simp only [Act.put, List.setIfInBounds_toArray, List.set_cons_zero, List.set_cons_succ]
      refine wpAny_take (i := 3) (oi := { dst := some 38, op := Op.move (Operand.tmp 7), type := 129, pos := "kilnref6.go:83", after := #[], guard := none }) (v := ?_) rfl (by kernel_rfl) (by kernel_rfl) (by kernel_rfl) (fun _ _ _ h => h) (Or.inl ⟨by kernel_rfl, ?_⟩) ?_
      rotate_left
      · (intro w9; go_simp; try with_reducible rfl)
      try simp only [Act.put, List.setIfInBounds_toArray, List.set_cons_zero, List.set_cons_succ]
      refine wpAny_take (i := 4) (oi := { dst := some 39, op := Op.convert 129 3 (Operand.tmp 38), type := 3, pos := "kilnref6.go:83", after := #[{ on := 3, ground := Ground.data }], guard := none }) (v := ?_) rfl (by kernel_rfl) (by kernel_rfl) (by kernel_rfl) (fun _ _ _ h => h) (Or.inl ⟨by kernel_rfl, ?_⟩) ?_
      rotate_left
      · (intro w9; go_simp; try with_reducible rfl)
      try simp only [Act.put, List.setIfInBounds_toArray, List.set_cons_zero, List.set_cons_succ]
      refine wpAny_take (i := 5) (oi := { dst := some 40, op := Op.move (Operand.tmp 0), type := 22, pos := "kilnref6.go:83", after := #[], guard := none }) (v := ?_) rfl (by kernel_rfl) (by kernel_rfl) (by kernel_rfl) (fun _ _ _ h => h) (Or.inl ⟨by kernel_rfl, ?_⟩) ?_
      rotate_left
      · (intro w9; go_simp; try with_reducible rfl)
      try simp only [Act.put, List.setIfInBounds_toArray, List.set_cons_zero, List.set_cons_succ]
      refine wpAny_take (i := 6) (oi := { dst := some 41, op := Op.move (Operand.tmp 10), type := 3, pos := "kilnref6.go:83", after := #[], guard := none }) (v := ?_) rfl (by kernel_rfl) (by kernel_rfl) (by kernel_rfl) (fun _ _ _ h => h) (Or.inl ⟨by kernel_rfl, ?_⟩) ?_
      rotate_left
      · (intro w9; go_simp; try with_reducible rfl)
      try simp only [Act.put, List.setIfInBounds_toArray, List.set_cons_zero, List.set_cons_succ]
      refine wpAny_take (i := 7) (oi := { dst := some 42, op := Op.binOp BinOp.add 3 (Operand.const (Value.int IntKind.i64 28)) (Operand.tmp 41) 3, type := 3, pos := "kilnref6.go:83", after := #[{ on := 6, ground := Ground.data }], guard := none }) (v := ?_) rfl (by kernel_rfl) (by kernel_rfl) (by kernel_rfl) (fun _ _ _ h => h) (Or.inl ⟨by kernel_rfl, ?_⟩) ?_
      rotate_left
      · (intro w9; go_simp; try with_reducible rfl)
      try simp only [Act.put, List.setIfInBounds_toArray, List.set_cons_zero, List.set_cons_succ]
      refine wpAny_take (i := 8) (oi := { dst := some 43, op := Op.slice 22 (Operand.tmp 40) (some (Operand.const (Value.int IntKind.i64 28))) (some (Operand.tmp 42)) none, type := 22, pos := "kilnref6.go:83", after := #[{ on := 5, ground := Ground.data }, { on := 7, ground := Ground.data }], guard := none }) (v := ?_) rfl (by kernel_rfl) (by kernel_rfl) (by kernel_rfl) (fun _ _ _ h => h) (Or.inl ⟨by kernel_rfl, ?_⟩) ?_
      rotate_left
      · (intro w9; go_simp; try with_reducible rfl)
      try simp only [Act.put, List.setIfInBounds_toArray, List.set_cons_zero, List.set_cons_succ]
      refine wpAny_ready (rs := [1]) (by kernel_rfl) (by simp) ?_
      refine AllReady.cons (o := { dst := some 36, op := Op.load 50 (Operand.tmp 35), type := 50, pos := "kilnref6.go:83", after := #[{ on := 0, ground := Ground.data }], guard := none }) rfl (fun K hK => ?_) AllReady.nil
      refine step_load_mid rfl 50 (.tmp 35) rfl w.heap.size 0 rfl (by8 h) _ (HLH.out _ HK2.out) Tryd.underlying50 rfl HS50.out ?_
      refine hK _ _ ?_
      clear hK K
      try simp only [Act.put, List.setIfInBounds_toArray, List.set_cons_zero, List.set_cons_succ]
      refine wpAny_ready (rs := [9]) (by kernel_rfl) (by simp) ?_
      refine AllReady.cons (o := { dst := some 44, op := Op.call { callee := Callee.value (Operand.func 84), args := #[Operand.tmp 36, Operand.tmp 37, Operand.tmp 39, Operand.tmp 43], argTypes := #[50, 3, 3, 22] }, type := 22, pos := "kilnref6.go:83", after := #[{ on := 1, ground := Ground.data }, { on := 2, ground := Ground.data }, { on := 4, ground := Ground.data }, { on := 8, ground := Ground.data }], guard := none }) rfl (fun K hK => ?_) AllReady.nil
      go_simp
      refine (HSEC.out _ (HK0.out.trans' HK2.out)).mono ?_
      rintro e w9 ⟨u, rfl, h9⟩
      obtain ⟨A9, c9, rfl⟩ := h9.form
      have S := Lib.hid h9
      clear h9
      refine hK _ _ ?_
      clear hK K
      try simp only [Act.put, List.setIfInBounds_toArray, List.set_cons_zero, List.set_cons_succ]
      refine wpAny_take (i := 10) (oi := { dst := some 11, op := Op.assign (Operand.tmp 44), type := 22, pos := "kilnref6.go:83", after := #[{ on := 9, ground := Ground.data }, { on := 9, ground := Ground.chain }, { on := 0, ground := Ground.phase }, { on := 1, ground := Ground.phase }, { on := 2, ground := Ground.phase }, { on := 3, ground := Ground.phase }, { on := 4, ground := Ground.phase }, { on := 5, ground := Ground.phase }, { on := 6, ground := Ground.phase }, { on := 7, ground := Ground.phase }, { on := 8, ground := Ground.phase }, { on := 9, ground := Ground.phase }], guard := none }) (v := ?_) rfl (by kernel_rfl) (by kernel_rfl) (by kernel_rfl) (fun _ _ _ h => h) (Or.inl ⟨by kernel_rfl, ?_⟩) ?_
      rotate_left
      · (intro w9; go_simp; try with_reducible rfl)
      try simp only [Act.put, List.setIfInBounds_toArray, List.set_cons_zero, List.set_cons_succ]
      refine wpAny_done (by kernel_rfl) ?_ _
      have HK3 := Lib.hid ((HK0.out.trans' HK2.out).trans' S.out.2.2.2.1)
      have hcv3 := Kd.C_string (P := Tryd.prog) (c := c9) Tryd.underlying22 Tryd.underlying5 Tryd.underlying9 (S.out.B.C (by decide))
      have hcv4 := Kd.C_string (P := Tryd.prog) (c := c) Tryd.underlying22 Tryd.underlying5 Tryd.underlying9 (HXS.out _ HK3.out)
      by_cases hf : formedB xs h (L : Int) (j : Int) = true
      · have e : Y = xs := HF.out.1 hf
        subst e
        have HFF := Lib.hid hf
        clear hf HF
        go_wp2
        go_ret
        exact ⟨rfl, HK3.out⟩
      · have e : ¬ (strOfNums Y).toList = (strOfNums xs).toList := fun e => hf (HF.out.2 (strOf_inj HBY.out.1 HBY.out.2 e))
        have e2 : ((strOfNums Y).toList == (strOfNums xs).toList) = false := by simpa using e
        have HFF := Lib.hid hf
        clear HF
        go_wp2
        go_ret
        exact ⟨rfl, HK3.out⟩
    · have hv : nextF xs h len place = -1 := by unfold nextF; rw [if_neg (by omega)]
      rw [hv]
      have b2 : (secsI len ≤ place) = True := eq_true (by omega)
      generalize secsI len = sl at HS b2
      clear h1 hxl hB r33
      go_enter Tryd.func41, Tryd.ntmps41
      go_wp2_with (go_at_call 34; refine (HS.out _).mono ?_; rintro e w1 ⟨rfl, h3⟩; have HK1 := Lib.hid (HK0.out.trans' h3); clear h3)
      go_ret
      exact ⟨rfl, HK1.out⟩
  · have hv : nextF xs h len place = -1 := by unfold nextF; rw [if_neg (by omega)]
    rw [hv]
    clear hxl hB r33
    by_cases h1 : N = 512
    · subst h1
      have b1 : (place < 0) = True := eq_true (by omega)
      clear h0
      go_enter Tryd.func41, Tryd.ntmps41
      go_wp2
      go_ret
      exact ⟨rfl, HK0.out⟩
    · have b0 : ((N : Int) = 512) = False := eq_false (by omega)
      clear h0
      go_enter Tryd.func41, Tryd.ntmps41
      go_wp2
      go_ret
      exact ⟨rfl, HK0.out⟩
end Go.Proofs.YtgcpcgcfpjolnaaDoor.G
-- Sound, the program's and the document's.
namespace Go.Proofs.YtgcpcgcfpjolnaaDoor.G
open Go.RowKit Go.Proofs.YtgcpcgcfpjolnaaDoorW.PrintWords Go.Proofs.YtgcpcgcfpjolnaaDoorW.PrintLast Go.Proofs.YtgcpcgcfpjolnaaDoorW.PrintMore
set_option linter.unusedVariables false
set_option linter.unusedSimpArgs false
set_option maxRecDepth 10000
/-- may a sector of that place name that next one? -/
def mayB (len place next : Int) : Bool := if place = secsI len - 1 then decide (next = 0) else decide (1 ≤ next ∧ next < 65536)
def soundB (xs h : List Int) (len place next : Int) : Bool :=
  decide (0 ≤ place ∧ place < secsI len) && (mayB len place next && (formedB xs h len place && decide (numB (xs.take 4) = next)))
theorem mayB_nonneg {len place next : Int} (h : mayB len place next = true) : 0 ≤ next := by
  unfold mayB at h
  split at h
  · have := of_decide_eq_true h; omega
  · have := of_decide_eq_true h; omega
theorem formedB_len {xs h : List Int} {len place : Int} (hf : formedB xs h len place = true) : xs.length = 512 := by
  unfold formedB at hf
  simp only [Bool.and_eq_true, decide_eq_true_eq] at hf
  exact hf.1
theorem soundB_next (xs h : List Int) (len place next : Int) (hm : mayB len place next = true) : decide (nextF xs h len place = next) = soundB xs h len place next := by
  have h0 := mayB_nonneg hm
  unfold soundB nextF
  rw [hm, Bool.true_and, Bool.eq_iff_iff]
  simp only [Bool.and_eq_true, decide_eq_true_eq]
  constructor
  · intro e
    split at e
    · rename_i h1; exact ⟨⟨h1.2.1, h1.2.2.1⟩, h1.2.2.2, e⟩
    · omega
  · rintro ⟨⟨h1, h2⟩, h3, h4⟩
    rw [if_pos ⟨formedB_len h3, h1, h2, h3⟩]; exact h4
theorem soundB_may {xs h : List Int} {len place next : Int} (hm : mayB len place next = false) : soundB xs h len place next = false := by
  unfold soundB; rw [hm, Bool.false_and, Bool.and_false]
theorem secsI_nonneg (n : Int) : 0 ≤ secsI n := by unfold secsI; split; · omega
                                                   split <;> omega
set_option maxHeartbeats 4000000 in
theorem sound_ref {w : World} {A : Option Addr} {N c : Nat} {xs h : List Int} {fi len place next : Int} (hB : BSl w A N c xs) (hb : Byt xs) (hh : h.length = 32) (hhb : Byt h) (hlen : -9223372036854775808 ≤ len ∧ len ≤ 9223372036854775807) (hpl : -9223372036854775808 ≤ place ∧ place ≤ 9223372036854775807) :
    Calls Tryd.prog 36 #[.slice A N c, .agg (refC h fi len).toArray, .int .i64 place, .int .i64 next] w fun e w' => e = .returned (.bool (soundB xs h len place next)) ∧ Keeps [] w w' := by
  have a33 : (refC h fi len).toArray[33]? = some (.int .i64 len) := by rw [List.getElem?_toArray]; exact refC_at33 hh fi len
  have HS := Lib.hid (show ∀ W, Calls Tryd.prog 34 #[.int .i64 len] W fun e w' => e = .returned (.int .i64 (secsI len)) ∧ Keeps [] W w' from fun W => secs34 len W)
  have HK1 := Lib.hid (show Keeps [] w (w.alloc (.cells (refC h fi len).toArray 52)) from (Keeps.refl [] w).alloc _)
  have HNX := Lib.hid (show ∀ W, Keeps [] w W → Calls Tryd.prog 41 #[.slice A N c, .agg (refC h fi len).toArray, .int .i64 place] W fun e w' => e = .returned (.int .i64 (nextF xs h len place)) ∧ Keeps [] W w' from fun W hk => next_ref (hB.keeps hk (fun _ _ _ => by simp)) hb hh hhb hlen hpl)
  have HLD := Lib.hid (show ∀ W, Keeps [] (w.alloc (.cells (refC h fi len).toArray 52)) W → W.rangeAt w.heap.size 0 (refC h fi len) from fun W hk => by
    have := str_range (StrAt.new w (refC h fi len).toArray 52)
    exact range_keeps (by simpa using this) hk (by simp))
  have HSZ := Lib.hid (show (Tryd.prog.info? 52).map (·.size) = some (refC h fi len).length from by rw [show (refC h fi len).length = 34 by simp [refC, by8_length, hh]]; exact size52n)
  have HK2 := Lib.hid (Keeps.refl [] (w.alloc (.cells (refC h fi len).toArray 52)))
  have hs0 := secsI_nonneg len
  have hs1 := secsI_le len
  have HM := Lib.hid (show mayB len place next = if place = secsI len - 1 then decide (next = 0) else decide (1 ≤ next ∧ next < 65536) from rfl)
  have HSN := Lib.hid (soundB_next xs h len place next)
  have HSM := Lib.hid (show mayB len place next = false → soundB xs h len place next = false from soundB_may)
  clear hB hb
  generalize hSB : soundB xs h len place next = sb at HSN HSM ⊢
  generalize hMB : mayB len place next = mb at HM HSN HSM
  generalize hnx : nextF xs h len place = nx at HNX HSN
  generalize secsI len = sl at HS hs0 hs1 HM
  have wsl : IntKind.i64.wrap (sl - 1) = sl - 1 := IntWalk.i64_in _ (by omega)
  generalize hrl : refC h fi len = rl at *
  clear hSB hMB hnx hrl
  by_cases hl : place = sl - 1
  · have b1 : (place == sl - 1) = true := by simpa using hl
    by_cases hn : next = 0
    · have hm : mb = true := by rw [HM.out, if_pos hl]; exact decide_eq_true hn
      have HE := Lib.hid (HSN.out hm)
      have b2 : (next == 0) = true := by simpa using hn
      clear HM HSN HSM hl
      subst hn
      go_enter Tryd.func36, Tryd.ntmps36
      go_wp2_with (first | (go_at_call 34; refine (HS.out _).mono ?_; rintro e w1 ⟨rfl, h3⟩; have HK3 := Lib.hid (HK2.out.trans' h3); clear h3 HK2; rename Hid (Keeps [] (World.alloc _ _) _) => HK2) | (refine wpList_load_mid rfl 52 (.tmp 5) rfl w.heap.size 0 rfl rl _ (HLD.out _ HK2.out) Tryd.underlying52 rfl HSZ.out ?_) | (go_at_call 41; refine (HNX.out _ (HK1.out.trans' HK2.out)).mono ?_; rintro e w1 ⟨rfl, h3⟩; have HK3 := Lib.hid (HK2.out.trans' h3); clear h3 HK2; rename Hid (Keeps [] (World.alloc _ _) _) => HK2))
      go_ret
      exact ⟨by rw [← HE.out]; rfl, HK1.out.trans' HK2.out⟩
    · have hm : mb = false := by rw [HM.out, if_pos hl]; exact decide_eq_false hn
      have HE := Lib.hid (HSM.out hm)
      have b2 : (next == 0) = false := by simpa using hn
      have b3 : (next = 0) = False := eq_false hn
      clear HM HSN HSM hl hn
      go_enter Tryd.func36, Tryd.ntmps36
      go_wp2_with (go_at_call 34; refine (HS.out _).mono ?_; rintro e w1 ⟨rfl, h3⟩; have HK3 := Lib.hid (HK2.out.trans' h3); clear h3 HK2; rename Hid (Keeps [] (World.alloc _ _) _) => HK2)
      go_ret
      exact ⟨by rw [HE.out]; rfl, HK1.out.trans' HK2.out⟩
  · have b1 : (place == sl - 1) = false := by simpa using hl
    by_cases hn : 1 ≤ next ∧ next < 65536
    · have hm : mb = true := by rw [HM.out, if_neg hl]; exact decide_eq_true hn
      have HE := Lib.hid (HSN.out hm)
      have b2 : (next < 1) = False := eq_false (by omega)
      have b3 : (65535 < next) = False := eq_false (by omega)
      clear HM HSN HSM hl hn
      go_enter Tryd.func36, Tryd.ntmps36
      go_wp2_with (first | (go_at_call 34; refine (HS.out _).mono ?_; rintro e w1 ⟨rfl, h3⟩; have HK3 := Lib.hid (HK2.out.trans' h3); clear h3 HK2; rename Hid (Keeps [] (World.alloc _ _) _) => HK2) | (refine wpList_load_mid rfl 52 (.tmp 5) rfl w.heap.size 0 rfl rl _ (HLD.out _ HK2.out) Tryd.underlying52 rfl HSZ.out ?_) | (go_at_call 41; refine (HNX.out _ (HK1.out.trans' HK2.out)).mono ?_; rintro e w1 ⟨rfl, h3⟩; have HK3 := Lib.hid (HK2.out.trans' h3); clear h3 HK2; rename Hid (Keeps [] (World.alloc _ _) _) => HK2))
      go_ret
      exact ⟨by rw [← HE.out]; rfl, HK1.out.trans' HK2.out⟩
    · have hm : mb = false := by rw [HM.out, if_neg hl]; exact decide_eq_false hn
      have HE := Lib.hid (HSM.out hm)
      by_cases hn1 : next < 1
      · have b2 : (next < 1) = True := eq_true hn1
        clear HM HSN HSM hl hn hn1
        go_enter Tryd.func36, Tryd.ntmps36
        go_wp2_with (go_at_call 34; refine (HS.out _).mono ?_; rintro e w1 ⟨rfl, h3⟩; have HK3 := Lib.hid (HK2.out.trans' h3); clear h3 HK2; rename Hid (Keeps [] (World.alloc _ _) _) => HK2)
        go_ret
        exact ⟨by rw [HE.out]; rfl, HK1.out.trans' HK2.out⟩
      · have b2 : (next < 1) = False := eq_false hn1
        have b3 : (65535 < next) = True := eq_true (by omega)
        clear HM HSN HSM hl hn hn1
        go_enter Tryd.func36, Tryd.ntmps36
        go_wp2_with (go_at_call 34; refine (HS.out _).mono ?_; rintro e w1 ⟨rfl, h3⟩; have HK3 := Lib.hid (HK2.out.trans' h3); clear h3 HK2; rename Hid (Keeps [] (World.alloc _ _) _) => HK2)
        go_ret
        exact ⟨by rw [HE.out]; rfl, HK1.out.trans' HK2.out⟩
end Go.Proofs.YtgcpcgcfpjolnaaDoor.G
-- chain.Sound. Printed once by a small program.
namespace Go.Proofs.YtgcpcgcfpjolnaaDoor.G
open Go.RowKit Go.Proofs.YtgcpcgcfpjolnaaDoorW.PrintWords Go.Proofs.YtgcpcgcfpjolnaaDoorW.PrintLast Go.Proofs.YtgcpcgcfpjolnaaDoorW.PrintMore
set_option linter.unusedVariables false
set_option linter.unusedSimpArgs false
set_option maxRecDepth 10000
set_option maxHeartbeats 4000000 in
theorem sound_calls {w : World} {g N c : Nat} {xs h : List Int} {fi len place next : Int} (hx : w.rangeAt g 0 (by8 xs)) (hN : xs.length = N) (hc : N ≤ c) (hb : Byt xs) (hh : h.length = 32) (hH : HalfW w) (hlen : -9223372036854775808 ≤ len ∧ len ≤ 9223372036854775807) (hpl : -9223372036854775808 ≤ place ∧ place ≤ 9223372036854775807) :
    Calls Tryd.prog 35 #[.slice (some ⟨g, 0, none⟩) N c, .agg (refC h fi len).toArray, .int .i64 place, .int .i64 next] w fun e w' => e = .returned (.bool (soundB xs h len place next)) ∧ Keeps [] w w' := by
  have a33 : (refC h fi len).toArray[33]? = some (.int .i64 len) := by rw [List.getElem?_toArray]; exact refC_at33 hh fi len
  have HS := Lib.hid (show ∀ W, Calls Tryd.prog 33 #[.int .i64 len] W fun e w' => e = .returned (.int .i64 (secsI len)) ∧ Keeps [] W w' from fun W => secs33 len W)
  have HK1 := Lib.hid (show Keeps [] w (w.alloc (.cells (refC h fi len).toArray 52)) from (Keeps.refl [] w).alloc _)
  have HLD := Lib.hid (show ∀ W, Keeps [] (w.alloc (.cells (refC h fi len).toArray 52)) W → W.rangeAt w.heap.size 0 (refC h fi len) from fun W hk => by
    have := str_range (StrAt.new w (refC h fi len).toArray 52)
    exact range_keeps (by simpa using this) hk (by simp))
  have HSZ := Lib.hid (show (Tryd.prog.info? 52).map (·.size) = some (refC h fi len).length from by rw [show (refC h fi len).length = 34 by simp [refC, by8_length, hh]]; exact size52n)
  have HK2 := Lib.hid (Keeps.refl [] (w.alloc (.cells (refC h fi len).toArray 52)))
  have hs0 := secsI_nonneg len
  have hs1 := secsI_le len
  by_cases hp : 0 ≤ place ∧ place < secsI len
  · obtain ⟨g1, g2, g3⟩ := secsI_place hp.1 hp.2
    have HM := Lib.hid (show mayB len place next = if place = secsI len - 1 then decide (next = 0) else decide (1 ≤ next ∧ next < 65536) from rfl)
    have HFM := Lib.hid (show ∀ W, Keeps [] w W → Calls Tryd.prog 71 #[.slice (some ⟨g, 0, none⟩) N c, .agg (refC h fi len).toArray, .int .i64 place] W fun e w' => e = .returned (.bool (formedB xs h len place)) ∧ Keeps [] W w' from fun W hk => by
      obtain ⟨L, rfl⟩ := Int.eq_ofNat_of_zero_le g1
      obtain ⟨j, rfl⟩ := Int.eq_ofNat_of_zero_le hp.1
      exact formed_any (range_keeps hx hk (by simp)) hN hb hh (by omega) (by omega) hc (hH.keeps hk (by simp)))
    have HNM0 := Lib.hid (show formedB xs h len place = true → ∀ W, Keeps [] w W → Calls Tryd.prog 73 #[.slice (some ⟨g, 0, none⟩) N c, .int .i64 4] W fun e w' => e = .returned (.int .i64 (numB (xs.take 4))) ∧ w' = W from fun hf W hk => by
      have := formedB_len hf
      exact number4 (range_keeps hx hk (by simp)) hN (by omega) (by omega) (fun i _ => byt_getD hb i))
    have HSM := Lib.hid (show mayB len place next = false → soundB xs h len place next = false from soundB_may)
    have HSB := Lib.hid (show mayB len place next = true → soundB xs h len place next = (formedB xs h len place && decide (numB (xs.take 4) = next)) from fun hm => by unfold soundB; rw [hm, decide_eq_true hp, Bool.true_and, Bool.true_and])
    have p1 : (place < 0) = False := eq_false (by omega)
    have p2 : (secsI len ≤ place) = False := eq_false (by omega)
    clear hx hN hb hH g1 g2 g3 hp
    generalize hSB : soundB xs h len place next = sb at HSM HSB ⊢
    generalize hMB : mayB len place next = mb at HM HSM HSB
    generalize hF : formedB xs h len place = f at HFM HNM0 HSB
    generalize hV : numB (xs.take 4) = v at HNM0 HSB
    generalize secsI len = sl at HS hs0 hs1 HM p2
    have wsl : IntKind.i64.wrap (sl - 1) = sl - 1 := IntWalk.i64_in _ (by omega)
    generalize hrl : refC h fi len = rl at *
    clear hSB hMB hF hV hrl
    by_cases hl : place = sl - 1
    · have b1 : (place == sl - 1) = true := by simpa using hl
      by_cases hn : next = 0
      · have hm : mb = true := by rw [HM.out, if_pos hl]; exact decide_eq_true hn
        have b2 : (next == 0) = true := by simpa using hn
        subst hn
        clear hl HSM
        have HE := Lib.hid (HSB.out hm)
        by_cases hf : f = true
        · subst hf
          have HNM := Lib.hid (HNM0.out rfl)
          clear HM HSB HNM0
          go_enter Tryd.func35, Tryd.ntmps35
          go_wp2_with (first | (go_at_call 33; refine (HS.out _).mono ?_; rintro e w1 ⟨rfl, h3⟩; have HK3 := Lib.hid (HK2.out.trans' h3); clear h3 HK2; rename Hid (Keeps [] (World.alloc _ _) _) => HK2) | (refine wpList_load_mid rfl 52 (.tmp 5) rfl w.heap.size 0 rfl rl _ (HLD.out _ HK2.out) Tryd.underlying52 rfl HSZ.out ?_) | (go_at_call 71; refine (HFM.out _ (HK1.out.trans' HK2.out)).mono ?_; rintro e w1 ⟨rfl, h3⟩; have HK3 := Lib.hid (HK2.out.trans' h3); clear h3 HK2; rename Hid (Keeps [] (World.alloc _ _) _) => HK2) | (go_at_call 73; refine (HNM.out _ (HK1.out.trans' HK2.out)).mono ?_; rintro e w1 ⟨rfl, rfl⟩))
          go_ret
          exact ⟨by rw [HE.out]; rfl, HK1.out.trans' HK2.out⟩
        · have hf' : f = false := by simpa using hf
          clear hf
          subst hf'
          clear HM HSB HNM0
          go_enter Tryd.func35, Tryd.ntmps35
          go_wp2_with (first | (go_at_call 33; refine (HS.out _).mono ?_; rintro e w1 ⟨rfl, h3⟩; have HK3 := Lib.hid (HK2.out.trans' h3); clear h3 HK2; rename Hid (Keeps [] (World.alloc _ _) _) => HK2) | (refine wpList_load_mid rfl 52 (.tmp 5) rfl w.heap.size 0 rfl rl _ (HLD.out _ HK2.out) Tryd.underlying52 rfl HSZ.out ?_) | (go_at_call 71; refine (HFM.out _ (HK1.out.trans' HK2.out)).mono ?_; rintro e w1 ⟨rfl, h3⟩; have HK3 := Lib.hid (HK2.out.trans' h3); clear h3 HK2; rename Hid (Keeps [] (World.alloc _ _) _) => HK2))
          go_ret
          exact ⟨by rw [HE.out]; rfl, HK1.out.trans' HK2.out⟩
      · have hm : mb = false := by rw [HM.out, if_pos hl]; exact decide_eq_false hn
        have HE := Lib.hid (HSM.out hm)
        have b2 : (next == 0) = false := by simpa using hn
        have b3 : (next = 0) = False := eq_false hn
        clear HM HFM HNM0 HSM hl hn HLD HSB
        go_enter Tryd.func35, Tryd.ntmps35
        go_wp2_with (go_at_call 33; refine (HS.out _).mono ?_; rintro e w1 ⟨rfl, h3⟩; have HK3 := Lib.hid (HK2.out.trans' h3); clear h3 HK2; rename Hid (Keeps [] (World.alloc _ _) _) => HK2)
        go_ret
        exact ⟨by rw [HE.out]; rfl, HK1.out.trans' HK2.out⟩
    · have b1 : (place == sl - 1) = false := by simpa using hl
      by_cases hn : 1 ≤ next ∧ next < 65536
      · have hm : mb = true := by rw [HM.out, if_neg hl]; exact decide_eq_true hn
        have b2 : (next < 1) = False := eq_false (by omega)
        have b3 : (65536 ≤ next) = False := eq_false (by omega)
        clear hl hn HSM
        have HE := Lib.hid (HSB.out hm)
        by_cases hf : f = true
        · subst hf
          have HNM := Lib.hid (HNM0.out rfl)
          clear HM HSB HNM0
          go_enter Tryd.func35, Tryd.ntmps35
          go_wp2_with (first | (go_at_call 33; refine (HS.out _).mono ?_; rintro e w1 ⟨rfl, h3⟩; have HK3 := Lib.hid (HK2.out.trans' h3); clear h3 HK2; rename Hid (Keeps [] (World.alloc _ _) _) => HK2) | (refine wpList_load_mid rfl 52 (.tmp 5) rfl w.heap.size 0 rfl rl _ (HLD.out _ HK2.out) Tryd.underlying52 rfl HSZ.out ?_) | (go_at_call 71; refine (HFM.out _ (HK1.out.trans' HK2.out)).mono ?_; rintro e w1 ⟨rfl, h3⟩; have HK3 := Lib.hid (HK2.out.trans' h3); clear h3 HK2; rename Hid (Keeps [] (World.alloc _ _) _) => HK2) | (go_at_call 73; refine (HNM.out _ (HK1.out.trans' HK2.out)).mono ?_; rintro e w1 ⟨rfl, rfl⟩))
          go_ret
          exact ⟨by rw [HE.out]; rfl, HK1.out.trans' HK2.out⟩
        · have hf' : f = false := by simpa using hf
          clear hf
          subst hf'
          clear HM HSB HNM0
          go_enter Tryd.func35, Tryd.ntmps35
          go_wp2_with (first | (go_at_call 33; refine (HS.out _).mono ?_; rintro e w1 ⟨rfl, h3⟩; have HK3 := Lib.hid (HK2.out.trans' h3); clear h3 HK2; rename Hid (Keeps [] (World.alloc _ _) _) => HK2) | (refine wpList_load_mid rfl 52 (.tmp 5) rfl w.heap.size 0 rfl rl _ (HLD.out _ HK2.out) Tryd.underlying52 rfl HSZ.out ?_) | (go_at_call 71; refine (HFM.out _ (HK1.out.trans' HK2.out)).mono ?_; rintro e w1 ⟨rfl, h3⟩; have HK3 := Lib.hid (HK2.out.trans' h3); clear h3 HK2; rename Hid (Keeps [] (World.alloc _ _) _) => HK2))
          go_ret
          exact ⟨by rw [HE.out]; rfl, HK1.out.trans' HK2.out⟩
      · have hm : mb = false := by rw [HM.out, if_neg hl]; exact decide_eq_false hn
        have HE := Lib.hid (HSM.out hm)
        by_cases hn1 : next < 1
        · have b2 : (next < 1) = True := eq_true hn1
          clear HM HFM HNM0 HSM hl hn hn1 HLD HSB
          go_enter Tryd.func35, Tryd.ntmps35
          go_wp2_with (go_at_call 33; refine (HS.out _).mono ?_; rintro e w1 ⟨rfl, h3⟩; have HK3 := Lib.hid (HK2.out.trans' h3); clear h3 HK2; rename Hid (Keeps [] (World.alloc _ _) _) => HK2)
          go_ret
          exact ⟨by rw [HE.out]; rfl, HK1.out.trans' HK2.out⟩
        · have b2 : (next < 1) = False := eq_false hn1
          have b3 : (65536 ≤ next) = True := eq_true (by omega)
          clear HM HFM HNM0 HSM hl hn hn1 HLD HSB
          go_enter Tryd.func35, Tryd.ntmps35
          go_wp2_with (go_at_call 33; refine (HS.out _).mono ?_; rintro e w1 ⟨rfl, h3⟩; have HK3 := Lib.hid (HK2.out.trans' h3); clear h3 HK2; rename Hid (Keeps [] (World.alloc _ _) _) => HK2)
          go_ret
          exact ⟨by rw [HE.out]; rfl, HK1.out.trans' HK2.out⟩
  · have HE := Lib.hid (show soundB xs h len place next = false from by unfold soundB; rw [decide_eq_false hp, Bool.false_and])
    generalize soundB xs h len place next = sb at HE ⊢
    generalize secsI len = sl at HS hs0 hs1 hp
    generalize hrl : refC h fi len = rl at *
    clear hx hN hb hH hrl
    by_cases hp0 : place < 0
    · have b1 : (place < 0) = True := eq_true hp0
      clear hp hp0
      go_enter Tryd.func35, Tryd.ntmps35
      go_wp2_with (go_at_call 33; refine (HS.out _).mono ?_; rintro e w1 ⟨rfl, h3⟩; have HK3 := Lib.hid (HK2.out.trans' h3); clear h3 HK2; rename Hid (Keeps [] (World.alloc _ _) _) => HK2)
      go_ret
      exact ⟨by rw [HE.out]; rfl, HK1.out.trans' HK2.out⟩
    · have b1 : (place < 0) = False := eq_false hp0
      have b2 : (sl ≤ place) = True := eq_true (by omega)
      clear hp hp0
      go_enter Tryd.func35, Tryd.ntmps35
      go_wp2_with (go_at_call 33; refine (HS.out _).mono ?_; rintro e w1 ⟨rfl, h3⟩; have HK3 := Lib.hid (HK2.out.trans' h3); clear h3 HK2; rename Hid (Keeps [] (World.alloc _ _) _) => HK2)
      go_ret
      exact ⟨by rw [HE.out]; rfl, HK1.out.trans' HK2.out⟩
end Go.Proofs.YtgcpcgcfpjolnaaDoor.G
