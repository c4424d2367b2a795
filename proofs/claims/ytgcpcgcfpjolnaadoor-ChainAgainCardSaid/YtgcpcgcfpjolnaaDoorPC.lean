import Derived.Test.YtgcpcgcfpjolnaaDoorPX
import Derived.Test.YtgcpcgcfpjolnaaDoorPA
import Derived.Deep.RegionHeld3
import Derived.Shelf.Spec.TrailingZeros
import Derived.Laws.IdiomCopy
import Derived.Deep.MidRow
import Derived.Lib.SliceRun
import Derived.Deep.RegionLaw
import Derived.Great.BuildSlice
-- wire.Sum of one part.
namespace Go.Proofs.YtgcpcgcfpjolnaaDoor.G
open Go.RowKit Go.Proofs.YtgcpcgcfpjolnaaDoorW.PrintWords Go.Proofs.YtgcpcgcfpjolnaaDoorW.PrintLast Go.Proofs.YtgcpcgcfpjolnaaDoorW.PrintMore
set_option linter.unusedVariables false
set_option linter.unusedSimpArgs false
set_option maxRecDepth 10000
def intOf : Value → Int
  | .int _ x => x
  | _ => 0
/-- the rows of package wire's table -/
def halfL : List Int := [0x00000000, 0x1db71064, 0x3b6e20c8, 0x26d930ac, 0x76dc4190, 0x6b6b51f4, 0x4db26158, 0x5005713c, 0xedb88320, 0xf00f9344, 0xd6d6a3e8, 0xcb61b38c, 0x9b64c2b0, 0x86d3d2d4, 0xa00ae278, 0xbdbdf21c]
def HalfW (w : World) : Prop := ∀ j, j < 16 → w.cell? ⟨0, j, none⟩ = some (.int .u32 (halfL.getD j 0))
theorem HalfW.keeps {w w' : World} {S : List Nat} (h : HalfW w) (hk : Keeps S w w') (h0 : 0 ∉ S) : HalfW w' := fun j hj => hk.cell (h j hj) h0
/-- half a byte goes through -/
def crcHalf (r : Int) : Int := bits .xor .u32 (r / 16) (halfL.getD (bits .and .u32 r 15).toNat 0)
def crcStep (r c : Int) : Int := crcHalf (crcHalf (bits .xor .u32 r (c % 4294967296)))
def crcF (xs : List Int) : Int := bits .xor .u32 4294967295 (xs.foldl crcStep 4294967295)
theorem and15 (r : Int) (h0 : 0 ≤ r) (h1 : r ≤ 4294967295) : 0 ≤ bits .and .u32 r 15 ∧ bits .and .u32 r 15 < 16 := by
  obtain ⟨n, rfl⟩ := Int.eq_ofNat_of_zero_le h0
  rw [show (15 : Int) = ((15 : Nat) : Int) from rfl, bits_and_u32_nat n 15 (by omega) (by decide)]
  have : n &&& 15 ≤ 15 := Nat.and_le_right
  omega
theorem fold_range (xs : List Int) (r : Int) (h0 : 0 ≤ r) (h1 : r ≤ 4294967295) : 0 ≤ xs.foldl crcStep r ∧ xs.foldl crcStep r ≤ 4294967295 := by
  induction xs generalizing r with
  | nil => exact ⟨h0, h1⟩
  | cons x xs ih => exact ih _ (by unfold crcStep crcHalf; exact bits_lo_u32 ..) (by unfold crcStep crcHalf; exact bits_hi_u32 ..)
theorem take_step (xs : List Int) (j : Nat) (hj : j < xs.length) (r : Int) : (xs.take (j + 1)).foldl crcStep r = crcStep ((xs.take j).foldl crcStep r) xs[j] := by
  rw [List.take_succ_eq_append_getElem hj, List.foldl_append]; rfl
set_option maxHeartbeats 4000000 in
theorem sum_calls (g cap : Nat) (A : Option Addr) (c : Nat) (xs : List Int) (w : World) (hg : w.cell? ⟨g, 0, none⟩ = some (.slice A xs.length c)) (hx : Kd.C (Kd.int .u8) w A xs.length xs) (hH : HalfW w) :
    Calls Tryd.prog 104 #[.slice (some ⟨g, 0, none⟩) 1 cap] w fun e w' => e = .returned (.int .u32 (crcF xs)) ∧ w' = w := by
  have HX := Lib.hid hx
  have hlen : xs.length ≤ 9223372036854775807 := hx.2.1
  have HHH := Lib.hid hH
  clear hx hH
  go_enter Tryd.func104, Tryd.ntmps104
  go_wp2
  go_loopw [3, 10] (fun r i wr => wr = w ∧ ((r = .int .u32 4294967295 ∧ i = .int .i64 0) ∨ (r = .int .u32 (xs.foldl crcStep 4294967295) ∧ i = .int .i64 1))) (fun _ i _ => 1 - (intOf i).toNat)
  case atStart => exact ⟨rfl, .inl ⟨rfl, rfl⟩⟩
  case round =>
    obtain ⟨rfl, ⟨rfl, rfl⟩ | ⟨rfl, rfl⟩⟩ := hrel
    · go_wp2
      go_loopw [3, 16] (fun r j wr' => wr' = wr ∧ ∃ q : Nat, q ≤ xs.length ∧ j = .int .i64 (q : Int) ∧ r = .int .u32 ((xs.take q).foldl crcStep 4294967295)) (fun _ j _ => xs.length - (intOf j).toNat)
      case atStart => exact ⟨rfl, 0, by omega, rfl, by simp⟩
      case round =>
        obtain ⟨rfl, q, hq, rfl, rfl⟩ := hrel
        by_cases hql : q < xs.length
        · have p1 : ((q : Int) < (xs.length : Int)) = True := eq_true (by omega)
          obtain ⟨ad, hA, hc⟩ := Kd.at_int HX.out (q : Int) (Int.natCast_nonneg _) (by omega)
          subst hA
          simp only [Int.toNat_natCast] at hc
          have hr : rd xs (q : Int) = xs[q] := by simp [rd, List.getD_eq_getElem?_getD, List.getElem?_eq_getElem hql]
          rw [hr] at hc
          have HS := Lib.hid (take_step xs q hql 4294967295)
          obtain ⟨f0, f1⟩ := fold_range (xs.take q) 4294967295 (by decide) (by decide)
          generalize (xs.take q).foldl crcStep 4294967295 = r at HS f0 f1 ⊢
          generalize xs[q] = x at hc HS
          obtain ⟨r1, hr1⟩ : ∃ r1, r1 = bits .xor .u32 r (x % 4294967296) := ⟨_, rfl⟩
          have a1 := and15 r1 (by rw [hr1]; exact bits_lo_u32 ..) (by rw [hr1]; exact bits_hi_u32 ..)
          obtain ⟨r2, hr2⟩ : ∃ r2, r2 = crcHalf r1 := ⟨_, rfl⟩
          have a2 := and15 r2 (by rw [hr2]; exact bits_lo_u32 ..) (by rw [hr2]; exact bits_hi_u32 ..)
          have h1 := HHH.out (bits .and .u32 r1 15).toNat (by omega)
          have h2 := HHH.out (bits .and .u32 r2 15).toNat (by omega)
          have e1 : bits .xor .u32 r (x % 4294967296) = r1 := hr1.symm
          obtain ⟨t1, ht1⟩ : ∃ t, t = halfL.getD (bits .and .u32 r1 15).toNat 0 := ⟨_, rfl⟩
          obtain ⟨t2, ht2⟩ : ∃ t, t = halfL.getD (bits .and .u32 r2 15).toNat 0 := ⟨_, rfl⟩
          rw [← ht1] at h1
          rw [← ht2] at h2
          have e2 : bits .xor .u32 (r1 / 16) t1 = r2 := by rw [hr2, ht1]; rfl
          have e5 : bits .xor .u32 (r2 / 16) t2 = crcStep r x := by rw [ht2, hr2, hr1]; rfl
          obtain ⟨a10, a11⟩ := a1
          obtain ⟨a20, a21⟩ := a2
          clear hr1 hr2 ht1 ht2 f0 f1
          go_wp2
          go_roundw
          case rel => exact ⟨trivial, q + 1, by omega, by go_num, by rw [HS.out]⟩
          case measure => simp [intOf]; omega
        · have p1 : ((q : Int) < (xs.length : Int)) = False := eq_false (by omega)
          obtain rfl : q = xs.length := by omega
          go_wp2
          go_roundw
          case rel => exact ⟨trivial, .inr ⟨by rw [List.take_length], rfl⟩⟩
          case measure => simp [intOf]
    · go_wp2
      go_ret
      refine ⟨?_, ?_⟩ <;> rfl
end Go.Proofs.YtgcpcgcfpjolnaaDoor.G
-- Rows of bytes: written over, copied into, read.
namespace Go.Proofs.YtgcpcgcfpjolnaaDoor.G
open Go.RowKit Go.Proofs.YtgcpcgcfpjolnaaDoorW.PrintWords Go.Proofs.YtgcpcgcfpjolnaaDoorW.PrintLast Go.Proofs.YtgcpcgcfpjolnaaDoorW.PrintMore
set_option linter.unusedVariables false
set_option linter.unusedSimpArgs false
set_option maxRecDepth 10000
theorem drew_keepsC (w : World) : Keeps [] w w.drew := (Keeps.refl [] w).drew
theorem info5c : (Tryd.prog.info? 5).map (fun i => (i.zero, i.size, i.bytes)) = some (some (.int .u8 0), 1, 1) := by kernel_rfl
theorem info3c : (Tryd.prog.info? 3).map (fun i => (i.zero, i.size, i.bytes)) = some (some (.int .i64 0), 1, 8) := by kernel_rfl
def by8 (xs : List Int) : List Value := xs.map (Value.int .u8)
theorem by8_length (xs : List Int) : (by8 xs).length = xs.length := by simp [by8]
theorem by8_get (xs : List Int) (j : Nat) : (by8 xs)[j]? = (xs[j]?).map (Value.int .u8) := by simp [by8]
theorem by8_append (xs ys : List Int) : by8 (xs ++ ys) = by8 xs ++ by8 ys := by simp [by8]
theorem by8_one (xs : List Int) : ∀ u ∈ by8 xs, u.oneCell' = true := by
  intro u hu
  obtain ⟨x, _, rfl⟩ := List.mem_map.1 hu
  rfl
/-- xs written over with cs from o on -/
def putAt {α : Type} (xs : List α) (o : Nat) (cs : List α) : List α := xs.take o ++ cs ++ xs.drop (o + cs.length)
theorem putAt_length {α : Type} (xs : List α) (o : Nat) (cs : List α) (h : o + cs.length ≤ xs.length) : (putAt xs o cs).length = xs.length := by
  unfold putAt
  simp only [List.length_append, List.length_take, List.length_drop]
  omega
theorem putAt_nil {α : Type} (xs : List α) (o : Nat) : putAt xs o [] = xs := by simp [putAt]
theorem putAt_cons {α : Type} (xs : List α) (o : Nat) (c : α) (cs : List α) (h : o < xs.length) : putAt (xs.set o c) (o + 1) cs = putAt xs o (c :: cs) := by
  unfold putAt
  have e1 : (xs.set o c).take (o + 1) = xs.take o ++ [c] := by
    rw [List.set_eq_take_append_cons_drop, if_pos h]
    have e2 : (xs.take o ++ c :: xs.drop (o + 1)) = (xs.take o ++ [c]) ++ xs.drop (o + 1) := by simp
    rw [e2]
    exact List.take_left' (by simp; omega)
  have e3 : (xs.set o c).drop (o + 1 + cs.length) = xs.drop (o + (c :: cs).length) := by
    rw [List.drop_set_of_lt (by omega)]
    congr 1
    simp; omega
  rw [e1, e3]
  simp
theorem putAt_map {α β : Type} (f : α → β) (xs : List α) (o : Nat) (cs : List α) : (putAt xs o cs).map f = putAt (xs.map f) o (cs.map f) := by
  unfold putAt
  simp [List.map_take, List.map_drop]
theorem RowAt_setCells {g : Nat} {e : TypeId} {n cap : Nat} : ∀ (cs : List Value) (o : Nat) (w : World) (xs : List Value), RowAt w g e 1 n cap xs → o + cs.length ≤ xs.length → RowAt (w.setCells g o cs) g e 1 n cap (putAt xs o cs)
  | [], o, w, xs, h, _ => by rw [putAt_nil]; exact h
  | c :: cs, o, w, xs, h, hl => by
    simp only [List.length_cons] at hl
    rw [← putAt_cons xs o c cs (by omega)]
    exact RowAt_setCells cs (o + 1) _ _ (RowAt.set h o c) (by simp; omega)
theorem keeps_setCells {S : List Nat} {g : Nat} (hg : g ∈ S) : ∀ (cs : List Value) (o : Nat) (w0 w : World), Keeps S w0 w → Keeps S w0 (w.setCells g o cs)
  | [], _, _, _, h => h
  | c :: cs, o, w0, w, h => keeps_setCells hg cs (o + 1) w0 _ (h.setCell (.inl hg) c)
/-- what a row holds, read from o on -/
theorem row_read {w : World} {g cap n : Nat} {xs : List Int} (h : RowAt w g 5 1 n cap (by8 xs)) (o m : Nat) (hm : o + m ≤ xs.length) (hn : n ≤ 9223372036854775807) : Kd.C (Kd.int .u8) w (some ⟨g, o, none⟩) m ((xs.drop o).take m) := by
  have hxn : xs.length = n := by have := h.1; rw [by8_length] at this; omega
  refine ⟨by simp; omega, by omega, fun _ => ⟨_, rfl, fun j t hj => ⟨_, rfl, rfl, fun i u hu => ?_⟩⟩⟩
  have hi : i < 1 := (List.getElem?_eq_some_iff.1 hu).1
  obtain rfl : i = 0 := by omega
  simp at hu
  subst hu
  have hjm : j < m := by
    have := (List.getElem?_eq_some_iff.1 hj).1
    simp at this; omega
  rw [List.getElem?_take, if_pos hjm, List.getElem?_drop] at hj
  have ea : (⟨g, o, none⟩ : Addr).add (j * (Kd.int .u8).sz + 0) = ⟨g, o + j, none⟩ := by
    have e1 : j * (Kd.int .u8).sz + 0 = j := Nat.mul_one j
    rw [e1]; unfold Addr.add; split <;> simp_all
  rw [ea, RowAt.cell h (o + j) (by omega), by8_get, hj]; rfl
theorem row_read0 {w : World} {g cap n : Nat} {xs : List Int} (h : RowAt w g 5 1 n cap (by8 xs)) (hn : n ≤ 9223372036854775807) : Kd.C (Kd.int .u8) w (some ⟨g, 0, none⟩) xs.length xs := by
  have := row_read h 0 xs.length (by omega) hn
  simpa using this
/-- a row of bytes that a call has told, as a thing -/
theorem R_row8 {w : World} {B : Nat} {v : Value} {xs : List Int} {ok : Nat → Prop} (h : Kd.R (Kd.int .u8) 5 w B ok v xs) : w.ownsRow 0 5 1 v xs.length (by8 xs) := by
  have h1 := Kd.own_of_R h
  refine ⟨h1.1, ?_⟩
  rcases h1.2 with h2 | ⟨g, cap, cur, e, _, h3⟩
  · exact .inl h2
  · exact .inr ⟨g, cap, cur, e, Nat.zero_le _, h3⟩
/-- reading a slice from o on -/
theorem read_at {w : World} {A : Option Addr} {n : Nat} {xs : List Int} (h : Kd.C (Kd.int .u8) w A n xs) (j : Nat) (x : Int) (hj : xs[j]? = some x) : ∃ ad, A = some ad ∧ w.cell? (ad.add j) = some (.int .u8 x) := by
  have hl := (List.getElem?_eq_some_iff.1 hj).1
  obtain ⟨ad, e, hc⟩ := Kd.at_int h (j : Int) (Int.natCast_nonneg _) (by have := h.1; omega)
  refine ⟨ad, e, ?_⟩
  simp only [Int.toNat_natCast] at hc
  rw [hc]
  simp [rd, List.getD_eq_getElem?_getD, hj]
section
variable {P : Program} {ops : Array Oper} {rest : List Oper} {o : Oper} {a : Act} {Q : Exit → Act → World → Prop}
/-- copy, of bytes: what src holds from its beginning on is laid into block b from off on -/
theorem oper_copy8 {W : World} {K : Act → World → Prop} (d s : Operand) (dT sT e : TypeId)
    (ho : o.op = .call { callee := .builtin .copy, args := #[d, s], argTypes := #[dT, sT] })
    (hu : P.underlying dT = some (.slice e)) (hs : (P.info? e).map (·.size) = some 1) {b off dLen dCap : Nat} (hd : a.eval d = .slice (some ⟨b, off, none⟩) dLen dCap)
    {A : Option Addr} {n c : Nat} {xs : List Int} (hsl : a.eval s = .slice A n c) (hx : Kd.C (Kd.int .u8) W A n xs) {N cap : Nat} {ys : List Value} (hr : RowAt W b e 1 N cap ys) (hfit : off + dLen ≤ N)
    (hK : K (a.put o.dst (.int .i64 ((min n dLen : Nat) : Int))) (W.setCells b off (by8 (xs.take dLen)))) : Oper.wp P o a W K Q := by
  have hxn := hx.1
  have hyl : ys.length = N := by have := hr.1; omega
  have hlen : (by8 (xs.take dLen)).length = Nat.min n dLen := by rw [by8_length, List.length_take, hxn, Nat.min_comm]
  have hrun : (Builtin.copy_ #[dT, sT] o.type #[.slice (some ⟨b, off, none⟩) dLen dCap, .slice A n c]).run P W = .ok (.int .i64 ((min n dLen : Nat) : Int)) (W.setCells b off (by8 (xs.take dLen))) := by
    by_cases h0 : Nat.min n dLen = 0
    · have e1 : xs.take dLen = [] := List.eq_nil_of_length_eq_zero (by rw [by8_length] at hlen; omega)
      rw [run_copy_none W dT sT o.type e _ _ _ _ _ _ hu hs h0, e1]
      show Result.ok (goInt 0) W = .ok (.int .i64 ((Nat.min n dLen : Nat) : Int)) W
      rw [h0]; rfl
    · have hn0 : 0 < n := by
        rcases Nat.eq_zero_or_pos n with h | h
        · subst h; exact absurd (Nat.zero_min _) h0
        · exact h
      obtain ⟨ad, e1, _⟩ := hx.2.2 hn0
      subst e1
      have hmin : Nat.min n dLen ≤ dLen := Nat.min_le_right _ _
      have := run_copy_cells (P := P) W dT sT o.type e b off dLen dCap ad n c (by8 (xs.take dLen)) hu hs hlen
        (fun j v hv => by
          rw [by8_get] at hv
          obtain ⟨x, hx1, rfl⟩ := Option.map_eq_some_iff.1 hv
          rw [List.getElem?_take] at hx1
          split at hx1
          · obtain ⟨ad', e2, hc⟩ := read_at hx j x hx1
            cases e2
            exact hc
          · cases hx1)
        (fun j hj => by
          rw [hlen] at hj
          rw [RowAt.cell hr (off + j) (by omega), List.getElem?_eq_getElem (by omega)]; rfl)
        (fun j hj => RowAt.frozen hr _) (by8_one _)
      rw [this, hlen]; rfl
  unfold Oper.wp
  simp [execOp, ho, hd, hsl, resolve, invoke, builtin, hrun, Result.andThen]
  exact hK
/-- .. at the operation -/
theorem wp_copy8 {W : World} (hgd : o.guard = none) (d s : Operand) (dT sT e : TypeId)
    (ho : o.op = .call { callee := .builtin .copy, args := #[d, s], argTypes := #[dT, sT] })
    (hu : P.underlying dT = some (.slice e)) (hs : (P.info? e).map (·.size) = some 1) {b off dLen dCap : Nat} (hd : a.eval d = .slice (some ⟨b, off, none⟩) dLen dCap)
    {A : Option Addr} {n c : Nat} {xs : List Int} (hsl : a.eval s = .slice A n c) (hx : Kd.C (Kd.int .u8) W A n xs) {N cap : Nat} {ys : List Value} (hr : RowAt W b e 1 N cap ys) (hfit : off + dLen ≤ N)
    (hK : wpList P ops Q rest (a.put o.dst (.int .i64 ((min n dLen : Nat) : Int))) (W.setCells b off (by8 (xs.take dLen)))) : wpList P ops Q (o :: rest) a W :=
  wpList_plain hgd fun K' hK' => oper_copy8 d s dT sT e ho hu hs hd hsl hx hr hfit (hK' _ _ hK)
/-- .. in a region that draws its order -/
theorem step_copy8 {W : World} {K : Act → World → Prop} {E : Prop} (hgd : o.guard = none) (d s : Operand) (dT sT e : TypeId)
    (ho : o.op = .call { callee := .builtin .copy, args := #[d, s], argTypes := #[dT, sT] })
    (hu : P.underlying dT = some (.slice e)) (hs : (P.info? e).map (·.size) = some 1) {b off dLen dCap : Nat} (hd : a.eval d = .slice (some ⟨b, off, none⟩) dLen dCap)
    {A : Option Addr} {n c : Nat} {xs : List Int} (hsl : a.eval s = .slice A n c) (hx : Kd.C (Kd.int .u8) W A n xs) {N cap : Nat} {ys : List Value} (hr : RowAt W b e 1 N cap ys) (hfit : off + dLen ≤ N)
    (hK : K (a.put o.dst (.int .i64 ((min n dLen : Nat) : Int))) (W.setCells b off (by8 (xs.take dLen)))) : if Region.wanted o (yielded ops a.tmps) = true then Oper.wp P o a W K Q else E := by
  have hw : Region.wanted o (yielded ops a.tmps) = true := by simp [Region.wanted, hgd]
  rw [if_pos hw]
  exact oper_copy8 d s dT sT e ho hu hs hd hsl hx hr hfit hK
end
end Go.Proofs.YtgcpcgcfpjolnaaDoor.G
-- slices.Clone, chain.put.
namespace Go.Proofs.YtgcpcgcfpjolnaaDoor.G
open Go.RowKit Go.Proofs.YtgcpcgcfpjolnaaDoorW.PrintWords Go.Proofs.YtgcpcgcfpjolnaaDoorW.PrintLast Go.Proofs.YtgcpcgcfpjolnaaDoorW.PrintMore
set_option linter.unusedVariables false
set_option linter.unusedSimpArgs false
set_option maxRecDepth 10000
theorem R_empty8 (w : World) : Kd.R (Kd.int .u8) 5 (w.alloc (.cells #[] 5)) w.heap.size (fun _ => True) (.slice (some ⟨w.heap.size, 0, none⟩) 0 0) ([] : List Int) :=
  ⟨fun _ _ => trivial, [], ⟨rfl, .inr ⟨w.heap.size, 0, #[], rfl, Nat.le_refl _, by show (w.heap.push _)[w.heap.size]? = _; simp, Nat.le_refl _, by simp [maxLen], by simp, by simp⟩⟩, Reps.none _ _⟩
theorem R_emptyI (w : World) : Kd.R (Kd.int .i64) 3 (w.alloc (.cells #[] 3)) w.heap.size (fun _ => True) (.slice (some ⟨w.heap.size, 0, none⟩) 0 0) ([] : List Int) :=
  ⟨fun _ _ => trivial, [], ⟨rfl, .inr ⟨w.heap.size, 0, #[], rfl, Nat.le_refl _, by show (w.heap.push _)[w.heap.size]? = _; simp, Nat.le_refl _, by simp [maxLen], by simp, by simp⟩⟩, Reps.none _ _⟩
def TellsR8 (xs : List Int) (w : World) (e : Ending) (w' : World) : Prop := ∃ v, e = .returned v ∧ Kd.R (Kd.int .u8) 5 w' w.heap.size (fun _ => True) v xs ∧ Below w.heap.size w w'
def TellsRI (xs : List Int) (w : World) (e : Ending) (w' : World) : Prop := ∃ v, e = .returned v ∧ Kd.R (Kd.int .i64) 3 w' w.heap.size (fun _ => True) v xs ∧ Below w.heap.size w w'
theorem clone8_calls (A : Option Addr) (c : Nat) (xs : List Int) (w : World) (hx : Kd.C (Kd.int .u8) w A xs.length xs) (hl : xs.length ≤ 140737488355328) :
    Calls Tryd.prog 66 #[.slice A xs.length c] w (TellsR8 xs w) := by
  have hnil := fun w => Lib.run_eql_slice_nil (P := Tryd.prog) w 22 5 A xs.length c 0 0 Tryd.underlying22
  cases A with
  | none =>
    have h0 : xs = [] := by
      cases xs with
      | nil => rfl
      | cons x xs => obtain ⟨ad, e, _⟩ := hx.2.2 (by simp); cases e
    subst h0
    simp only [List.length_nil, Option.isNone_none] at hnil ⊢
    have HN := Lib.hid (Kd.R_nil (Kd.int .u8) 5 w w.heap.size (fun _ => True))
    go_enter Tryd.func66, Tryd.ntmps66
    go_wp2
    go_ret
    exact ⟨_, rfl, HN.out, Below.refl _ _⟩
  | some ad =>
    have HX := Lib.hid (Kd.C_below hx (below_alloc (Below.refl w.heap.size w) (.cells #[] 5)))
    clear hx
    go_enter Tryd.func66, Tryd.ntmps66
    go_wp2_with (at_builtin; refine Kd.R_append_rows (Kd.int .u8) (w0 := w) w.heap.size rfl (.tmp 5) (.tmp 6) 22 5 (.int .u8 0) 1 rfl Tryd.underlying22 info5c rfl (by decide) (by omega) (.slice (some ⟨w.heap.size, 0, none⟩) 0 0) ([] : List Int) xs _ _ _ (fun _ => True) (fun _ => False) rfl rfl (R_empty8 w) HX.out (fun _ _ h => h) (fun _ h => h.elim) (fun _ _ => trivial) (below_alloc (Below.refl _ _) _) (by simp) (by simp; omega) ?_)
    intro v1 w1 hR hb _ _
    go_wp2
    go_ret
    exact ⟨v1, rfl, hR, hb⟩
theorem cloneI_calls (A : Option Addr) (c : Nat) (xs : List Int) (w : World) (hx : Kd.C (Kd.int .i64) w A xs.length xs) (hl : xs.length * 8 ≤ 140737488355328) :
    Calls Tryd.prog 67 #[.slice A xs.length c] w (TellsRI xs w) := by
  have hnil := fun w => Lib.run_eql_slice_nil (P := Tryd.prog) w 47 3 A xs.length c 0 0 Tryd.underlying47
  cases A with
  | none =>
    have h0 : xs = [] := by
      cases xs with
      | nil => rfl
      | cons x xs => obtain ⟨ad, e, _⟩ := hx.2.2 (by simp); cases e
    subst h0
    simp only [List.length_nil, Option.isNone_none] at hnil ⊢
    have HN := Lib.hid (Kd.R_nil (Kd.int .i64) 3 w w.heap.size (fun _ => True))
    go_enter Tryd.func67, Tryd.ntmps67
    go_wp2
    go_ret
    exact ⟨_, rfl, HN.out, Below.refl _ _⟩
  | some ad =>
    have HX := Lib.hid (Kd.C_below hx (below_alloc (Below.refl w.heap.size w) (.cells #[] 3)))
    clear hx
    go_enter Tryd.func67, Tryd.ntmps67
    go_wp2_with (at_builtin; refine Kd.R_append_rows (Kd.int .i64) (w0 := w) w.heap.size rfl (.tmp 5) (.tmp 6) 47 3 (.int .i64 0) 8 rfl Tryd.underlying47 info3c rfl (by decide) (by omega) (.slice (some ⟨w.heap.size, 0, none⟩) 0 0) ([] : List Int) xs _ _ _ (fun _ => True) (fun _ => False) rfl rfl (R_emptyI w) HX.out (fun _ _ h => h) (fun _ h => h.elim) (fun _ _ => trivial) (below_alloc (Below.refl _ _) _) (by simp) (by simp; omega) ?_)
    intro v1 w1 hR hb _ _
    go_wp2
    go_ret
    exact ⟨v1, rfl, hR, hb⟩
/-- n bytes of a number, the lowest first -/
def le (n : Nat) (v : Int) : List Int := (List.range n).map fun i => (v / 256 ^ i) % 256
theorem put4_calls {w : World} {g cap N : Nat} {xs : List Int} (h : RowAt w g 5 1 N cap (by8 xs)) (o len c : Nat) (hl : 4 ≤ len) (ho : o + 4 ≤ N) (v : Int) (h0 : 0 ≤ v) (h1 : v ≤ 9223372036854775807) :
    Calls Tryd.prog 103 #[.slice (some ⟨g, o, none⟩) len c, .int .i64 v, .int .i64 4] w fun e w' => e = .returned (.tuple #[]) ∧ RowAt w' g 5 1 N cap (by8 (putAt xs o (le 4 v))) ∧ Keeps [g] w w' := by
  have hxn : xs.length = N := by have := h.1; rw [by8_length] at this; omega
  have cell : ∀ j, j < 4 → ∃ x, w.cell? ⟨g, o + j, none⟩ = some (.int .u8 x) := fun j hj => ⟨xs[o + j]'(by omega), by rw [RowAt.cell h (o + j) (by omega), by8_get, List.getElem?_eq_getElem (by omega)]; rfl⟩
  obtain ⟨x0, c0⟩ := cell 0 (by decide)
  obtain ⟨x1, c1⟩ := cell 1 (by decide)
  obtain ⟨x2, c2⟩ := cell 2 (by decide)
  obtain ⟨x3, c3⟩ := cell 3 (by decide)
  rw [Nat.add_zero] at c0
  have f0 := RowAt.frozen h o
  have f1 := RowAt.frozen h (o + 1)
  have f2 := RowAt.frozen h (o + 2)
  have f3 := RowAt.frozen h (o + 3)
  have HR := Lib.hid (RowAt_setCells (by8 (le 4 v)) o w (by8 xs) h (by rw [by8_length, by8_length]; simp [le]; omega))
  have HK := Lib.hid (keeps_setCells (S := [g]) (g := g) (by simp) (by8 (le 4 v)) o w w (Keeps.refl _ _))
  clear cell h
  go_enter Tryd.func103, Tryd.ntmps103
  go_wp2
  refine wp_loop_rounds 5 ?_
  rw [rounds_succ]
  go_wp2
  rw [rounds_succ]
  go_wp2
  rw [rounds_succ]
  go_wp2
  rw [rounds_succ]
  go_wp2
  rw [rounds_succ]
  go_wp2
  go_end0
  have e1 : (le 4 v) = [v % 256, v / 256 % 256, v / 65536 % 256, v / 16777216 % 256] := by
    simp [le, List.range_succ]
  have HR2 := HR.out
  have HK2 := HK.out
  have HR2 : RowAt (w.setCells g o (by8 (le 4 v))) g 5 1 N cap (by8 (putAt xs o (le 4 v))) := by unfold by8; rw [putAt_map]; exact HR2
  rw [e1] at HR2 HK2
  exact ⟨rfl, by rw [e1]; exact HR2, HK2⟩
end Go.Proofs.YtgcpcgcfpjolnaaDoor.G
-- A sector's bytes, in plain Lean.
namespace Go.Proofs.YtgcpcgcfpjolnaaDoor.G
set_option linter.unusedVariables false
set_option linter.unusedSimpArgs false
def zs (n : Nat) : List Int := List.replicate n 0
theorem zs_length (n : Nat) : (zs n).length = n := by simp [zs]
theorem zs_add (n m : Nat) : zs (n + m) = zs n ++ zs m := by simp [zs]
theorem le_length (n : Nat) (v : Int) : (le n v).length = n := by simp [le]
theorem putAt_mid {α : Type} (A B C cs : List α) (o : Nat) (ho : A.length = o) (hl : cs.length = B.length) : putAt (A ++ (B ++ C)) o cs = A ++ (cs ++ C) := by
  subst ho
  unfold putAt
  have e1 : (A ++ (B ++ C)).take A.length = A := by simp
  have e2 : (A ++ (B ++ C)).drop (A.length + cs.length) = C := by
    rw [hl, ← List.append_assoc, ← List.length_append]
    simp
  rw [e1, e2, List.append_assoc]
theorem mid_of {α : Type} (A B C : List α) (o k : Nat) (ho : A.length = o) (hk : B.length = k) : ((A ++ (B ++ C)).drop o).take k = B := by
  subst ho; subst hk
  simp
/-- what stands ahead of a sector's sum -/
def secHead (h : List Int) (place next : Int) (pc : List Int) : List Int :=
  le 4 next ++ (le 2 pc.length ++ (zs 2 ++ (le 4 place ++ (h.take 8 ++ (zs 8 ++ (pc ++ zs (480 - pc.length)))))))
theorem secHead_length (h : List Int) (place next : Int) (pc : List Int) (hh : 8 ≤ h.length) (hp : pc.length ≤ 480) : (secHead h place next pc).length = 508 := by
  simp [secHead, le_length, zs_length]; omega
def secB (h : List Int) (place next : Int) (pc : List Int) : List Int := secHead h place next pc ++ le 4 (crcF (secHead h place next pc))
theorem secB_length (h : List Int) (place next : Int) (pc : List Int) (hh : 8 ≤ h.length) (hp : pc.length ≤ 480) : (secB h place next pc).length = 512 := by
  rw [secB, List.length_append, secHead_length h place next pc hh hp, le_length]
/-- a sector as it is laid, write by write -/
def laidH (h : List Int) (place next : Int) (pc : List Int) : List Int := putAt (putAt (putAt (putAt (putAt (zs 512) 0 (le 4 next)) 4 (le 2 pc.length)) 8 (le 4 place)) 12 (h.take 8)) 28 (pc.take 480)
theorem laidH_eq (h : List Int) (place next : Int) (pc : List Int) (hh : 8 ≤ h.length) (hp : pc.length ≤ 480) : laidH h place next pc = secHead h place next pc ++ zs 4 := by
  have hh8 : (h.take 8).length = 8 := by simp; omega
  obtain ⟨q, hq⟩ : ∃ q, q = 480 - pc.length := ⟨_, rfl⟩
  have e0 : zs 512 = zs 4 ++ (zs 2 ++ (zs 2 ++ (zs 4 ++ (zs 8 ++ (zs 8 ++ (zs pc.length ++ (zs q ++ zs 4))))))) := by
    rw [← zs_add, ← zs_add, ← zs_add, ← zs_add, ← zs_add, ← zs_add, ← zs_add, ← zs_add]
    congr 1; omega
  unfold laidH secHead
  rw [← hq, e0, List.take_of_length_le hp]
  rw [show zs 4 ++ (zs 2 ++ (zs 2 ++ (zs 4 ++ (zs 8 ++ (zs 8 ++ (zs pc.length ++ (zs q ++ zs 4))))))) = [] ++ (zs 4 ++ (zs 2 ++ (zs 2 ++ (zs 4 ++ (zs 8 ++ (zs 8 ++ (zs pc.length ++ (zs q ++ zs 4)))))))) from rfl]
  rw [putAt_mid [] (zs 4) _ (le 4 next) 0 rfl (by rw [le_length, zs_length])]
  rw [List.nil_append, putAt_mid (le 4 next) (zs 2) _ (le 2 pc.length) 4 (le_length ..) (by rw [le_length, zs_length])]
  rw [show le 4 next ++ (le 2 ↑pc.length ++ (zs 2 ++ (zs 4 ++ (zs 8 ++ (zs 8 ++ (zs pc.length ++ (zs q ++ zs 4))))))) = (le 4 next ++ (le 2 ↑pc.length ++ zs 2)) ++ (zs 4 ++ (zs 8 ++ (zs 8 ++ (zs pc.length ++ (zs q ++ zs 4))))) by simp only [List.append_assoc]]
  rw [putAt_mid _ (zs 4) _ (le 4 place) 8 (by simp [le_length, zs_length]) (by rw [le_length, zs_length])]
  rw [show (le 4 next ++ (le 2 ↑pc.length ++ zs 2)) ++ (le 4 place ++ (zs 8 ++ (zs 8 ++ (zs pc.length ++ (zs q ++ zs 4))))) = (le 4 next ++ (le 2 ↑pc.length ++ (zs 2 ++ le 4 place))) ++ (zs 8 ++ (zs 8 ++ (zs pc.length ++ (zs q ++ zs 4)))) by simp only [List.append_assoc]]
  rw [putAt_mid _ (zs 8) _ (h.take 8) 12 (by simp [le_length, zs_length]) (by rw [hh8, zs_length])]
  rw [show (le 4 next ++ (le 2 ↑pc.length ++ (zs 2 ++ le 4 place))) ++ (h.take 8 ++ (zs 8 ++ (zs pc.length ++ (zs q ++ zs 4)))) = (le 4 next ++ (le 2 ↑pc.length ++ (zs 2 ++ (le 4 place ++ (h.take 8 ++ zs 8))))) ++ (zs pc.length ++ (zs q ++ zs 4)) by simp only [List.append_assoc]]
  rw [putAt_mid _ (zs pc.length) _ pc 28 (by simp [le_length, zs_length]; omega) (by rw [zs_length])]
  simp only [List.append_assoc]
theorem laid_secB (h : List Int) (place next : Int) (pc : List Int) (hh : 8 ≤ h.length) (hp : pc.length ≤ 480) : putAt (laidH h place next pc) 508 (le 4 (crcF ((laidH h place next pc).take 508))) = secB h place next pc := by
  have hl := secHead_length h place next pc hh hp
  rw [laidH_eq h place next pc hh hp]
  have e1 : (secHead h place next pc ++ zs 4).take 508 = secHead h place next pc := by rw [← hl]; simp
  rw [e1]
  have := putAt_mid (secHead h place next pc) (zs 4) [] (le 4 (crcF (secHead h place next pc))) 508 hl (by rw [le_length, zs_length])
  simp only [List.append_nil] at this
  exact this
/-- a number of n bytes -/
def numB : List Int → Int
  | [] => 0
  | x :: xs => x + 256 * numB xs
theorem numB_le4 (v : Int) (h0 : 0 ≤ v) (h1 : v < 4294967296) : numB (le 4 v) = v := by
  simp [le, List.range_succ, numB]; omega
theorem numB_le2 (v : Int) (h0 : 0 ≤ v) (h1 : v < 65536) : numB (le 2 v) = v := by
  simp [le, List.range_succ, numB]; omega
def sizeI (len place : Int) : Int := min 480 (len - place * 480)
/-- the bytes are a sector of that place, whatever they name as the next one -/
def formedB (xs h : List Int) (len place : Int) : Bool :=
  decide (xs.length = 512) && (numB ((xs.drop 4).take 2) == sizeI len place && (((xs.drop 6).take 2).all (· == 0) && (numB ((xs.drop 8).take 4) == place && ((xs.drop 12).take 8 == h.take 8 &&
    (((xs.drop 20).take 8).all (· == 0) && (((xs.drop (28 + (sizeI len place).toNat)).take (480 - (sizeI len place).toNat)).all (· == 0) && numB ((xs.drop 508).take 4) == crcF (xs.take 508)))))))
theorem zs_all (n : Nat) : (zs n).all (· == 0) = true := by simp [zs]
theorem crcF_lo (xs : List Int) : 0 ≤ crcF xs := by unfold crcF; exact bits_lo_u32 ..
theorem crcF_hi (xs : List Int) : crcF xs < 4294967296 := by
  have := bits_hi_u32 .xor 4294967295 (xs.foldl crcStep 4294967295)
  unfold crcF; omega
theorem formed_sec (h : List Int) (len place next : Int) (pc : List Int) (hh : 8 ≤ h.length) (hp : (pc.length : Int) = sizeI len place) (hp2 : pc.length ≤ 480) (p0 : 0 ≤ place) (p1 : place < 4294967296) : formedB (secB h place next pc) h len place = true := by
  have hh8 : (h.take 8).length = 8 := by simp; omega
  have hn : (sizeI len place).toNat = pc.length := by omega
  have hl := secHead_length h place next pc hh hp2
  have e : secB h place next pc = le 4 next ++ (le 2 pc.length ++ (zs 2 ++ (le 4 place ++ (h.take 8 ++ (zs 8 ++ (pc ++ (zs (480 - pc.length) ++ le 4 (crcF (secHead h place next pc))))))))) := by
    simp only [secB, secHead, List.append_assoc]
  generalize hc : crcF (secHead h place next pc) = c at e
  have hc0 := crcF_lo (secHead h place next pc)
  have hc1 := crcF_hi (secHead h place next pc)
  rw [hc] at hc0 hc1
  have hlen := secB_length h place next pc hh hp2
  have t : (secB h place next pc).take 508 = secHead h place next pc := by rw [secB, ← hl]; simp
  unfold formedB
  rw [hn, t, hc, ← hp, hlen]
  have s1 : ((secB h place next pc).drop 4).take 2 = le 2 pc.length := by rw [e]; exact mid_of (le 4 next) _ _ 4 2 (le_length ..) (le_length ..)
  have s2 : ((secB h place next pc).drop 6).take 2 = zs 2 := by
    rw [e, ← List.append_assoc]; exact mid_of (le 4 next ++ le 2 _) _ _ 6 2 (by simp [le_length]) (zs_length _)
  have s3 : ((secB h place next pc).drop 8).take 4 = le 4 place := by
    rw [e, ← List.append_assoc, ← List.append_assoc]; exact mid_of _ _ _ 8 4 (by simp [le_length, zs_length]) (le_length ..)
  have s4 : ((secB h place next pc).drop 12).take 8 = h.take 8 := by
    rw [e, ← List.append_assoc, ← List.append_assoc, ← List.append_assoc]; exact mid_of _ _ _ 12 8 (by simp [le_length, zs_length]) hh8
  have s5 : ((secB h place next pc).drop 20).take 8 = zs 8 := by
    rw [e, ← List.append_assoc, ← List.append_assoc, ← List.append_assoc, ← List.append_assoc]; exact mid_of _ _ _ 20 8 (by simp [le_length, zs_length]; omega) (zs_length _)
  have s6 : ((secB h place next pc).drop (28 + pc.length)).take (480 - pc.length) = zs (480 - pc.length) := by
    rw [e, ← List.append_assoc, ← List.append_assoc, ← List.append_assoc, ← List.append_assoc, ← List.append_assoc, ← List.append_assoc]
    exact mid_of _ _ _ _ _ (by simp [le_length, zs_length]; omega) (zs_length _)
  have s7 : ((secB h place next pc).drop 508).take 4 = le 4 c := by
    have := mid_of (secHead h place next pc) (le 4 c) [] 508 4 hl (le_length ..)
    rw [← hc] at this ⊢
    simpa [secB] using this
  rw [s1, s2, s3, s4, s5, s6, s7, zs_all, zs_all, zs_all, numB_le2 _ (by omega) (by omega), numB_le4 _ p0 p1, numB_le4 _ hc0 hc1]
  simp
theorem next_sec (h : List Int) (place next : Int) (pc : List Int) (h0 : 0 ≤ next) (h1 : next < 4294967296) : numB ((secB h place next pc).take 4) = next := by
  have : (secB h place next pc).take 4 = le 4 next := by
    have e : secB h place next pc = [] ++ (le 4 next ++ (le 2 pc.length ++ (zs 2 ++ (le 4 place ++ (h.take 8 ++ (zs 8 ++ (pc ++ (zs (480 - pc.length) ++ le 4 (crcF (secHead h place next pc)))))))))) := by
      simp only [secB, secHead, List.append_assoc, List.nil_append]
    rw [e]
    exact mid_of [] (le 4 next) _ 0 4 rfl (le_length ..)
  rw [this, numB_le4 _ h0 h1]
theorem piece_sec (h : List Int) (place next : Int) (pc : List Int) (hh : 8 ≤ h.length) (hp2 : pc.length ≤ 480) : ((secB h place next pc).drop 28).take pc.length = pc := by
  have e : secB h place next pc = (le 4 next ++ (le 2 pc.length ++ (zs 2 ++ (le 4 place ++ (h.take 8 ++ zs 8))))) ++ (pc ++ (zs (480 - pc.length) ++ le 4 (crcF (secHead h place next pc)))) := by
    simp only [secB, secHead, List.append_assoc]
  rw [e]
  exact mid_of _ _ _ _ _ (by simp [le_length, zs_length]; omega) rfl
end Go.Proofs.YtgcpcgcfpjolnaaDoor.G
-- What lies of a disk: its block, what lasts, the map of writes and their rows; what a sector holds.
namespace Go.Proofs.YtgcpcgcfpjolnaaDoor.G
open Go.RowKit Go.Proofs.YtgcpcgcfpjolnaaDoorW.PrintWords Go.Proofs.YtgcpcgcfpjolnaaDoorW.PrintLast Go.Proofs.YtgcpcgcfpjolnaaDoorW.PrintMore
set_option linter.unusedVariables false
set_option linter.unusedSimpArgs false
set_option maxRecDepth 10000
def flat8 (l : List (List Int)) : List Value := l.flatMap by8
theorem flat8_append (l m : List (List Int)) : flat8 (l ++ m) = flat8 l ++ flat8 m := List.flatMap_append
theorem flat8_one (s : List Int) : flat8 [s] = by8 s := by simp [flat8]
theorem flat8_length {l : List (List Int)} (h : ∀ s ∈ l, s.length = 512) : (flat8 l).length = l.length * 512 := by
  induction l with
  | nil => rfl
  | cons s l ih =>
    have h1 := h s (by simp)
    have h2 := ih fun x hx => h x (by simp [hx])
    show (by8 s ++ flat8 l).length = _
    rw [List.length_append, by8_length, h1, h2, List.length_cons]; omega
theorem flat8_get {l : List (List Int)} (h : ∀ s ∈ l, s.length = 512) (i j : Nat) (s : List Int) (hi : l[i]? = some s) (hj : j < 512) : (flat8 l)[i * 512 + j]? = (by8 s)[j]? := by
  induction l generalizing i with
  | nil => simp at hi
  | cons u l ih =>
    have h1 := h u (by simp)
    show (by8 u ++ flat8 l)[i * 512 + j]? = _
    cases i with
    | zero =>
      simp at hi; subst hi
      rw [List.getElem?_append_left (by rw [by8_length]; omega)]
      simp
    | succ i =>
      simp at hi
      rw [List.getElem?_append_right (by rw [by8_length]; omega), by8_length, h1, show (i + 1) * 512 + j - 512 = i * 512 + j by omega]
      exact ih (fun x hx => h x (by simp [hx])) i hi
theorem row_range {w : World} {g cap n : Nat} {e : TypeId} {l : List (List Int)} (hr : RowAt w g e 512 n cap (flat8 l)) (h : ∀ s ∈ l, s.length = 512) (i : Nat) (s : List Int) (hi : l[i]? = some s) : w.rangeAt g (i * 512) (by8 s) := by
  intro j v hj
  have hil := (List.getElem?_eq_some_iff.1 hi).1
  have hjl : j < 512 := by have := (List.getElem?_eq_some_iff.1 hj).1; rw [by8_length, h s (List.mem_of_getElem? hi)] at this; exact this
  have hl := hr.1
  rw [flat8_length h] at hl
  rw [RowAt.cell hr (i * 512 + j) (by omega), flat8_get h i j s hi hjl, hj]
/-- a sector's writes: where they lie, what they are -/
structure En where
  k : Int
  v : Value
  l : List (List Int)
structure DK where
  db : Nat
  lb : Nat
  mb : Nat
  last : List (List Int)
  ents : List En
  rd : Int
  wr : Int
  fl : Int
def kv (es : List En) : List (Int × Value) := es.map fun e => (e.k, e.v)
def dCells (d : DK) : Array Value := #[.slice (some ⟨d.lb, 0, none⟩) d.last.length d.last.length, .map (some d.mb), .int .i64 d.rd, .int .i64 d.wr, .int .i64 d.fl]
def enT (e : En) : Thing := rowT e.v 145 512 e.l.length (flat8 e.l)
def DL (d : DK) : List Thing := strT d.db (dCells d) 125 :: rowT (.slice (some ⟨d.lb, 0, none⟩) d.last.length d.last.length) 145 512 d.last.length (flat8 d.last) :: mapT d.mb (kv d.ents) :: d.ents.map enT
structure DOk (d : DK) : Prop where
  lo : 2 ≤ d.last.length
  hi : d.last.length ≤ 65536
  last : ∀ s ∈ d.last, s.length = 512
  ents : ∀ e ∈ d.ents, 0 ≤ e.k ∧ e.k < (d.last.length : Int) ∧ e.l ≠ [] ∧ (∀ s ∈ e.l, s.length = 512) ∧ (e.l.length : Int) ≤ d.wr
  rd0 : 0 ≤ d.rd
  wr0 : 0 ≤ d.wr
def entOf (es : List En) (k : Int) : Option En := es.find? (fun e => e.k == k)
def entPut (es : List En) (k : Int) (v : Value) (l : List (List Int)) : List En := if k ∈ es.map En.k then es.map (fun e => if e.k = k then ⟨k, v, l⟩ else e) else es ++ [⟨k, v, l⟩]
/-- what a sector holds -/
def DK.cur (d : DK) (k : Int) : List Int := match entOf d.ents k with
  | some e => e.l.getLastD []
  | none => d.last.getD k.toNat []
theorem kv_fst (es : List En) : (kv es).map Prod.fst = es.map En.k := by simp [kv]
theorem kv_get (es : List En) (k : Int) : mapGet (kv es) k = (entOf es k).map (·.v) := by
  unfold mapGet kv entOf
  rw [List.find?_map, Option.map_map]
  rfl
theorem kv_put (es : List En) (k : Int) (v : Value) (l : List (List Int)) : mapPut (kv es) k v = kv (entPut es k v l) := by
  unfold mapPut entPut
  rw [kv_fst]
  split
  · unfold kv
    rw [List.map_map, List.map_map]
    refine List.map_congr_left fun e _ => ?_
    show (if e.k = k then (k, v) else (e.k, e.v)) = _
    simp only [Function.comp]
    split <;> rfl
  · simp [kv]
theorem entOf_mem {es : List En} {k : Int} {e : En} (h : entOf es k = some e) : e ∈ es ∧ e.k = k := ⟨List.mem_of_find?_eq_some h, by simpa using List.find?_some h⟩
theorem entOf_none {es : List En} {k : Int} (h : entOf es k = none) : k ∉ es.map En.k := by
  intro hm
  obtain ⟨e, he, rfl⟩ := List.mem_map.1 hm
  have := List.find?_eq_none.1 h e he
  simp at this
theorem entPut_none {es : List En} {k : Int} (h : entOf es k = none) (v : Value) (l : List (List Int)) : entPut es k v l = es ++ [⟨k, v, l⟩] := by
  unfold entPut
  rw [if_neg (entOf_none h)]
theorem entPut_some {es : List En} {k : Int} {e : En} (hn : (es.map En.k).Nodup) (h : entOf es k = some e) (v : Value) (l : List (List Int)) : ∃ i, es[i]? = some e ∧ entPut es k v l = es.set i ⟨k, v, l⟩ := by
  obtain ⟨hm, hk⟩ := entOf_mem h
  obtain ⟨i, hi, hie⟩ := List.mem_iff_getElem.1 hm
  refine ⟨i, by rw [List.getElem?_eq_getElem hi, hie], ?_⟩
  unfold entPut
  rw [if_pos (List.mem_map.2 ⟨e, hm, hk⟩)]
  refine List.ext_getElem? fun j => ?_
  rw [List.getElem?_map, List.getElem?_set]
  by_cases e1 : i = j
  · subst e1
    rw [if_pos rfl, if_pos hi, List.getElem?_eq_getElem hi, hie]
    simp [hk]
  · rw [if_neg e1]
    cases hj : es[j]? with
    | none => rfl
    | some u =>
      have hjl := (List.getElem?_eq_some_iff.1 hj).1
      have hju := (List.getElem?_eq_some_iff.1 hj).2
      have hne : u.k ≠ k := by
        intro hu
        have hp := List.pairwise_iff_getElem.1 hn
        rcases Nat.lt_or_gt_of_ne e1 with hlt | hlt
        · exact hp i j (by simpa using hi) (by simpa using hjl) hlt (by simp [hie, hju, hk, hu])
        · exact hp j i (by simpa using hjl) (by simpa using hi) hlt (by simp [hie, hju, hk, hu])
      simp [hne]
theorem entOf_put (es : List En) (k : Int) (v : Value) (l : List (List Int)) (j : Int) : entOf (entPut es k v l) j = if j = k then some ⟨k, v, l⟩ else entOf es j := by
  have hgen : ∀ es : List En, entOf (es.map (fun e => if e.k = k then ⟨k, v, l⟩ else e)) j = if j = k then (entOf es j).map (fun _ => ⟨k, v, l⟩) else entOf es j := by
    intro es
    induction es with
    | nil => simp [entOf]
    | cons p es ih =>
      unfold entOf at ih ⊢
      rw [List.map_cons, List.find?_cons, List.find?_cons]
      by_cases e : p.k = k
      · rw [if_pos e]
        by_cases e2 : j = k
        · subst e2; simp [e]
        · have e3 : (k == j) = false := beq_false_of_ne (fun h => e2 h.symm)
          have e4 : (p.k == j) = false := by rw [e]; exact e3
          simp only [e3, e4]
          rw [ih, if_neg e2]
      · rw [if_neg e]
        by_cases e2 : p.k = j
        · have e3 : (p.k == j) = true := beq_iff_eq.2 e2
          have e4 : j ≠ k := fun h => e (e2.trans h)
          simp [e3, e4]
        · have e3 : (p.k == j) = false := beq_false_of_ne e2
          simp only [e3]
          rw [ih]
  unfold entPut
  split
  · rename_i hk
    rw [hgen]
    by_cases e : j = k
    · subst e
      rw [if_pos rfl, if_pos rfl]
      obtain ⟨p, hp, hpk⟩ := List.mem_map.1 hk
      have : (entOf es j).isSome = true := by
        unfold entOf
        rw [List.find?_isSome]
        exact ⟨p, hp, by simpa using hpk⟩
      obtain ⟨u, hu⟩ := Option.isSome_iff_exists.1 this
      rw [hu]; rfl
    · rw [if_neg e, if_neg e]
  · rename_i hk
    unfold entOf
    rw [List.find?_append]
    by_cases e : j = k
    · subst e
      rw [if_pos rfl]
      have : es.find? (fun p => p.k == j) = none := by
        rw [List.find?_eq_none]
        intro p hp h
        exact hk (List.mem_map.2 ⟨p, hp, by simpa using h⟩)
      rw [this]
      simp
    · rw [if_neg e]
      have e3 : (k == j) = false := beq_false_of_ne (fun h => e h.symm)
      simp [List.find?_cons, e3]
end Go.Proofs.YtgcpcgcfpjolnaaDoor.G
-- Package disk's calls that change nothing but the count of acts: Sectors, outside, New, Read.
namespace Go.Proofs.YtgcpcgcfpjolnaaDoor.G
open Go.RowKit Go.Proofs.YtgcpcgcfpjolnaaDoorW.PrintWords Go.Proofs.YtgcpcgcfpjolnaaDoorW.PrintLast Go.Proofs.YtgcpcgcfpjolnaaDoorW.PrintMore
set_option linter.unusedVariables false
set_option linter.unusedSimpArgs false
set_option maxRecDepth 10000
theorem sectors_calls {w : World} {d : DK} (h : StrAt w d.db (dCells d) 125) :
    Calls Tryd.prog 63 #[.pointer (some ⟨d.db, 0, none⟩)] w fun e w' => e = .returned (.int .i64 (d.last.length : Int)) ∧ w' = w := by
  have h0 := h.cell 0
  simp [dCells] at h0
  go_enter Tryd.func63, Tryd.ntmps63
  go_wp2
  go_ret
  exact ⟨rfl, rfl⟩
def outB (d : DK) (k : Int) : Bool := decide (k < 0) || decide ((d.last.length : Int) ≤ k)
theorem outside_calls {w : World} {d : DK} (h : StrAt w d.db (dCells d) 125) (k : Int) :
    Calls Tryd.prog 81 #[.pointer (some ⟨d.db, 0, none⟩), .int .i64 k] w fun e w' => e = .returned (.bool (outB d k)) ∧ w' = w := by
  have h0 := h.cell 0
  simp [dCells] at h0
  by_cases c1 : k < 0
  · have e1 : decide (k < 0) = true := by simpa using c1
    have e2 : outB d k = true := by simp [outB, c1]
    have E2 := Lib.hid e2
    clear e2
    go_enter Tryd.func81, Tryd.ntmps81
    go_wp2
    go_ret
    exact ⟨by rw [E2.out]; rfl, rfl⟩
  · have e1 : decide (k < 0) = false := by simpa using c1
    have e2 : outB d k = decide ((d.last.length : Int) ≤ k) := by simp [outB, c1]
    have E2 := Lib.hid e2
    clear e2
    go_enter Tryd.func81, Tryd.ntmps81
    go_wp2
    go_ret
    exact ⟨by rw [E2.out]; rfl, rfl⟩
theorem many_yes (n : Nat) (w : World) (h1 : 2 ≤ n) (h2 : n ≤ 65536) : Calls Tryd.prog 61 #[.int .i64 (n : Int)] w fun e w' => e = .returned (.bool true) ∧ w' = w := by
  have e1 : decide (2 ≤ (n : Int)) = true := by simp; omega
  have e2 : decide ((n : Int) ≤ 65536) = true := by simp; omega
  go_enter Tryd.func61, Tryd.ntmps61
  go_wp2
  go_ret
  exact ⟨by simp_all, rfl⟩
def zero512 : Value := .agg (Array.replicate 512 (.int .u8 0))
theorem info145 : (Tryd.prog.info? 145).map (fun i => (i.zero, i.size, i.bytes)) = some (some zero512, 512, 512) := by kernel_rfl
theorem made512 (n : Nat) : (madeCells zero512.cells (n * 512)).toList = flat8 (List.replicate n (zs 512)) := by
  have e1 : (madeCells zero512.cells (n * 512)).toList = List.replicate (n * 512) (Value.int .u8 0) := by
    unfold madeCells zero512
    rw [Array.toList_map, Array.toList_range]
    refine List.ext_getElem? fun j => ?_
    rw [List.getElem?_map, List.getElem?_replicate]
    by_cases hj : j < n * 512
    · rw [List.getElem?_range hj, if_pos hj]
      have : j % 512 < 512 := Nat.mod_lt _ (by decide)
      simp [Value.cells, this]
    · rw [List.getElem?_eq_none (by simpa using hj), if_neg hj]; rfl
  rw [e1]
  clear e1
  induction n with
  | zero => rfl
  | succ n ih =>
    rw [List.replicate_succ, show flat8 (zs 512 :: List.replicate n (zs 512)) = by8 (zs 512) ++ flat8 (List.replicate n (zs 512)) from rfl, ← ih]
    have : by8 (zs 512) = List.replicate 512 (Value.int .u8 0) := by simp [by8, zs]
    rw [this, List.replicate_append_replicate]
    congr 1; omega
section
variable {P : Program} {ops : Array Oper} {rest : List Oper} {o : Oper} {a : Act} {Q : Exit → Act → World → Prop} {w : World}
theorem wp_makeMap (hg : o.guard = none) (t : TypeId) (hop : o.op = Op.makeMap t none) (hK : wpList P ops Q rest (a.put o.dst (.map (some w.heap.size))) (w.alloc (.map #[] 0))) : wpList P ops Q (o :: rest) a w := by
  refine wpList_plain hg fun K' hK' => ?_
  have hr : (Instr.makeMap t none).run P w = .ok (.map (some w.heap.size)) (w.alloc (.map #[] 0)) := rfl
  unfold Oper.wp
  simp [execOp, hop, hr, Result.andThen]
  exact hK' _ _ hK
end
theorem wp_make145 {ops : Array Oper} {rest : List Oper} {o : Oper} {a : Act} {Q : Exit → Act → World → Prop} {W : World} (hg : o.guard = none) (l c : Operand) (hop : o.op = Op.makeSlice 122 l c)
    (n : Nat) {L C : Int} (hl : a.eval l = .int .i64 L) (hc : a.eval c = .int .i64 C) (hL : L = (n : Int)) (hC : C = (n : Int)) (b2 : n ≤ 65536)
    (hK : ∀ w', RowAt w' W.heap.size 145 512 n n (flat8 (List.replicate n (zs 512))) → Keeps [] W w' → wpList Tryd.prog ops Q rest (a.put o.dst (.slice (some ⟨W.heap.size, 0, none⟩) n n)) w') :
    wpList Tryd.prog ops Q (o :: rest) a W :=
  wp_make hg l c 122 145 zero512 512 512 hop Tryd.underlying122 info145 n hl hc hL hC (by omega) (by unfold maxLen; omega) fun w' h1 h2 => hK w' (by rw [← made512]; exact h1) h2
theorem mapAt_new (w : World) : MapAt (w.alloc (.map #[] 0)) w.heap.size [] := ⟨by simp, by simp, #[], 0, by show (w.heap.push _)[w.heap.size]? = _; simp, rfl⟩
theorem new_DL {w w1 : World} (n : Nat) (hw : 3 ≤ w.heap.size) (hr1 : RowAt w1 w.heap.size 145 512 n n (flat8 (List.replicate n (zs 512)))) (hk1 : Keeps [] w w1) (cs : Array Value) (d : DK)
    (hd : d = ⟨w1.heap.size + 1, w.heap.size, w1.heap.size, List.replicate n (zs 512), [], 0, 0, 0⟩) (hcs : cs = dCells d) :
    Has 3 ((w1.alloc (.map #[] 0)).alloc (.cells cs 125)) (DL d) ∧ Keeps [] w ((w1.alloc (.map #[] 0)).alloc (.cells cs 125)) ∧ (∀ k ∈ fps (DL d), w.heap.size ≤ k) := by
  have hlt : w.heap.size < w1.heap.size := hr1.lt
  subst hcs; subst hd
  refine ⟨?_, (hk1.alloc _).alloc _, ?_⟩
  · have h1 : Has 3 w1 [rowT (.slice (some ⟨w.heap.size, 0, none⟩) n n) 145 512 n (flat8 (List.replicate n (zs 512)))] := rowH hr1 (fun k e => by cases e; exact hw) (by omega)
    have h2 := (h1.cons (w' := w1.alloc (.map #[] 0)) (t' := mapT w1.heap.size []) ((Keeps.refl _ _).alloc _) (mapAt_new w1) (by simp [mapT]) (by simp [mapT])).1
    have h3 := (h2.cons (w' := (w1.alloc (.map #[] 0)).alloc (.cells (dCells ⟨w1.heap.size + 1, w.heap.size, w1.heap.size, List.replicate n (zs 512), [], 0, 0, 0⟩) 125)) (t' := strT (w1.heap.size + 1) (dCells ⟨w1.heap.size + 1, w.heap.size, w1.heap.size, List.replicate n (zs 512), [], 0, 0, 0⟩) 125)
      ((Keeps.refl _ _).alloc _) (by have := StrAt.new (w1.alloc (.map #[] 0)) (dCells ⟨w1.heap.size + 1, w.heap.size, w1.heap.size, List.replicate n (zs 512), [], 0, 0, 0⟩) 125; simpa [strT] using this) (strT_nodup ..) (by simp [strT])).1
    refine h3.perm ?_
    simp only [DL, List.length_replicate, List.map_nil, kv]
    exact List.Perm.cons _ (List.Perm.swap _ _ _)
  · intro k hk
    simp [fps, DL, strT, rowT, mapT, Value.ownBlock] at hk
    omega
def NewDisk (n : Nat) (w : World) (e : Ending) (w' : World) : Prop :=
  ∃ d, e = .returned (.tuple #[.pointer (some ⟨d.db, 0, none⟩), .int .i64 0]) ∧ DOk d ∧ Has 3 w' (DL d) ∧ Keeps [] w w' ∧ (∀ k ∈ fps (DL d), w.heap.size ≤ k) ∧ d.last = List.replicate n (zs 512) ∧ d.ents = [] ∧ d.rd = 0 ∧ d.wr = 0 ∧ d.fl = 0
theorem new_disk (n : Nat) (w : World) (h1 : 2 ≤ n) (h2 : n ≤ 65536) (hw : 3 ≤ w.heap.size) : Calls Tryd.prog 13 #[.int .i64 (n : Int)] w (NewDisk n w) := by
  go_enter Tryd.func13, Tryd.ntmps13
  go_wp2_with (first | (go_at_call 61; refine (many_yes n _ h1 h2).mono ?_; rintro e w' ⟨rfl, rfl⟩) | (refine wp_makeMap rfl 123 rfl ?_) | (refine wp_make145 rfl _ _ rfl n rfl rfl rfl rfl h2 ?_))
  intro w1 hr1 hk1
  go_wp2_with (refine wp_makeMap rfl 123 rfl ?_)
  go_ret2
  obtain ⟨hh1, hh2, hh3⟩ := new_DL n hw hr1 hk1 #[Value.slice (some ⟨w'.heap.size, 0, none⟩) n n, Value.map (some w1.heap.size), .int .i64 0, .int .i64 0, .int .i64 0] ⟨w1.heap.size + 1, w'.heap.size, w1.heap.size, List.replicate n (zs 512), [], 0, 0, 0⟩ rfl (by simp [dCells])
  exact ⟨_, rfl, ⟨by simpa using h1, by simpa using h2, by simp [zs], by simp, by simp, by simp⟩, hh1, hh2, hh3, rfl, rfl, rfl, rfl, rfl⟩
end Go.Proofs.YtgcpcgcfpjolnaaDoor.G
-- disk.Read.
namespace Go.Proofs.YtgcpcgcfpjolnaaDoor.G
open Go.RowKit Go.Proofs.YtgcpcgcfpjolnaaDoorW.PrintWords Go.Proofs.YtgcpcgcfpjolnaaDoorW.PrintLast Go.Proofs.YtgcpcgcfpjolnaaDoorW.PrintMore
set_option linter.unusedVariables false
set_option linter.unusedSimpArgs false
set_option maxRecDepth 10000
theorem en_mem {d : DK} {e : En} (h : e ∈ d.ents) : enT e ∈ DL d := List.mem_cons_of_mem _ (List.mem_cons_of_mem _ (List.mem_cons_of_mem _ (List.mem_map.2 ⟨e, h, rfl⟩)))
theorem read_out {w : World} {d : DK} (h : StrAt w d.db (dCells d) 125) (k : Int) (ho : outB d k = true) :
    Calls Tryd.prog 40 #[.pointer (some ⟨d.db, 0, none⟩), .int .i64 k] w fun e w' => e = .returned (.tuple #[.slice none 0 0, .int .i64 31]) ∧ w' = w := by
  have HO := Lib.hid ho
  clear ho
  go_enter Tryd.func40, Tryd.ntmps40
  go_wp2_with (go_at_call 81; refine (outside_calls h k).mono ?_; rw [HO.out]; rintro e w' ⟨rfl, rfl⟩)
  go_ret2
  exact ⟨rfl, rfl⟩
/-- an array's block, read as a slice of it -/
theorem str_read {w : World} {g : Nat} {T : TypeId} {xs : List Int} (h : StrAt w g (by8 xs).toArray T) (hn : xs.length ≤ 9223372036854775807) : Kd.C (Kd.int .u8) w (some ⟨g, 0, none⟩) xs.length xs := by
  refine ⟨rfl, hn, fun _ => ⟨_, rfl, fun j t hj => ⟨_, rfl, rfl, fun i u hu => ?_⟩⟩⟩
  have hi : i < 1 := (List.getElem?_eq_some_iff.1 hu).1
  obtain rfl : i = 0 := by omega
  simp at hu
  subst hu
  have ea : (⟨g, 0, none⟩ : Addr).add (j * (Kd.int .u8).sz + 0) = ⟨g, j, none⟩ := by
    have e1 : j * (Kd.int .u8).sz + 0 = j := Nat.mul_one j
    rw [e1]; unfold Addr.add; split <;> simp_all
  rw [ea, h.cell j, List.getElem?_toArray, by8_get, hj]; rfl
theorem clone512 {w : World} {g : Nat} {T : TypeId} {xs : List Int} (h : StrAt w g (by8 xs).toArray T) (hn : xs.length = 512) : Calls Tryd.prog 66 #[.slice (some ⟨g, 0, none⟩) 512 512] w (TellsR8 xs w) := by
  have := clone8_calls (some ⟨g, 0, none⟩) 512 xs w (str_read h (by omega)) (by omega)
  rwa [hn] at this
theorem R_fresh {w : World} {B : Nat} {v : Value} {xs : List Int} {ok : Nat → Prop} (h : Kd.R (Kd.int .u8) 5 w B ok v xs) : ∀ k, v.ownBlock = some k → B ≤ k := fun k hk => (World.ownsRow.lt (Kd.own_of_R h) k hk).1
def ReadPost (d : DK) (k : Int) (w : World) (e : Ending) (w' : World) : Prop :=
  ∃ v, e = .returned (.tuple #[v, .int .i64 0]) ∧ w'.ownsRow 0 5 1 v (d.cur k).length (by8 (d.cur k)) ∧ Fresh w v ∧ Moves (DL d) (DL { d with rd := d.rd + 1 }) w w'
theorem zero145 : Tryd.zeroCells145.size = 512 := by kernel_rfl
theorem StrAt_setCells {g : Nat} {T : TypeId} : ∀ (vs : List Value) (o : Nat) (w : World) (cs : Array Value), StrAt w g cs T → o + vs.length ≤ cs.size → StrAt (w.setCells g o vs) g (putAt cs.toList o vs).toArray T
  | [], o, w, cs, h, _ => by rw [putAt_nil]; exact h
  | v :: vs, o, w, cs, h, hl => by
    simp only [List.length_cons] at hl
    have h1 := StrAt_setCells vs (o + 1) _ _ (h.set o v) (by simp; omega)
    rw [← putAt_cons cs.toList o v vs (by simp; omega)]
    rw [Array.toList_setIfInBounds] at h1
    exact h1
theorem putAt_all {α : Type} (xs vs : List α) (h : vs.length = xs.length) : putAt xs 0 vs = vs := by simp [putAt, h]
/-- a struct's or an array's block is written whole -/
theorem StrAt_whole {w : World} {g : Nat} {T : TypeId} {cs : Array Value} (h : StrAt w g cs T) (vs : List Value) (hl : vs.length = cs.size) : StrAt (w.setCells g 0 vs) g vs.toArray T := by
  have := StrAt_setCells vs 0 w cs h (by omega)
  rwa [putAt_all _ _ (by simpa using hl)] at this
theorem StrAt_there {w : World} {g : Nat} {T : TypeId} {cs : Array Value} (h : StrAt w g cs T) (o n : Nat) (hl : o + n ≤ cs.size) : w.there g o n := fun j hj => by
  refine ⟨?_, h.frozen _⟩
  rw [h.cell, Array.getElem?_eq_getElem (by omega)]; rfl
theorem size145 : (Tryd.prog.info? 145).map (·.size) = some 512 := by kernel_rfl
theorem info122c : (Tryd.prog.info? 122).map (fun i => (i.zero, i.size, i.bytes)) = some (some (.slice none 0 0), 1, 24) := by kernel_rfl
theorem read_there (w : World) (a : Addr) (v : Value) (s : List Int) (hs : s.length = 512) : ((w.setCell a v).alloc (.cells Tryd.zeroCells145 145)).there w.heap.size 0 (by8 s).toArray.size := by
  have h := StrAt.new (w.setCell a v) Tryd.zeroCells145 145
  rw [show (w.setCell a v).heap.size = w.heap.size by simp [World.setCell]] at h
  exact StrAt_there h 0 _ (by rw [zero145]; simp [by8_length, hs])
theorem read_key {w : World} {d : DK} (h : Has 3 w (DL d)) (s : List Int) (hs : s.length = 512) (W2 : World)
    (hW : ((w.setCell ⟨d.db, 2, none⟩ (.int .i64 (d.rd + 1))).alloc (.cells Tryd.zeroCells145 145)).setCells w.heap.size 0 (by8 s) = W2) :
    StrAt W2 w.heap.size (by8 s).toArray 145 ∧ Moves (DL d) (DL { d with rd := d.rd + 1 }) w W2 ∧ W2.cell? ⟨d.db, 1, none⟩ = some (.map (some d.mb)) ∧ MapAt W2 d.mb (kv d.ents) ∧ w.heap.size < W2.heap.size ∧ Has 3 W2 (DL { d with rd := d.rd + 1 }) := by
  have e1 : dCells { d with rd := d.rd + 1 } = (dCells d).setIfInBounds 2 (.int .i64 (d.rd + 1)) := by simp [dCells]
  have m1 : Moves (DL d) (DL { d with rd := d.rd + 1 }) w (w.setCell ⟨d.db, 2, none⟩ (.int .i64 (d.rd + 1))) := by
    have := Moves.store h 0 (b := d.db) (cs := dCells d) (T := 125) rfl 2 (.int .i64 (d.rd + 1))
    rw [← e1] at this
    exact this
  have hsz : (w.setCell ⟨d.db, 2, none⟩ (.int .i64 (d.rd + 1))).heap.size = w.heap.size := by simp [World.setCell]
  have k2 : Keeps [] (w.setCell ⟨d.db, 2, none⟩ (.int .i64 (d.rd + 1))) W2 := by
    have := keeps_setCells (S := [w.heap.size]) (g := w.heap.size) (by simp) (by8 s) 0 (w.setCell ⟨d.db, 2, none⟩ (.int .i64 (d.rd + 1))) _ ((Keeps.refl _ _).alloc (.cells Tryd.zeroCells145 145))
    rw [hW] at this
    exact this.mono (by simp [hsz])
  have m2 := m1.trans (Moves.of_below m1.has k2)
  have s1 := StrAt.new (w.setCell ⟨d.db, 2, none⟩ (.int .i64 (d.rd + 1))) Tryd.zeroCells145 145
  rw [hsz] at s1
  have s2 := StrAt_whole s1 (by8 s) (by rw [by8_length, hs, zero145])
  rw [hW] at s2
  have c1 : StrAt W2 d.db (dCells { d with rd := d.rd + 1 }) 125 := m2.has.get 0 rfl
  have c2 := c1.cell 1
  simp [dCells] at c2
  exact ⟨s2, m2, c2, m2.has.get 2 rfl, s2.lt, m2.has⟩
theorem read_key2 {w : World} {d : DK} (h : Has 3 w (DL d)) {s x : List Int} (hs : s.length = 512) (hx : x.length = 512) (W2 W3 : World) (h1 : StrAt W2 w.heap.size (by8 s).toArray 145) (m : Moves (DL d) (DL { d with rd := d.rd + 1 }) w W2)
    (hW : W2.setCells w.heap.size 0 (by8 x) = W3) : StrAt W3 w.heap.size (by8 x).toArray 145 ∧ Moves (DL d) (DL { d with rd := d.rd + 1 }) w W3 ∧ w.heap.size < W3.heap.size := by
  subst hW
  have s2 := StrAt_whole h1 (by8 x) (by simp [by8_length, hs, hx])
  have k := keeps_setCells (S := [w.heap.size]) (g := w.heap.size) (by simp) (by8 x) 0 W2 _ (Keeps.refl _ _)
  have hd : ∀ k ∈ fps (DL { d with rd := d.rd + 1 }), k ≠ w.heap.size := by
    intro k hk e
    have := h.lt k hk
    omega
  exact ⟨s2, ⟨m.has.keeps k fun j hj hk => hd j hj (by simpa using hk), m.keeps.trans k fun j hj => .inr (by simp at hj; omega), m.new⟩, s2.lt⟩
set_option maxHeartbeats 1000000 in
theorem read_calls {w : World} {d : DK} (h : Has 3 w (DL d)) (ok : DOk d) (k : Int) (k0 : 0 ≤ k) (k1 : k < (d.last.length : Int)) (hrd : d.rd < 1099511627776) :
    Calls Tryd.prog 40 #[.pointer (some ⟨d.db, 0, none⟩), .int .i64 k] w (ReadPost d k w) := by
  have hS : StrAt w d.db (dCells d) 125 := h.get 0 rfl
  have hL : RowAt w d.lb 145 512 d.last.length d.last.length (flat8 d.last) := h.get 1 rfl
  obtain ⟨q, rfl⟩ := Int.eq_ofNat_of_zero_le k0
  have hq : q < d.last.length := by omega
  have hs : d.last[q]? = some d.last[q] := List.getElem?_eq_getElem hq
  have hrange := row_range hL ok.last q _ hs
  have hs512 : (d.last[q]).length = 512 := ok.last _ (List.getElem_mem hq)
  have c0 := hS.cell 0
  have c1 := hS.cell 1
  have c2 := hS.cell 2
  have f2 := hS.frozen 2
  simp [dCells] at c0 c1 c2
  have ho : outB d (q : Int) = false := by simp [outB]; omega
  have HO := Lib.hid ho
  have rd0 := ok.rd0
  have hne : d.db ≠ d.lb := fun e => h.ne 0 1 rfl rfl (by decide) d.db (by simp [strT]) (by simp [rowT, Value.ownBlock, e])
  have HR := Lib.hid hrange
  have HZ := Lib.hid hs512
  have HQ := Lib.hid hs
  clear hrange hs hs512
  generalize d.last[q] = s at HR HZ HQ
  clear ho
  have hz : ∀ W : World, (zeroValue 122).run Tryd.prog W = .ok (.slice none 0 0) W := fun W => by
    obtain ⟨i0, hi, hz0, _, _⟩ := info_parts info122c
    simp [zeroValue, typeInfo, hi, hz0]
  have hk : okKey (q : Int) := okKey_of (by omega) (by have := ok.hi; omega)
  cases he : entOf d.ents (q : Int) with
  | none =>
    have hcur : d.cur (q : Int) = s := by
      unfold DK.cur
      rw [he]
      show d.last.getD q [] = s
      rw [List.getD_eq_getElem?_getD, HQ.out]; rfl
    have HC := Lib.hid hcur
    have hg : mapGet (kv d.ents) (q : Int) = none := by rw [kv_get, he]; rfl
    have HG := Lib.hid hg
    clear he hcur hg
    go_enter Tryd.func40, Tryd.ntmps40
    go_wp2_with (first | (go_at_call 81; refine (outside_calls hS _).mono ?_; rw [HO.out]; rintro e w' ⟨rfl, rfl⟩))
    have HT := Lib.hid (read_there w' ⟨d.db, 2, none⟩ (.int .i64 (d.rd + 1)) s HZ.out)
    have HI := Lib.hid (show (Tryd.prog.info? 145).map (·.size) = some (by8 s).toArray.size by rw [size145]; simp [by8_length, HZ.out])
    have H1 := Lib.hid (all_oneCell_toArray (by8_one s))
    have KEY := Lib.hid (read_key h s HZ.out)
    refine wp_load_mid 145 (.tmp 25) rfl d.lb (q * 512) rfl (by8 s) _ ?hr Tryd.underlying145 rfl (by rw [size145, by8_length, HZ.out]) ?_
    case hr => exact fun j v hj => ((Keeps.refl [d.db] _).setCell (by simp) _).cell (HR.out j v hj) (by simpa using hne.symm)
    go_wp2_with (first | (refine wpList_store_mid rfl 145 (.tmp 6) (.tmp 26) rfl w'.heap.size 0 (by8 s).toArray rfl rfl HT.out HI.out H1.out ?_; simp only [List.toList_toArray]; generalize HW : World.setCells _ _ _ _ = W2; obtain ⟨A1, A2, A3, A4, A5, A6⟩ := KEY.out W2 HW; clear HW) | (refine wp_mapGet rfl (.tmp 30) (.tmp 31) 123 rfl 3 122 Tryd.underlying3 Tryd.underlying123 (hz _) A4 rfl _ rfl hk ?_; rw [HG.out, Option.getD_none]) | (go_at_call 66; refine (clone512 A1 HZ.out).mono ?_; rintro e3 w3 ⟨v3, rfl, R3, B3⟩))
    go_ret2
    exact ⟨v3, rfl, by rw [HC.out]; exact R_row8 R3, fun k hk => Nat.le_trans (Nat.le_of_lt A5) (R_fresh R3 k hk), A2.trans (Moves.of_below A6 (Keeps.of_below B3))⟩
  | some en =>
    obtain ⟨hmem, hek⟩ := entOf_mem he
    obtain ⟨_, _, hen, hel, _⟩ := ok.ents en hmem
    obtain ⟨xs, x, hx⟩ : ∃ xs x, en.l = xs ++ [x] := ⟨en.l.dropLast, en.l.getLast hen, (List.dropLast_concat_getLast hen).symm⟩
    have hx512 : x.length = 512 := hel x (by rw [hx]; simp)
    have hxj : en.l[xs.length]? = some x := by rw [hx]; simp
    have hm : en.l.length = xs.length + 1 := by rw [hx]; simp
    have hcur : d.cur (q : Int) = x := by
      unfold DK.cur
      rw [he]
      show en.l.getLastD [] = x
      rw [hx]; simp
    have hrow0 : w.ownsRow 0 145 512 en.v en.l.length (flat8 en.l) := h.all (enT en) (en_mem hmem)
    obtain ⟨g, cap, hv, hrow⟩ := own_some hrow0 (by omega)
    have hml := hrow.capLe
    have hml2 : en.l.length ≤ 9223372036854775807 := by have h1 := hml.1; have h2 := hml.2; unfold maxLen at h2; omega
    have KR := Lib.hid (show ∀ W, Has 3 W (DL { d with rd := d.rd + 1 }) → W.rangeAt g (xs.length * 512) (by8 x) from fun W hW => by
      have h1 : W.ownsRow 0 145 512 en.v en.l.length (flat8 en.l) := hW.all (enT en) (en_mem (d := { d with rd := d.rd + 1 }) hmem)
      rw [hv] at h1
      exact row_range (cap := cap) h1 hel _ _ hxj)
    have HC := Lib.hid hcur
    have hg : mapGet (kv d.ents) (q : Int) = some (.slice (some ⟨g, 0, none⟩) en.l.length cap) := by rw [kv_get, he, ← hv]; rfl
    have HG := Lib.hid hg
    have HX := Lib.hid hx512
    generalize en.l.length = m at HG hm hml2
    generalize xs.length = j at KR hm
    have ej : (m : Int) - 1 = (j : Int) := by omega
    have ej2 : (j : Int) < (m : Int) := by omega
    have em : decide (0 < (m : Int)) = true := by simp; omega
    clear he hcur hg hmem hek hen hel hx hxj hrow0 hv hrow hml hx512 hm
    go_enter Tryd.func40, Tryd.ntmps40
    go_wp2_with (first | (go_at_call 81; refine (outside_calls hS _).mono ?_; rw [HO.out]; rintro e w' ⟨rfl, rfl⟩))
    have HT := Lib.hid (read_there w' ⟨d.db, 2, none⟩ (.int .i64 (d.rd + 1)) s HZ.out)
    have HI := Lib.hid (show (Tryd.prog.info? 145).map (·.size) = some (by8 s).toArray.size by rw [size145]; simp [by8_length, HZ.out])
    have HI2 := Lib.hid (show (Tryd.prog.info? 145).map (·.size) = some (by8 x).toArray.size by rw [size145]; simp [by8_length, HX.out])
    have H1 := Lib.hid (all_oneCell_toArray (by8_one s))
    have H2 := Lib.hid (all_oneCell_toArray (by8_one x))
    have KEY := Lib.hid (read_key h s HZ.out)
    have KEY2 := Lib.hid (read_key2 h (s := s) (x := x) HZ.out HX.out)
    refine wp_load_mid 145 (.tmp 25) rfl d.lb (q * 512) rfl (by8 s) _ ?hr Tryd.underlying145 rfl (by rw [size145, by8_length, HZ.out]) ?_
    case hr => exact fun j v hj => ((Keeps.refl [d.db] _).setCell (by simp) _).cell (HR.out j v hj) (by simpa using hne.symm)
    go_wp2_with (first | (refine wpList_store_mid rfl 145 (.tmp 6) (.tmp 26) rfl w'.heap.size 0 (by8 s).toArray rfl rfl HT.out HI.out H1.out ?_; simp only [List.toList_toArray]; generalize HW : World.setCells _ _ _ _ = W2; obtain ⟨A1, A2, A3, A4, A5, A6⟩ := KEY.out W2 HW; clear HW) | (refine wp_mapGet rfl (.tmp 30) (.tmp 31) 123 rfl 3 122 Tryd.underlying3 Tryd.underlying123 (hz _) A4 rfl _ rfl hk ?_; rw [HG.out, Option.getD_some]) | (refine wpList_load_mid rfl 145 (.tmp 40) rfl g (j * 512) rfl (by8 x) _ (KR.out _ A6) Tryd.underlying145 rfl (by rw [size145, by8_length, HX.out]) ?_) | (refine wpList_store_mid rfl 145 (.tmp 6) (.tmp 41) rfl w'.heap.size 0 (by8 x).toArray rfl rfl (StrAt_there A1 0 _ (by simp [by8_length, HX.out, HZ.out])) HI2.out H2.out ?_; simp only [List.toList_toArray]; generalize HW3 : World.setCells _ _ _ _ = W3; obtain ⟨D1, D2, D3⟩ := KEY2.out _ W3 A1 A2 HW3; clear HW3) | (go_at_call 66; refine (clone512 D1 HX.out).mono ?_; rintro e3 w3 ⟨v3, rfl, R3, B3⟩))
    go_ret2
    exact ⟨v3, rfl, by rw [HC.out]; exact R_row8 R3, fun k hk => Nat.le_trans (Nat.le_of_lt D3) (R_fresh R3 k hk), D2.trans (Moves.of_below D2.has (Keeps.of_below B3))⟩
end Go.Proofs.YtgcpcgcfpjolnaaDoor.G
-- disk.Write.
namespace Go.Proofs.YtgcpcgcfpjolnaaDoor.G
open Go.RowKit Go.Proofs.YtgcpcgcfpjolnaaDoorW.PrintWords Go.Proofs.YtgcpcgcfpjolnaaDoorW.PrintLast Go.Proofs.YtgcpcgcfpjolnaaDoorW.PrintMore
set_option linter.unusedVariables false
set_option linter.unusedSimpArgs false
set_option maxRecDepth 10000
section
variable {P : Program} {ops : Array Oper} {rest : List Oper} {o : Oper} {a : Act} {Q : Exit → Act → World → Prop} {w : World} {K : Act → World → Prop} {E : Prop}
theorem step_mapGet (hg : o.guard = none) (m x : Operand) (t : TypeId) (hop : o.op = Op.lookup t m x false) (k e : TypeId) (hk : P.underlying k = some (.int .i64)) (ht : P.underlying t = some (.map k e)) {z : Value}
    (hz : (zeroValue e).run P w = .ok z w) {b : Nat} {ES : List (Int × Value)} (h : MapAt w b ES) (hm : a.eval m = .map (some b)) (n : Int) (hx : a.eval x = .int .i64 n) (hn : okKey n)
    (hK : K (a.put o.dst ((mapGet ES n).getD z)) w) : if Region.wanted o (yielded ops a.tmps) = true then Oper.wp P o a w K Q else E := by
  have hw : Region.wanted o (yielded ops a.tmps) = true := by simp [Region.wanted, hg]
  rw [if_pos hw]
  have hrun := h.lookup hk ht hz n hn
  unfold Oper.wp
  simp [execOp, hop, hm, hx, hrun, Result.andThen]
  exact hK
theorem step_mapPut (hg : o.guard = none) (m x v : Operand) (t : TypeId) (hop : o.op = Op.mapUpdate t m x v) (k e : TypeId) (hk : P.underlying k = some (.int .i64)) (ht : P.underlying t = some (.map k e))
    {b : Nat} {ES : List (Int × Value)} (h : MapAt w b ES) (hm : a.eval m = .map (some b)) (n : Int) (hx : a.eval x = .int .i64 n) (hn : okKey n) (u : Value) (hv : a.eval v = u)
    (hK : ∀ w', MapAt w' b (mapPut ES n u) → Keeps [b] w w' → K (a.put o.dst undef) w') : if Region.wanted o (yielded ops a.tmps) = true then Oper.wp P o a w K Q else E := by
  have hw : Region.wanted o (yielded ops a.tmps) = true := by simp [Region.wanted, hg]
  rw [if_pos hw]
  obtain ⟨w', hrun, r1, r2⟩ := h.update hk ht n hn u
  unfold Oper.wp
  simp [execOp, hop, hm, hx, hv, hrun, Result.andThen]
  exact hK w' r1 r2
theorem step_load_mid (hg : o.guard = none) (ty : TypeId) (x : Operand) (ho : o.op = .load ty x)
    (b f : Nat) (hx : a.eval x = .pointer (some ⟨b, f, none⟩)) (cs : List Value) (d : TypeDesc) (hc : w.rangeAt b f cs)
    (hu : P.underlying ty = some d) (hd : d.isRow = true) (hi : (P.info? ty).map (·.size) = some cs.length)
    (hK : K (a.put o.dst (.agg cs.toArray)) w) : if Region.wanted o (yielded ops a.tmps) = true then Oper.wp P o a w K Q else E := by
  have hw : Region.wanted o (yielded ops a.tmps) = true := by simp [Region.wanted, hg]
  rw [if_pos hw]
  exact wp_load_mid ty x ho b f hx cs d hc hu hd hi hK
end
theorem write_out {w : World} {d : DK} (h : StrAt w d.db (dCells d) 125) (k : Int) (v : Value) (ho : outB d k = true) :
    Calls Tryd.prog 69 #[.pointer (some ⟨d.db, 0, none⟩), .int .i64 k, v] w fun e w' => e = .returned (.int .i64 31) ∧ w' = w := by
  have HO := Lib.hid ho
  clear ho
  go_enter Tryd.func69, Tryd.ntmps69
  go_wp2_with (go_at_call 81; refine (outside_calls h k).mono ?_; rw [HO.out]; rintro e w' ⟨rfl, rfl⟩)
  go_ret
  exact ⟨rfl, rfl⟩
def WritePost (d : DK) (k : Int) (bs : List Int) (w : World) (e : Ending) (w' : World) : Prop :=
  e = .returned (.int .i64 0) ∧ ∃ d', DOk d' ∧ Moves (DL d) (DL d') w w' ∧ (∀ j, d'.cur j = if j = k then bs else d.cur j) ∧ d'.db = d.db ∧ d'.last = d.last ∧ d'.rd = d.rd ∧ d'.wr = d.wr + 1 ∧ d'.fl = d.fl
theorem C_keeps {w w' : World} {S : List Nat} {A : Addr} {n : Nat} {xs : List Int} (h : Kd.C (Kd.int .u8) w (some A) n xs) (hk : Keeps S w w') (hn : A.block ∉ S) : Kd.C (Kd.int .u8) w' (some A) n xs := by
  refine ⟨h.1, h.2.1, fun h0 => ?_⟩
  obtain ⟨ad, e, hc⟩ := h.2.2 h0
  refine ⟨ad, e, fun j t hj => ?_⟩
  obtain ⟨cs, h1, h2, h3⟩ := hc j t hj
  refine ⟨cs, h1, h2, fun i u hu => hk.cell (h3 i u hu) ?_⟩
  cases e
  have : (A.add (j * (Kd.int .u8).sz + i)).block = A.block := by unfold Addr.add; split <;> rfl
  rw [this]; exact hn
theorem C_range {w : World} {b f n : Nat} {xs : List Int} (h : Kd.C (Kd.int .u8) w (some ⟨b, f, none⟩) n xs) : w.rangeAt b f (by8 xs) := by
  intro j v hj
  rw [by8_get] at hj
  obtain ⟨x, hx, rfl⟩ := Option.map_eq_some_iff.1 hj
  obtain ⟨ad, e, hc⟩ := read_at h j x hx
  cases e
  rwa [Addr.add_mid] at hc
theorem mem_entPut {es : List En} {k : Int} {v : Value} {l : List (List Int)} {e : En} (h : e ∈ entPut es k v l) : e = ⟨k, v, l⟩ ∨ e ∈ es := by
  unfold entPut at h
  split at h
  · obtain ⟨u, hu, rfl⟩ := List.mem_map.1 h
    split
    · exact .inl rfl
    · exact .inr hu
  · rcases List.mem_append.1 h with h | h
    · exact .inr h
    · exact .inl (by simpa using h)
theorem fold_set (l : List Value) : ∀ (k : Nat) (base : Array Value), k + l.length ≤ base.size → (l.zipIdx k).foldl (fun b p => b.setIfInBounds (0 + p.2) p.1) base = (putAt base.toList k l).toArray := by
  induction l with
  | nil => intro k base _; simp [putAt_nil]
  | cons v l ih =>
    intro k base h
    simp only [List.length_cons] at h
    rw [List.zipIdx_cons, List.foldl_cons, ih (k + 1) _ (by simp; omega), ← putAt_cons base.toList k v l (by simp; omega), Nat.zero_add, Array.toList_setIfInBounds]
theorem fill_whole (cs base : Array Value) (h : cs.size = base.size) (n : Nat) (hn : cs.size = n) : Instr.fill (fun i => some (i * n, n)) base [(0, .agg cs)] = some cs := by
  have e1 : cs.zipIdx.foldl (fun (b : Array Value) (p : Value × Nat) => b.setIfInBounds (0 + p.2) p.1) base = cs := by
    rw [← Array.foldl_toList, Array.toList_zipIdx, fold_set cs.toList 0 base (by simp; omega), putAt_all _ _ (by simpa using h)]
  unfold Instr.fill
  simp only [Value.cells, Nat.zero_mul]
  rw [if_neg (by simp [hn, ← h])]
  unfold Instr.fill
  exact congrArg some e1
theorem build145 (w : World) (cs : Array Value) (h : cs.size = 512) : (Instr.buildSlice 122 1 #[(0, .agg cs)]).run Tryd.prog w = .ok (.slice (some ⟨w.heap.size, 0, none⟩) 1 1) (w.alloc (.cells cs 145)) := by
  obtain ⟨i0, hi, hz0, hz1, hz2⟩ := info_parts info145
  refine run_buildSlice w 122 145 1 _ cs i0 zero512 Tryd.underlying122 hi hz0 (by rw [hz1]; decide) (by rw [hz1]; decide) ?_
  rw [hz1]
  exact fill_whole cs _ (by simp [h]) 512 h
section
variable {ops : Array Oper} {o : Oper} {a : Act} {Q : Exit → Act → World → Prop} {w : World} {K : Act → World → Prop} {E : Prop}
theorem step_build145 (hg : o.guard = none) (x : Operand) (hop : o.op = Op.buildSlice 122 1 #[(0, x)]) (cs : Array Value) (h : cs.size = 512) (hx : a.eval x = .agg cs)
    (hK : K (a.put o.dst (.slice (some ⟨w.heap.size, 0, none⟩) 1 1)) (w.alloc (.cells cs 145))) : if Region.wanted o (yielded ops a.tmps) = true then Oper.wp Tryd.prog o a w K Q else E := by
  have hw : Region.wanted o (yielded ops a.tmps) = true := by simp [Region.wanted, hg]
  rw [if_pos hw]
  have hrun := build145 w cs h
  unfold Oper.wp
  simp [execOp, hop, hx, hrun, Result.andThen]
  exact hK
end
/-- the row of a sector's writes, and what it holds -/
def entV (d : DK) (k : Int) : Value := match entOf d.ents k with
  | some e => e.v
  | none => .slice none 0 0
def entL (d : DK) (k : Int) : List (List Int) := match entOf d.ents k with
  | some e => e.l
  | none => []
theorem entV_get (d : DK) (k : Int) : (mapGet (kv d.ents) k).getD (.slice none 0 0) = entV d k := by
  rw [kv_get]; unfold entV
  cases entOf d.ents k <;> rfl
theorem entV_own {w : World} {d : DK} (h : Has 3 w (DL d)) (k : Int) : w.ownsRow 0 145 512 (entV d k) (entL d k).length (flat8 (entL d k)) := by
  unfold entV entL
  cases he : entOf d.ents k with
  | none => exact World.ownsRow_nil _ _ _ _
  | some e => exact h.all (enT e) (en_mem (entOf_mem he).1)
theorem write_fin {W w1 w2 : World} {d : DK} (h : Has 3 W (DL d)) (k : Int) (bs : List Int) (v1 : Value)
    (ho : w1.ownsRow 0 145 512 v1 ((entL d k).length + 1) (flat8 (entL d k) ++ by8 bs)) (hk : Keeps (entV d k).ownBlock.toList W w1) (hf : ∀ b, v1.ownBlock = some b → (entV d k).ownBlock = some b ∨ W.heap.size ≤ b)
    (hm : MapAt w2 d.mb (mapPut (kv d.ents) k v1)) (hk2 : Keeps [d.mb] w1 w2) :
    Moves (DL d) (DL { d with ents := entPut d.ents k v1 (entL d k ++ [bs]) }) W w2 := by
  have hM : MapAt W d.mb (kv d.ents) := h.get 2 rfl
  have hnod : (d.ents.map En.k).Nodup := by have := hM.1; rwa [kv_fst] at this
  have hm' := hm
  rw [kv_put d.ents k v1 (entL d k ++ [bs])] at hm'
  have hrow : ∀ e', e' = (⟨k, v1, entL d k ++ [bs]⟩ : En) → (enT e') = rowT v1 145 512 ((entL d k).length + 1) (flat8 (entL d k) ++ by8 bs) := by
    rintro e' rfl
    show rowT v1 145 512 (entL d k ++ [bs]).length (flat8 (entL d k ++ [bs])) = _
    rw [flat8_append, flat8_one, List.length_append]; rfl
  cases he : entOf d.ents k with
  | none =>
    have eV : entV d k = .slice none 0 0 := by unfold entV; rw [he]
    rw [eV] at hk hf
    have m1 : Moves (DL d) (rowT v1 145 512 ((entL d k).length + 1) (flat8 (entL d k) ++ by8 bs) :: DL d) W w1 := Moves.cons h hk ho (rowT_nodup ..) fun b hb => by
      rcases hf b (by simpa [rowT] using hb) with h1 | h1
      · cases h1
      · exact h1
    have m2 := m1.trans (Moves.at m1.has 3 (mapT d.mb (kv (entPut d.ents k v1 (entL d k ++ [bs])))) rfl hk2 hm' (by simp [mapT]) (fun b hb => .inl hb))
    refine m2.perm (List.Perm.refl _) ?_
    rw [entPut_none he]
    simp only [DL, List.set_cons_succ, List.set_cons_zero, List.map_append, List.map_cons, List.map_nil]
    rw [hrow _ rfl]
    have := List.perm_append_singleton (rowT v1 145 512 ((entL d k).length + 1) (flat8 (entL d k) ++ by8 bs)) (d.ents.map enT)
    refine List.Perm.trans ?_ (List.Perm.cons _ (List.Perm.cons _ (List.Perm.cons _ this.symm)))
    exact (List.Perm.swap _ _ _).trans (List.Perm.cons _ ((List.Perm.swap _ _ _).trans (List.Perm.cons _ (List.Perm.swap _ _ _))))
  | some e =>
    have eV : entV d k = e.v := by unfold entV; rw [he]
    have eL : entL d k = e.l := by unfold entL; rw [he]
    obtain ⟨i, hi, hp⟩ := entPut_some hnod he v1 (entL d k ++ [bs])
    rw [eV] at hk hf
    have hat : (DL d)[3 + i]? = some (enT e) := by
      show (strT d.db (dCells d) 125 :: rowT (.slice (some ⟨d.lb, 0, none⟩) d.last.length d.last.length) 145 512 d.last.length (flat8 d.last) :: mapT d.mb (kv d.ents) :: d.ents.map enT)[3 + i]? = _
      rw [show 3 + i = i + 3 by omega]
      simp [hi]
    have m1 := Moves.row h (3 + i) hat ho hk hf
    have m2 := m1.trans (Moves.at (t := mapT d.mb (kv d.ents)) m1.has 2 (mapT d.mb (kv (entPut d.ents k v1 (entL d k ++ [bs])))) (by rw [show 3 + i = i + 3 by omega]; rfl) hk2 hm' (by simp [mapT]) (fun b hb => .inl hb))
    refine m2.perm (List.Perm.refl _) ?_
    rw [hp, show 3 + i = i + 3 by omega]
    simp only [DL, List.set_cons_succ, List.set_cons_zero, List.map_set]
    rw [hrow _ rfl]
    exact List.Perm.refl _
theorem write_ok {d : DK} (ok : DOk d) (k : Int) (k0 : 0 ≤ k) (k1 : k < (d.last.length : Int)) (bs : List Int) (hb : bs.length = 512) (v1 : Value) : DOk { d with wr := d.wr + 1, ents := entPut d.ents k v1 (entL d k ++ [bs]) } := by
  refine ⟨ok.lo, ok.hi, ok.last, fun e he => ?_, ok.rd0, by have := ok.wr0; show 0 ≤ d.wr + 1; omega⟩
  rcases mem_entPut he with rfl | he
  · have hl : (∀ s ∈ entL d k, s.length = 512) ∧ ((entL d k).length : Int) ≤ d.wr := by
      unfold entL
      cases h : entOf d.ents k with
      | none => exact ⟨by simp, by simpa using ok.wr0⟩
      | some e => obtain ⟨_, _, _, h1, h2⟩ := ok.ents e (entOf_mem h).1; exact ⟨h1, h2⟩
    refine ⟨k0, k1, by simp, fun s hs => ?_, ?_⟩
    · rcases List.mem_append.1 hs with h | h
      · exact hl.1 s h
      · simp at h; subst h; exact hb
    · show ((entL d k ++ [bs]).length : Int) ≤ d.wr + 1
      have := hl.2
      simp; omega
  · obtain ⟨h1, h2, h3, h4, h5⟩ := ok.ents e he
    exact ⟨h1, h2, h3, h4, by show _ ≤ d.wr + 1; omega⟩
theorem write_cur {d : DK} (k : Int) (bs : List Int) (v1 : Value) (x : Int) (j : Int) : DK.cur { d with wr := x, ents := entPut d.ents k v1 (entL d k ++ [bs]) } j = if j = k then bs else d.cur j := by
  unfold DK.cur
  simp only [entOf_put]
  by_cases e : j = k
  · simp [e]
  · simp [e]
set_option maxHeartbeats 1000000 in
theorem write_calls {w : World} {d : DK} (h : Has 3 w (DL d)) (ok : DOk d) (k : Int) (k0 : 0 ≤ k) (k1 : k < (d.last.length : Int)) (hwr : d.wr < 1073741824) (ab ao c : Nat) (bs : List Int) (hb : Kd.C (Kd.int .u8) w (some ⟨ab, ao, none⟩) 512 bs) (hA : ab ∉ fps (DL d)) :
    Calls Tryd.prog 69 #[.pointer (some ⟨d.db, 0, none⟩), .int .i64 k, .slice (some ⟨ab, ao, none⟩) 512 c] w (WritePost d k bs w) := by
  have hS : StrAt w d.db (dCells d) 125 := h.get 0 rfl
  obtain ⟨q, rfl⟩ := Int.eq_ofNat_of_zero_le k0
  have c1 := hS.cell 1
  have c3 := hS.cell 3
  have f3 := hS.frozen 3
  simp [dCells] at c1 c3
  have ho : outB d (q : Int) = false := by simp [outB]; omega
  have HO := Lib.hid ho
  have wr0 := ok.wr0
  have hlen : bs.length = 512 := hb.1
  have HZ := Lib.hid hlen
  clear ho hlen
  have hz : ∀ W : World, (zeroValue 122).run Tryd.prog W = .ok (.slice none 0 0) W := fun W => by
    obtain ⟨i0, hi, hz0, _, _⟩ := info_parts info122c
    simp [zeroValue, typeInfo, hi, hz0]
  have hk : okKey (q : Int) := okKey_of (by omega) (by have := ok.hi; omega)
  go_enter Tryd.func69, Tryd.ntmps69
  go_wp2_with (first | (go_at_call 81; refine (outside_calls hS _).mono ?_; rw [HO.out]; rintro e w' ⟨rfl, rfl⟩))
  have m1 : Moves (DL d) (DL { d with wr := d.wr + 1 }) w' (w'.setCell ⟨d.db, 3, none⟩ (.int .i64 (d.wr + 1))) := by
    have := Moves.store h 0 (b := d.db) (cs := dCells d) (T := 125) rfl 3 (.int .i64 (d.wr + 1))
    rw [show (dCells d).setIfInBounds 3 (.int .i64 (d.wr + 1)) = dCells { d with wr := d.wr + 1 } by simp [dCells]] at this
    exact this
  have hb1 := C_keeps hb m1.keeps (fun hm => hA hm)
  have hA0 : (ab : Nat) ∉ fps (DL d) := hA
  generalize (w'.setCell ⟨d.db, 3, none⟩ (.int .i64 (d.wr + 1))) = W1 at m1 hb1 ⊢
  have h1 := m1.has
  have hd1 : Has 3 W1.drew (DL { d with wr := d.wr + 1 }) := h1.keeps0 (drew_keepsC _)
  have hr1 := C_range (C_keeps hb1 (drew_keepsC _) (by simp))
  have hM1 : MapAt W1.drew d.mb (kv d.ents) := hd1.get 2 rfl
  have hS1 : StrAt W1.drew d.db (dCells { d with wr := d.wr + 1 }) 125 := hd1.get 0 rfl
  have e1 := hS1.cell 1
  simp [dCells] at e1
  have hO1 := entV_own hd1 (q : Int)
  have HEV := Lib.hid (entV_get d (q : Int))
  have hn : (entL d (q : Int)).length ≤ 1073741824 := by
    unfold entL
    cases he : entOf d.ents (q : Int) with
    | none => simp
    | some e => have := (ok.ents e (entOf_mem he).1).2.2.2.2; show e.l.length ≤ _; omega
  have HSZ := Lib.hid (show (Tryd.prog.info? 145).map (·.size) = some (by8 bs).length by rw [size145, by8_length, HZ.out])
  have HCS := Lib.hid (show (by8 bs).toArray.size = 512 by simp [by8_length, HZ.out])
  have HON := Lib.hid (show ∀ u ∈ (by8 bs).toArray.toList, u.oneCell' = true by simpa using by8_one bs)
  have HZC := Lib.hid (show zero512.cells.size = 512 by simp [zero512, Value.cells])
  have hO1' : W1.drew.ownsRow 0 145 512 (entV d (q : Int)) (entL d (q : Int)).length (flat8 (entL d (q : Int))) := hO1
  have HMB := Lib.hid (show d.mb ∉ (entV d (q : Int)).ownBlock.toList by
    intro hm
    unfold entV at hm
    cases he : entOf d.ents (q : Int) with
    | none => rw [he] at hm; simp [Value.ownBlock] at hm
    | some e =>
      rw [he] at hm
      obtain ⟨i, hi, hie⟩ := List.mem_iff_getElem.1 (entOf_mem he).1
      have hat : (DL d)[i + 3]? = some (enT e) := by simp [DL, hi, hie]
      exact h.ne 2 (i + 3) rfl hat (by omega) d.mb (by simp [mapT]) hm)
  have hAr : ∀ W : World, (Instr.arrayAt 145 (.slice (some ⟨ab, ao, none⟩) 512 c)).run Tryd.prog W = .ok (.pointer (some ⟨ab, ao, none⟩)) W := fun W => by
    simp [Instr.arrayAt, run_underlying Tryd.underlying145, Result.andThen]
  have hblk : ∀ b ∈ (entV d (q : Int)).ownBlock.toList, b ∈ fps (d.ents.map enT) := by
    intro b hb
    unfold entV at hb
    cases he : entOf d.ents (q : Int) with
    | none => rw [he] at hb; simp [Value.ownBlock] at hb
    | some e => rw [he] at hb; exact mem_fps (List.mem_map.2 ⟨e, (entOf_mem he).1, rfl⟩) hb
  have hap := h1.apart
  have hdn : d.db ∉ fps (d.ents.map enT) ∧ d.mb ∉ fps (d.ents.map enT) ∧ d.db ≠ d.mb := by
    have : (d.db :: d.lb :: d.mb :: fps (d.ents.map enT)).Nodup := hap
    simp only [List.nodup_cons, List.mem_cons, not_or] at this
    exact ⟨this.1.2.2, this.2.2.1, this.1.2.1⟩
  have hab : ab ∉ fps (d.ents.map enT) ∧ ab ≠ d.mb := by
    refine ⟨fun hm => hA ?_, fun e => hA ?_⟩
    · show ab ∈ d.db :: d.lb :: d.mb :: fps (d.ents.map enT)
      simp [hm]
    · show ab ∈ d.db :: d.lb :: d.mb :: fps (d.ents.map enT)
      simp [e]
  have HSK := Lib.hid (show ∀ w1, Keeps (entV d (q : Int)).ownBlock.toList W1.drew w1 → w1.cell? ⟨d.db, 1, none⟩ = some (.map (some d.mb)) ∧ w1.rangeAt ab ao (by8 bs) from fun w1 hk =>
    ⟨hk.cell e1 fun hm => hdn.1 (hblk _ hm), fun j v hj => hk.cell (hr1 j v hj) fun hm => hab.1 (hblk _ hm)⟩)
  have HMK := Lib.hid (show ∀ w1, Keeps (entV d (q : Int)).ownBlock.toList W1.drew w1 → MapAt w1 d.mb (kv d.ents) from fun w1 hk => (mapT d.mb (kv d.ents)).loc hM1 fun b hb => hk.block b (mapAt_lt (by simp [mapT] at hb; subst hb; exact hM1)) fun hm => hdn.2.1 (by simp [mapT] at hb; subst hb; exact hblk _ hm))
  have HSK2 := Lib.hid (show ∀ w1 w2, (w1.cell? ⟨d.db, 1, none⟩ = some (.map (some d.mb)) ∧ w1.rangeAt ab ao (by8 bs)) → Keeps [d.mb] w1 w2 → w2.cell? ⟨d.db, 1, none⟩ = some (.map (some d.mb)) ∧ w2.rangeAt ab ao (by8 bs) from fun w1 w2 h hk =>
    ⟨hk.cell h.1 (by simpa using hdn.2.2), fun j v hj => hk.cell (h.2 j v hj) (by simpa using hab.2)⟩)
  have HSB := Lib.hid (HSK.out (W1.drew.alloc (.cells (by8 bs).toArray 145)) (((Keeps.refl [] _).alloc _).mono (by simp)))
  have HMB2 := Lib.hid (HMK.out (W1.drew.alloc (.cells (by8 bs).toArray 145)) (((Keeps.refl [] _).alloc _).mono (by simp)))
  have HKV := Lib.hid (show ∀ w1 w2, Keeps (entV d (q : Int)).ownBlock.toList w1 w2 → Keeps (entV { d with wr := d.wr + 1 } (q : Int)).ownBlock.toList w1 w2 from fun _ _ h => h)
  have HFV := Lib.hid (show ∀ v1 : Value, (∀ k, v1.ownBlock = some k → (entV d (q : Int)).ownBlock = some k ∨ W1.drew.heap.size ≤ k) → ∀ k, v1.ownBlock = some k → (entV { d with wr := d.wr + 1 } (q : Int)).ownBlock = some k ∨ W1.drew.heap.size ≤ k from fun _ h => h)
  clear hblk hap hdn hab HMB
  generalize entV d (q : Int) = v0 at HEV hO1' HSK HMK HKV HFV
  -- REGION
  refine wp_region_held_drew (S := fun W => W.cell? ⟨d.db, 1, none⟩ = some (.map (some d.mb)) ∧ W.rangeAt ab ao (by8 bs)) (by kernel_rfl) ⟨e1, hr1⟩ (fun hHeld => ?_)
  refine wpAnyH_take (i := 0) (oi := { dst := some 24, op := Op.move (Operand.tmp 0), type := 23, pos := "disk.go:73", after := #[], guard := none }) (v := ?_) rfl (by kernel_rfl) (by kernel_rfl) (by kernel_rfl) (fun _ _ _ h => h) (Or.inl ⟨by rfl, ?_⟩) (by assumption) ?_
  rotate_left
  · (intro w hSw; (try dsimp only at hSw); go_simp; try with_reducible rfl)
  try simp only [Act.put, List.setIfInBounds_toArray, List.set_cons_zero, List.set_cons_succ]
  refine wpAnyH_take (i := 1) (oi := { dst := some 25, op := Op.nilCheck (Operand.tmp 24), type := 0, pos := "disk.go:73", after := #[{ on := 0, ground := Ground.data }], guard := none }) (v := ?_) rfl (by kernel_rfl) (by kernel_rfl) (by kernel_rfl) (fun _ _ _ h => h) (Or.inl ⟨by rfl, ?_⟩) (by assumption) ?_
  rotate_left
  · (intro w hSw; (try dsimp only at hSw); go_simp; try with_reducible rfl)
  try simp only [Act.put, List.setIfInBounds_toArray, List.set_cons_zero, List.set_cons_succ]
  refine wpAnyH_take (i := 2) (oi := { dst := some 26, op := Op.fieldAddr 125 (Operand.tmp 25) 1, type := 0, pos := "disk.go:73", after := #[{ on := 1, ground := Ground.data }], guard := none }) (v := ?_) rfl (by kernel_rfl) (by kernel_rfl) (by kernel_rfl) (fun _ _ _ h => h) (Or.inl ⟨by rfl, ?_⟩) (by assumption) ?_
  rotate_left
  · (intro w hSw; (try dsimp only at hSw); go_simp; try with_reducible rfl)
  try simp only [Act.put, List.setIfInBounds_toArray, List.set_cons_zero, List.set_cons_succ]
  refine wpAnyH_take (i := 3) (oi := { dst := some 27, op := Op.load 123 (Operand.tmp 26), type := 123, pos := "disk.go:73", after := #[{ on := 2, ground := Ground.data }], guard := none }) (v := ?_) rfl (by kernel_rfl) (by kernel_rfl) (by kernel_rfl) (fun _ _ _ h => h) (Or.inl ⟨by rfl, ?_⟩) (by assumption) ?_
  rotate_left
  · (intro w hSw; (try dsimp only at hSw); go_simp; try with_reducible rfl)
  try simp only [Act.put, List.setIfInBounds_toArray, List.set_cons_zero, List.set_cons_succ]
  refine wpAnyH_take (i := 4) (oi := { dst := some 28, op := Op.move (Operand.tmp 1), type := 3, pos := "disk.go:73", after := #[], guard := none }) (v := ?_) rfl (by kernel_rfl) (by kernel_rfl) (by kernel_rfl) (fun _ _ _ h => h) (Or.inl ⟨by rfl, ?_⟩) (by assumption) ?_
  rotate_left
  · (intro w hSw; (try dsimp only at hSw); go_simp; try with_reducible rfl)
  try simp only [Act.put, List.setIfInBounds_toArray, List.set_cons_zero, List.set_cons_succ]
  refine wpAnyH_take (i := 5) (oi := { dst := some 29, op := Op.move (Operand.tmp 0), type := 23, pos := "disk.go:73", after := #[], guard := none }) (v := ?_) rfl (by kernel_rfl) (by kernel_rfl) (by kernel_rfl) (fun _ _ _ h => h) (Or.inl ⟨by rfl, ?_⟩) (by assumption) ?_
  rotate_left
  · (intro w hSw; (try dsimp only at hSw); go_simp; try with_reducible rfl)
  try simp only [Act.put, List.setIfInBounds_toArray, List.set_cons_zero, List.set_cons_succ]
  refine wpAnyH_take (i := 6) (oi := { dst := some 30, op := Op.nilCheck (Operand.tmp 29), type := 0, pos := "disk.go:73", after := #[{ on := 5, ground := Ground.data }], guard := none }) (v := ?_) rfl (by kernel_rfl) (by kernel_rfl) (by kernel_rfl) (fun _ _ _ h => h) (Or.inl ⟨by rfl, ?_⟩) (by assumption) ?_
  rotate_left
  · (intro w hSw; (try dsimp only at hSw); go_simp; try with_reducible rfl)
  try simp only [Act.put, List.setIfInBounds_toArray, List.set_cons_zero, List.set_cons_succ]
  refine wpAnyH_take (i := 7) (oi := { dst := some 31, op := Op.fieldAddr 125 (Operand.tmp 30) 1, type := 0, pos := "disk.go:73", after := #[{ on := 6, ground := Ground.data }], guard := none }) (v := ?_) rfl (by kernel_rfl) (by kernel_rfl) (by kernel_rfl) (fun _ _ _ h => h) (Or.inl ⟨by rfl, ?_⟩) (by assumption) ?_
  rotate_left
  · (intro w hSw; (try dsimp only at hSw); go_simp; try with_reducible rfl)
  try simp only [Act.put, List.setIfInBounds_toArray, List.set_cons_zero, List.set_cons_succ]
  refine wpAnyH_take (i := 8) (oi := { dst := some 32, op := Op.load 123 (Operand.tmp 31), type := 123, pos := "disk.go:73", after := #[{ on := 7, ground := Ground.data }], guard := none }) (v := ?_) rfl (by kernel_rfl) (by kernel_rfl) (by kernel_rfl) (fun _ _ _ h => h) (Or.inl ⟨by rfl, ?_⟩) (by assumption) ?_
  rotate_left
  · (intro w hSw; (try dsimp only at hSw); go_simp; try with_reducible rfl)
  try simp only [Act.put, List.setIfInBounds_toArray, List.set_cons_zero, List.set_cons_succ]
  refine wpAnyH_take (i := 9) (oi := { dst := some 33, op := Op.move (Operand.tmp 1), type := 3, pos := "disk.go:73", after := #[], guard := none }) (v := ?_) rfl (by kernel_rfl) (by kernel_rfl) (by kernel_rfl) (fun _ _ _ h => h) (Or.inl ⟨by rfl, ?_⟩) (by assumption) ?_
  rotate_left
  · (intro w hSw; (try dsimp only at hSw); go_simp; try with_reducible rfl)
  try simp only [Act.put, List.setIfInBounds_toArray, List.set_cons_zero, List.set_cons_succ]
  refine wpAnyH_take (i := 11) (oi := { dst := some 35, op := Op.move (Operand.tmp 2), type := 22, pos := "disk.go:73", after := #[], guard := none }) (v := ?_) rfl (by kernel_rfl) (by kernel_rfl) (by kernel_rfl) (fun _ _ _ h => h) (Or.inl ⟨by rfl, ?_⟩) (by assumption) ?_
  rotate_left
  · (intro w hSw; (try dsimp only at hSw); go_simp; try with_reducible rfl)
  try simp only [Act.put, List.setIfInBounds_toArray, List.set_cons_zero, List.set_cons_succ]
  refine wpAnyH_take (i := 12) (oi := { dst := some 36, op := Op.sliceToArrayPointer 145 (Operand.tmp 35), type := 0, pos := "disk.go:73", after := #[{ on := 11, ground := Ground.data }], guard := none }) (v := .pointer (some ⟨ab, ao, none⟩)) rfl (by kernel_rfl) (by kernel_rfl) (by kernel_rfl) (fun _ _ _ h => h) (Or.inl ⟨by rfl, ?_⟩) (by assumption) ?_
  · (intro w hSw; have hq := hAr w; go_simp)
  try simp only [Act.put, List.setIfInBounds_toArray, List.set_cons_zero, List.set_cons_succ]
  refine wpAnyH_take (i := 13) (oi := { dst := some 37, op := Op.load 145 (Operand.tmp 36), type := 145, pos := "disk.go:73", after := #[{ on := 12, ground := Ground.data }], guard := none }) (v := .agg (by8 bs).toArray) rfl (by kernel_rfl) (by kernel_rfl) (by kernel_rfl) (fun _ _ _ h => h) (yieldsIf_load_mid (by rfl) 145 (.tmp 36) rfl ab ao rfl (by8 bs) _ (fun w hSw => hSw.2) Tryd.underlying145 rfl HSZ.out) (by assumption) ?_
  try simp only [Act.put, List.setIfInBounds_toArray, List.set_cons_zero, List.set_cons_succ]
  refine wpAnyH_ready (rs := [10, 14]) (by kernel_rfl) (by simp) ?_
  refine AllReadyH.cons (o := { dst := some 34, op := Op.lookup 123 (Operand.tmp 32) (Operand.tmp 33) false, type := 122, pos := "disk.go:73", after := #[{ on := 8, ground := Ground.data }, { on := 9, ground := Ground.data }], guard := none }) rfl (fun K hK => ?_) (AllReadyH.cons (o := { dst := some 38, op := Op.buildSlice 122 1 #[(0, Operand.tmp 37)], type := 122, pos := "disk.go:73", after := #[{ on := 13, ground := Ground.data }], guard := none }) rfl (fun K hK => ?_) AllReadyH.nil)
  · refine step_mapGet rfl (.tmp 32) (.tmp 33) 123 rfl 3 122 Tryd.underlying3 Tryd.underlying123 (hz _) hM1 rfl _ rfl hk ?_
    rw [HEV.out]
    refine hK.out _ _ ⟨e1, hr1⟩ (fun hHeld2 => ?_)
    clear hK K hHeld
    try simp only [Act.put, List.setIfInBounds_toArray, List.set_cons_zero, List.set_cons_succ]
    refine wpAnyH_ready (rs := [14]) (by kernel_rfl) (by simp) ?_
    refine AllReadyH.cons (o := { dst := some 38, op := Op.buildSlice 122 1 #[(0, Operand.tmp 37)], type := 122, pos := "disk.go:73", after := #[{ on := 13, ground := Ground.data }], guard := none }) rfl (fun K hK => ?_) AllReadyH.nil
    refine step_build145 rfl (.tmp 37) rfl (by8 bs).toArray HCS.out rfl ?_
    refine hK.out _ _ HSB.out (fun hHeld3 => ?_)
    clear hK K hHeld2
    try simp only [Act.put, List.setIfInBounds_toArray, List.set_cons_zero, List.set_cons_succ]
    refine wpAnyH_ready (rs := [15]) (by kernel_rfl) (by simp) ?_
    refine AllReadyH.cons (o := { dst := some 39, op := Op.call { callee := Callee.builtin Builtin.append, args := #[Operand.tmp 34, Operand.tmp 38], argTypes := #[122, 122] }, type := 122, pos := "disk.go:73", after := #[{ on := 10, ground := Ground.data }, { on := 14, ground := Ground.data }], guard := none }) rfl (fun K hK => ?_) AllReadyH.nil
    refine step_push rfl _ _ 122 145 zero512 512 512 rfl Tryd.underlying122 info145 HZC.out (by omega) (by omega) v0 (entL d (q : Int)).length (flat8 (entL d (q : Int))) (by8 bs).toArray rfl rfl rfl HCS.out HON.out hO1' (by omega) ?_
    intro v1 w1 ho1 hk1 hf1
    refine hK.out _ _ (HSK.out _ hk1) (fun hHeld3 => ?_)
    clear hK K
    try simp only [Act.put, List.setIfInBounds_toArray, List.set_cons_zero, List.set_cons_succ]
    refine wpAnyH_ready (rs := [16]) (by kernel_rfl) (by simp) ?_
    refine AllReadyH.cons (o := { dst := none, op := Op.mapUpdate 123 (Operand.tmp 27) (Operand.tmp 28) (Operand.tmp 39), type := 0, pos := "disk.go:73", after := #[{ on := 3, ground := Ground.data }, { on := 4, ground := Ground.data }, { on := 15, ground := Ground.data }, { on := 15, ground := Ground.chain }, { on := 0, ground := Ground.phase }, { on := 1, ground := Ground.phase }, { on := 2, ground := Ground.phase }, { on := 3, ground := Ground.phase }, { on := 4, ground := Ground.phase }, { on := 5, ground := Ground.phase }, { on := 6, ground := Ground.phase }, { on := 7, ground := Ground.phase }, { on := 8, ground := Ground.phase }, { on := 9, ground := Ground.phase }, { on := 10, ground := Ground.phase }, { on := 11, ground := Ground.phase }, { on := 12, ground := Ground.phase }, { on := 13, ground := Ground.phase }, { on := 14, ground := Ground.phase }, { on := 15, ground := Ground.phase }], guard := none }) rfl (fun K hK => ?_) AllReadyH.nil
    refine step_mapPut rfl (.tmp 27) (.tmp 28) (.tmp 39) 123 rfl 3 122 Tryd.underlying3 Tryd.underlying123 (HMK.out _ hk1) rfl _ rfl hk v1 rfl ?_
    intro w2 hm2 hk2
    refine hK.out _ _ (HSK2.out _ _ hHeld3 hk2) (fun hHeld4 => ?_)
    clear hK K
    try simp only [Act.put, List.setIfInBounds_toArray, List.set_cons_zero, List.set_cons_succ]
    refine wpAnyH_done (by kernel_rfl) ?_ _
    go_wp2
    go_ret
    refine ⟨rfl, _, write_ok ok _ k0 k1 bs HZ.out v1, (m1.trans (Moves.of_below h1 (drew_keepsC _))).trans (write_fin hd1 _ bs v1 ho1 (HKV.out _ _ hk1) (HFV.out _ hf1) hm2 hk2), ?_, rfl, rfl, rfl, rfl, rfl⟩
    exact fun j => write_cur _ bs v1 _ j
  · refine step_build145 rfl (.tmp 37) rfl (by8 bs).toArray HCS.out rfl ?_
    refine hK.out _ _ HSB.out (fun hHeld2 => ?_)
    clear hK K hHeld
    try simp only [Act.put, List.setIfInBounds_toArray, List.set_cons_zero, List.set_cons_succ]
    refine wpAnyH_ready (rs := [10]) (by kernel_rfl) (by simp) ?_
    refine AllReadyH.cons (o := { dst := some 34, op := Op.lookup 123 (Operand.tmp 32) (Operand.tmp 33) false, type := 122, pos := "disk.go:73", after := #[{ on := 8, ground := Ground.data }, { on := 9, ground := Ground.data }], guard := none }) rfl (fun K hK => ?_) AllReadyH.nil
    refine step_mapGet rfl (.tmp 32) (.tmp 33) 123 rfl 3 122 Tryd.underlying3 Tryd.underlying123 (hz _) HMB2.out rfl _ rfl hk ?_
    rw [HEV.out]
    refine hK.out _ _ HSB.out (fun hHeld3 => ?_)
    clear hK K hHeld2
    try simp only [Act.put, List.setIfInBounds_toArray, List.set_cons_zero, List.set_cons_succ]
    refine wpAnyH_ready (rs := [15]) (by kernel_rfl) (by simp) ?_
    refine AllReadyH.cons (o := { dst := some 39, op := Op.call { callee := Callee.builtin Builtin.append, args := #[Operand.tmp 34, Operand.tmp 38], argTypes := #[122, 122] }, type := 122, pos := "disk.go:73", after := #[{ on := 10, ground := Ground.data }, { on := 14, ground := Ground.data }], guard := none }) rfl (fun K hK => ?_) AllReadyH.nil
    refine step_push rfl _ _ 122 145 zero512 512 512 rfl Tryd.underlying122 info145 HZC.out (by omega) (by omega) v0 (entL d (q : Int)).length (flat8 (entL d (q : Int))) (by8 bs).toArray rfl rfl rfl HCS.out HON.out hO1' (by omega) ?_
    intro v1 w1 ho1 hk1 hf1
    refine hK.out _ _ (HSK.out _ hk1) (fun hHeld3 => ?_)
    clear hK K
    try simp only [Act.put, List.setIfInBounds_toArray, List.set_cons_zero, List.set_cons_succ]
    refine wpAnyH_ready (rs := [16]) (by kernel_rfl) (by simp) ?_
    refine AllReadyH.cons (o := { dst := none, op := Op.mapUpdate 123 (Operand.tmp 27) (Operand.tmp 28) (Operand.tmp 39), type := 0, pos := "disk.go:73", after := #[{ on := 3, ground := Ground.data }, { on := 4, ground := Ground.data }, { on := 15, ground := Ground.data }, { on := 15, ground := Ground.chain }, { on := 0, ground := Ground.phase }, { on := 1, ground := Ground.phase }, { on := 2, ground := Ground.phase }, { on := 3, ground := Ground.phase }, { on := 4, ground := Ground.phase }, { on := 5, ground := Ground.phase }, { on := 6, ground := Ground.phase }, { on := 7, ground := Ground.phase }, { on := 8, ground := Ground.phase }, { on := 9, ground := Ground.phase }, { on := 10, ground := Ground.phase }, { on := 11, ground := Ground.phase }, { on := 12, ground := Ground.phase }, { on := 13, ground := Ground.phase }, { on := 14, ground := Ground.phase }, { on := 15, ground := Ground.phase }], guard := none }) rfl (fun K hK => ?_) AllReadyH.nil
    refine step_mapPut rfl (.tmp 27) (.tmp 28) (.tmp 39) 123 rfl 3 122 Tryd.underlying3 Tryd.underlying123 (HMK.out _ hk1) rfl _ rfl hk v1 rfl ?_
    intro w2 hm2 hk2
    refine hK.out _ _ (HSK2.out _ _ hHeld3 hk2) (fun hHeld4 => ?_)
    clear hK K
    try simp only [Act.put, List.setIfInBounds_toArray, List.set_cons_zero, List.set_cons_succ]
    refine wpAnyH_done (by kernel_rfl) ?_ _
    go_wp2
    go_ret
    refine ⟨rfl, _, write_ok ok _ k0 k1 bs HZ.out v1, (m1.trans (Moves.of_below h1 (drew_keepsC _))).trans (write_fin hd1 _ bs v1 ho1 (HKV.out _ _ hk1) (HFV.out _ hf1) hm2 hk2), ?_, rfl, rfl, rfl, rfl, rfl⟩
    exact fun j => write_cur _ bs v1 _ j
  -- END
end Go.Proofs.YtgcpcgcfpjolnaaDoor.G
