/- Two writers over one space, stepped by turns, write two chains that have nothing in common, and a reader that goes behind one of them reads it whole: law ChainTurns returns true. For all arguments that can be read; the tables math/bits.deBruijn64tab, kiln/sha.table and kiln/wire.half are as their texts lay them. -/
import Derived.Test.YtgcpcgcfpjolnaaDoorPG
import Derived.Test.YtgcpcgcfpjolnaaDoorPR
import Derived.Lib.LaidTab
import Derived.SizedLaws
import Derived.Test.YtgcpcgcfpjolnaaDoorCards
import Derived.Test.YtgcpcgcfpjolnaaDoorTie
import Derived.Deep.DeepHandedRow
-- ChainTurns: what stands ahead of the walk.
namespace Go.Proofs.YtgcpcgcfpjolnaaDoor.G
open Go.RowKit Go.Proofs.YtgcpcgcfpjolnaaDoorW.PrintWords Go.Proofs.YtgcpcgcfpjolnaaDoorW.PrintLast Go.Proofs.YtgcpcgcfpjolnaaDoorW.PrintMore
set_option linter.unusedVariables false
set_option linter.unusedSimpArgs false
set_option maxRecDepth 10000
theorem nSec_20000 (L : Nat) (h : L ≤ 20000) : 1 ≤ nSec L ∧ nSec L ≤ 42 := by unfold nSec; omega
/-- numbers that a slice shows -/
def ISl (w : World) (A : Option Addr) (L c : Nat) (xs : List Int) : Prop := xs.length = L ∧ L ≤ c ∧ ((A = none ∧ xs = [] ∧ L = 0) ∨ ∃ g o, A = some ⟨g, o, none⟩ ∧ w.rangeAt g o (ints xs) ∧ xs.length = L ∧ g < w.heap.size)
theorem ISl.keeps {w w' : World} {S : List Nat} {A : Option Addr} {L c : Nat} {xs : List Int} (h : ISl w A L c xs) (hk : Keeps S w w') (hn : ∀ g o, A = some ⟨g, o, none⟩ → g ∉ S) : ISl w' A L c xs := by
  refine ⟨h.1, h.2.1, ?_⟩
  rcases h.2.2 with h1 | ⟨g, o, rfl, h2, h3, h4⟩
  · exact .inl h1
  · exact .inr ⟨g, o, rfl, range_keeps h2 hk (hn g o rfl), h3, Nat.lt_of_lt_of_le h4 hk.size⟩
/-- two lists of numbers that have nothing in common, out of one space -/
theorem two_outs {fr hi k1 k2 : Nat} {is : List Bool} (hl : is.length = hi - fr) (hf : fr < hi) (h12 : k1 + k2 ≤ (trues is).length) :
    takeAllOk is (k1 : Int) = true ∧ takeAllOk (takeAllS is (k1 : Int)) (k2 : Int) = true ∧ (takeAllS is (k1 : Int)).length = hi - fr ∧ (∀ n ∈ takeAllOut fr is (k1 : Int), n ∉ takeAllOut fr (takeAllS is (k1 : Int)) (k2 : Int)) := by
  have o1 : takeAllOk is (k1 : Int) = true := by simp [takeAllOk]; omega
  have e1 : takeAllS is (k1 : Int) = clear is ((trues is).take k1) := by unfold takeAllS; rw [if_pos o1]; rfl
  have e2 : trues (takeAllS is (k1 : Int)) = (trues is).drop k1 := by rw [e1, trues_clear_take]
  have o2 : takeAllOk (takeAllS is (k1 : Int)) (k2 : Int) = true := by simp [takeAllOk, e2]; omega
  refine ⟨o1, o2, by rw [e1, clear_length]; exact hl, fun n h1 h2 => ?_⟩
  unfold takeAllOut at h1 h2
  rw [if_pos o1] at h1
  rw [if_pos o2, e2] at h2
  obtain ⟨m1, hm1, rfl⟩ := List.mem_map.1 h1
  obtain ⟨m2, hm2, he⟩ := List.mem_map.1 h2
  have e3 : m2 = m1 := by omega
  subst e3
  have hd := trues_nodup is
  rw [← List.take_append_drop k1 (trues is)] at hd
  exact (List.nodup_append.1 hd).2.2 m2 (by simpa using hm1) m2 (List.mem_of_mem_take hm2) rfl
/-- two chains under way on one disk -/
structure Two (d0 d : DK) (N1 b1 N2 b2 : List Int) (j1 j2 jr : Nat) : Prop where
  ok : DOk d
  w1 : Wrote d N1 b1 j1
  w2 : Wrote d N2 b2 j2
  db : d.db = d0.db
  last : d.last = d0.last
  rd : d.rd = d0.rd + (jr : Int)
  wr : d.wr = d0.wr + (j1 : Int) + (j2 : Int)
def TG (d0 d : DK) (N1 b1 N2 b2 : List Int) (vb wb rb : Nat) (nv1 bv1 nv2 bv2 nv bv : Value) (s : SI) (j1 j2 jr : Nat) : List (List Thing) :=
  [DL d, WLs d0.db (WJ vb N1 b1 nv1 bv1 j1), WLs d0.db (WJ wb N2 b2 nv2 bv2 j2), RLs d0.db (RJ rb 5 N1 b1 nv bv jr), [spT s]]
structure TX where
  W0 : World
  d0 : DK
  N1 : List Int
  b1 : List Int
  N2 : List Int
  b2 : List Int
  vb : Nat
  wb : Nat
  rb : Nat
  nv1 : Value
  bv1 : Value
  nv2 : Value
  bv2 : Value
  s : SI
/-- what lies in memory when j1, j2 sectors are written and jr read -/
def TS (x : TX) (j1 j2 jr : Nat) (W : World) : Prop := ∃ d nv bv, Two x.d0 d x.N1 x.b1 x.N2 x.b2 j1 j2 jr ∧ Moves [] (TG x.d0 d x.N1 x.b1 x.N2 x.b2 x.vb x.wb x.rb x.nv1 x.bv1 x.nv2 x.bv2 nv bv x.s j1 j2 jr).flatten x.W0 W
structure TOk (x : TX) : Prop where
  n1 : Nm x.d0 5 x.N1 x.b1
  n2 : Nm x.d0 5 x.N2 x.b2
  ap : ∀ n ∈ x.N1, n ∉ x.N2
  rd : x.d0.rd = 0
  wr : x.d0.wr = 0
  l1 : x.N1.length ≤ 42
  l2 : x.N2.length ≤ 42
  H : HalfW x.W0
  T : ShaW x.W0
theorem Two.nm {d0 d : DK} {N1 b1 N2 b2 : List Int} {j1 j2 jr : Nat} (h : Two d0 d N1 b1 N2 b2 j1 j2 jr) {N bs : List Int} (nm : Nm d0 5 N bs) : Nm d 5 N bs := ⟨nm.len, nm.le, nm.nd, nm.hp, nm.lo, by rw [h.last]; exact nm.hi⟩
theorem ts_blank {x : TX} {j1 j2 jr : Nat} {W W' : World} (h : TS x j1 j2 jr W) (hk : Keeps [] W W') : TS x j1 j2 jr W' := by
  obtain ⟨d, nv, bv, h1, m⟩ := h
  exact ⟨d, nv, bv, h1, m.blank hk⟩
theorem ts_done1 {x : TX} {j1 j2 jr : Nat} {W : World} (h : TS x j1 j2 jr W) : Calls Tryd.prog 31 #[.pointer (some ⟨x.vb, 0, none⟩)] W fun e w' => e = .returned (.int .i64 (j1 : Int)) ∧ w' = W := by
  obtain ⟨d, nv, bv, h1, m⟩ := h
  exact wdone_act m 1 rfl
theorem ts_done2 {x : TX} {j1 j2 jr : Nat} {W : World} (h : TS x j1 j2 jr W) : Calls Tryd.prog 31 #[.pointer (some ⟨x.wb, 0, none⟩)] W fun e w' => e = .returned (.int .i64 (j2 : Int)) ∧ w' = W := by
  obtain ⟨d, nv, bv, h1, m⟩ := h
  exact wdone_act m 2 rfl
theorem ts_nums1 {x : TX} (ok : TOk x) {j1 j2 jr : Nat} {W : World} (h : TS x j1 j2 jr W) : Calls Tryd.prog 18 #[.pointer (some ⟨x.vb, 0, none⟩)] W fun e w' => ∃ A c, e = .returned (.slice A x.N1.length c) ∧ TS x j1 j2 jr w' := by
  obtain ⟨d, nv, bv, h1, m⟩ := h
  refine (wnums_act m 1 rfl (by have := ok.l1; omega)).mono ?_
  rintro e w' ⟨A, c, rfl, hc, m'⟩
  exact ⟨A, c, rfl, d, nv, bv, h1, m'.shed⟩
theorem ts_nums2 {x : TX} (ok : TOk x) {j1 j2 jr : Nat} {W : World} (h : TS x j1 j2 jr W) : Calls Tryd.prog 18 #[.pointer (some ⟨x.wb, 0, none⟩)] W fun e w' => ∃ A c, e = .returned (.slice A x.N2.length c) ∧ TS x j1 j2 jr w' := by
  obtain ⟨d, nv, bv, h1, m⟩ := h
  refine (wnums_act m 2 rfl (by have := ok.l2; omega)).mono ?_
  rintro e w' ⟨A, c, rfl, hc, m'⟩
  exact ⟨A, c, rfl, d, nv, bv, h1, m'.shed⟩
theorem ts_step1 {x : TX} (ok : TOk x) {j1 j2 jr : Nat} {W : World} (h : TS x j1 j2 jr W) (hj : j1 < x.N1.length) (hj2 : j2 ≤ x.N2.length) : Calls Tryd.prog 19 #[.pointer (some ⟨x.vb, 0, none⟩)] W fun e w' => (∃ v, e = .returned v) ∧ TS x (j1 + 1) j2 jr w' := by
  obtain ⟨d, nv, bv, h1, m⟩ := h
  refine (wstep_act m 0 1 (by decide) rfl rfl h1.db h1.ok (h1.nm ok.n1) hj (by have := h1.wr; have := ok.wr; have := ok.l1; have := ok.l2; omega) ok.H).mono ?_
  rintro e w' ⟨rfl, d', hw, m'⟩
  refine ⟨⟨_, rfl⟩, d', nv, bv, ⟨hw.ok, h1.w1.step ok.n1.nd hj hw, h1.w2.other hj2 (ok.ap _ (getD_mem hj)) hw, hw.db.trans h1.db, hw.last.trans h1.last, hw.rd.trans h1.rd, by rw [hw.wr, h1.wr]; omega⟩, m'⟩
theorem ts_step2 {x : TX} (ok : TOk x) {j1 j2 jr : Nat} {W : World} (h : TS x j1 j2 jr W) (hj : j2 < x.N2.length) (hj1 : j1 ≤ x.N1.length) : Calls Tryd.prog 19 #[.pointer (some ⟨x.wb, 0, none⟩)] W fun e w' => (∃ v, e = .returned v) ∧ TS x j1 (j2 + 1) jr w' := by
  obtain ⟨d, nv, bv, h1, m⟩ := h
  refine (wstep_act m 0 2 (by decide) rfl rfl h1.db h1.ok (h1.nm ok.n2) hj (by have := h1.wr; have := ok.wr; have := ok.l1; have := ok.l2; omega) ok.H).mono ?_
  rintro e w' ⟨rfl, d', hw, m'⟩
  refine ⟨⟨_, rfl⟩, d', nv, bv, ⟨hw.ok, h1.w1.other hj1 (fun hm => ok.ap _ hm (getD_mem hj)) hw, h1.w2.step ok.n2.nd hj hw, hw.db.trans h1.db, hw.last.trans h1.last, hw.rd.trans h1.rd, by rw [hw.wr, h1.wr]; omega⟩, m'⟩
theorem ts_end1 {x : TX} {j2 jr : Nat} {W : World} (h : TS x x.N1.length j2 jr W) : Calls Tryd.prog 19 #[.pointer (some ⟨x.vb, 0, none⟩)] W fun e w' => (∃ v, e = .returned v) ∧ TS x x.N1.length j2 jr w' := by
  obtain ⟨d, nv, bv, h1, m⟩ := h
  refine (wend_act m 1 rfl).mono ?_
  rintro e w' ⟨rfl, hk⟩
  exact ⟨⟨_, rfl⟩, d, nv, bv, h1, m.blank hk⟩
theorem ts_read {x : TX} (ok : TOk x) {j1 j2 jr : Nat} {W : World} (h : TS x j1 j2 jr W) (hj : jr < j1) (hj1 : j1 ≤ x.N1.length) : Calls Tryd.prog 26 #[.pointer (some ⟨x.rb, 0, none⟩)] W fun e w' => (∃ v, e = .returned v) ∧ TS x j1 j2 (jr + 1) w' := by
  obtain ⟨d, nv, bv, h1, m⟩ := h
  refine (rstep_act m 0 3 (by decide) rfl rfl h1.db h1.ok (h1.nm ok.n1) (by omega) (h1.w1 jr hj) (by have := h1.rd; have := ok.rd; have := ok.l1; omega) ok.H ok.T).mono ?_
  rintro e w' ⟨rfl, nv', bv', m'⟩
  exact ⟨⟨_, rfl⟩, rdUp d, nv', bv', ⟨ok_rdUp h1.ok, h1.w1, h1.w2, h1.db, h1.last, by show d.rd + 1 = _; rw [h1.rd]; omega, h1.wr⟩, m'⟩
theorem ts_old {x : TX} {j1 j2 jr : Nat} {W : World} (h : TS x j1 j2 jr W) : Keeps [] x.W0 W := by
  obtain ⟨d, nv, bv, h1, m⟩ := h
  exact m.old
/-- behind both: what is got -/
theorem ts_ref1 {x : TX} {j1 j2 jr : Nat} {W : World} (h : TS x j1 j2 jr W) : Calls Tryd.prog 20 #[.pointer (some ⟨x.vb, 0, none⟩)] W fun e w' => e = .returned (.agg (refC (shaF x.b1) (x.N1.getD 0 0) (x.b1.length : Int)).toArray) ∧ TS x j1 j2 jr w' := by
  obtain ⟨d, nv, bv, h1, m⟩ := h
  refine (wref_act m 1 rfl).mono ?_
  rintro e w' ⟨rfl, hk⟩
  exact ⟨rfl, d, nv, bv, h1, m.blank hk⟩
theorem ts_ref2 {x : TX} {j1 j2 jr : Nat} {W : World} (h : TS x j1 j2 jr W) : Calls Tryd.prog 20 #[.pointer (some ⟨x.wb, 0, none⟩)] W fun e w' => e = .returned (.agg (refC (shaF x.b2) (x.N2.getD 0 0) (x.b2.length : Int)).toArray) ∧ TS x j1 j2 jr w' := by
  obtain ⟨d, nv, bv, h1, m⟩ := h
  refine (wref_act m 2 rfl).mono ?_
  rintro e w' ⟨rfl, hk⟩
  exact ⟨rfl, d, nv, bv, h1, m.blank hk⟩
/-- what a call told: bytes in memory of their own -/
def Tells8 (W0 : World) (bs : List Int) (A : Option Addr) (c : Nat) (W : World) : Prop := bs.length ≤ c ∧ W.ownsRow 0 5 1 (.slice A bs.length c) bs.length (by8 bs)
theorem Tells8.C {W0 W : World} {bs : List Int} {A : Option Addr} {c : Nat} (h : Tells8 W0 bs A c W) : Kd.C (Kd.int .u8) W A bs.length bs := by
  obtain ⟨A', c', e, _, hC, _⟩ := own_C (k := .u8) h.2
  cases e
  exact hC
theorem Tells8.keeps {W0 W W' : World} {bs : List Int} {A : Option Addr} {c : Nat} (h : Tells8 W0 bs A c W) (hk : Keeps [] W W') : Tells8 W0 bs A c W' := ⟨h.1, ownsRow_keeps h.2 hk (by simp)⟩
def TE (x : TX) (R : List (List Thing)) (jr : Nat) (W : World) : Prop := ∃ d nv bv, Two x.d0 d x.N1 x.b1 x.N2 x.b2 x.N1.length x.N2.length jr ∧ Moves [] (TG x.d0 d x.N1 x.b1 x.N2 x.b2 x.vb x.wb x.rb x.nv1 x.bv1 x.nv2 x.bv2 nv bv x.s x.N1.length x.N2.length x.N1.length ++ R).flatten x.W0 W
theorem Two.rdN {d0 d : DK} {N1 b1 N2 b2 : List Int} {j1 j2 jr : Nat} (h : Two d0 d N1 b1 N2 b2 j1 j2 jr) (n : Nat) : Two d0 (rdN d n) N1 b1 N2 b2 j1 j2 (jr + n) := ⟨ok_rdN h.ok n, h.w1, h.w2, h.db, h.last, by show d.rd + (n : Int) = _; rw [h.rd]; omega, h.wr⟩
theorem te_start {x : TX} {W : World} (h : TS x x.N1.length x.N2.length x.N1.length W) : TE x [] x.N1.length W := by
  obtain ⟨d, nv, bv, h1, m⟩ := h
  exact ⟨d, nv, bv, h1, by rw [List.append_nil]; exact m⟩
theorem te_blank {x : TX} {R : List (List Thing)} {jr : Nat} {W W' : World} (h : TE x R jr W) (hk : Keeps [] W W') : TE x R jr W' := by
  obtain ⟨d, nv, bv, h1, m⟩ := h
  exact ⟨d, nv, bv, h1, m.blank hk⟩
theorem perm_snoc (N : List Thing) (G : List (List Thing)) (R : List (List Thing)) : (N :: (G ++ R)).Perm (G ++ (R ++ [N])) := by
  rw [← List.append_assoc]
  exact List.perm_append_comm (l₁ := [N]) (l₂ := G ++ R)
theorem te_ref1 {x : TX} {R : List (List Thing)} {jr : Nat} {W : World} (h : TE x R jr W) : Calls Tryd.prog 20 #[.pointer (some ⟨x.vb, 0, none⟩)] W fun e w' => e = .returned (.agg (refC (shaF x.b1) (x.N1.getD 0 0) (x.b1.length : Int)).toArray) ∧ TE x R jr w' := by
  obtain ⟨d, nv, bv, h1, m⟩ := h
  refine (wref_act m 1 rfl).mono ?_
  rintro e w' ⟨rfl, hk⟩
  exact ⟨rfl, d, nv, bv, h1, m.blank hk⟩
theorem te_ref2 {x : TX} {R : List (List Thing)} {jr : Nat} {W : World} (h : TE x R jr W) : Calls Tryd.prog 20 #[.pointer (some ⟨x.wb, 0, none⟩)] W fun e w' => e = .returned (.agg (refC (shaF x.b2) (x.N2.getD 0 0) (x.b2.length : Int)).toArray) ∧ TE x R jr w' := by
  obtain ⟨d, nv, bv, h1, m⟩ := h
  refine (wref_act m 2 rfl).mono ?_
  rintro e w' ⟨rfl, hk⟩
  exact ⟨rfl, d, nv, bv, h1, m.blank hk⟩
theorem te_get1 {x : TX} (ok : TOk x) {R : List (List Thing)} {jr : Nat} {W : World} (h : TE x R jr W) (hjr : jr ≤ 4096) :
    Calls Tryd.prog 22 #[.pointer (some ⟨x.d0.db, 0, none⟩), .int .i64 5, .agg (refC (shaF x.b1) (x.N1.getD 0 0) (x.b1.length : Int)).toArray] W fun e w' => ∃ A c, e = .returned (.tuple #[.slice A x.b1.length c, .int .i64 0, .int .i64 0]) ∧ Tells8 W x.b1 A c w' ∧ TE x (R ++ [[rowT (.slice A x.b1.length c) 5 1 x.b1.length (by8 x.b1)]]) (jr + x.N1.length) w' := by
  obtain ⟨d, nv, bv, h1, m⟩ := h
  have hg := get_act m 0 rfl h1.ok (h1.nm ok.n1) h1.w1 (by have := h1.rd; have := ok.rd; omega) ok.H ok.T
  rw [h1.db] at hg
  refine hg.mono ?_
  rintro e w' ⟨A, c, rfl, hc, m'⟩
  exact ⟨A, c, rfl, ⟨hc, (m'.get 0 rfl).get 0 rfl⟩, rdN d x.N1.length, nv, bv, h1.rdN _, m'.permG (perm_snoc _ (TG x.d0 (rdN d x.N1.length) x.N1 x.b1 x.N2 x.b2 x.vb x.wb x.rb x.nv1 x.bv1 x.nv2 x.bv2 nv bv x.s x.N1.length x.N2.length x.N1.length) R)⟩
theorem te_get2 {x : TX} (ok : TOk x) {R : List (List Thing)} {jr : Nat} {W : World} (h : TE x R jr W) (hjr : jr ≤ 4096) :
    Calls Tryd.prog 22 #[.pointer (some ⟨x.d0.db, 0, none⟩), .int .i64 5, .agg (refC (shaF x.b2) (x.N2.getD 0 0) (x.b2.length : Int)).toArray] W fun e w' => ∃ A c, e = .returned (.tuple #[.slice A x.b2.length c, .int .i64 0, .int .i64 0]) ∧ Tells8 W x.b2 A c w' ∧ TE x (R ++ [[rowT (.slice A x.b2.length c) 5 1 x.b2.length (by8 x.b2)]]) (jr + x.N2.length) w' := by
  obtain ⟨d, nv, bv, h1, m⟩ := h
  have hg := get_act m 0 rfl h1.ok (h1.nm ok.n2) h1.w2 (by have := h1.rd; have := ok.rd; omega) ok.H ok.T
  rw [h1.db] at hg
  refine hg.mono ?_
  rintro e w' ⟨A, c, rfl, hc, m'⟩
  exact ⟨A, c, rfl, ⟨hc, (m'.get 0 rfl).get 0 rfl⟩, rdN d x.N2.length, nv, bv, h1.rdN _, m'.permG (perm_snoc _ (TG x.d0 (rdN d x.N2.length) x.N1 x.b1 x.N2 x.b2 x.vb x.wb x.rb x.nv1 x.bv1 x.nv2 x.bv2 nv bv x.s x.N1.length x.N2.length x.N1.length) R)⟩
theorem te_bytes {x : TX} (ok : TOk x) {R : List (List Thing)} {jr : Nat} {W : World} (h : TE x R jr W) :
    Calls Tryd.prog 27 #[.pointer (some ⟨x.rb, 0, none⟩)] W fun e w' => ∃ A c, e = .returned (.slice A x.b1.length c) ∧ Tells8 W x.b1 A c w' ∧ TE x (R ++ [[rowT (.slice A x.b1.length c) 5 1 x.b1.length (by8 x.b1)]]) jr w' := by
  obtain ⟨d, nv, bv, h1, m⟩ := h
  refine (rbytes_act m 3 rfl ok.n1.len ok.n1.le).mono ?_
  rintro e w' ⟨A, c, rfl, hc, m'⟩
  exact ⟨A, c, rfl, ⟨hc, (m'.get 0 rfl).get 0 rfl⟩, d, nv, bv, h1, m'.permG (perm_snoc _ _ _)⟩
theorem te_row {x : TX} {R : List (List Thing)} {jr : Nat} {W : World} (h : TE x R jr W) (i : Nat) {bs : List Int} {A : Option Addr} {c : Nat} (hi : R[i]? = some [rowT (.slice A bs.length c) 5 1 bs.length (by8 bs)]) : Kd.C (Kd.int .u8) W A bs.length bs := by
  obtain ⟨d, nv, bv, h1, m⟩ := h
  have h2 := m.get (5 + i) (M := [rowT (.slice A bs.length c) 5 1 bs.length (by8 bs)]) (by
    rw [List.getElem?_append_right (by simp [TG])]
    simpa [TG] using hi)
  have h3 : W.ownsRow 0 5 1 (.slice A bs.length c) bs.length (by8 bs) := h2.get 0 rfl
  obtain ⟨A', c', e, _, hC, _⟩ := own_C (k := .u8) h3
  cases e
  exact hC
theorem te_old {x : TX} {R : List (List Thing)} {jr : Nat} {W : World} (h : TE x R jr W) : Keeps [] x.W0 W := by
  obtain ⟨d, nv, bv, h1, m⟩ := h
  exact m.old
end Go.Proofs.YtgcpcgcfpjolnaaDoor.G
-- A field of a ref.
namespace Go.Proofs.YtgcpcgcfpjolnaaDoor.G
open Go.RowKit
set_option linter.unusedVariables false
set_option linter.unusedSimpArgs false
set_option maxRecDepth 10000
theorem field52_1 (h : List Int) (hh : h.length = 32) (fi len : Int) (w : World) : (Instr.field 52 (.agg (refC h fi len).toArray) 1).run Tryd.prog w = .ok (.int .i64 fi) w := by
  obtain ⟨i2, hi2, _, hz21, _⟩ := info_parts info3c
  have h1 := refC_32 h hh fi len
  simp [Instr.field, run_underlying Tryd.underlying52, part, isAgg, sizeOf, typeInfo, asAgg, hi2, hz21, Result.andThen]
  simp at h1
  rw [h1]
  rfl
theorem field52_2 (h : List Int) (hh : h.length = 32) (fi len : Int) (w : World) : (Instr.field 52 (.agg (refC h fi len).toArray) 2).run Tryd.prog w = .ok (.int .i64 len) w := by
  obtain ⟨i2, hi2, _, hz21, _⟩ := info_parts info3c
  have h1 := refC_33 h hh fi len
  simp [Instr.field, run_underlying Tryd.underlying52, part, isAgg, sizeOf, typeInfo, asAgg, hi2, hz21, Result.andThen]
  simp at h1
  rw [h1]
  rfl
end Go.Proofs.YtgcpcgcfpjolnaaDoor.G
-- ChainTurns: the walk.
namespace Go.Proofs.YtgcpcgcfpjolnaaDoor.G
open Go.RowKit Go.Proofs.YtgcpcgcfpjolnaaDoorW.PrintWords Go.Proofs.YtgcpcgcfpjolnaaDoorW.PrintLast Go.Proofs.YtgcpcgcfpjolnaaDoorW.PrintMore
set_option linter.unusedVariables false
set_option linter.unusedSimpArgs false
set_option maxRecDepth 10000
theorem perm5 {α : Type} (a b c d e : α) : [a, b, c, d, e].Perm [d, c, b, a, e] := (List.reverse_perm [a, b, c, d]).symm.append_right [e]
theorem turns_long {W0 : World} (A1 A2 A3 : Option Addr) (L1 c1 L2 c2 L3 c3 : Nat) (h : 20000 < L1 ∨ 20000 < L2) :
    Calls Tryd.prog 4 #[.slice A1 L1 c1, .slice A2 L2 c2, .slice A3 L3 c3] W0 fun e w' => e = .returned (.bool true) ∧ Keeps [] W0 w' := by
  by_cases h1 : 20000 < L1
  · have b1 : decide (20000 < (L1 : Int)) = true := by simp; omega
    clear h
    go_enter Tryd.func4, Tryd.ntmps4
    go_wp2
    go_ret
    exact ⟨rfl, Keeps.refl _ _⟩
  · have b1 : decide (20000 < (L1 : Int)) = false := by simp; omega
    have b2 : decide (20000 < (L2 : Int)) = true := by simp; omega
    clear h
    go_enter Tryd.func4, Tryd.ntmps4
    go_wp2
    go_ret
    exact ⟨rfl, Keeps.refl _ _⟩
set_option maxHeartbeats 16000000 in
theorem turns_walk {W0 : World} (hw : 3 ≤ W0.heap.size) (A1 : Option Addr) (c1 : Nat) (xs1 : List Int) (A2 : Option Addr) (c2 : Nat) (xs2 : List Int) (A3 : Option Addr) (c3 : Nat) (ts : List Int) (hb1 : BSl W0 A1 xs1.length c1 xs1) (hb2 : BSl W0 A2 xs2.length c2 xs2) (hb3 : ISl W0 A3 ts.length c3 ts)
    (hL1 : xs1.length ≤ 20000) (hL2 : xs2.length ≤ 20000) (hL3 : ts.length ≤ 281474976710656) (hTab : TabW W0) (hT : ShaW W0) (hH : HalfW W0) :
    Calls Tryd.prog 4 #[.slice A1 xs1.length c1, .slice A2 xs2.length c2, .slice A3 ts.length c3] W0 fun e w' => e = .returned (.bool true) ∧ Keeps [] W0 w' := by
  have b1 : decide (20000 < (xs1.length : Int)) = false := by simp; omega
  have b2 : decide (20000 < (xs2.length : Int)) = false := by simp; omega
  obtain ⟨k11, k12⟩ := nSec_20000 xs1.length hL1
  obtain ⟨k21, k22⟩ := nSec_20000 xs2.length hL2
  obtain ⟨is0, his0⟩ : ∃ is, is = List.replicate (120 - 5) true := ⟨_, rfl⟩
  have hl0 : is0.length = 120 - 5 := by rw [his0]; simp
  have ht0 : (trues is0).length = 115 := by rw [his0, trues_full]; simp
  obtain ⟨o1, o2, hl1, hdis⟩ := two_outs (fr := 5) (hi := 120) (k1 := nSec xs1.length) (k2 := nSec xs2.length) hl0 (by decide) (by omega)
  obtain ⟨is1, his1⟩ : ∃ is, is = takeAllS is0 (nSec xs1.length : Int) := ⟨_, rfl⟩
  obtain ⟨is2, his2⟩ : ∃ is, is = takeAllS is1 (nSec xs2.length : Int) := ⟨_, rfl⟩
  rw [← his1] at o2 hl1 hdis
  obtain ⟨N1, hN1⟩ : ∃ N, N = takeAllOut 5 is0 (nSec xs1.length : Int) := ⟨_, rfl⟩
  obtain ⟨N2, hN2⟩ : ∃ N, N = takeAllOut 5 is1 (nSec xs2.length : Int) := ⟨_, rfl⟩
  have q1 := outs_of (fr := 5) (hi := 120) hl0 (by decide) o1
  have q2 := outs_of (fr := 5) (hi := 120) hl1 (by decide) o2
  rw [← hN1] at q1 hdis
  rw [← hN2] at q2 hdis
  have g1 := getD_mem (N := N1) (j := 0) (by rw [q1.len]; omega)
  have g2 := getD_mem (N := N2) (j := 0) (by rw [q2.len]; omega)
  have g1l := getD_mem (N := N1) (j := nSec xs1.length - 1) (by rw [q1.len]; omega)
  have g2l := getD_mem (N := N2) (j := nSec xs2.length - 1) (by rw [q2.len]; omega)
  have f1 := q1.lo _ g1
  have f2 := q2.lo _ g2
  have HNE := Lib.hid (show ((N1.getD 0 0) == (N2.getD 0 0)) = false from beq_false_of_ne (fun e => hdis _ g1 (e ▸ g2)))
  have HNM := Lib.hid (show ∀ d : DK, Blank d 120 → Nm d 5 N1 xs1 ∧ Nm d 5 N2 xs2 from fun d hd => by
    have hl : d.last.length = 120 := by rw [hd.last]; simp
    exact ⟨⟨q1.len, by omega, q1.nodup, by decide, q1.lo, fun n hn => by rw [hl]; exact q1.hi n hn⟩, ⟨q2.len, by omega, q2.nodup, by decide, q2.lo, fun n hn => by rw [hl]; exact q2.hi n hn⟩⟩)
  have HW1 := Lib.hid (show ∀ (d : DK) (b g cap : Nat) W, Blank d 120 → Moves [] [DL d, [spT ⟨b, g, cap, 5, 120, is0⟩]].flatten W0 W →
      Calls Tryd.prog 16 #[.pointer (some ⟨d.db, 0, none⟩), .pointer (some ⟨b, 0, none⟩), .slice A1 xs1.length c1] W fun e w' => ∃ wb nv bv, e = .returned (.tuple #[.pointer (some ⟨wb, 0, none⟩), .int .i64 0]) ∧ Moves [] [WLs d.db (WJ wb N1 xs1 nv bv 0), DL d, [spT ⟨b, g, cap, 5, 120, is1⟩]].flatten W0 w' from fun d b g cap W hd m => by
    have hl : d.last.length = 120 := by rw [hd.last]; simp
    have := newW_act (s := ⟨b, g, cap, 5, 120, is0⟩) m 0 1 (by decide) rfl rfl A1 xs1.length c1 xs1 hb1 (by omega) hTab hT o1 N1 hN1 (by omega) (by rw [hl]; exact q1.hi _ g1l)
    rw [← his1] at this
    exact this)
  have HW2 := Lib.hid (show ∀ (d : DK) (b g cap vb : Nat) (nv1 bv1 : Value) W, Blank d 120 → Moves [] [WLs d.db (WJ vb N1 xs1 nv1 bv1 0), DL d, [spT ⟨b, g, cap, 5, 120, is1⟩]].flatten W0 W →
      Calls Tryd.prog 16 #[.pointer (some ⟨d.db, 0, none⟩), .pointer (some ⟨b, 0, none⟩), .slice A2 xs2.length c2] W fun e w' => ∃ wb nv bv, e = .returned (.tuple #[.pointer (some ⟨wb, 0, none⟩), .int .i64 0]) ∧ Moves [] [WLs d.db (WJ wb N2 xs2 nv bv 0), WLs d.db (WJ vb N1 xs1 nv1 bv1 0), DL d, [spT ⟨b, g, cap, 5, 120, is2⟩]].flatten W0 w' from fun d b g cap vb nv1 bv1 W hd m => by
    have hl : d.last.length = 120 := by rw [hd.last]; simp
    have := newW_act (s := ⟨b, g, cap, 5, 120, is1⟩) m 1 2 (by decide) rfl rfl A2 xs2.length c2 xs2 hb2 (by omega) hTab hT o2 N2 hN2 (by omega) (by rw [hl]; exact q2.hi _ g2l)
    rw [← his2] at this
    exact this)
  have HOK := Lib.hid (show ∀ x : TX, Blank x.d0 120 → x.N1 = N1 → x.b1 = xs1 → x.N2 = N2 → x.b2 = xs2 → x.W0 = W0 → TOk x from fun x hd e1 e2 e3 e4 e5 => by
    obtain ⟨m1, m2⟩ := HNM.out x.d0 hd
    refine ⟨by rw [e1, e2]; exact m1, by rw [e3, e4]; exact m2, by rw [e1, e3]; exact hdis, hd.rd, hd.wr, by rw [e1, q1.len]; omega, by rw [e3, q2.len]; omega, by rw [e5]; exact hH, by rw [e5]; exact hT⟩)
  obtain ⟨n1, hn1⟩ : ∃ n, n = N1.length := ⟨_, rfl⟩
  obtain ⟨n2, hn2⟩ : ∃ n, n = N2.length := ⟨_, rfl⟩
  have hn1b : 1 ≤ n1 ∧ n1 ≤ 42 := by rw [hn1, q1.len]; omega
  have hn2b : 1 ≤ n2 ∧ n2 ≤ 42 := by rw [hn2, q2.len]; omega
  have HL1 := Lib.hid hn1
  have HL2 := Lib.hid hn2
  have M0 := Lib.hid (Moves.start hw)
  have HB1 := Lib.hid hb1
  have HB2 := Lib.hid hb2
  have HB3 := Lib.hid hb3
  have HIS := Lib.hid his0
  have HWW := Lib.hid (show ∀ W, Keeps [] W0 W → 3 ≤ W.heap.size ∧ TabW W ∧ ShaW W ∧ HalfW W from fun W hk => ⟨by have := hk.size; omega, hTab.keeps hk (by simp), hT.keeps hk (by simp), hH.keeps hk (by simp)⟩)
  obtain ⟨z1, hz1⟩ : ∃ z, z = N1.getD 0 0 := ⟨_, rfl⟩
  obtain ⟨z2, hz2⟩ : ∃ z, z = N2.getD 0 0 := ⟨_, rfl⟩
  have HZ1 := Lib.hid hz1
  have HZ2 := Lib.hid hz2
  have hz12 : (z1 == z2) = false := by rw [hz1, hz2]; exact HNE.out
  obtain ⟨R1, hR1⟩ : ∃ R, R = (refC (shaF xs1) (N1.getD 0 0) (xs1.length : Int)).toArray := ⟨_, rfl⟩
  obtain ⟨R2, hR2⟩ : ∃ R, R = (refC (shaF xs2) (N2.getD 0 0) (xs2.length : Int)).toArray := ⟨_, rfl⟩
  have hf1 : ∀ w : World, (Instr.field 52 (.agg R1) 1).run Tryd.prog w = .ok (.int .i64 z1) w := fun w => by rw [hR1, hz1]; exact field52_1 _ (shaF_length xs1) _ _ w
  have hf2 : ∀ w : World, (Instr.field 52 (.agg R2) 1).run Tryd.prog w = .ok (.int .i64 z2) w := fun w => by rw [hR2, hz2]; exact field52_1 _ (shaF_length xs2) _ _ w
  have HR1 := Lib.hid hR1
  have HR2 := Lib.hid hR2
  obtain ⟨T, hTl⟩ : ∃ T, T = ts.length := ⟨_, rfl⟩
  rw [← hTl] at hL3 ⊢
  have HTL := Lib.hid hTl
  have HL12 := Lib.hid (And.intro hL1 hL2)
  clear hb1 hb2 hb3 hL1 hL2 hTab hT hH k11 k12 k21 k22 his0 hl0 ht0 o1 o2 hl1 hdis his1 his2 hN1 hN2 q1 q2 g1 g2 g1l g2l f1 f2 hn1 hn2 hw hz1 hz2 hR1 hR2 HNE hTl
  go_enter Tryd.func4, Tryd.ntmps4
  go_wp2_with (first | (go_at_call 15; refine (num_calls _ _).mono ?_; rintro e w' ⟨rfl, rfl⟩) | (go_at_call 13; refine (disk_new M0.out 120 (by decide) (by decide)).mono ?_; rintro e w' ⟨d, rfl, hd, m1⟩; have M1 := Lib.hid m1; have BL := Lib.hid hd; clear m1 hd) | (go_at_call 14; refine (space_new M1.out 5 120 (by decide) (by decide)).mono ?_; rintro e w' ⟨b, g, cap, rfl, m2⟩; rw [← HIS.out] at m2; have M2 := Lib.hid (m2.permG (List.Perm.swap _ _ _)); clear m2 M1) | (have _z := M3; clear _z; go_at_call 16; refine (HW2.out d b g cap vb nv1 bv1 _ BL.out M3.out).mono ?_; rintro e w' ⟨wb, nv2, bv2, rfl, m4⟩; have M4 := Lib.hid m4; clear m4 M3) | (go_at_call 16; refine (HW1.out d b g cap _ BL.out M2.out).mono ?_; rintro e w' ⟨vb, nv1, bv1, rfl, m3⟩; have M3 := Lib.hid m3; clear m3 M2) | (have _z := M6; clear _z; go_at_call 20; refine (wref_act M6.out 1 rfl).mono ?_; rw [← HR1.out]; rintro e w' ⟨rfl, k7⟩; have M7 := Lib.hid (M6.out.blank k7); clear k7 M6) | (have _z := M5; clear _z; go_at_call 20; refine (wref_act M5.out 0 rfl).mono ?_; rw [← HR2.out]; rintro e w' ⟨rfl, k6⟩; have M6 := Lib.hid (M5.out.blank k6); clear k6 M5) | (go_at_call 20; refine (wref_act M4.out 1 rfl).mono ?_; rw [← HR1.out]; rintro e w' ⟨rfl, k5⟩; have M5 := Lib.hid (M4.out.blank k5); clear k5 M4) | (go_at_call 23; rw [HR1.out]; refine (newR_act M7.out 2 rfl (HNM.out d BL.out).1).mono ?_; rintro e w' ⟨rb, rfl, m8⟩; have M8 := Lib.hid m8; clear m8 M7))
  obtain ⟨x, hx⟩ : ∃ x : TX, x = ⟨W0, d, N1, xs1, N2, xs2, vb, wb, rb, nv1, bv1, nv2, bv2, ⟨b, g, cap, 5, 120, is2⟩⟩ := ⟨_, rfl⟩
  have HXO := Lib.hid (show TOk x from HOK.out x (by rw [hx]; exact BL.out) (by rw [hx]) (by rw [hx]) (by rw [hx]) (by rw [hx]) (by rw [hx]))
  have T0 := Lib.hid (show TS x 0 0 0 w' from by
    rw [hx]
    refine ⟨d, .slice none 0 0, .slice none 0 0, ⟨BL.out.ok, fun i hi => by omega, fun i hi => by omega, rfl, rfl, by simp, by simp⟩, M8.out.permG (perm5 _ _ _ _ _)⟩)
  have D1 := Lib.hid (show ∀ j1 j2 jr W, TS x j1 j2 jr W → Calls Tryd.prog 31 #[.pointer (some ⟨vb, 0, none⟩)] W fun e w' => e = .returned (.int .i64 (j1 : Int)) ∧ w' = W from fun j1 j2 jr W h => by have := ts_done1 h; rw [hx] at this; exact this)
  have D2 := Lib.hid (show ∀ j1 j2 jr W, TS x j1 j2 jr W → Calls Tryd.prog 31 #[.pointer (some ⟨wb, 0, none⟩)] W fun e w' => e = .returned (.int .i64 (j2 : Int)) ∧ w' = W from fun j1 j2 jr W h => by have := ts_done2 h; rw [hx] at this; exact this)
  have U1 := Lib.hid (show ∀ j1 j2 jr W, TS x j1 j2 jr W → Calls Tryd.prog 18 #[.pointer (some ⟨vb, 0, none⟩)] W fun e w' => ∃ A c, e = .returned (.slice A n1 c) ∧ TS x j1 j2 jr w' from fun j1 j2 jr W h => by have := ts_nums1 HXO.out h; rw [show x.vb = vb by rw [hx], show x.N1.length = n1 by rw [hx]; exact HL1.out.symm] at this; exact this)
  have U2 := Lib.hid (show ∀ j1 j2 jr W, TS x j1 j2 jr W → Calls Tryd.prog 18 #[.pointer (some ⟨wb, 0, none⟩)] W fun e w' => ∃ A c, e = .returned (.slice A n2 c) ∧ TS x j1 j2 jr w' from fun j1 j2 jr W h => by have := ts_nums2 HXO.out h; rw [show x.wb = wb by rw [hx], show x.N2.length = n2 by rw [hx]; exact HL2.out.symm] at this; exact this)
  have e1 : x.N1.length = n1 := by rw [hx]; exact HL1.out.symm
  have e2 : x.N2.length = n2 := by rw [hx]; exact HL2.out.symm
  have P1 := Lib.hid (show ∀ j1 j2 jr W, TS x j1 j2 jr W → j1 < n1 → j2 ≤ n2 → Calls Tryd.prog 19 #[.pointer (some ⟨vb, 0, none⟩)] W fun e w' => (∃ v, e = .returned v) ∧ TS x (j1 + 1) j2 jr w' from fun j1 j2 jr W h a1 a2 => by have := ts_step1 HXO.out h (by omega) (by omega); rw [show x.vb = vb by rw [hx]] at this; exact this)
  have P2 := Lib.hid (show ∀ j1 j2 jr W, TS x j1 j2 jr W → j2 < n2 → j1 ≤ n1 → Calls Tryd.prog 19 #[.pointer (some ⟨wb, 0, none⟩)] W fun e w' => (∃ v, e = .returned v) ∧ TS x j1 (j2 + 1) jr w' from fun j1 j2 jr W h a1 a2 => by have := ts_step2 HXO.out h (by omega) (by omega); rw [show x.wb = wb by rw [hx]] at this; exact this)
  have E1 := Lib.hid (show ∀ j2 jr W, TS x n1 j2 jr W → Calls Tryd.prog 19 #[.pointer (some ⟨vb, 0, none⟩)] W fun e w' => (∃ v, e = .returned v) ∧ TS x n1 j2 jr w' from fun j2 jr W h => by rw [← e1] at h ⊢; have := ts_end1 h; rw [show x.vb = vb by rw [hx]] at this; exact this)
  have RD := Lib.hid (show ∀ j1 j2 jr W, TS x j1 j2 jr W → jr < j1 → j1 ≤ n1 → Calls Tryd.prog 26 #[.pointer (some ⟨rb, 0, none⟩)] W fun e w' => (∃ v, e = .returned v) ∧ TS x j1 j2 (jr + 1) w' from fun j1 j2 jr W h a1 a2 => by have := ts_read HXO.out h a1 (by omega); rw [show x.rb = rb by rw [hx]] at this; exact this)
  have OLD := Lib.hid (show ∀ j1 j2 jr W, TS x j1 j2 jr W → Keeps [] W0 W from fun j1 j2 jr W h => by have := ts_old h; rw [show x.W0 = W0 by rw [hx]] at this; exact this)
  have V1 := Lib.hid (show ∀ R jr W, TE x R jr W → Calls Tryd.prog 20 #[.pointer (some ⟨vb, 0, none⟩)] W fun e w' => e = .returned (.agg R1) ∧ TE x R jr w' from fun R jr W h => by have := te_ref1 h; rw [show x.vb = vb by rw [hx], show x.b1 = xs1 by rw [hx], show x.N1 = N1 by rw [hx], ← HR1.out] at this; exact this)
  have V2 := Lib.hid (show ∀ R jr W, TE x R jr W → Calls Tryd.prog 20 #[.pointer (some ⟨wb, 0, none⟩)] W fun e w' => e = .returned (.agg R2) ∧ TE x R jr w' from fun R jr W h => by have := te_ref2 h; rw [show x.wb = wb by rw [hx], show x.b2 = xs2 by rw [hx], show x.N2 = N2 by rw [hx], ← HR2.out] at this; exact this)
  have G1 := Lib.hid (show ∀ R jr W, TE x R jr W → jr ≤ 4096 → Calls Tryd.prog 22 #[.pointer (some ⟨d.db, 0, none⟩), .int .i64 5, .agg R1] W fun e w' => ∃ A c, e = .returned (.tuple #[.slice A xs1.length c, .int .i64 0, .int .i64 0]) ∧ xs1.length ≤ c ∧ TE x (R ++ [[rowT (.slice A xs1.length c) 5 1 xs1.length (by8 xs1)]]) (jr + n1) w' from fun R jr W h a => by
    have := te_get1 HXO.out h a
    rw [show x.d0.db = d.db by rw [hx], show x.b1 = xs1 by rw [hx], e1, show x.N1 = N1 by rw [hx], ← HR1.out] at this
    refine this.mono ?_
    rintro e w9 ⟨A, c, rfl, ⟨hc, _⟩, h9⟩
    exact ⟨A, c, rfl, hc, h9⟩)
  have G2 := Lib.hid (show ∀ R jr W, TE x R jr W → jr ≤ 4096 → Calls Tryd.prog 22 #[.pointer (some ⟨d.db, 0, none⟩), .int .i64 5, .agg R2] W fun e w' => ∃ A c, e = .returned (.tuple #[.slice A xs2.length c, .int .i64 0, .int .i64 0]) ∧ xs2.length ≤ c ∧ TE x (R ++ [[rowT (.slice A xs2.length c) 5 1 xs2.length (by8 xs2)]]) (jr + n2) w' from fun R jr W h a => by
    have := te_get2 HXO.out h a
    rw [show x.d0.db = d.db by rw [hx], show x.b2 = xs2 by rw [hx], e2, show x.N2 = N2 by rw [hx], ← HR2.out] at this
    refine this.mono ?_
    rintro e w9 ⟨A, c, rfl, ⟨hc, _⟩, h9⟩
    exact ⟨A, c, rfl, hc, h9⟩)
  have BY := Lib.hid (show ∀ R jr W, TE x R jr W → Calls Tryd.prog 27 #[.pointer (some ⟨rb, 0, none⟩)] W fun e w' => ∃ A c, e = .returned (.slice A xs1.length c) ∧ xs1.length ≤ c ∧ TE x (R ++ [[rowT (.slice A xs1.length c) 5 1 xs1.length (by8 xs1)]]) jr w' from fun R jr W h => by
    have := te_bytes HXO.out h
    rw [show x.rb = rb by rw [hx], show x.b1 = xs1 by rw [hx]] at this
    refine this.mono ?_
    rintro e w9 ⟨A, c, rfl, ⟨hc, _⟩, h9⟩
    exact ⟨A, c, rfl, hc, h9⟩)
  have OLE := Lib.hid (show ∀ R jr W, TE x R jr W → Keeps [] W0 W from fun R jr W h => by have := te_old h; rw [show x.W0 = W0 by rw [hx]] at this; exact this)
  have STE := Lib.hid (show ∀ W, TS x n1 n2 n1 W → TE x [] n1 W from fun W h => by rw [← e1, ← e2] at h; rw [← e1]; exact te_start h)
  clear hx e1 e2 M8 BL HXO HOK HW1 HW2 HNM M0
  obtain ⟨S, hS⟩ : ∃ S, S = n1 + n2 + T := ⟨_, rfl⟩
  have HS := Lib.hid hS
  have hSb : S ≤ 281474976710656 + 84 := by omega
  clear hS
  go_loopg [17, 18] (S + 1) (fun q kv hv W => ∃ (k j1 j2 : Nat), kv = .int .i64 (k : Int) ∧ j1 ≤ n1 ∧ j2 ≤ n2 ∧ Hid (k ≤ min k T + j1 + j2) ∧ S + 1 - k ≤ q ∧ k ≤ S ∧ Hid (TS x j1 j2 j1 W))
  case atStart => exact ⟨0, 0, 0, rfl, by omega, by omega, Lib.hid (by omega), by omega, by omega, T0⟩
  case round =>
    obtain ⟨k, j1, j2, rfl, hj1, hj2, HK, hq, hkS, T1⟩ := hrel
    go_upto_region 15 with fail
    go_cut [131] (fun c wx => ∃ bb : Bool, c = .bool bb ∧ Hid (bb = true ↔ (j1 < n1 ∨ j2 < n2)) ∧ Hid (TS x j1 j2 j1 wx))
    case first =>
      by_cases h1 : j1 < n1
      · have a1 : ((j1 : Int) < (n1 : Int)) := by omega
        refine wp_region_any (by kernel_rfl) ?_
        change wpAny _ _ _ _ _ _ _ (World.drew _)
        refine wpAny_take (i := 0) (oi := { dst := some 110, op := Op.move (Operand.tmp 11), type := 43, pos := "outright.go:170", after := #[], guard := none }) (v := ?_) rfl (by kernel_rfl) (by kernel_rfl) (by kernel_rfl) (fun _ _ _ h => h) (Or.inl ⟨by rfl, ?_⟩) ?_
        rotate_left
        · (intro w9; go_simp; try with_reducible rfl)
        try simp only [Act.put, List.setIfInBounds_toArray, List.set_cons_zero, List.set_cons_succ]
        refine wpAny_take (i := 1) (oi := { dst := some 111, op := Op.nilCheck (Operand.tmp 110), type := 0, pos := "outright.go:170", after := #[{ on := 0, ground := Ground.data }], guard := none }) (v := ?_) rfl (by kernel_rfl) (by kernel_rfl) (by kernel_rfl) (fun _ _ _ h => h) (Or.inl ⟨by rfl, ?_⟩) ?_
        rotate_left
        · (intro w9; go_simp; try with_reducible rfl)
        try simp only [Act.put, List.setIfInBounds_toArray, List.set_cons_zero, List.set_cons_succ]
        refine wpAny_take (i := 2) (oi := { dst := some 112, op := Op.fieldAddr 56 (Operand.tmp 111) 0, type := 0, pos := "outright.go:170", after := #[{ on := 1, ground := Ground.data }], guard := none }) (v := ?_) rfl (by kernel_rfl) (by kernel_rfl) (by kernel_rfl) (fun _ _ _ h => h) (Or.inl ⟨by rfl, ?_⟩) ?_
        rotate_left
        · (intro w9; go_simp; try with_reducible rfl)
        try simp only [Act.put, List.setIfInBounds_toArray, List.set_cons_zero, List.set_cons_succ]
        refine wpAny_take (i := 4) (oi := { dst := some 114, op := Op.move (Operand.tmp 11), type := 43, pos := "outright.go:170", after := #[], guard := none }) (v := ?_) rfl (by kernel_rfl) (by kernel_rfl) (by kernel_rfl) (fun _ _ _ h => h) (Or.inl ⟨by rfl, ?_⟩) ?_
        rotate_left
        · (intro w9; go_simp; try with_reducible rfl)
        try simp only [Act.put, List.setIfInBounds_toArray, List.set_cons_zero, List.set_cons_succ]
        refine wpAny_take (i := 5) (oi := { dst := some 115, op := Op.nilCheck (Operand.tmp 114), type := 0, pos := "outright.go:170", after := #[{ on := 4, ground := Ground.data }], guard := none }) (v := ?_) rfl (by kernel_rfl) (by kernel_rfl) (by kernel_rfl) (fun _ _ _ h => h) (Or.inl ⟨by rfl, ?_⟩) ?_
        rotate_left
        · (intro w9; go_simp; try with_reducible rfl)
        try simp only [Act.put, List.setIfInBounds_toArray, List.set_cons_zero, List.set_cons_succ]
        refine wpAny_take (i := 6) (oi := { dst := some 116, op := Op.fieldAddr 56 (Operand.tmp 115) 0, type := 0, pos := "outright.go:170", after := #[{ on := 5, ground := Ground.data }], guard := none }) (v := ?_) rfl (by kernel_rfl) (by kernel_rfl) (by kernel_rfl) (fun _ _ _ h => h) (Or.inl ⟨by rfl, ?_⟩) ?_
        rotate_left
        · (intro w9; go_simp; try with_reducible rfl)
        try simp only [Act.put, List.setIfInBounds_toArray, List.set_cons_zero, List.set_cons_succ]
        refine wpAny_ready (rs := [3]) (by kernel_rfl) (by simp) ?_
        refine AllReady.cons (o := { dst := some 113, op := Op.call { callee := Callee.value (Operand.func 31), args := #[Operand.tmp 112], argTypes := #[54] }, type := 3, pos := "outright.go:170", after := #[{ on := 2, ground := Ground.data }], guard := none }) rfl (fun K hK => ?_) AllReady.nil
        go_simp
        refine (D1.out _ _ _ _ (ts_blank T1.out ((Keeps.refl _ _).drew))).mono ?_
        rintro e w2 ⟨rfl, rfl⟩
        refine hK _ _ ?_
        clear hK K
        try simp only [Act.put, List.setIfInBounds_toArray, List.set_cons_zero, List.set_cons_succ]
        refine wpAny_ready (rs := [7]) (by kernel_rfl) (by simp) ?_
        refine AllReady.cons (o := { dst := some 117, op := Op.call { callee := Callee.value (Operand.func 18), args := #[Operand.tmp 116], argTypes := #[54] }, type := 47, pos := "outright.go:170", after := #[{ on := 6, ground := Ground.data }, { on := 3, ground := Ground.chain }], guard := none }) rfl (fun K hK => ?_) AllReady.nil
        go_simp
        refine (U1.out _ _ _ _ (ts_blank T1.out ((Keeps.refl _ _).drew))).mono ?_
        rintro e w3 ⟨A, c, rfl, t2⟩
        have T2 := Lib.hid t2
        clear t2
        refine hK _ _ ?_
        clear hK K
        try simp only [Act.put, List.setIfInBounds_toArray, List.set_cons_zero, List.set_cons_succ]
        refine wpAny_take (i := 8) (oi := { dst := some 118, op := Op.call { callee := Callee.builtin Builtin.len, args := #[Operand.tmp 117], argTypes := #[47] }, type := 3, pos := "outright.go:170", after := #[{ on := 7, ground := Ground.data }], guard := none }) (v := ?_) rfl (by kernel_rfl) (by kernel_rfl) (by kernel_rfl) (fun _ _ _ h => h) (Or.inl ⟨by rfl, ?_⟩) ?_
        rotate_left
        · (intro w9; go_simp; try with_reducible rfl)
        try simp only [Act.put, List.setIfInBounds_toArray, List.set_cons_zero, List.set_cons_succ]
        refine wpAny_take (i := 9) (oi := { dst := some 119, op := Op.binOp BinOp.lss 3 (Operand.tmp 113) (Operand.tmp 118) 3, type := 4, pos := "outright.go:170", after := #[{ on := 3, ground := Ground.data }, { on := 8, ground := Ground.data }], guard := none }) (v := ?_) rfl (by kernel_rfl) (by kernel_rfl) (by kernel_rfl) (fun _ _ _ h => h) (Or.inl ⟨by rfl, ?_⟩) ?_
        rotate_left
        · (intro w9; go_simp; try with_reducible rfl)
        try simp only [Act.put, List.setIfInBounds_toArray, List.set_cons_zero, List.set_cons_succ]
        refine wpAny_take (i := 10) (oi := { dst := some 120, op := Op.move (Operand.tmp 119), type := 4, pos := "outright.go:170", after := #[{ on := 9, ground := Ground.data }, { on := 7, ground := Ground.chain }], guard := none }) (v := ?_) rfl (by kernel_rfl) (by kernel_rfl) (by kernel_rfl) (fun _ _ _ h => h) (Or.inl ⟨by rfl, ?_⟩) ?_
        rotate_left
        · (intro w9; go_simp; try with_reducible rfl)
        try simp only [Act.put, List.setIfInBounds_toArray, List.set_cons_zero, List.set_cons_succ]
        refine wpAny_take (i := 11) (oi := { dst := some 121, op := Op.move (Operand.tmp 13), type := 43, pos := "outright.go:170", after := #[{ on := 10, ground := Ground.guard }], guard := some (10, false) }) (v := undef) rfl (by kernel_rfl) (by kernel_rfl) (by kernel_rfl) (fun _ _ _ h => h) (Or.inr ⟨by rfl, rfl⟩) ?_
        try simp only [Act.put, List.setIfInBounds_toArray, List.set_cons_zero, List.set_cons_succ]
        refine wpAny_take (i := 12) (oi := { dst := some 122, op := Op.nilCheck (Operand.tmp 121), type := 0, pos := "outright.go:170", after := #[{ on := 11, ground := Ground.data }, { on := 10, ground := Ground.guard }], guard := some (10, false) }) (v := undef) rfl (by kernel_rfl) (by kernel_rfl) (by kernel_rfl) (fun _ _ _ h => h) (Or.inr ⟨by rfl, rfl⟩) ?_
        try simp only [Act.put, List.setIfInBounds_toArray, List.set_cons_zero, List.set_cons_succ]
        refine wpAny_take (i := 13) (oi := { dst := some 123, op := Op.fieldAddr 56 (Operand.tmp 122) 0, type := 0, pos := "outright.go:170", after := #[{ on := 12, ground := Ground.data }, { on := 10, ground := Ground.guard }], guard := some (10, false) }) (v := undef) rfl (by kernel_rfl) (by kernel_rfl) (by kernel_rfl) (fun _ _ _ h => h) (Or.inr ⟨by rfl, rfl⟩) ?_
        try simp only [Act.put, List.setIfInBounds_toArray, List.set_cons_zero, List.set_cons_succ]
        refine wpAny_take (i := 14) (oi := { dst := some 124, op := Op.call { callee := Callee.value (Operand.func 31), args := #[Operand.tmp 123], argTypes := #[54] }, type := 3, pos := "outright.go:170", after := #[{ on := 13, ground := Ground.data }, { on := 10, ground := Ground.chain }, { on := 10, ground := Ground.guard }], guard := some (10, false) }) (v := undef) rfl (by kernel_rfl) (by kernel_rfl) (by kernel_rfl) (fun _ _ _ h => h) (Or.inr ⟨by rfl, rfl⟩) ?_
        try simp only [Act.put, List.setIfInBounds_toArray, List.set_cons_zero, List.set_cons_succ]
        refine wpAny_take (i := 15) (oi := { dst := some 125, op := Op.move (Operand.tmp 13), type := 43, pos := "outright.go:170", after := #[{ on := 10, ground := Ground.guard }], guard := some (10, false) }) (v := undef) rfl (by kernel_rfl) (by kernel_rfl) (by kernel_rfl) (fun _ _ _ h => h) (Or.inr ⟨by rfl, rfl⟩) ?_
        try simp only [Act.put, List.setIfInBounds_toArray, List.set_cons_zero, List.set_cons_succ]
        refine wpAny_take (i := 16) (oi := { dst := some 126, op := Op.nilCheck (Operand.tmp 125), type := 0, pos := "outright.go:170", after := #[{ on := 15, ground := Ground.data }, { on := 10, ground := Ground.guard }], guard := some (10, false) }) (v := undef) rfl (by kernel_rfl) (by kernel_rfl) (by kernel_rfl) (fun _ _ _ h => h) (Or.inr ⟨by rfl, rfl⟩) ?_
        try simp only [Act.put, List.setIfInBounds_toArray, List.set_cons_zero, List.set_cons_succ]
        refine wpAny_take (i := 17) (oi := { dst := some 127, op := Op.fieldAddr 56 (Operand.tmp 126) 0, type := 0, pos := "outright.go:170", after := #[{ on := 16, ground := Ground.data }, { on := 10, ground := Ground.guard }], guard := some (10, false) }) (v := undef) rfl (by kernel_rfl) (by kernel_rfl) (by kernel_rfl) (fun _ _ _ h => h) (Or.inr ⟨by rfl, rfl⟩) ?_
        try simp only [Act.put, List.setIfInBounds_toArray, List.set_cons_zero, List.set_cons_succ]
        refine wpAny_take (i := 18) (oi := { dst := some 128, op := Op.call { callee := Callee.value (Operand.func 18), args := #[Operand.tmp 127], argTypes := #[54] }, type := 47, pos := "outright.go:170", after := #[{ on := 17, ground := Ground.data }, { on := 14, ground := Ground.chain }, { on := 10, ground := Ground.guard }], guard := some (10, false) }) (v := undef) rfl (by kernel_rfl) (by kernel_rfl) (by kernel_rfl) (fun _ _ _ h => h) (Or.inr ⟨by rfl, rfl⟩) ?_
        try simp only [Act.put, List.setIfInBounds_toArray, List.set_cons_zero, List.set_cons_succ]
        refine wpAny_take (i := 19) (oi := { dst := some 129, op := Op.call { callee := Callee.builtin Builtin.len, args := #[Operand.tmp 128], argTypes := #[47] }, type := 3, pos := "outright.go:170", after := #[{ on := 18, ground := Ground.data }, { on := 10, ground := Ground.guard }], guard := some (10, false) }) (v := undef) rfl (by kernel_rfl) (by kernel_rfl) (by kernel_rfl) (fun _ _ _ h => h) (Or.inr ⟨by rfl, rfl⟩) ?_
        try simp only [Act.put, List.setIfInBounds_toArray, List.set_cons_zero, List.set_cons_succ]
        refine wpAny_take (i := 20) (oi := { dst := some 130, op := Op.binOp BinOp.lss 3 (Operand.tmp 124) (Operand.tmp 129) 3, type := 4, pos := "outright.go:170", after := #[{ on := 14, ground := Ground.data }, { on := 19, ground := Ground.data }, { on := 10, ground := Ground.guard }], guard := some (10, false) }) (v := undef) rfl (by kernel_rfl) (by kernel_rfl) (by kernel_rfl) (fun _ _ _ h => h) (Or.inr ⟨by rfl, rfl⟩) ?_
        try simp only [Act.put, List.setIfInBounds_toArray, List.set_cons_zero, List.set_cons_succ]
        refine wpAny_take (i := 21) (oi := { dst := some 131, op := Op.pick (Operand.tmp 120) (Operand.const (Value.bool true)) (Operand.tmp 130), type := 4, pos := "outright.go:170", after := #[{ on := 10, ground := Ground.data }, { on := 20, ground := Ground.data }], guard := none }) (v := ?_) rfl (by kernel_rfl) (by kernel_rfl) (by kernel_rfl) (fun _ _ _ h => h) (Or.inl ⟨by rfl, ?_⟩) ?_
        rotate_left
        · (intro w9; go_simp; try with_reducible rfl)
        try simp only [Act.put, List.setIfInBounds_toArray, List.set_cons_zero, List.set_cons_succ]
        refine wpAny_done (by kernel_rfl) ?_ _
        go_wp2_with fail
        go_meet
        exact ⟨true, rfl, Lib.hid (by simp [h1]), T2⟩
      · have h1e : j1 = n1 := by omega
        subst h1e
        have h1' : ¬ j1 < j1 := h1
        clear h1
        by_cases h2 : j2 < n2
        · have a2 : ((j2 : Int) < (n2 : Int)) := by omega
          refine wp_region_any (by kernel_rfl) ?_
          change wpAny _ _ _ _ _ _ _ (World.drew _)
          refine wpAny_take (i := 0) (oi := { dst := some 110, op := Op.move (Operand.tmp 11), type := 43, pos := "outright.go:170", after := #[], guard := none }) (v := ?_) rfl (by kernel_rfl) (by kernel_rfl) (by kernel_rfl) (fun _ _ _ h => h) (Or.inl ⟨by rfl, ?_⟩) ?_
          rotate_left
          · (intro w9; go_simp; try with_reducible rfl)
          try simp only [Act.put, List.setIfInBounds_toArray, List.set_cons_zero, List.set_cons_succ]
          refine wpAny_take (i := 1) (oi := { dst := some 111, op := Op.nilCheck (Operand.tmp 110), type := 0, pos := "outright.go:170", after := #[{ on := 0, ground := Ground.data }], guard := none }) (v := ?_) rfl (by kernel_rfl) (by kernel_rfl) (by kernel_rfl) (fun _ _ _ h => h) (Or.inl ⟨by rfl, ?_⟩) ?_
          rotate_left
          · (intro w9; go_simp; try with_reducible rfl)
          try simp only [Act.put, List.setIfInBounds_toArray, List.set_cons_zero, List.set_cons_succ]
          refine wpAny_take (i := 2) (oi := { dst := some 112, op := Op.fieldAddr 56 (Operand.tmp 111) 0, type := 0, pos := "outright.go:170", after := #[{ on := 1, ground := Ground.data }], guard := none }) (v := ?_) rfl (by kernel_rfl) (by kernel_rfl) (by kernel_rfl) (fun _ _ _ h => h) (Or.inl ⟨by rfl, ?_⟩) ?_
          rotate_left
          · (intro w9; go_simp; try with_reducible rfl)
          try simp only [Act.put, List.setIfInBounds_toArray, List.set_cons_zero, List.set_cons_succ]
          refine wpAny_take (i := 4) (oi := { dst := some 114, op := Op.move (Operand.tmp 11), type := 43, pos := "outright.go:170", after := #[], guard := none }) (v := ?_) rfl (by kernel_rfl) (by kernel_rfl) (by kernel_rfl) (fun _ _ _ h => h) (Or.inl ⟨by rfl, ?_⟩) ?_
          rotate_left
          · (intro w9; go_simp; try with_reducible rfl)
          try simp only [Act.put, List.setIfInBounds_toArray, List.set_cons_zero, List.set_cons_succ]
          refine wpAny_take (i := 5) (oi := { dst := some 115, op := Op.nilCheck (Operand.tmp 114), type := 0, pos := "outright.go:170", after := #[{ on := 4, ground := Ground.data }], guard := none }) (v := ?_) rfl (by kernel_rfl) (by kernel_rfl) (by kernel_rfl) (fun _ _ _ h => h) (Or.inl ⟨by rfl, ?_⟩) ?_
          rotate_left
          · (intro w9; go_simp; try with_reducible rfl)
          try simp only [Act.put, List.setIfInBounds_toArray, List.set_cons_zero, List.set_cons_succ]
          refine wpAny_take (i := 6) (oi := { dst := some 116, op := Op.fieldAddr 56 (Operand.tmp 115) 0, type := 0, pos := "outright.go:170", after := #[{ on := 5, ground := Ground.data }], guard := none }) (v := ?_) rfl (by kernel_rfl) (by kernel_rfl) (by kernel_rfl) (fun _ _ _ h => h) (Or.inl ⟨by rfl, ?_⟩) ?_
          rotate_left
          · (intro w9; go_simp; try with_reducible rfl)
          try simp only [Act.put, List.setIfInBounds_toArray, List.set_cons_zero, List.set_cons_succ]
          refine wpAny_ready (rs := [3]) (by kernel_rfl) (by simp) ?_
          refine AllReady.cons (o := { dst := some 113, op := Op.call { callee := Callee.value (Operand.func 31), args := #[Operand.tmp 112], argTypes := #[54] }, type := 3, pos := "outright.go:170", after := #[{ on := 2, ground := Ground.data }], guard := none }) rfl (fun K hK => ?_) AllReady.nil
          go_simp
          refine (D1.out _ _ _ _ (ts_blank T1.out ((Keeps.refl _ _).drew))).mono ?_
          rintro e w2 ⟨rfl, rfl⟩
          refine hK _ _ ?_
          clear hK K
          try simp only [Act.put, List.setIfInBounds_toArray, List.set_cons_zero, List.set_cons_succ]
          refine wpAny_ready (rs := [7]) (by kernel_rfl) (by simp) ?_
          refine AllReady.cons (o := { dst := some 117, op := Op.call { callee := Callee.value (Operand.func 18), args := #[Operand.tmp 116], argTypes := #[54] }, type := 47, pos := "outright.go:170", after := #[{ on := 6, ground := Ground.data }, { on := 3, ground := Ground.chain }], guard := none }) rfl (fun K hK => ?_) AllReady.nil
          go_simp
          refine (U1.out _ _ _ _ (ts_blank T1.out ((Keeps.refl _ _).drew))).mono ?_
          rintro e w3 ⟨A, c, rfl, t2⟩
          have T2 := Lib.hid t2
          clear t2
          refine hK _ _ ?_
          clear hK K
          try simp only [Act.put, List.setIfInBounds_toArray, List.set_cons_zero, List.set_cons_succ]
          refine wpAny_take (i := 8) (oi := { dst := some 118, op := Op.call { callee := Callee.builtin Builtin.len, args := #[Operand.tmp 117], argTypes := #[47] }, type := 3, pos := "outright.go:170", after := #[{ on := 7, ground := Ground.data }], guard := none }) (v := ?_) rfl (by kernel_rfl) (by kernel_rfl) (by kernel_rfl) (fun _ _ _ h => h) (Or.inl ⟨by rfl, ?_⟩) ?_
          rotate_left
          · (intro w9; go_simp; try with_reducible rfl)
          try simp only [Act.put, List.setIfInBounds_toArray, List.set_cons_zero, List.set_cons_succ]
          refine wpAny_take (i := 9) (oi := { dst := some 119, op := Op.binOp BinOp.lss 3 (Operand.tmp 113) (Operand.tmp 118) 3, type := 4, pos := "outright.go:170", after := #[{ on := 3, ground := Ground.data }, { on := 8, ground := Ground.data }], guard := none }) (v := ?_) rfl (by kernel_rfl) (by kernel_rfl) (by kernel_rfl) (fun _ _ _ h => h) (Or.inl ⟨by rfl, ?_⟩) ?_
          rotate_left
          · (intro w9; go_simp; try with_reducible rfl)
          try simp only [Act.put, List.setIfInBounds_toArray, List.set_cons_zero, List.set_cons_succ]
          refine wpAny_take (i := 10) (oi := { dst := some 120, op := Op.move (Operand.tmp 119), type := 4, pos := "outright.go:170", after := #[{ on := 9, ground := Ground.data }, { on := 7, ground := Ground.chain }], guard := none }) (v := ?_) rfl (by kernel_rfl) (by kernel_rfl) (by kernel_rfl) (fun _ _ _ h => h) (Or.inl ⟨by rfl, ?_⟩) ?_
          rotate_left
          · (intro w9; go_simp; try with_reducible rfl)
          try simp only [Act.put, List.setIfInBounds_toArray, List.set_cons_zero, List.set_cons_succ]
          refine wpAny_take (i := 11) (oi := { dst := some 121, op := Op.move (Operand.tmp 13), type := 43, pos := "outright.go:170", after := #[{ on := 10, ground := Ground.guard }], guard := some (10, false) }) (v := ?_) rfl (by kernel_rfl) (by kernel_rfl) (by kernel_rfl) (fun _ _ _ h => h) (Or.inl ⟨by rfl, ?_⟩) ?_
          rotate_left
          · (intro w9; go_simp; try with_reducible rfl)
          try simp only [Act.put, List.setIfInBounds_toArray, List.set_cons_zero, List.set_cons_succ]
          refine wpAny_take (i := 12) (oi := { dst := some 122, op := Op.nilCheck (Operand.tmp 121), type := 0, pos := "outright.go:170", after := #[{ on := 11, ground := Ground.data }, { on := 10, ground := Ground.guard }], guard := some (10, false) }) (v := ?_) rfl (by kernel_rfl) (by kernel_rfl) (by kernel_rfl) (fun _ _ _ h => h) (Or.inl ⟨by rfl, ?_⟩) ?_
          rotate_left
          · (intro w9; go_simp; try with_reducible rfl)
          try simp only [Act.put, List.setIfInBounds_toArray, List.set_cons_zero, List.set_cons_succ]
          refine wpAny_take (i := 13) (oi := { dst := some 123, op := Op.fieldAddr 56 (Operand.tmp 122) 0, type := 0, pos := "outright.go:170", after := #[{ on := 12, ground := Ground.data }, { on := 10, ground := Ground.guard }], guard := some (10, false) }) (v := ?_) rfl (by kernel_rfl) (by kernel_rfl) (by kernel_rfl) (fun _ _ _ h => h) (Or.inl ⟨by rfl, ?_⟩) ?_
          rotate_left
          · (intro w9; go_simp; try with_reducible rfl)
          try simp only [Act.put, List.setIfInBounds_toArray, List.set_cons_zero, List.set_cons_succ]
          refine wpAny_take (i := 15) (oi := { dst := some 125, op := Op.move (Operand.tmp 13), type := 43, pos := "outright.go:170", after := #[{ on := 10, ground := Ground.guard }], guard := some (10, false) }) (v := ?_) rfl (by kernel_rfl) (by kernel_rfl) (by kernel_rfl) (fun _ _ _ h => h) (Or.inl ⟨by rfl, ?_⟩) ?_
          rotate_left
          · (intro w9; go_simp; try with_reducible rfl)
          try simp only [Act.put, List.setIfInBounds_toArray, List.set_cons_zero, List.set_cons_succ]
          refine wpAny_take (i := 16) (oi := { dst := some 126, op := Op.nilCheck (Operand.tmp 125), type := 0, pos := "outright.go:170", after := #[{ on := 15, ground := Ground.data }, { on := 10, ground := Ground.guard }], guard := some (10, false) }) (v := ?_) rfl (by kernel_rfl) (by kernel_rfl) (by kernel_rfl) (fun _ _ _ h => h) (Or.inl ⟨by rfl, ?_⟩) ?_
          rotate_left
          · (intro w9; go_simp; try with_reducible rfl)
          try simp only [Act.put, List.setIfInBounds_toArray, List.set_cons_zero, List.set_cons_succ]
          refine wpAny_take (i := 17) (oi := { dst := some 127, op := Op.fieldAddr 56 (Operand.tmp 126) 0, type := 0, pos := "outright.go:170", after := #[{ on := 16, ground := Ground.data }, { on := 10, ground := Ground.guard }], guard := some (10, false) }) (v := ?_) rfl (by kernel_rfl) (by kernel_rfl) (by kernel_rfl) (fun _ _ _ h => h) (Or.inl ⟨by rfl, ?_⟩) ?_
          rotate_left
          · (intro w9; go_simp; try with_reducible rfl)
          try simp only [Act.put, List.setIfInBounds_toArray, List.set_cons_zero, List.set_cons_succ]
          refine wpAny_ready (rs := [14]) (by kernel_rfl) (by simp) ?_
          refine AllReady.cons (o := { dst := some 124, op := Op.call { callee := Callee.value (Operand.func 31), args := #[Operand.tmp 123], argTypes := #[54] }, type := 3, pos := "outright.go:170", after := #[{ on := 13, ground := Ground.data }, { on := 10, ground := Ground.chain }, { on := 10, ground := Ground.guard }], guard := some (10, false) }) rfl (fun K hK => ?_) AllReady.nil
          go_simp
          refine (D2.out _ _ _ _ T2.out).mono ?_
          rintro e w4 ⟨rfl, rfl⟩
          refine hK _ _ ?_
          clear hK K
          try simp only [Act.put, List.setIfInBounds_toArray, List.set_cons_zero, List.set_cons_succ]
          refine wpAny_ready (rs := [18]) (by kernel_rfl) (by simp) ?_
          refine AllReady.cons (o := { dst := some 128, op := Op.call { callee := Callee.value (Operand.func 18), args := #[Operand.tmp 127], argTypes := #[54] }, type := 47, pos := "outright.go:170", after := #[{ on := 17, ground := Ground.data }, { on := 14, ground := Ground.chain }, { on := 10, ground := Ground.guard }], guard := some (10, false) }) rfl (fun K hK => ?_) AllReady.nil
          go_simp
          refine (U2.out _ _ _ _ T2.out).mono ?_
          rintro e w5 ⟨A5, c5, rfl, t3⟩
          have T3 := Lib.hid t3
          clear t3
          refine hK _ _ ?_
          clear hK K
          try simp only [Act.put, List.setIfInBounds_toArray, List.set_cons_zero, List.set_cons_succ]
          refine wpAny_take (i := 19) (oi := { dst := some 129, op := Op.call { callee := Callee.builtin Builtin.len, args := #[Operand.tmp 128], argTypes := #[47] }, type := 3, pos := "outright.go:170", after := #[{ on := 18, ground := Ground.data }, { on := 10, ground := Ground.guard }], guard := some (10, false) }) (v := ?_) rfl (by kernel_rfl) (by kernel_rfl) (by kernel_rfl) (fun _ _ _ h => h) (Or.inl ⟨by rfl, ?_⟩) ?_
          rotate_left
          · (intro w9; go_simp; try with_reducible rfl)
          try simp only [Act.put, List.setIfInBounds_toArray, List.set_cons_zero, List.set_cons_succ]
          refine wpAny_take (i := 20) (oi := { dst := some 130, op := Op.binOp BinOp.lss 3 (Operand.tmp 124) (Operand.tmp 129) 3, type := 4, pos := "outright.go:170", after := #[{ on := 14, ground := Ground.data }, { on := 19, ground := Ground.data }, { on := 10, ground := Ground.guard }], guard := some (10, false) }) (v := ?_) rfl (by kernel_rfl) (by kernel_rfl) (by kernel_rfl) (fun _ _ _ h => h) (Or.inl ⟨by rfl, ?_⟩) ?_
          rotate_left
          · (intro w9; go_simp; try with_reducible rfl)
          try simp only [Act.put, List.setIfInBounds_toArray, List.set_cons_zero, List.set_cons_succ]
          refine wpAny_take (i := 21) (oi := { dst := some 131, op := Op.pick (Operand.tmp 120) (Operand.const (Value.bool true)) (Operand.tmp 130), type := 4, pos := "outright.go:170", after := #[{ on := 10, ground := Ground.data }, { on := 20, ground := Ground.data }], guard := none }) (v := ?_) rfl (by kernel_rfl) (by kernel_rfl) (by kernel_rfl) (fun _ _ _ h => h) (Or.inl ⟨by rfl, ?_⟩) ?_
          rotate_left
          · (intro w9; go_simp; try with_reducible rfl)
          try simp only [Act.put, List.setIfInBounds_toArray, List.set_cons_zero, List.set_cons_succ]
          refine wpAny_done (by kernel_rfl) ?_ _
          go_wp2_with fail
          go_meet
          exact ⟨true, rfl, Lib.hid (by simp [h2]), T3⟩
        · have a2 : ¬ ((j2 : Int) < (n2 : Int)) := by omega
          have a2' : decide ((j2 : Int) < (n2 : Int)) = false := decide_eq_false a2
          refine wp_region_any (by kernel_rfl) ?_
          change wpAny _ _ _ _ _ _ _ (World.drew _)
          refine wpAny_take (i := 0) (oi := { dst := some 110, op := Op.move (Operand.tmp 11), type := 43, pos := "outright.go:170", after := #[], guard := none }) (v := ?_) rfl (by kernel_rfl) (by kernel_rfl) (by kernel_rfl) (fun _ _ _ h => h) (Or.inl ⟨by rfl, ?_⟩) ?_
          rotate_left
          · (intro w9; go_simp; try with_reducible rfl)
          try simp only [Act.put, List.setIfInBounds_toArray, List.set_cons_zero, List.set_cons_succ]
          refine wpAny_take (i := 1) (oi := { dst := some 111, op := Op.nilCheck (Operand.tmp 110), type := 0, pos := "outright.go:170", after := #[{ on := 0, ground := Ground.data }], guard := none }) (v := ?_) rfl (by kernel_rfl) (by kernel_rfl) (by kernel_rfl) (fun _ _ _ h => h) (Or.inl ⟨by rfl, ?_⟩) ?_
          rotate_left
          · (intro w9; go_simp; try with_reducible rfl)
          try simp only [Act.put, List.setIfInBounds_toArray, List.set_cons_zero, List.set_cons_succ]
          refine wpAny_take (i := 2) (oi := { dst := some 112, op := Op.fieldAddr 56 (Operand.tmp 111) 0, type := 0, pos := "outright.go:170", after := #[{ on := 1, ground := Ground.data }], guard := none }) (v := ?_) rfl (by kernel_rfl) (by kernel_rfl) (by kernel_rfl) (fun _ _ _ h => h) (Or.inl ⟨by rfl, ?_⟩) ?_
          rotate_left
          · (intro w9; go_simp; try with_reducible rfl)
          try simp only [Act.put, List.setIfInBounds_toArray, List.set_cons_zero, List.set_cons_succ]
          refine wpAny_take (i := 4) (oi := { dst := some 114, op := Op.move (Operand.tmp 11), type := 43, pos := "outright.go:170", after := #[], guard := none }) (v := ?_) rfl (by kernel_rfl) (by kernel_rfl) (by kernel_rfl) (fun _ _ _ h => h) (Or.inl ⟨by rfl, ?_⟩) ?_
          rotate_left
          · (intro w9; go_simp; try with_reducible rfl)
          try simp only [Act.put, List.setIfInBounds_toArray, List.set_cons_zero, List.set_cons_succ]
          refine wpAny_take (i := 5) (oi := { dst := some 115, op := Op.nilCheck (Operand.tmp 114), type := 0, pos := "outright.go:170", after := #[{ on := 4, ground := Ground.data }], guard := none }) (v := ?_) rfl (by kernel_rfl) (by kernel_rfl) (by kernel_rfl) (fun _ _ _ h => h) (Or.inl ⟨by rfl, ?_⟩) ?_
          rotate_left
          · (intro w9; go_simp; try with_reducible rfl)
          try simp only [Act.put, List.setIfInBounds_toArray, List.set_cons_zero, List.set_cons_succ]
          refine wpAny_take (i := 6) (oi := { dst := some 116, op := Op.fieldAddr 56 (Operand.tmp 115) 0, type := 0, pos := "outright.go:170", after := #[{ on := 5, ground := Ground.data }], guard := none }) (v := ?_) rfl (by kernel_rfl) (by kernel_rfl) (by kernel_rfl) (fun _ _ _ h => h) (Or.inl ⟨by rfl, ?_⟩) ?_
          rotate_left
          · (intro w9; go_simp; try with_reducible rfl)
          try simp only [Act.put, List.setIfInBounds_toArray, List.set_cons_zero, List.set_cons_succ]
          refine wpAny_ready (rs := [3]) (by kernel_rfl) (by simp) ?_
          refine AllReady.cons (o := { dst := some 113, op := Op.call { callee := Callee.value (Operand.func 31), args := #[Operand.tmp 112], argTypes := #[54] }, type := 3, pos := "outright.go:170", after := #[{ on := 2, ground := Ground.data }], guard := none }) rfl (fun K hK => ?_) AllReady.nil
          go_simp
          refine (D1.out _ _ _ _ (ts_blank T1.out ((Keeps.refl _ _).drew))).mono ?_
          rintro e w2 ⟨rfl, rfl⟩
          refine hK _ _ ?_
          clear hK K
          try simp only [Act.put, List.setIfInBounds_toArray, List.set_cons_zero, List.set_cons_succ]
          refine wpAny_ready (rs := [7]) (by kernel_rfl) (by simp) ?_
          refine AllReady.cons (o := { dst := some 117, op := Op.call { callee := Callee.value (Operand.func 18), args := #[Operand.tmp 116], argTypes := #[54] }, type := 47, pos := "outright.go:170", after := #[{ on := 6, ground := Ground.data }, { on := 3, ground := Ground.chain }], guard := none }) rfl (fun K hK => ?_) AllReady.nil
          go_simp
          refine (U1.out _ _ _ _ (ts_blank T1.out ((Keeps.refl _ _).drew))).mono ?_
          rintro e w3 ⟨A, c, rfl, t2⟩
          have T2 := Lib.hid t2
          clear t2
          refine hK _ _ ?_
          clear hK K
          try simp only [Act.put, List.setIfInBounds_toArray, List.set_cons_zero, List.set_cons_succ]
          refine wpAny_take (i := 8) (oi := { dst := some 118, op := Op.call { callee := Callee.builtin Builtin.len, args := #[Operand.tmp 117], argTypes := #[47] }, type := 3, pos := "outright.go:170", after := #[{ on := 7, ground := Ground.data }], guard := none }) (v := ?_) rfl (by kernel_rfl) (by kernel_rfl) (by kernel_rfl) (fun _ _ _ h => h) (Or.inl ⟨by rfl, ?_⟩) ?_
          rotate_left
          · (intro w9; go_simp; try with_reducible rfl)
          try simp only [Act.put, List.setIfInBounds_toArray, List.set_cons_zero, List.set_cons_succ]
          refine wpAny_take (i := 9) (oi := { dst := some 119, op := Op.binOp BinOp.lss 3 (Operand.tmp 113) (Operand.tmp 118) 3, type := 4, pos := "outright.go:170", after := #[{ on := 3, ground := Ground.data }, { on := 8, ground := Ground.data }], guard := none }) (v := ?_) rfl (by kernel_rfl) (by kernel_rfl) (by kernel_rfl) (fun _ _ _ h => h) (Or.inl ⟨by rfl, ?_⟩) ?_
          rotate_left
          · (intro w9; go_simp; try with_reducible rfl)
          try simp only [Act.put, List.setIfInBounds_toArray, List.set_cons_zero, List.set_cons_succ]
          refine wpAny_take (i := 10) (oi := { dst := some 120, op := Op.move (Operand.tmp 119), type := 4, pos := "outright.go:170", after := #[{ on := 9, ground := Ground.data }, { on := 7, ground := Ground.chain }], guard := none }) (v := ?_) rfl (by kernel_rfl) (by kernel_rfl) (by kernel_rfl) (fun _ _ _ h => h) (Or.inl ⟨by rfl, ?_⟩) ?_
          rotate_left
          · (intro w9; go_simp; try with_reducible rfl)
          try simp only [Act.put, List.setIfInBounds_toArray, List.set_cons_zero, List.set_cons_succ]
          refine wpAny_take (i := 11) (oi := { dst := some 121, op := Op.move (Operand.tmp 13), type := 43, pos := "outright.go:170", after := #[{ on := 10, ground := Ground.guard }], guard := some (10, false) }) (v := ?_) rfl (by kernel_rfl) (by kernel_rfl) (by kernel_rfl) (fun _ _ _ h => h) (Or.inl ⟨by rfl, ?_⟩) ?_
          rotate_left
          · (intro w9; go_simp; try with_reducible rfl)
          try simp only [Act.put, List.setIfInBounds_toArray, List.set_cons_zero, List.set_cons_succ]
          refine wpAny_take (i := 12) (oi := { dst := some 122, op := Op.nilCheck (Operand.tmp 121), type := 0, pos := "outright.go:170", after := #[{ on := 11, ground := Ground.data }, { on := 10, ground := Ground.guard }], guard := some (10, false) }) (v := ?_) rfl (by kernel_rfl) (by kernel_rfl) (by kernel_rfl) (fun _ _ _ h => h) (Or.inl ⟨by rfl, ?_⟩) ?_
          rotate_left
          · (intro w9; go_simp; try with_reducible rfl)
          try simp only [Act.put, List.setIfInBounds_toArray, List.set_cons_zero, List.set_cons_succ]
          refine wpAny_take (i := 13) (oi := { dst := some 123, op := Op.fieldAddr 56 (Operand.tmp 122) 0, type := 0, pos := "outright.go:170", after := #[{ on := 12, ground := Ground.data }, { on := 10, ground := Ground.guard }], guard := some (10, false) }) (v := ?_) rfl (by kernel_rfl) (by kernel_rfl) (by kernel_rfl) (fun _ _ _ h => h) (Or.inl ⟨by rfl, ?_⟩) ?_
          rotate_left
          · (intro w9; go_simp; try with_reducible rfl)
          try simp only [Act.put, List.setIfInBounds_toArray, List.set_cons_zero, List.set_cons_succ]
          refine wpAny_take (i := 15) (oi := { dst := some 125, op := Op.move (Operand.tmp 13), type := 43, pos := "outright.go:170", after := #[{ on := 10, ground := Ground.guard }], guard := some (10, false) }) (v := ?_) rfl (by kernel_rfl) (by kernel_rfl) (by kernel_rfl) (fun _ _ _ h => h) (Or.inl ⟨by rfl, ?_⟩) ?_
          rotate_left
          · (intro w9; go_simp; try with_reducible rfl)
          try simp only [Act.put, List.setIfInBounds_toArray, List.set_cons_zero, List.set_cons_succ]
          refine wpAny_take (i := 16) (oi := { dst := some 126, op := Op.nilCheck (Operand.tmp 125), type := 0, pos := "outright.go:170", after := #[{ on := 15, ground := Ground.data }, { on := 10, ground := Ground.guard }], guard := some (10, false) }) (v := ?_) rfl (by kernel_rfl) (by kernel_rfl) (by kernel_rfl) (fun _ _ _ h => h) (Or.inl ⟨by rfl, ?_⟩) ?_
          rotate_left
          · (intro w9; go_simp; try with_reducible rfl)
          try simp only [Act.put, List.setIfInBounds_toArray, List.set_cons_zero, List.set_cons_succ]
          refine wpAny_take (i := 17) (oi := { dst := some 127, op := Op.fieldAddr 56 (Operand.tmp 126) 0, type := 0, pos := "outright.go:170", after := #[{ on := 16, ground := Ground.data }, { on := 10, ground := Ground.guard }], guard := some (10, false) }) (v := ?_) rfl (by kernel_rfl) (by kernel_rfl) (by kernel_rfl) (fun _ _ _ h => h) (Or.inl ⟨by rfl, ?_⟩) ?_
          rotate_left
          · (intro w9; go_simp; try with_reducible rfl)
          try simp only [Act.put, List.setIfInBounds_toArray, List.set_cons_zero, List.set_cons_succ]
          refine wpAny_ready (rs := [14]) (by kernel_rfl) (by simp) ?_
          refine AllReady.cons (o := { dst := some 124, op := Op.call { callee := Callee.value (Operand.func 31), args := #[Operand.tmp 123], argTypes := #[54] }, type := 3, pos := "outright.go:170", after := #[{ on := 13, ground := Ground.data }, { on := 10, ground := Ground.chain }, { on := 10, ground := Ground.guard }], guard := some (10, false) }) rfl (fun K hK => ?_) AllReady.nil
          go_simp
          refine (D2.out _ _ _ _ T2.out).mono ?_
          rintro e w4 ⟨rfl, rfl⟩
          refine hK _ _ ?_
          clear hK K
          try simp only [Act.put, List.setIfInBounds_toArray, List.set_cons_zero, List.set_cons_succ]
          refine wpAny_ready (rs := [18]) (by kernel_rfl) (by simp) ?_
          refine AllReady.cons (o := { dst := some 128, op := Op.call { callee := Callee.value (Operand.func 18), args := #[Operand.tmp 127], argTypes := #[54] }, type := 47, pos := "outright.go:170", after := #[{ on := 17, ground := Ground.data }, { on := 14, ground := Ground.chain }, { on := 10, ground := Ground.guard }], guard := some (10, false) }) rfl (fun K hK => ?_) AllReady.nil
          go_simp
          refine (U2.out _ _ _ _ T2.out).mono ?_
          rintro e w5 ⟨A5, c5, rfl, t3⟩
          have T3 := Lib.hid t3
          clear t3
          refine hK _ _ ?_
          clear hK K
          try simp only [Act.put, List.setIfInBounds_toArray, List.set_cons_zero, List.set_cons_succ]
          refine wpAny_take (i := 19) (oi := { dst := some 129, op := Op.call { callee := Callee.builtin Builtin.len, args := #[Operand.tmp 128], argTypes := #[47] }, type := 3, pos := "outright.go:170", after := #[{ on := 18, ground := Ground.data }, { on := 10, ground := Ground.guard }], guard := some (10, false) }) (v := ?_) rfl (by kernel_rfl) (by kernel_rfl) (by kernel_rfl) (fun _ _ _ h => h) (Or.inl ⟨by rfl, ?_⟩) ?_
          rotate_left
          · (intro w9; go_simp; try with_reducible rfl)
          try simp only [Act.put, List.setIfInBounds_toArray, List.set_cons_zero, List.set_cons_succ]
          refine wpAny_take (i := 20) (oi := { dst := some 130, op := Op.binOp BinOp.lss 3 (Operand.tmp 124) (Operand.tmp 129) 3, type := 4, pos := "outright.go:170", after := #[{ on := 14, ground := Ground.data }, { on := 19, ground := Ground.data }, { on := 10, ground := Ground.guard }], guard := some (10, false) }) (v := ?_) rfl (by kernel_rfl) (by kernel_rfl) (by kernel_rfl) (fun _ _ _ h => h) (Or.inl ⟨by rfl, ?_⟩) ?_
          rotate_left
          · (intro w9; go_simp; try with_reducible rfl)
          try simp only [Act.put, List.setIfInBounds_toArray, List.set_cons_zero, List.set_cons_succ]
          refine wpAny_take (i := 21) (oi := { dst := some 131, op := Op.pick (Operand.tmp 120) (Operand.const (Value.bool true)) (Operand.tmp 130), type := 4, pos := "outright.go:170", after := #[{ on := 10, ground := Ground.data }, { on := 20, ground := Ground.data }], guard := none }) (v := ?_) rfl (by kernel_rfl) (by kernel_rfl) (by kernel_rfl) (fun _ _ _ h => h) (Or.inl ⟨by rfl, ?_⟩) ?_
          rotate_left
          · (intro w9; go_simp; try with_reducible rfl)
          try simp only [Act.put, List.setIfInBounds_toArray, List.set_cons_zero, List.set_cons_succ]
          refine wpAny_done (by kernel_rfl) ?_ _
          go_wp2_with fail
          go_meet
          exact ⟨false, rfl, Lib.hid (by simp [h2]), T3⟩
    case rest =>
      obtain ⟨bb, rfl, HBB, T2⟩ := hcut
      clear T1
      cases bb with
      | true =>
        have hor := HBB.out.1 rfl
        clear HBB
        have HOR := Lib.hid hor
        obtain ⟨n12, hn12⟩ : ∃ n, n = n1 + n2 := ⟨_, rfl⟩
        have a12 : (n1 : Int) + (n2 : Int) = (n12 : Int) := by omega
        have w12 : IntKind.i64.wrap (n12 : Int) = (n12 : Int) := IntWalk.i64_in _ (by omega)
        have aS : (n12 : Int) + (T : Int) = (S : Int) := by have := HS.out; omega
        have wS : IntKind.i64.wrap (S : Int) = (S : Int) := IntWalk.i64_in _ (by omega)
        have hkS' : k < S := by have := HK.out; have := HS.out; omega
        have kS : ((k : Int) == (S : Int)) = false := by simp; omega
        clear hor hn12
        go_upto_region 17 with fail
        refine wp_region_any (by kernel_rfl) ?_
        change wpAny _ _ _ _ _ _ _ (World.drew _)
        refine wpAny_take (i := 0) (oi := { dst := some 134, op := Op.move (Operand.tmp 17), type := 3, pos := "outright.go:171", after := #[], guard := none }) (v := ?_) rfl (by kernel_rfl) (by kernel_rfl) (by kernel_rfl) (fun _ _ _ h => h) (Or.inl ⟨by rfl, ?_⟩) ?_
        rotate_left
        · (intro w9; go_simp; try with_reducible rfl)
        try simp only [Act.put, List.setIfInBounds_toArray, List.set_cons_zero, List.set_cons_succ]
        refine wpAny_take (i := 1) (oi := { dst := some 135, op := Op.move (Operand.tmp 11), type := 43, pos := "outright.go:171", after := #[], guard := none }) (v := ?_) rfl (by kernel_rfl) (by kernel_rfl) (by kernel_rfl) (fun _ _ _ h => h) (Or.inl ⟨by rfl, ?_⟩) ?_
        rotate_left
        · (intro w9; go_simp; try with_reducible rfl)
        try simp only [Act.put, List.setIfInBounds_toArray, List.set_cons_zero, List.set_cons_succ]
        refine wpAny_take (i := 2) (oi := { dst := some 136, op := Op.nilCheck (Operand.tmp 135), type := 0, pos := "outright.go:171", after := #[{ on := 1, ground := Ground.data }], guard := none }) (v := ?_) rfl (by kernel_rfl) (by kernel_rfl) (by kernel_rfl) (fun _ _ _ h => h) (Or.inl ⟨by rfl, ?_⟩) ?_
        rotate_left
        · (intro w9; go_simp; try with_reducible rfl)
        try simp only [Act.put, List.setIfInBounds_toArray, List.set_cons_zero, List.set_cons_succ]
        refine wpAny_take (i := 3) (oi := { dst := some 137, op := Op.fieldAddr 56 (Operand.tmp 136) 0, type := 0, pos := "outright.go:171", after := #[{ on := 2, ground := Ground.data }], guard := none }) (v := ?_) rfl (by kernel_rfl) (by kernel_rfl) (by kernel_rfl) (fun _ _ _ h => h) (Or.inl ⟨by rfl, ?_⟩) ?_
        rotate_left
        · (intro w9; go_simp; try with_reducible rfl)
        try simp only [Act.put, List.setIfInBounds_toArray, List.set_cons_zero, List.set_cons_succ]
        refine wpAny_take (i := 6) (oi := { dst := some 140, op := Op.move (Operand.tmp 13), type := 43, pos := "outright.go:171", after := #[], guard := none }) (v := ?_) rfl (by kernel_rfl) (by kernel_rfl) (by kernel_rfl) (fun _ _ _ h => h) (Or.inl ⟨by rfl, ?_⟩) ?_
        rotate_left
        · (intro w9; go_simp; try with_reducible rfl)
        try simp only [Act.put, List.setIfInBounds_toArray, List.set_cons_zero, List.set_cons_succ]
        refine wpAny_take (i := 7) (oi := { dst := some 141, op := Op.nilCheck (Operand.tmp 140), type := 0, pos := "outright.go:171", after := #[{ on := 6, ground := Ground.data }], guard := none }) (v := ?_) rfl (by kernel_rfl) (by kernel_rfl) (by kernel_rfl) (fun _ _ _ h => h) (Or.inl ⟨by rfl, ?_⟩) ?_
        rotate_left
        · (intro w9; go_simp; try with_reducible rfl)
        try simp only [Act.put, List.setIfInBounds_toArray, List.set_cons_zero, List.set_cons_succ]
        refine wpAny_take (i := 8) (oi := { dst := some 142, op := Op.fieldAddr 56 (Operand.tmp 141) 0, type := 0, pos := "outright.go:171", after := #[{ on := 7, ground := Ground.data }], guard := none }) (v := ?_) rfl (by kernel_rfl) (by kernel_rfl) (by kernel_rfl) (fun _ _ _ h => h) (Or.inl ⟨by rfl, ?_⟩) ?_
        rotate_left
        · (intro w9; go_simp; try with_reducible rfl)
        try simp only [Act.put, List.setIfInBounds_toArray, List.set_cons_zero, List.set_cons_succ]
        refine wpAny_take (i := 12) (oi := { dst := some 146, op := Op.move (Operand.tmp 2), type := 47, pos := "outright.go:171", after := #[], guard := none }) (v := ?_) rfl (by kernel_rfl) (by kernel_rfl) (by kernel_rfl) (fun _ _ _ h => h) (Or.inl ⟨by rfl, ?_⟩) ?_
        rotate_left
        · (intro w9; go_simp; try with_reducible rfl)
        try simp only [Act.put, List.setIfInBounds_toArray, List.set_cons_zero, List.set_cons_succ]
        refine wpAny_take (i := 13) (oi := { dst := some 147, op := Op.call { callee := Callee.builtin Builtin.len, args := #[Operand.tmp 146], argTypes := #[47] }, type := 3, pos := "outright.go:171", after := #[{ on := 12, ground := Ground.data }], guard := none }) (v := ?_) rfl (by kernel_rfl) (by kernel_rfl) (by kernel_rfl) (fun _ _ _ h => h) (Or.inl ⟨by rfl, ?_⟩) ?_
        rotate_left
        · (intro w9; go_simp; try with_reducible rfl)
        try simp only [Act.put, List.setIfInBounds_toArray, List.set_cons_zero, List.set_cons_succ]
        refine wpAny_ready (rs := [4]) (by kernel_rfl) (by simp) ?_
        refine AllReady.cons (o := { dst := some 138, op := Op.call { callee := Callee.value (Operand.func 18), args := #[Operand.tmp 137], argTypes := #[54] }, type := 47, pos := "outright.go:171", after := #[{ on := 3, ground := Ground.data }], guard := none }) rfl (fun K hK => ?_) AllReady.nil
        go_simp
        refine (U1.out _ _ _ _ (ts_blank T2.out ((Keeps.refl _ _).drew))).mono ?_
        rintro e w3 ⟨A3', c3', rfl, t3⟩
        have T3 := Lib.hid t3
        clear t3
        refine hK _ _ ?_
        clear hK K
        try simp only [Act.put, List.setIfInBounds_toArray, List.set_cons_zero, List.set_cons_succ]
        refine wpAny_take (i := 5) (oi := { dst := some 139, op := Op.call { callee := Callee.builtin Builtin.len, args := #[Operand.tmp 138], argTypes := #[47] }, type := 3, pos := "outright.go:171", after := #[{ on := 4, ground := Ground.data }], guard := none }) (v := ?_) rfl (by kernel_rfl) (by kernel_rfl) (by kernel_rfl) (fun _ _ _ h => h) (Or.inl ⟨by rfl, ?_⟩) ?_
        rotate_left
        · (intro w9; go_simp; try with_reducible rfl)
        try simp only [Act.put, List.setIfInBounds_toArray, List.set_cons_zero, List.set_cons_succ]
        refine wpAny_ready (rs := [9]) (by kernel_rfl) (by simp) ?_
        refine AllReady.cons (o := { dst := some 143, op := Op.call { callee := Callee.value (Operand.func 18), args := #[Operand.tmp 142], argTypes := #[54] }, type := 47, pos := "outright.go:171", after := #[{ on := 8, ground := Ground.data }, { on := 4, ground := Ground.chain }], guard := none }) rfl (fun K hK => ?_) AllReady.nil
        go_simp
        refine (U2.out _ _ _ _ T3.out).mono ?_
        rintro e w4 ⟨A4, c4, rfl, t4⟩
        have T4 := Lib.hid t4
        clear t4
        refine hK _ _ ?_
        clear hK K
        try simp only [Act.put, List.setIfInBounds_toArray, List.set_cons_zero, List.set_cons_succ]
        refine wpAny_take (i := 10) (oi := { dst := some 144, op := Op.call { callee := Callee.builtin Builtin.len, args := #[Operand.tmp 143], argTypes := #[47] }, type := 3, pos := "outright.go:171", after := #[{ on := 9, ground := Ground.data }], guard := none }) (v := ?_) rfl (by kernel_rfl) (by kernel_rfl) (by kernel_rfl) (fun _ _ _ h => h) (Or.inl ⟨by rfl, ?_⟩) ?_
        rotate_left
        · (intro w9; go_simp; try with_reducible rfl)
        try simp only [Act.put, List.setIfInBounds_toArray, List.set_cons_zero, List.set_cons_succ]
        refine wpAny_take (i := 11) (oi := { dst := some 145, op := Op.binOp BinOp.add 3 (Operand.tmp 139) (Operand.tmp 144) 3, type := 3, pos := "outright.go:171", after := #[{ on := 5, ground := Ground.data }, { on := 10, ground := Ground.data }], guard := none }) (v := ?_) rfl (by kernel_rfl) (by kernel_rfl) (by kernel_rfl) (fun _ _ _ h => h) (Or.inl ⟨by rfl, ?_⟩) ?_
        rotate_left
        · (intro w9; go_simp; try with_reducible rfl)
        try simp only [Act.put, List.setIfInBounds_toArray, List.set_cons_zero, List.set_cons_succ]
        refine wpAny_take (i := 14) (oi := { dst := some 148, op := Op.binOp BinOp.add 3 (Operand.tmp 145) (Operand.tmp 147) 3, type := 3, pos := "outright.go:171", after := #[{ on := 11, ground := Ground.data }, { on := 13, ground := Ground.data }], guard := none }) (v := ?_) rfl (by kernel_rfl) (by kernel_rfl) (by kernel_rfl) (fun _ _ _ h => h) (Or.inl ⟨by rfl, ?_⟩) ?_
        rotate_left
        · (intro w9; go_simp; try with_reducible rfl)
        try simp only [Act.put, List.setIfInBounds_toArray, List.set_cons_zero, List.set_cons_succ]
        refine wpAny_take (i := 15) (oi := { dst := some 149, op := Op.binOp BinOp.eql 3 (Operand.tmp 134) (Operand.tmp 148) 3, type := 4, pos := "outright.go:171", after := #[{ on := 0, ground := Ground.data }, { on := 14, ground := Ground.data }], guard := none }) (v := ?_) rfl (by kernel_rfl) (by kernel_rfl) (by kernel_rfl) (fun _ _ _ h => h) (Or.inl ⟨by rfl, ?_⟩) ?_
        rotate_left
        · (intro w9; go_simp; try with_reducible rfl)
        try simp only [Act.put, List.setIfInBounds_toArray, List.set_cons_zero, List.set_cons_succ]
        refine wpAny_done (by kernel_rfl) ?_ _
        go_upto_region 19 with fail
        go_cut [2, 173] (fun a2 c wx => a2 = .slice A3 T c3 ∧ ∃ bb : Bool, c = .bool bb ∧ Hid ((bb = true → k < T ∨ j2 = n2) ∧ (bb = false → j2 < n2)) ∧ Hid (TS x j1 j2 j1 wx))
        case first =>
          clear a12 w12 aS wS kS
          by_cases hkT : k < T
          · have hex : ∃ g3 o3, A3 = some ⟨g3, o3, none⟩ ∧ W0.rangeAt g3 o3 (ints ts) := by
              rcases HB3.out.2.2 with ⟨_, h9, _⟩ | ⟨g3, o3, h8, h9, _⟩
              · have := HTL.out; rw [h9] at this; simp at this; omega
              · exact ⟨g3, o3, h8, h9⟩
            obtain ⟨g3, o3, hA3, hr3⟩ := hex
            obtain ⟨tk, htk⟩ : ∃ tk, tk = ts.getD k 0 := ⟨_, rfl⟩
            have HCK := Lib.hid (show ∀ W, Keeps [] W0 W → W.cell? ⟨g3, o3 + k, none⟩ = some (.int .i64 tk) from fun W hk => hk.cell (hr3 k _ (by rw [htk]; simp [ints, List.getD_eq_getElem?_getD, List.getElem?_eq_getElem (show k < ts.length by have := HTL.out; omega)])) (by simp))
            have ck := HCK.out _ (OLD.out _ _ _ _ T4.out)
            have HA3 := Lib.hid hA3
            have hki : ((k : Int) < (T : Int)) = True := eq_true (by omega)
            have hkd : decide ((k : Int) < (T : Int)) = true := decide_eq_true (by omega)
            rw [hA3]
            clear hA3 hr3 htk
            by_cases hev : (tk.tmod 2 == 0) = true
            · go_quiet (fail)
              have T5 := Lib.hid (ts_blank T4.out ((Keeps.refl _ _).drewN nq))
              go_wp2_with fail
              go_meet
              exact ⟨by rw [HA3.out], true, rfl, Lib.hid ⟨fun _ => .inl hkT, fun h => by cases h⟩, T5⟩
            · have hod : (tk.tmod 2 == 0) = false := by simpa using hev
              clear hev
              by_cases hd : j2 = n2
              · have hd' : ((j2 : Int) == (n2 : Int)) = true := by simp; omega
                have HD := Lib.hid hd
                clear hd
                refine wp_region_held_drew (S := fun W => W.cell? ⟨g3, o3 + k, none⟩ = some (.int .i64 tk)) (by kernel_rfl) (HCK.out _ (OLD.out _ _ _ _ (ts_blank T4.out ((Keeps.refl _ _).drew)))) (fun hHeld => ?_)
                refine wpAnyH_take (i := 0) (oi := { dst := some 150, op := Op.move (Operand.tmp 17), type := 3, pos := "outright.go:174", after := #[], guard := none }) (v := ?_) rfl (by kernel_rfl) (by kernel_rfl) (by kernel_rfl) (fun _ _ _ h => h) (Or.inl ⟨by rfl, ?_⟩) (by assumption) ?_
                rotate_left
                · (intro w9 hSw; (try dsimp only at hSw); go_simp; try with_reducible rfl)
                try simp only [Act.put, List.setIfInBounds_toArray, List.set_cons_zero, List.set_cons_succ]
                refine wpAnyH_take (i := 1) (oi := { dst := some 151, op := Op.move (Operand.tmp 2), type := 47, pos := "outright.go:174", after := #[], guard := none }) (v := ?_) rfl (by kernel_rfl) (by kernel_rfl) (by kernel_rfl) (fun _ _ _ h => h) (Or.inl ⟨by rfl, ?_⟩) (by assumption) ?_
                rotate_left
                · (intro w9 hSw; (try dsimp only at hSw); go_simp; try with_reducible rfl)
                try simp only [Act.put, List.setIfInBounds_toArray, List.set_cons_zero, List.set_cons_succ]
                refine wpAnyH_take (i := 2) (oi := { dst := some 152, op := Op.call { callee := Callee.builtin Builtin.len, args := #[Operand.tmp 151], argTypes := #[47] }, type := 3, pos := "outright.go:174", after := #[{ on := 1, ground := Ground.data }], guard := none }) (v := ?_) rfl (by kernel_rfl) (by kernel_rfl) (by kernel_rfl) (fun _ _ _ h => h) (Or.inl ⟨by rfl, ?_⟩) (by assumption) ?_
                rotate_left
                · (intro w9 hSw; (try dsimp only at hSw); go_simp; try with_reducible rfl)
                try simp only [Act.put, List.setIfInBounds_toArray, List.set_cons_zero, List.set_cons_succ]
                refine wpAnyH_take (i := 3) (oi := { dst := some 153, op := Op.binOp BinOp.lss 3 (Operand.tmp 150) (Operand.tmp 152) 3, type := 4, pos := "outright.go:174", after := #[{ on := 0, ground := Ground.data }, { on := 2, ground := Ground.data }], guard := none }) (v := ?_) rfl (by kernel_rfl) (by kernel_rfl) (by kernel_rfl) (fun _ _ _ h => h) (Or.inl ⟨by rfl, ?_⟩) (by assumption) ?_
                rotate_left
                · (intro w9 hSw; (try dsimp only at hSw); go_simp; try with_reducible rfl)
                try simp only [Act.put, List.setIfInBounds_toArray, List.set_cons_zero, List.set_cons_succ]
                refine wpAnyH_take (i := 4) (oi := { dst := some 154, op := Op.move (Operand.tmp 153), type := 4, pos := "outright.go:174", after := #[{ on := 3, ground := Ground.data }], guard := none }) (v := ?_) rfl (by kernel_rfl) (by kernel_rfl) (by kernel_rfl) (fun _ _ _ h => h) (Or.inl ⟨by rfl, ?_⟩) (by assumption) ?_
                rotate_left
                · (intro w9 hSw; (try dsimp only at hSw); go_simp; try with_reducible rfl)
                try simp only [Act.put, List.setIfInBounds_toArray, List.set_cons_zero, List.set_cons_succ]
                refine wpAnyH_take (i := 5) (oi := { dst := some 155, op := Op.move (Operand.tmp 2), type := 47, pos := "outright.go:174", after := #[{ on := 4, ground := Ground.guard }], guard := some (4, true) }) (v := ?_) rfl (by kernel_rfl) (by kernel_rfl) (by kernel_rfl) (fun _ _ _ h => h) (Or.inl ⟨by rfl, ?_⟩) (by assumption) ?_
                rotate_left
                · (intro w9 hSw; (try dsimp only at hSw); go_simp; try with_reducible rfl)
                try simp only [Act.put, List.setIfInBounds_toArray, List.set_cons_zero, List.set_cons_succ]
                refine wpAnyH_take (i := 6) (oi := { dst := some 156, op := Op.move (Operand.tmp 17), type := 3, pos := "outright.go:174", after := #[{ on := 4, ground := Ground.guard }], guard := some (4, true) }) (v := ?_) rfl (by kernel_rfl) (by kernel_rfl) (by kernel_rfl) (fun _ _ _ h => h) (Or.inl ⟨by rfl, ?_⟩) (by assumption) ?_
                rotate_left
                · (intro w9 hSw; (try dsimp only at hSw); go_simp; try with_reducible rfl)
                try simp only [Act.put, List.setIfInBounds_toArray, List.set_cons_zero, List.set_cons_succ]
                refine wpAnyH_take (i := 7) (oi := { dst := some 157, op := Op.indexAddr 47 (Operand.tmp 155) (Operand.tmp 156), type := 0, pos := "outright.go:174", after := #[{ on := 5, ground := Ground.data }, { on := 6, ground := Ground.data }, { on := 4, ground := Ground.guard }], guard := some (4, true) }) (v := ?_) rfl (by kernel_rfl) (by kernel_rfl) (by kernel_rfl) (fun _ _ _ h => h) (Or.inl ⟨by rfl, ?_⟩) (by assumption) ?_
                rotate_left
                · (intro w9 hSw; (try dsimp only at hSw); go_simp; try with_reducible rfl)
                try simp only [Act.put, List.setIfInBounds_toArray, List.set_cons_zero, List.set_cons_succ]
                refine wpAnyH_take (i := 8) (oi := { dst := some 158, op := Op.load 3 (Operand.tmp 157), type := 3, pos := "outright.go:174", after := #[{ on := 7, ground := Ground.data }, { on := 4, ground := Ground.guard }], guard := some (4, true) }) (v := ?_) rfl (by kernel_rfl) (by kernel_rfl) (by kernel_rfl) (fun _ _ _ h => h) (Or.inl ⟨by rfl, ?_⟩) (by assumption) ?_
                rotate_left
                · (intro w9 hSw; (try dsimp only at hSw); go_simp; try with_reducible rfl)
                try simp only [Act.put, List.setIfInBounds_toArray, List.set_cons_zero, List.set_cons_succ]
                refine wpAnyH_take (i := 9) (oi := { dst := some 159, op := Op.binOp BinOp.rem 3 (Operand.tmp 158) (Operand.const (Value.int IntKind.i64 2)) 3, type := 3, pos := "outright.go:174", after := #[{ on := 8, ground := Ground.data }, { on := 4, ground := Ground.guard }], guard := some (4, true) }) (v := ?_) rfl (by kernel_rfl) (by kernel_rfl) (by kernel_rfl) (fun _ _ _ h => h) (Or.inl ⟨by rfl, ?_⟩) (by assumption) ?_
                rotate_left
                · (intro w9 hSw; (try dsimp only at hSw); go_simp; try with_reducible rfl)
                try simp only [Act.put, List.setIfInBounds_toArray, List.set_cons_zero, List.set_cons_succ]
                refine wpAnyH_take (i := 10) (oi := { dst := some 160, op := Op.binOp BinOp.eql 3 (Operand.tmp 159) (Operand.const (Value.int IntKind.i64 0)) 3, type := 4, pos := "outright.go:174", after := #[{ on := 9, ground := Ground.data }, { on := 4, ground := Ground.guard }], guard := some (4, true) }) (v := ?_) rfl (by kernel_rfl) (by kernel_rfl) (by kernel_rfl) (fun _ _ _ h => h) (Or.inl ⟨by rfl, ?_⟩) (by assumption) ?_
                rotate_left
                · (intro w9 hSw; (try dsimp only at hSw); go_simp; try with_reducible rfl)
                try simp only [Act.put, List.setIfInBounds_toArray, List.set_cons_zero, List.set_cons_succ]
                refine wpAnyH_take (i := 11) (oi := { dst := some 161, op := Op.pick (Operand.tmp 154) (Operand.tmp 160) (Operand.const (Value.bool false)), type := 4, pos := "outright.go:174", after := #[{ on := 4, ground := Ground.data }, { on := 10, ground := Ground.data }], guard := none }) (v := ?_) rfl (by kernel_rfl) (by kernel_rfl) (by kernel_rfl) (fun _ _ _ h => h) (Or.inl ⟨by rfl, ?_⟩) (by assumption) ?_
                rotate_left
                · (intro w9 hSw; (try dsimp only at hSw); go_simp; try with_reducible rfl)
                try simp only [Act.put, List.setIfInBounds_toArray, List.set_cons_zero, List.set_cons_succ]
                refine wpAnyH_take (i := 12) (oi := { dst := some 162, op := Op.move (Operand.tmp 161), type := 4, pos := "outright.go:174", after := #[{ on := 11, ground := Ground.data }, { on := 4, ground := Ground.chain }], guard := none }) (v := ?_) rfl (by kernel_rfl) (by kernel_rfl) (by kernel_rfl) (fun _ _ _ h => h) (Or.inl ⟨by rfl, ?_⟩) (by assumption) ?_
                rotate_left
                · (intro w9 hSw; (try dsimp only at hSw); go_simp; try with_reducible rfl)
                try simp only [Act.put, List.setIfInBounds_toArray, List.set_cons_zero, List.set_cons_succ]
                refine wpAnyH_take (i := 13) (oi := { dst := some 163, op := Op.move (Operand.tmp 13), type := 43, pos := "outright.go:174", after := #[{ on := 12, ground := Ground.guard }], guard := some (12, false) }) (v := ?_) rfl (by kernel_rfl) (by kernel_rfl) (by kernel_rfl) (fun _ _ _ h => h) (Or.inl ⟨by rfl, ?_⟩) (by assumption) ?_
                rotate_left
                · (intro w9 hSw; (try dsimp only at hSw); go_simp; try with_reducible rfl)
                try simp only [Act.put, List.setIfInBounds_toArray, List.set_cons_zero, List.set_cons_succ]
                refine wpAnyH_take (i := 14) (oi := { dst := some 164, op := Op.nilCheck (Operand.tmp 163), type := 0, pos := "outright.go:174", after := #[{ on := 13, ground := Ground.data }, { on := 12, ground := Ground.guard }], guard := some (12, false) }) (v := ?_) rfl (by kernel_rfl) (by kernel_rfl) (by kernel_rfl) (fun _ _ _ h => h) (Or.inl ⟨by rfl, ?_⟩) (by assumption) ?_
                rotate_left
                · (intro w9 hSw; (try dsimp only at hSw); go_simp; try with_reducible rfl)
                try simp only [Act.put, List.setIfInBounds_toArray, List.set_cons_zero, List.set_cons_succ]
                refine wpAnyH_take (i := 15) (oi := { dst := some 165, op := Op.fieldAddr 56 (Operand.tmp 164) 0, type := 0, pos := "outright.go:174", after := #[{ on := 14, ground := Ground.data }, { on := 12, ground := Ground.guard }], guard := some (12, false) }) (v := ?_) rfl (by kernel_rfl) (by kernel_rfl) (by kernel_rfl) (fun _ _ _ h => h) (Or.inl ⟨by rfl, ?_⟩) (by assumption) ?_
                rotate_left
                · (intro w9 hSw; (try dsimp only at hSw); go_simp; try with_reducible rfl)
                try simp only [Act.put, List.setIfInBounds_toArray, List.set_cons_zero, List.set_cons_succ]
                refine wpAnyH_take (i := 17) (oi := { dst := some 167, op := Op.move (Operand.tmp 13), type := 43, pos := "outright.go:174", after := #[{ on := 12, ground := Ground.guard }], guard := some (12, false) }) (v := ?_) rfl (by kernel_rfl) (by kernel_rfl) (by kernel_rfl) (fun _ _ _ h => h) (Or.inl ⟨by rfl, ?_⟩) (by assumption) ?_
                rotate_left
                · (intro w9 hSw; (try dsimp only at hSw); go_simp; try with_reducible rfl)
                try simp only [Act.put, List.setIfInBounds_toArray, List.set_cons_zero, List.set_cons_succ]
                refine wpAnyH_take (i := 18) (oi := { dst := some 168, op := Op.nilCheck (Operand.tmp 167), type := 0, pos := "outright.go:174", after := #[{ on := 17, ground := Ground.data }, { on := 12, ground := Ground.guard }], guard := some (12, false) }) (v := ?_) rfl (by kernel_rfl) (by kernel_rfl) (by kernel_rfl) (fun _ _ _ h => h) (Or.inl ⟨by rfl, ?_⟩) (by assumption) ?_
                rotate_left
                · (intro w9 hSw; (try dsimp only at hSw); go_simp; try with_reducible rfl)
                try simp only [Act.put, List.setIfInBounds_toArray, List.set_cons_zero, List.set_cons_succ]
                refine wpAnyH_take (i := 19) (oi := { dst := some 169, op := Op.fieldAddr 56 (Operand.tmp 168) 0, type := 0, pos := "outright.go:174", after := #[{ on := 18, ground := Ground.data }, { on := 12, ground := Ground.guard }], guard := some (12, false) }) (v := ?_) rfl (by kernel_rfl) (by kernel_rfl) (by kernel_rfl) (fun _ _ _ h => h) (Or.inl ⟨by rfl, ?_⟩) (by assumption) ?_
                rotate_left
                · (intro w9 hSw; (try dsimp only at hSw); go_simp; try with_reducible rfl)
                try simp only [Act.put, List.setIfInBounds_toArray, List.set_cons_zero, List.set_cons_succ]
                refine wpAnyH_ready (rs := [16]) (by kernel_rfl) (by simp) ?_
                refine AllReadyH.cons (o := { dst := some 166, op := Op.call { callee := Callee.value (Operand.func 31), args := #[Operand.tmp 165], argTypes := #[54] }, type := 3, pos := "outright.go:174", after := #[{ on := 15, ground := Ground.data }, { on := 12, ground := Ground.chain }, { on := 12, ground := Ground.guard }], guard := some (12, false) }) rfl (fun K hK => ?_) AllReadyH.nil
                go_simp
                refine (D2.out _ _ _ _ (ts_blank T4.out ((Keeps.refl _ _).drew))).mono ?_
                rintro e w5 ⟨rfl, rfl⟩
                refine hK.out _ _ (HCK.out _ (OLD.out _ _ _ _ (ts_blank T4.out ((Keeps.refl _ _).drew)))) (fun hHeld16 => ?_)
                clear hK K hHeld
                try simp only [Act.put, List.setIfInBounds_toArray, List.set_cons_zero, List.set_cons_succ]
                refine wpAnyH_ready (rs := [20]) (by kernel_rfl) (by simp) ?_
                refine AllReadyH.cons (o := { dst := some 170, op := Op.call { callee := Callee.value (Operand.func 18), args := #[Operand.tmp 169], argTypes := #[54] }, type := 47, pos := "outright.go:174", after := #[{ on := 19, ground := Ground.data }, { on := 16, ground := Ground.chain }, { on := 12, ground := Ground.guard }], guard := some (12, false) }) rfl (fun K hK => ?_) AllReadyH.nil
                go_simp
                refine (U2.out _ _ _ _ (ts_blank T4.out ((Keeps.refl _ _).drew))).mono ?_
                rintro e w6 ⟨A6, c6, rfl, t6⟩
                have T6 := Lib.hid t6
                clear t6
                refine hK.out _ _ (HCK.out _ (OLD.out _ _ _ _ T6.out)) (fun hHeld20 => ?_)
                clear hK K hHeld16
                try simp only [Act.put, List.setIfInBounds_toArray, List.set_cons_zero, List.set_cons_succ]
                refine wpAnyH_take (i := 21) (oi := { dst := some 171, op := Op.call { callee := Callee.builtin Builtin.len, args := #[Operand.tmp 170], argTypes := #[47] }, type := 3, pos := "outright.go:174", after := #[{ on := 20, ground := Ground.data }, { on := 12, ground := Ground.guard }], guard := some (12, false) }) (v := ?_) rfl (by kernel_rfl) (by kernel_rfl) (by kernel_rfl) (fun _ _ _ h => h) (Or.inl ⟨by rfl, ?_⟩) (by assumption) ?_
                rotate_left
                · (intro w9 hSw; (try dsimp only at hSw); go_simp; try with_reducible rfl)
                try simp only [Act.put, List.setIfInBounds_toArray, List.set_cons_zero, List.set_cons_succ]
                refine wpAnyH_take (i := 22) (oi := { dst := some 172, op := Op.binOp BinOp.eql 3 (Operand.tmp 166) (Operand.tmp 171) 3, type := 4, pos := "outright.go:174", after := #[{ on := 16, ground := Ground.data }, { on := 21, ground := Ground.data }, { on := 12, ground := Ground.guard }], guard := some (12, false) }) (v := ?_) rfl (by kernel_rfl) (by kernel_rfl) (by kernel_rfl) (fun _ _ _ h => h) (Or.inl ⟨by rfl, ?_⟩) (by assumption) ?_
                rotate_left
                · (intro w9 hSw; (try dsimp only at hSw); go_simp; try with_reducible rfl)
                try simp only [Act.put, List.setIfInBounds_toArray, List.set_cons_zero, List.set_cons_succ]
                refine wpAnyH_take (i := 23) (oi := { dst := some 173, op := Op.pick (Operand.tmp 162) (Operand.const (Value.bool true)) (Operand.tmp 172), type := 4, pos := "outright.go:174", after := #[{ on := 12, ground := Ground.data }, { on := 22, ground := Ground.data }], guard := none }) (v := ?_) rfl (by kernel_rfl) (by kernel_rfl) (by kernel_rfl) (fun _ _ _ h => h) (Or.inl ⟨by rfl, ?_⟩) (by assumption) ?_
                rotate_left
                · (intro w9 hSw; (try dsimp only at hSw); go_simp; try with_reducible rfl)
                try simp only [Act.put, List.setIfInBounds_toArray, List.set_cons_zero, List.set_cons_succ]
                refine wpAnyH_done (by kernel_rfl) ?_ _
                go_wp2_with fail
                go_meet
                exact ⟨by rw [HA3.out], true, rfl, Lib.hid ⟨fun _ => .inr HD.out, fun h => by cases h⟩, T6⟩
              · have hd' : ((j2 : Int) == (n2 : Int)) = false := by simp; omega
                have HD := Lib.hid hd
                clear hd
                refine wp_region_held_drew (S := fun W => W.cell? ⟨g3, o3 + k, none⟩ = some (.int .i64 tk)) (by kernel_rfl) (HCK.out _ (OLD.out _ _ _ _ (ts_blank T4.out ((Keeps.refl _ _).drew)))) (fun hHeld => ?_)
                refine wpAnyH_take (i := 0) (oi := { dst := some 150, op := Op.move (Operand.tmp 17), type := 3, pos := "outright.go:174", after := #[], guard := none }) (v := ?_) rfl (by kernel_rfl) (by kernel_rfl) (by kernel_rfl) (fun _ _ _ h => h) (Or.inl ⟨by rfl, ?_⟩) (by assumption) ?_
                rotate_left
                · (intro w9 hSw; (try dsimp only at hSw); go_simp; try with_reducible rfl)
                try simp only [Act.put, List.setIfInBounds_toArray, List.set_cons_zero, List.set_cons_succ]
                refine wpAnyH_take (i := 1) (oi := { dst := some 151, op := Op.move (Operand.tmp 2), type := 47, pos := "outright.go:174", after := #[], guard := none }) (v := ?_) rfl (by kernel_rfl) (by kernel_rfl) (by kernel_rfl) (fun _ _ _ h => h) (Or.inl ⟨by rfl, ?_⟩) (by assumption) ?_
                rotate_left
                · (intro w9 hSw; (try dsimp only at hSw); go_simp; try with_reducible rfl)
                try simp only [Act.put, List.setIfInBounds_toArray, List.set_cons_zero, List.set_cons_succ]
                refine wpAnyH_take (i := 2) (oi := { dst := some 152, op := Op.call { callee := Callee.builtin Builtin.len, args := #[Operand.tmp 151], argTypes := #[47] }, type := 3, pos := "outright.go:174", after := #[{ on := 1, ground := Ground.data }], guard := none }) (v := ?_) rfl (by kernel_rfl) (by kernel_rfl) (by kernel_rfl) (fun _ _ _ h => h) (Or.inl ⟨by rfl, ?_⟩) (by assumption) ?_
                rotate_left
                · (intro w9 hSw; (try dsimp only at hSw); go_simp; try with_reducible rfl)
                try simp only [Act.put, List.setIfInBounds_toArray, List.set_cons_zero, List.set_cons_succ]
                refine wpAnyH_take (i := 3) (oi := { dst := some 153, op := Op.binOp BinOp.lss 3 (Operand.tmp 150) (Operand.tmp 152) 3, type := 4, pos := "outright.go:174", after := #[{ on := 0, ground := Ground.data }, { on := 2, ground := Ground.data }], guard := none }) (v := ?_) rfl (by kernel_rfl) (by kernel_rfl) (by kernel_rfl) (fun _ _ _ h => h) (Or.inl ⟨by rfl, ?_⟩) (by assumption) ?_
                rotate_left
                · (intro w9 hSw; (try dsimp only at hSw); go_simp; try with_reducible rfl)
                try simp only [Act.put, List.setIfInBounds_toArray, List.set_cons_zero, List.set_cons_succ]
                refine wpAnyH_take (i := 4) (oi := { dst := some 154, op := Op.move (Operand.tmp 153), type := 4, pos := "outright.go:174", after := #[{ on := 3, ground := Ground.data }], guard := none }) (v := ?_) rfl (by kernel_rfl) (by kernel_rfl) (by kernel_rfl) (fun _ _ _ h => h) (Or.inl ⟨by rfl, ?_⟩) (by assumption) ?_
                rotate_left
                · (intro w9 hSw; (try dsimp only at hSw); go_simp; try with_reducible rfl)
                try simp only [Act.put, List.setIfInBounds_toArray, List.set_cons_zero, List.set_cons_succ]
                refine wpAnyH_take (i := 5) (oi := { dst := some 155, op := Op.move (Operand.tmp 2), type := 47, pos := "outright.go:174", after := #[{ on := 4, ground := Ground.guard }], guard := some (4, true) }) (v := ?_) rfl (by kernel_rfl) (by kernel_rfl) (by kernel_rfl) (fun _ _ _ h => h) (Or.inl ⟨by rfl, ?_⟩) (by assumption) ?_
                rotate_left
                · (intro w9 hSw; (try dsimp only at hSw); go_simp; try with_reducible rfl)
                try simp only [Act.put, List.setIfInBounds_toArray, List.set_cons_zero, List.set_cons_succ]
                refine wpAnyH_take (i := 6) (oi := { dst := some 156, op := Op.move (Operand.tmp 17), type := 3, pos := "outright.go:174", after := #[{ on := 4, ground := Ground.guard }], guard := some (4, true) }) (v := ?_) rfl (by kernel_rfl) (by kernel_rfl) (by kernel_rfl) (fun _ _ _ h => h) (Or.inl ⟨by rfl, ?_⟩) (by assumption) ?_
                rotate_left
                · (intro w9 hSw; (try dsimp only at hSw); go_simp; try with_reducible rfl)
                try simp only [Act.put, List.setIfInBounds_toArray, List.set_cons_zero, List.set_cons_succ]
                refine wpAnyH_take (i := 7) (oi := { dst := some 157, op := Op.indexAddr 47 (Operand.tmp 155) (Operand.tmp 156), type := 0, pos := "outright.go:174", after := #[{ on := 5, ground := Ground.data }, { on := 6, ground := Ground.data }, { on := 4, ground := Ground.guard }], guard := some (4, true) }) (v := ?_) rfl (by kernel_rfl) (by kernel_rfl) (by kernel_rfl) (fun _ _ _ h => h) (Or.inl ⟨by rfl, ?_⟩) (by assumption) ?_
                rotate_left
                · (intro w9 hSw; (try dsimp only at hSw); go_simp; try with_reducible rfl)
                try simp only [Act.put, List.setIfInBounds_toArray, List.set_cons_zero, List.set_cons_succ]
                refine wpAnyH_take (i := 8) (oi := { dst := some 158, op := Op.load 3 (Operand.tmp 157), type := 3, pos := "outright.go:174", after := #[{ on := 7, ground := Ground.data }, { on := 4, ground := Ground.guard }], guard := some (4, true) }) (v := ?_) rfl (by kernel_rfl) (by kernel_rfl) (by kernel_rfl) (fun _ _ _ h => h) (Or.inl ⟨by rfl, ?_⟩) (by assumption) ?_
                rotate_left
                · (intro w9 hSw; (try dsimp only at hSw); go_simp; try with_reducible rfl)
                try simp only [Act.put, List.setIfInBounds_toArray, List.set_cons_zero, List.set_cons_succ]
                refine wpAnyH_take (i := 9) (oi := { dst := some 159, op := Op.binOp BinOp.rem 3 (Operand.tmp 158) (Operand.const (Value.int IntKind.i64 2)) 3, type := 3, pos := "outright.go:174", after := #[{ on := 8, ground := Ground.data }, { on := 4, ground := Ground.guard }], guard := some (4, true) }) (v := ?_) rfl (by kernel_rfl) (by kernel_rfl) (by kernel_rfl) (fun _ _ _ h => h) (Or.inl ⟨by rfl, ?_⟩) (by assumption) ?_
                rotate_left
                · (intro w9 hSw; (try dsimp only at hSw); go_simp; try with_reducible rfl)
                try simp only [Act.put, List.setIfInBounds_toArray, List.set_cons_zero, List.set_cons_succ]
                refine wpAnyH_take (i := 10) (oi := { dst := some 160, op := Op.binOp BinOp.eql 3 (Operand.tmp 159) (Operand.const (Value.int IntKind.i64 0)) 3, type := 4, pos := "outright.go:174", after := #[{ on := 9, ground := Ground.data }, { on := 4, ground := Ground.guard }], guard := some (4, true) }) (v := ?_) rfl (by kernel_rfl) (by kernel_rfl) (by kernel_rfl) (fun _ _ _ h => h) (Or.inl ⟨by rfl, ?_⟩) (by assumption) ?_
                rotate_left
                · (intro w9 hSw; (try dsimp only at hSw); go_simp; try with_reducible rfl)
                try simp only [Act.put, List.setIfInBounds_toArray, List.set_cons_zero, List.set_cons_succ]
                refine wpAnyH_take (i := 11) (oi := { dst := some 161, op := Op.pick (Operand.tmp 154) (Operand.tmp 160) (Operand.const (Value.bool false)), type := 4, pos := "outright.go:174", after := #[{ on := 4, ground := Ground.data }, { on := 10, ground := Ground.data }], guard := none }) (v := ?_) rfl (by kernel_rfl) (by kernel_rfl) (by kernel_rfl) (fun _ _ _ h => h) (Or.inl ⟨by rfl, ?_⟩) (by assumption) ?_
                rotate_left
                · (intro w9 hSw; (try dsimp only at hSw); go_simp; try with_reducible rfl)
                try simp only [Act.put, List.setIfInBounds_toArray, List.set_cons_zero, List.set_cons_succ]
                refine wpAnyH_take (i := 12) (oi := { dst := some 162, op := Op.move (Operand.tmp 161), type := 4, pos := "outright.go:174", after := #[{ on := 11, ground := Ground.data }, { on := 4, ground := Ground.chain }], guard := none }) (v := ?_) rfl (by kernel_rfl) (by kernel_rfl) (by kernel_rfl) (fun _ _ _ h => h) (Or.inl ⟨by rfl, ?_⟩) (by assumption) ?_
                rotate_left
                · (intro w9 hSw; (try dsimp only at hSw); go_simp; try with_reducible rfl)
                try simp only [Act.put, List.setIfInBounds_toArray, List.set_cons_zero, List.set_cons_succ]
                refine wpAnyH_take (i := 13) (oi := { dst := some 163, op := Op.move (Operand.tmp 13), type := 43, pos := "outright.go:174", after := #[{ on := 12, ground := Ground.guard }], guard := some (12, false) }) (v := ?_) rfl (by kernel_rfl) (by kernel_rfl) (by kernel_rfl) (fun _ _ _ h => h) (Or.inl ⟨by rfl, ?_⟩) (by assumption) ?_
                rotate_left
                · (intro w9 hSw; (try dsimp only at hSw); go_simp; try with_reducible rfl)
                try simp only [Act.put, List.setIfInBounds_toArray, List.set_cons_zero, List.set_cons_succ]
                refine wpAnyH_take (i := 14) (oi := { dst := some 164, op := Op.nilCheck (Operand.tmp 163), type := 0, pos := "outright.go:174", after := #[{ on := 13, ground := Ground.data }, { on := 12, ground := Ground.guard }], guard := some (12, false) }) (v := ?_) rfl (by kernel_rfl) (by kernel_rfl) (by kernel_rfl) (fun _ _ _ h => h) (Or.inl ⟨by rfl, ?_⟩) (by assumption) ?_
                rotate_left
                · (intro w9 hSw; (try dsimp only at hSw); go_simp; try with_reducible rfl)
                try simp only [Act.put, List.setIfInBounds_toArray, List.set_cons_zero, List.set_cons_succ]
                refine wpAnyH_take (i := 15) (oi := { dst := some 165, op := Op.fieldAddr 56 (Operand.tmp 164) 0, type := 0, pos := "outright.go:174", after := #[{ on := 14, ground := Ground.data }, { on := 12, ground := Ground.guard }], guard := some (12, false) }) (v := ?_) rfl (by kernel_rfl) (by kernel_rfl) (by kernel_rfl) (fun _ _ _ h => h) (Or.inl ⟨by rfl, ?_⟩) (by assumption) ?_
                rotate_left
                · (intro w9 hSw; (try dsimp only at hSw); go_simp; try with_reducible rfl)
                try simp only [Act.put, List.setIfInBounds_toArray, List.set_cons_zero, List.set_cons_succ]
                refine wpAnyH_take (i := 17) (oi := { dst := some 167, op := Op.move (Operand.tmp 13), type := 43, pos := "outright.go:174", after := #[{ on := 12, ground := Ground.guard }], guard := some (12, false) }) (v := ?_) rfl (by kernel_rfl) (by kernel_rfl) (by kernel_rfl) (fun _ _ _ h => h) (Or.inl ⟨by rfl, ?_⟩) (by assumption) ?_
                rotate_left
                · (intro w9 hSw; (try dsimp only at hSw); go_simp; try with_reducible rfl)
                try simp only [Act.put, List.setIfInBounds_toArray, List.set_cons_zero, List.set_cons_succ]
                refine wpAnyH_take (i := 18) (oi := { dst := some 168, op := Op.nilCheck (Operand.tmp 167), type := 0, pos := "outright.go:174", after := #[{ on := 17, ground := Ground.data }, { on := 12, ground := Ground.guard }], guard := some (12, false) }) (v := ?_) rfl (by kernel_rfl) (by kernel_rfl) (by kernel_rfl) (fun _ _ _ h => h) (Or.inl ⟨by rfl, ?_⟩) (by assumption) ?_
                rotate_left
                · (intro w9 hSw; (try dsimp only at hSw); go_simp; try with_reducible rfl)
                try simp only [Act.put, List.setIfInBounds_toArray, List.set_cons_zero, List.set_cons_succ]
                refine wpAnyH_take (i := 19) (oi := { dst := some 169, op := Op.fieldAddr 56 (Operand.tmp 168) 0, type := 0, pos := "outright.go:174", after := #[{ on := 18, ground := Ground.data }, { on := 12, ground := Ground.guard }], guard := some (12, false) }) (v := ?_) rfl (by kernel_rfl) (by kernel_rfl) (by kernel_rfl) (fun _ _ _ h => h) (Or.inl ⟨by rfl, ?_⟩) (by assumption) ?_
                rotate_left
                · (intro w9 hSw; (try dsimp only at hSw); go_simp; try with_reducible rfl)
                try simp only [Act.put, List.setIfInBounds_toArray, List.set_cons_zero, List.set_cons_succ]
                refine wpAnyH_ready (rs := [16]) (by kernel_rfl) (by simp) ?_
                refine AllReadyH.cons (o := { dst := some 166, op := Op.call { callee := Callee.value (Operand.func 31), args := #[Operand.tmp 165], argTypes := #[54] }, type := 3, pos := "outright.go:174", after := #[{ on := 15, ground := Ground.data }, { on := 12, ground := Ground.chain }, { on := 12, ground := Ground.guard }], guard := some (12, false) }) rfl (fun K hK => ?_) AllReadyH.nil
                go_simp
                refine (D2.out _ _ _ _ (ts_blank T4.out ((Keeps.refl _ _).drew))).mono ?_
                rintro e w5 ⟨rfl, rfl⟩
                refine hK.out _ _ (HCK.out _ (OLD.out _ _ _ _ (ts_blank T4.out ((Keeps.refl _ _).drew)))) (fun hHeld16 => ?_)
                clear hK K hHeld
                try simp only [Act.put, List.setIfInBounds_toArray, List.set_cons_zero, List.set_cons_succ]
                refine wpAnyH_ready (rs := [20]) (by kernel_rfl) (by simp) ?_
                refine AllReadyH.cons (o := { dst := some 170, op := Op.call { callee := Callee.value (Operand.func 18), args := #[Operand.tmp 169], argTypes := #[54] }, type := 47, pos := "outright.go:174", after := #[{ on := 19, ground := Ground.data }, { on := 16, ground := Ground.chain }, { on := 12, ground := Ground.guard }], guard := some (12, false) }) rfl (fun K hK => ?_) AllReadyH.nil
                go_simp
                refine (U2.out _ _ _ _ (ts_blank T4.out ((Keeps.refl _ _).drew))).mono ?_
                rintro e w6 ⟨A6, c6, rfl, t6⟩
                have T6 := Lib.hid t6
                clear t6
                refine hK.out _ _ (HCK.out _ (OLD.out _ _ _ _ T6.out)) (fun hHeld20 => ?_)
                clear hK K hHeld16
                try simp only [Act.put, List.setIfInBounds_toArray, List.set_cons_zero, List.set_cons_succ]
                refine wpAnyH_take (i := 21) (oi := { dst := some 171, op := Op.call { callee := Callee.builtin Builtin.len, args := #[Operand.tmp 170], argTypes := #[47] }, type := 3, pos := "outright.go:174", after := #[{ on := 20, ground := Ground.data }, { on := 12, ground := Ground.guard }], guard := some (12, false) }) (v := ?_) rfl (by kernel_rfl) (by kernel_rfl) (by kernel_rfl) (fun _ _ _ h => h) (Or.inl ⟨by rfl, ?_⟩) (by assumption) ?_
                rotate_left
                · (intro w9 hSw; (try dsimp only at hSw); go_simp; try with_reducible rfl)
                try simp only [Act.put, List.setIfInBounds_toArray, List.set_cons_zero, List.set_cons_succ]
                refine wpAnyH_take (i := 22) (oi := { dst := some 172, op := Op.binOp BinOp.eql 3 (Operand.tmp 166) (Operand.tmp 171) 3, type := 4, pos := "outright.go:174", after := #[{ on := 16, ground := Ground.data }, { on := 21, ground := Ground.data }, { on := 12, ground := Ground.guard }], guard := some (12, false) }) (v := ?_) rfl (by kernel_rfl) (by kernel_rfl) (by kernel_rfl) (fun _ _ _ h => h) (Or.inl ⟨by rfl, ?_⟩) (by assumption) ?_
                rotate_left
                · (intro w9 hSw; (try dsimp only at hSw); go_simp; try with_reducible rfl)
                try simp only [Act.put, List.setIfInBounds_toArray, List.set_cons_zero, List.set_cons_succ]
                refine wpAnyH_take (i := 23) (oi := { dst := some 173, op := Op.pick (Operand.tmp 162) (Operand.const (Value.bool true)) (Operand.tmp 172), type := 4, pos := "outright.go:174", after := #[{ on := 12, ground := Ground.data }, { on := 22, ground := Ground.data }], guard := none }) (v := ?_) rfl (by kernel_rfl) (by kernel_rfl) (by kernel_rfl) (fun _ _ _ h => h) (Or.inl ⟨by rfl, ?_⟩) (by assumption) ?_
                rotate_left
                · (intro w9 hSw; (try dsimp only at hSw); go_simp; try with_reducible rfl)
                try simp only [Act.put, List.setIfInBounds_toArray, List.set_cons_zero, List.set_cons_succ]
                refine wpAnyH_done (by kernel_rfl) ?_ _
                go_wp2_with fail
                go_meet
                exact ⟨by rw [HA3.out], false, rfl, Lib.hid ⟨fun h => (by cases h), fun _ => (by have := HD.out; omega)⟩, T6⟩
          · have hki : ((k : Int) < (T : Int)) = False := eq_false (by omega)
            have hkd : decide ((k : Int) < (T : Int)) = false := decide_eq_false (by omega)
            by_cases hd : j2 = n2
            · have hd' : ((j2 : Int) == (n2 : Int)) = true := by simp; omega
              have HD := Lib.hid hd
              clear hd
              refine wp_region_any (by kernel_rfl) ?_
              change wpAny _ _ _ _ _ _ _ (World.drew _)
              refine wpAny_take (i := 0) (oi := { dst := some 150, op := Op.move (Operand.tmp 17), type := 3, pos := "outright.go:174", after := #[], guard := none }) (v := ?_) rfl (by kernel_rfl) (by kernel_rfl) (by kernel_rfl) (fun _ _ _ h => h) (Or.inl ⟨by rfl, ?_⟩) ?_
              rotate_left
              · (intro w9; go_simp; try with_reducible rfl)
              try simp only [Act.put, List.setIfInBounds_toArray, List.set_cons_zero, List.set_cons_succ]
              refine wpAny_take (i := 1) (oi := { dst := some 151, op := Op.move (Operand.tmp 2), type := 47, pos := "outright.go:174", after := #[], guard := none }) (v := ?_) rfl (by kernel_rfl) (by kernel_rfl) (by kernel_rfl) (fun _ _ _ h => h) (Or.inl ⟨by rfl, ?_⟩) ?_
              rotate_left
              · (intro w9; go_simp; try with_reducible rfl)
              try simp only [Act.put, List.setIfInBounds_toArray, List.set_cons_zero, List.set_cons_succ]
              refine wpAny_take (i := 2) (oi := { dst := some 152, op := Op.call { callee := Callee.builtin Builtin.len, args := #[Operand.tmp 151], argTypes := #[47] }, type := 3, pos := "outright.go:174", after := #[{ on := 1, ground := Ground.data }], guard := none }) (v := ?_) rfl (by kernel_rfl) (by kernel_rfl) (by kernel_rfl) (fun _ _ _ h => h) (Or.inl ⟨by rfl, ?_⟩) ?_
              rotate_left
              · (intro w9; go_simp; try with_reducible rfl)
              try simp only [Act.put, List.setIfInBounds_toArray, List.set_cons_zero, List.set_cons_succ]
              refine wpAny_take (i := 3) (oi := { dst := some 153, op := Op.binOp BinOp.lss 3 (Operand.tmp 150) (Operand.tmp 152) 3, type := 4, pos := "outright.go:174", after := #[{ on := 0, ground := Ground.data }, { on := 2, ground := Ground.data }], guard := none }) (v := ?_) rfl (by kernel_rfl) (by kernel_rfl) (by kernel_rfl) (fun _ _ _ h => h) (Or.inl ⟨by rfl, ?_⟩) ?_
              rotate_left
              · (intro w9; go_simp; try with_reducible rfl)
              try simp only [Act.put, List.setIfInBounds_toArray, List.set_cons_zero, List.set_cons_succ]
              refine wpAny_take (i := 4) (oi := { dst := some 154, op := Op.move (Operand.tmp 153), type := 4, pos := "outright.go:174", after := #[{ on := 3, ground := Ground.data }], guard := none }) (v := ?_) rfl (by kernel_rfl) (by kernel_rfl) (by kernel_rfl) (fun _ _ _ h => h) (Or.inl ⟨by rfl, ?_⟩) ?_
              rotate_left
              · (intro w9; go_simp; try with_reducible rfl)
              try simp only [Act.put, List.setIfInBounds_toArray, List.set_cons_zero, List.set_cons_succ]
              refine wpAny_take (i := 5) (oi := { dst := some 155, op := Op.move (Operand.tmp 2), type := 47, pos := "outright.go:174", after := #[{ on := 4, ground := Ground.guard }], guard := some (4, true) }) (v := undef) rfl (by kernel_rfl) (by kernel_rfl) (by kernel_rfl) (fun _ _ _ h => h) (Or.inr ⟨by rfl, rfl⟩) ?_
              try simp only [Act.put, List.setIfInBounds_toArray, List.set_cons_zero, List.set_cons_succ]
              refine wpAny_take (i := 6) (oi := { dst := some 156, op := Op.move (Operand.tmp 17), type := 3, pos := "outright.go:174", after := #[{ on := 4, ground := Ground.guard }], guard := some (4, true) }) (v := undef) rfl (by kernel_rfl) (by kernel_rfl) (by kernel_rfl) (fun _ _ _ h => h) (Or.inr ⟨by rfl, rfl⟩) ?_
              try simp only [Act.put, List.setIfInBounds_toArray, List.set_cons_zero, List.set_cons_succ]
              refine wpAny_take (i := 7) (oi := { dst := some 157, op := Op.indexAddr 47 (Operand.tmp 155) (Operand.tmp 156), type := 0, pos := "outright.go:174", after := #[{ on := 5, ground := Ground.data }, { on := 6, ground := Ground.data }, { on := 4, ground := Ground.guard }], guard := some (4, true) }) (v := undef) rfl (by kernel_rfl) (by kernel_rfl) (by kernel_rfl) (fun _ _ _ h => h) (Or.inr ⟨by rfl, rfl⟩) ?_
              try simp only [Act.put, List.setIfInBounds_toArray, List.set_cons_zero, List.set_cons_succ]
              refine wpAny_take (i := 8) (oi := { dst := some 158, op := Op.load 3 (Operand.tmp 157), type := 3, pos := "outright.go:174", after := #[{ on := 7, ground := Ground.data }, { on := 4, ground := Ground.guard }], guard := some (4, true) }) (v := undef) rfl (by kernel_rfl) (by kernel_rfl) (by kernel_rfl) (fun _ _ _ h => h) (Or.inr ⟨by rfl, rfl⟩) ?_
              try simp only [Act.put, List.setIfInBounds_toArray, List.set_cons_zero, List.set_cons_succ]
              refine wpAny_take (i := 9) (oi := { dst := some 159, op := Op.binOp BinOp.rem 3 (Operand.tmp 158) (Operand.const (Value.int IntKind.i64 2)) 3, type := 3, pos := "outright.go:174", after := #[{ on := 8, ground := Ground.data }, { on := 4, ground := Ground.guard }], guard := some (4, true) }) (v := undef) rfl (by kernel_rfl) (by kernel_rfl) (by kernel_rfl) (fun _ _ _ h => h) (Or.inr ⟨by rfl, rfl⟩) ?_
              try simp only [Act.put, List.setIfInBounds_toArray, List.set_cons_zero, List.set_cons_succ]
              refine wpAny_take (i := 10) (oi := { dst := some 160, op := Op.binOp BinOp.eql 3 (Operand.tmp 159) (Operand.const (Value.int IntKind.i64 0)) 3, type := 4, pos := "outright.go:174", after := #[{ on := 9, ground := Ground.data }, { on := 4, ground := Ground.guard }], guard := some (4, true) }) (v := undef) rfl (by kernel_rfl) (by kernel_rfl) (by kernel_rfl) (fun _ _ _ h => h) (Or.inr ⟨by rfl, rfl⟩) ?_
              try simp only [Act.put, List.setIfInBounds_toArray, List.set_cons_zero, List.set_cons_succ]
              refine wpAny_take (i := 11) (oi := { dst := some 161, op := Op.pick (Operand.tmp 154) (Operand.tmp 160) (Operand.const (Value.bool false)), type := 4, pos := "outright.go:174", after := #[{ on := 4, ground := Ground.data }, { on := 10, ground := Ground.data }], guard := none }) (v := ?_) rfl (by kernel_rfl) (by kernel_rfl) (by kernel_rfl) (fun _ _ _ h => h) (Or.inl ⟨by rfl, ?_⟩) ?_
              rotate_left
              · (intro w9; go_simp; try with_reducible rfl)
              try simp only [Act.put, List.setIfInBounds_toArray, List.set_cons_zero, List.set_cons_succ]
              refine wpAny_take (i := 12) (oi := { dst := some 162, op := Op.move (Operand.tmp 161), type := 4, pos := "outright.go:174", after := #[{ on := 11, ground := Ground.data }, { on := 4, ground := Ground.chain }], guard := none }) (v := ?_) rfl (by kernel_rfl) (by kernel_rfl) (by kernel_rfl) (fun _ _ _ h => h) (Or.inl ⟨by rfl, ?_⟩) ?_
              rotate_left
              · (intro w9; go_simp; try with_reducible rfl)
              try simp only [Act.put, List.setIfInBounds_toArray, List.set_cons_zero, List.set_cons_succ]
              refine wpAny_take (i := 13) (oi := { dst := some 163, op := Op.move (Operand.tmp 13), type := 43, pos := "outright.go:174", after := #[{ on := 12, ground := Ground.guard }], guard := some (12, false) }) (v := ?_) rfl (by kernel_rfl) (by kernel_rfl) (by kernel_rfl) (fun _ _ _ h => h) (Or.inl ⟨by rfl, ?_⟩) ?_
              rotate_left
              · (intro w9; go_simp; try with_reducible rfl)
              try simp only [Act.put, List.setIfInBounds_toArray, List.set_cons_zero, List.set_cons_succ]
              refine wpAny_take (i := 14) (oi := { dst := some 164, op := Op.nilCheck (Operand.tmp 163), type := 0, pos := "outright.go:174", after := #[{ on := 13, ground := Ground.data }, { on := 12, ground := Ground.guard }], guard := some (12, false) }) (v := ?_) rfl (by kernel_rfl) (by kernel_rfl) (by kernel_rfl) (fun _ _ _ h => h) (Or.inl ⟨by rfl, ?_⟩) ?_
              rotate_left
              · (intro w9; go_simp; try with_reducible rfl)
              try simp only [Act.put, List.setIfInBounds_toArray, List.set_cons_zero, List.set_cons_succ]
              refine wpAny_take (i := 15) (oi := { dst := some 165, op := Op.fieldAddr 56 (Operand.tmp 164) 0, type := 0, pos := "outright.go:174", after := #[{ on := 14, ground := Ground.data }, { on := 12, ground := Ground.guard }], guard := some (12, false) }) (v := ?_) rfl (by kernel_rfl) (by kernel_rfl) (by kernel_rfl) (fun _ _ _ h => h) (Or.inl ⟨by rfl, ?_⟩) ?_
              rotate_left
              · (intro w9; go_simp; try with_reducible rfl)
              try simp only [Act.put, List.setIfInBounds_toArray, List.set_cons_zero, List.set_cons_succ]
              refine wpAny_take (i := 17) (oi := { dst := some 167, op := Op.move (Operand.tmp 13), type := 43, pos := "outright.go:174", after := #[{ on := 12, ground := Ground.guard }], guard := some (12, false) }) (v := ?_) rfl (by kernel_rfl) (by kernel_rfl) (by kernel_rfl) (fun _ _ _ h => h) (Or.inl ⟨by rfl, ?_⟩) ?_
              rotate_left
              · (intro w9; go_simp; try with_reducible rfl)
              try simp only [Act.put, List.setIfInBounds_toArray, List.set_cons_zero, List.set_cons_succ]
              refine wpAny_take (i := 18) (oi := { dst := some 168, op := Op.nilCheck (Operand.tmp 167), type := 0, pos := "outright.go:174", after := #[{ on := 17, ground := Ground.data }, { on := 12, ground := Ground.guard }], guard := some (12, false) }) (v := ?_) rfl (by kernel_rfl) (by kernel_rfl) (by kernel_rfl) (fun _ _ _ h => h) (Or.inl ⟨by rfl, ?_⟩) ?_
              rotate_left
              · (intro w9; go_simp; try with_reducible rfl)
              try simp only [Act.put, List.setIfInBounds_toArray, List.set_cons_zero, List.set_cons_succ]
              refine wpAny_take (i := 19) (oi := { dst := some 169, op := Op.fieldAddr 56 (Operand.tmp 168) 0, type := 0, pos := "outright.go:174", after := #[{ on := 18, ground := Ground.data }, { on := 12, ground := Ground.guard }], guard := some (12, false) }) (v := ?_) rfl (by kernel_rfl) (by kernel_rfl) (by kernel_rfl) (fun _ _ _ h => h) (Or.inl ⟨by rfl, ?_⟩) ?_
              rotate_left
              · (intro w9; go_simp; try with_reducible rfl)
              try simp only [Act.put, List.setIfInBounds_toArray, List.set_cons_zero, List.set_cons_succ]
              refine wpAny_ready (rs := [16]) (by kernel_rfl) (by simp) ?_
              refine AllReady.cons (o := { dst := some 166, op := Op.call { callee := Callee.value (Operand.func 31), args := #[Operand.tmp 165], argTypes := #[54] }, type := 3, pos := "outright.go:174", after := #[{ on := 15, ground := Ground.data }, { on := 12, ground := Ground.chain }, { on := 12, ground := Ground.guard }], guard := some (12, false) }) rfl (fun K hK => ?_) AllReady.nil
              go_simp
              refine (D2.out _ _ _ _ (ts_blank T4.out ((Keeps.refl _ _).drew))).mono ?_
              rintro e w5 ⟨rfl, rfl⟩
              refine hK _ _ ?_
              clear hK K
              try simp only [Act.put, List.setIfInBounds_toArray, List.set_cons_zero, List.set_cons_succ]
              refine wpAny_ready (rs := [20]) (by kernel_rfl) (by simp) ?_
              refine AllReady.cons (o := { dst := some 170, op := Op.call { callee := Callee.value (Operand.func 18), args := #[Operand.tmp 169], argTypes := #[54] }, type := 47, pos := "outright.go:174", after := #[{ on := 19, ground := Ground.data }, { on := 16, ground := Ground.chain }, { on := 12, ground := Ground.guard }], guard := some (12, false) }) rfl (fun K hK => ?_) AllReady.nil
              go_simp
              refine (U2.out _ _ _ _ (ts_blank T4.out ((Keeps.refl _ _).drew))).mono ?_
              rintro e w6 ⟨A6, c6, rfl, t6⟩
              have T6 := Lib.hid t6
              clear t6
              refine hK _ _ ?_
              clear hK K
              try simp only [Act.put, List.setIfInBounds_toArray, List.set_cons_zero, List.set_cons_succ]
              refine wpAny_take (i := 21) (oi := { dst := some 171, op := Op.call { callee := Callee.builtin Builtin.len, args := #[Operand.tmp 170], argTypes := #[47] }, type := 3, pos := "outright.go:174", after := #[{ on := 20, ground := Ground.data }, { on := 12, ground := Ground.guard }], guard := some (12, false) }) (v := ?_) rfl (by kernel_rfl) (by kernel_rfl) (by kernel_rfl) (fun _ _ _ h => h) (Or.inl ⟨by rfl, ?_⟩) ?_
              rotate_left
              · (intro w9; go_simp; try with_reducible rfl)
              try simp only [Act.put, List.setIfInBounds_toArray, List.set_cons_zero, List.set_cons_succ]
              refine wpAny_take (i := 22) (oi := { dst := some 172, op := Op.binOp BinOp.eql 3 (Operand.tmp 166) (Operand.tmp 171) 3, type := 4, pos := "outright.go:174", after := #[{ on := 16, ground := Ground.data }, { on := 21, ground := Ground.data }, { on := 12, ground := Ground.guard }], guard := some (12, false) }) (v := ?_) rfl (by kernel_rfl) (by kernel_rfl) (by kernel_rfl) (fun _ _ _ h => h) (Or.inl ⟨by rfl, ?_⟩) ?_
              rotate_left
              · (intro w9; go_simp; try with_reducible rfl)
              try simp only [Act.put, List.setIfInBounds_toArray, List.set_cons_zero, List.set_cons_succ]
              refine wpAny_take (i := 23) (oi := { dst := some 173, op := Op.pick (Operand.tmp 162) (Operand.const (Value.bool true)) (Operand.tmp 172), type := 4, pos := "outright.go:174", after := #[{ on := 12, ground := Ground.data }, { on := 22, ground := Ground.data }], guard := none }) (v := ?_) rfl (by kernel_rfl) (by kernel_rfl) (by kernel_rfl) (fun _ _ _ h => h) (Or.inl ⟨by rfl, ?_⟩) ?_
              rotate_left
              · (intro w9; go_simp; try with_reducible rfl)
              try simp only [Act.put, List.setIfInBounds_toArray, List.set_cons_zero, List.set_cons_succ]
              refine wpAny_done (by kernel_rfl) ?_ _
              go_wp2_with fail
              go_meet
              exact ⟨rfl, true, rfl, Lib.hid ⟨fun _ => .inr HD.out, fun h => by cases h⟩, T6⟩
            · have hd' : ((j2 : Int) == (n2 : Int)) = false := by simp; omega
              have HD := Lib.hid hd
              clear hd
              refine wp_region_any (by kernel_rfl) ?_
              change wpAny _ _ _ _ _ _ _ (World.drew _)
              refine wpAny_take (i := 0) (oi := { dst := some 150, op := Op.move (Operand.tmp 17), type := 3, pos := "outright.go:174", after := #[], guard := none }) (v := ?_) rfl (by kernel_rfl) (by kernel_rfl) (by kernel_rfl) (fun _ _ _ h => h) (Or.inl ⟨by rfl, ?_⟩) ?_
              rotate_left
              · (intro w9; go_simp; try with_reducible rfl)
              try simp only [Act.put, List.setIfInBounds_toArray, List.set_cons_zero, List.set_cons_succ]
              refine wpAny_take (i := 1) (oi := { dst := some 151, op := Op.move (Operand.tmp 2), type := 47, pos := "outright.go:174", after := #[], guard := none }) (v := ?_) rfl (by kernel_rfl) (by kernel_rfl) (by kernel_rfl) (fun _ _ _ h => h) (Or.inl ⟨by rfl, ?_⟩) ?_
              rotate_left
              · (intro w9; go_simp; try with_reducible rfl)
              try simp only [Act.put, List.setIfInBounds_toArray, List.set_cons_zero, List.set_cons_succ]
              refine wpAny_take (i := 2) (oi := { dst := some 152, op := Op.call { callee := Callee.builtin Builtin.len, args := #[Operand.tmp 151], argTypes := #[47] }, type := 3, pos := "outright.go:174", after := #[{ on := 1, ground := Ground.data }], guard := none }) (v := ?_) rfl (by kernel_rfl) (by kernel_rfl) (by kernel_rfl) (fun _ _ _ h => h) (Or.inl ⟨by rfl, ?_⟩) ?_
              rotate_left
              · (intro w9; go_simp; try with_reducible rfl)
              try simp only [Act.put, List.setIfInBounds_toArray, List.set_cons_zero, List.set_cons_succ]
              refine wpAny_take (i := 3) (oi := { dst := some 153, op := Op.binOp BinOp.lss 3 (Operand.tmp 150) (Operand.tmp 152) 3, type := 4, pos := "outright.go:174", after := #[{ on := 0, ground := Ground.data }, { on := 2, ground := Ground.data }], guard := none }) (v := ?_) rfl (by kernel_rfl) (by kernel_rfl) (by kernel_rfl) (fun _ _ _ h => h) (Or.inl ⟨by rfl, ?_⟩) ?_
              rotate_left
              · (intro w9; go_simp; try with_reducible rfl)
              try simp only [Act.put, List.setIfInBounds_toArray, List.set_cons_zero, List.set_cons_succ]
              refine wpAny_take (i := 4) (oi := { dst := some 154, op := Op.move (Operand.tmp 153), type := 4, pos := "outright.go:174", after := #[{ on := 3, ground := Ground.data }], guard := none }) (v := ?_) rfl (by kernel_rfl) (by kernel_rfl) (by kernel_rfl) (fun _ _ _ h => h) (Or.inl ⟨by rfl, ?_⟩) ?_
              rotate_left
              · (intro w9; go_simp; try with_reducible rfl)
              try simp only [Act.put, List.setIfInBounds_toArray, List.set_cons_zero, List.set_cons_succ]
              refine wpAny_take (i := 5) (oi := { dst := some 155, op := Op.move (Operand.tmp 2), type := 47, pos := "outright.go:174", after := #[{ on := 4, ground := Ground.guard }], guard := some (4, true) }) (v := undef) rfl (by kernel_rfl) (by kernel_rfl) (by kernel_rfl) (fun _ _ _ h => h) (Or.inr ⟨by rfl, rfl⟩) ?_
              try simp only [Act.put, List.setIfInBounds_toArray, List.set_cons_zero, List.set_cons_succ]
              refine wpAny_take (i := 6) (oi := { dst := some 156, op := Op.move (Operand.tmp 17), type := 3, pos := "outright.go:174", after := #[{ on := 4, ground := Ground.guard }], guard := some (4, true) }) (v := undef) rfl (by kernel_rfl) (by kernel_rfl) (by kernel_rfl) (fun _ _ _ h => h) (Or.inr ⟨by rfl, rfl⟩) ?_
              try simp only [Act.put, List.setIfInBounds_toArray, List.set_cons_zero, List.set_cons_succ]
              refine wpAny_take (i := 7) (oi := { dst := some 157, op := Op.indexAddr 47 (Operand.tmp 155) (Operand.tmp 156), type := 0, pos := "outright.go:174", after := #[{ on := 5, ground := Ground.data }, { on := 6, ground := Ground.data }, { on := 4, ground := Ground.guard }], guard := some (4, true) }) (v := undef) rfl (by kernel_rfl) (by kernel_rfl) (by kernel_rfl) (fun _ _ _ h => h) (Or.inr ⟨by rfl, rfl⟩) ?_
              try simp only [Act.put, List.setIfInBounds_toArray, List.set_cons_zero, List.set_cons_succ]
              refine wpAny_take (i := 8) (oi := { dst := some 158, op := Op.load 3 (Operand.tmp 157), type := 3, pos := "outright.go:174", after := #[{ on := 7, ground := Ground.data }, { on := 4, ground := Ground.guard }], guard := some (4, true) }) (v := undef) rfl (by kernel_rfl) (by kernel_rfl) (by kernel_rfl) (fun _ _ _ h => h) (Or.inr ⟨by rfl, rfl⟩) ?_
              try simp only [Act.put, List.setIfInBounds_toArray, List.set_cons_zero, List.set_cons_succ]
              refine wpAny_take (i := 9) (oi := { dst := some 159, op := Op.binOp BinOp.rem 3 (Operand.tmp 158) (Operand.const (Value.int IntKind.i64 2)) 3, type := 3, pos := "outright.go:174", after := #[{ on := 8, ground := Ground.data }, { on := 4, ground := Ground.guard }], guard := some (4, true) }) (v := undef) rfl (by kernel_rfl) (by kernel_rfl) (by kernel_rfl) (fun _ _ _ h => h) (Or.inr ⟨by rfl, rfl⟩) ?_
              try simp only [Act.put, List.setIfInBounds_toArray, List.set_cons_zero, List.set_cons_succ]
              refine wpAny_take (i := 10) (oi := { dst := some 160, op := Op.binOp BinOp.eql 3 (Operand.tmp 159) (Operand.const (Value.int IntKind.i64 0)) 3, type := 4, pos := "outright.go:174", after := #[{ on := 9, ground := Ground.data }, { on := 4, ground := Ground.guard }], guard := some (4, true) }) (v := undef) rfl (by kernel_rfl) (by kernel_rfl) (by kernel_rfl) (fun _ _ _ h => h) (Or.inr ⟨by rfl, rfl⟩) ?_
              try simp only [Act.put, List.setIfInBounds_toArray, List.set_cons_zero, List.set_cons_succ]
              refine wpAny_take (i := 11) (oi := { dst := some 161, op := Op.pick (Operand.tmp 154) (Operand.tmp 160) (Operand.const (Value.bool false)), type := 4, pos := "outright.go:174", after := #[{ on := 4, ground := Ground.data }, { on := 10, ground := Ground.data }], guard := none }) (v := ?_) rfl (by kernel_rfl) (by kernel_rfl) (by kernel_rfl) (fun _ _ _ h => h) (Or.inl ⟨by rfl, ?_⟩) ?_
              rotate_left
              · (intro w9; go_simp; try with_reducible rfl)
              try simp only [Act.put, List.setIfInBounds_toArray, List.set_cons_zero, List.set_cons_succ]
              refine wpAny_take (i := 12) (oi := { dst := some 162, op := Op.move (Operand.tmp 161), type := 4, pos := "outright.go:174", after := #[{ on := 11, ground := Ground.data }, { on := 4, ground := Ground.chain }], guard := none }) (v := ?_) rfl (by kernel_rfl) (by kernel_rfl) (by kernel_rfl) (fun _ _ _ h => h) (Or.inl ⟨by rfl, ?_⟩) ?_
              rotate_left
              · (intro w9; go_simp; try with_reducible rfl)
              try simp only [Act.put, List.setIfInBounds_toArray, List.set_cons_zero, List.set_cons_succ]
              refine wpAny_take (i := 13) (oi := { dst := some 163, op := Op.move (Operand.tmp 13), type := 43, pos := "outright.go:174", after := #[{ on := 12, ground := Ground.guard }], guard := some (12, false) }) (v := ?_) rfl (by kernel_rfl) (by kernel_rfl) (by kernel_rfl) (fun _ _ _ h => h) (Or.inl ⟨by rfl, ?_⟩) ?_
              rotate_left
              · (intro w9; go_simp; try with_reducible rfl)
              try simp only [Act.put, List.setIfInBounds_toArray, List.set_cons_zero, List.set_cons_succ]
              refine wpAny_take (i := 14) (oi := { dst := some 164, op := Op.nilCheck (Operand.tmp 163), type := 0, pos := "outright.go:174", after := #[{ on := 13, ground := Ground.data }, { on := 12, ground := Ground.guard }], guard := some (12, false) }) (v := ?_) rfl (by kernel_rfl) (by kernel_rfl) (by kernel_rfl) (fun _ _ _ h => h) (Or.inl ⟨by rfl, ?_⟩) ?_
              rotate_left
              · (intro w9; go_simp; try with_reducible rfl)
              try simp only [Act.put, List.setIfInBounds_toArray, List.set_cons_zero, List.set_cons_succ]
              refine wpAny_take (i := 15) (oi := { dst := some 165, op := Op.fieldAddr 56 (Operand.tmp 164) 0, type := 0, pos := "outright.go:174", after := #[{ on := 14, ground := Ground.data }, { on := 12, ground := Ground.guard }], guard := some (12, false) }) (v := ?_) rfl (by kernel_rfl) (by kernel_rfl) (by kernel_rfl) (fun _ _ _ h => h) (Or.inl ⟨by rfl, ?_⟩) ?_
              rotate_left
              · (intro w9; go_simp; try with_reducible rfl)
              try simp only [Act.put, List.setIfInBounds_toArray, List.set_cons_zero, List.set_cons_succ]
              refine wpAny_take (i := 17) (oi := { dst := some 167, op := Op.move (Operand.tmp 13), type := 43, pos := "outright.go:174", after := #[{ on := 12, ground := Ground.guard }], guard := some (12, false) }) (v := ?_) rfl (by kernel_rfl) (by kernel_rfl) (by kernel_rfl) (fun _ _ _ h => h) (Or.inl ⟨by rfl, ?_⟩) ?_
              rotate_left
              · (intro w9; go_simp; try with_reducible rfl)
              try simp only [Act.put, List.setIfInBounds_toArray, List.set_cons_zero, List.set_cons_succ]
              refine wpAny_take (i := 18) (oi := { dst := some 168, op := Op.nilCheck (Operand.tmp 167), type := 0, pos := "outright.go:174", after := #[{ on := 17, ground := Ground.data }, { on := 12, ground := Ground.guard }], guard := some (12, false) }) (v := ?_) rfl (by kernel_rfl) (by kernel_rfl) (by kernel_rfl) (fun _ _ _ h => h) (Or.inl ⟨by rfl, ?_⟩) ?_
              rotate_left
              · (intro w9; go_simp; try with_reducible rfl)
              try simp only [Act.put, List.setIfInBounds_toArray, List.set_cons_zero, List.set_cons_succ]
              refine wpAny_take (i := 19) (oi := { dst := some 169, op := Op.fieldAddr 56 (Operand.tmp 168) 0, type := 0, pos := "outright.go:174", after := #[{ on := 18, ground := Ground.data }, { on := 12, ground := Ground.guard }], guard := some (12, false) }) (v := ?_) rfl (by kernel_rfl) (by kernel_rfl) (by kernel_rfl) (fun _ _ _ h => h) (Or.inl ⟨by rfl, ?_⟩) ?_
              rotate_left
              · (intro w9; go_simp; try with_reducible rfl)
              try simp only [Act.put, List.setIfInBounds_toArray, List.set_cons_zero, List.set_cons_succ]
              refine wpAny_ready (rs := [16]) (by kernel_rfl) (by simp) ?_
              refine AllReady.cons (o := { dst := some 166, op := Op.call { callee := Callee.value (Operand.func 31), args := #[Operand.tmp 165], argTypes := #[54] }, type := 3, pos := "outright.go:174", after := #[{ on := 15, ground := Ground.data }, { on := 12, ground := Ground.chain }, { on := 12, ground := Ground.guard }], guard := some (12, false) }) rfl (fun K hK => ?_) AllReady.nil
              go_simp
              refine (D2.out _ _ _ _ (ts_blank T4.out ((Keeps.refl _ _).drew))).mono ?_
              rintro e w5 ⟨rfl, rfl⟩
              refine hK _ _ ?_
              clear hK K
              try simp only [Act.put, List.setIfInBounds_toArray, List.set_cons_zero, List.set_cons_succ]
              refine wpAny_ready (rs := [20]) (by kernel_rfl) (by simp) ?_
              refine AllReady.cons (o := { dst := some 170, op := Op.call { callee := Callee.value (Operand.func 18), args := #[Operand.tmp 169], argTypes := #[54] }, type := 47, pos := "outright.go:174", after := #[{ on := 19, ground := Ground.data }, { on := 16, ground := Ground.chain }, { on := 12, ground := Ground.guard }], guard := some (12, false) }) rfl (fun K hK => ?_) AllReady.nil
              go_simp
              refine (U2.out _ _ _ _ (ts_blank T4.out ((Keeps.refl _ _).drew))).mono ?_
              rintro e w6 ⟨A6, c6, rfl, t6⟩
              have T6 := Lib.hid t6
              clear t6
              refine hK _ _ ?_
              clear hK K
              try simp only [Act.put, List.setIfInBounds_toArray, List.set_cons_zero, List.set_cons_succ]
              refine wpAny_take (i := 21) (oi := { dst := some 171, op := Op.call { callee := Callee.builtin Builtin.len, args := #[Operand.tmp 170], argTypes := #[47] }, type := 3, pos := "outright.go:174", after := #[{ on := 20, ground := Ground.data }, { on := 12, ground := Ground.guard }], guard := some (12, false) }) (v := ?_) rfl (by kernel_rfl) (by kernel_rfl) (by kernel_rfl) (fun _ _ _ h => h) (Or.inl ⟨by rfl, ?_⟩) ?_
              rotate_left
              · (intro w9; go_simp; try with_reducible rfl)
              try simp only [Act.put, List.setIfInBounds_toArray, List.set_cons_zero, List.set_cons_succ]
              refine wpAny_take (i := 22) (oi := { dst := some 172, op := Op.binOp BinOp.eql 3 (Operand.tmp 166) (Operand.tmp 171) 3, type := 4, pos := "outright.go:174", after := #[{ on := 16, ground := Ground.data }, { on := 21, ground := Ground.data }, { on := 12, ground := Ground.guard }], guard := some (12, false) }) (v := ?_) rfl (by kernel_rfl) (by kernel_rfl) (by kernel_rfl) (fun _ _ _ h => h) (Or.inl ⟨by rfl, ?_⟩) ?_
              rotate_left
              · (intro w9; go_simp; try with_reducible rfl)
              try simp only [Act.put, List.setIfInBounds_toArray, List.set_cons_zero, List.set_cons_succ]
              refine wpAny_take (i := 23) (oi := { dst := some 173, op := Op.pick (Operand.tmp 162) (Operand.const (Value.bool true)) (Operand.tmp 172), type := 4, pos := "outright.go:174", after := #[{ on := 12, ground := Ground.data }, { on := 22, ground := Ground.data }], guard := none }) (v := ?_) rfl (by kernel_rfl) (by kernel_rfl) (by kernel_rfl) (fun _ _ _ h => h) (Or.inl ⟨by rfl, ?_⟩) ?_
              rotate_left
              · (intro w9; go_simp; try with_reducible rfl)
              try simp only [Act.put, List.setIfInBounds_toArray, List.set_cons_zero, List.set_cons_succ]
              refine wpAny_done (by kernel_rfl) ?_ _
              go_wp2_with fail
              go_meet
              exact ⟨rfl, false, rfl, Lib.hid ⟨fun h => (by cases h), fun _ => (by have := HD.out; omega)⟩, T6⟩
        case rest =>
          obtain ⟨rfl, bb, rfl, HB, T7⟩ := hcut
          clear a12 w12 aS wS kS T4 T3 T2
          cases bb with
          | true =>
            have HB1' := Lib.hid (HB.out.1 rfl)
            by_cases h1 : j1 < n1
            · have a1 : ((j1 : Int) < (j1 : Int) + 1) := by omega
              go_wp2_with (first | (have _z := T8; clear _z; go_at_call 31; refine (D1.out _ _ _ _ T8.out).mono ?_; rintro e w9 ⟨rfl, rfl⟩) | (go_at_call 31; refine (D1.out _ _ _ _ T7.out).mono ?_; rintro e w9 ⟨rfl, rfl⟩) | (go_at_call 19; refine (P1.out _ _ _ _ T7.out h1 hj2).mono ?_; rintro e w9 ⟨⟨v9, rfl⟩, t8⟩; have T8 := Lib.hid t8; clear t8) | (go_at_call 26; refine (RD.out _ _ _ _ T8.out (Nat.lt_succ_self _) h1).mono ?_; rintro e w9 ⟨⟨v9, rfl⟩, t9⟩; have T9 := Lib.hid t9; clear t9))
              go_roundg (S + 1 - (k + 1))
              case measure => omega
              case rel => exact ⟨k + 1, j1 + 1, j2, by go_num, by omega, by omega, Lib.hid (by have := HK.out; omega), by omega, by omega, T9⟩
            · have h1e : n1 = j1 := by omega
              have h1' : ¬ ((j1 : Int) < (j1 : Int)) := by omega
              have HE := Lib.hid h1e
              have T7e := Lib.hid (show TS x n1 j2 n1 wc from by rw [h1e]; exact T7.out)
              have hkT := Lib.hid (show k < T from by
                rcases HB1'.out with h9 | h9
                · exact h9
                · rcases HOR.out with h8 | h8 <;> omega)
              have D1e := Lib.hid (show ∀ j2 jr W, TS x n1 j2 jr W → Calls Tryd.prog 31 #[.pointer (some ⟨vb, 0, none⟩)] W fun e w' => e = .returned (.int .i64 (j1 : Int)) ∧ w' = W from fun j2 jr W h => by rw [← h1e]; exact D1.out _ _ _ _ h)
              clear h1 h1e
              go_wp2_with (first | (have _z := T8; clear _z; go_at_call 31; refine (D1e.out _ _ _ T8.out).mono ?_; rintro e w9 ⟨rfl, rfl⟩) | (go_at_call 31; refine (D1e.out _ _ _ T7e.out).mono ?_; rintro e w9 ⟨rfl, rfl⟩) | (go_at_call 19; refine (E1.out _ _ _ T7e.out).mono ?_; rintro e w9 ⟨⟨v9, rfl⟩, t8⟩; have T8 := Lib.hid t8; clear t8))
              go_roundg (S + 1 - (k + 1))
              case measure => omega
              case rel => exact ⟨k + 1, j1, j2, by go_num, by omega, by omega, Lib.hid (by have := HK.out; have := hkT.out; omega), by omega, by omega, Lib.hid (by have := T8.out; rw [HE.out] at this; exact this)⟩
          | false =>
            have h2 := HB.out.2 rfl
            go_wp2_with (go_at_call 19; refine (P2.out _ _ _ _ T7.out h2 hj1).mono ?_; rintro e w9 ⟨⟨v9, rfl⟩, t8⟩; have T8 := Lib.hid t8; clear t8)
            go_roundg (S + 1 - (k + 1))
            case measure => omega
            case rel => exact ⟨k + 1, j1, j2 + 1, by go_num, by omega, by omega, Lib.hid (by have := HK.out; omega), by omega, by omega, T8⟩
      | false =>
        have hno : ¬ (j1 < n1 ∨ j2 < n2) := fun h => by have h9 := HBB.out.2 h; cases h9
        have h1e : n1 = j1 := by
          rcases Nat.lt_or_ge j1 n1 with h | h
          · exact (hno (.inl h)).elim
          · omega
        have h2e : n2 = j2 := by
          rcases Nat.lt_or_ge j2 n2 with h | h
          · exact (hno (.inr h)).elim
          · omega
        have TF := Lib.hid (show TS x n1 n2 n1 wc from by rw [h1e, h2e]; exact T2.out)
        have E0 := Lib.hid (STE.out _ TF.out)
        clear hno h1e h2e HBB T2 TF HK
        go_wp2_with (first | (go_at_call 15; refine (num_calls _ _).mono ?_; rintro e w9 ⟨rfl, rfl⟩) | (have _z := E2; clear _z; go_at_call 20; refine (V2.out _ _ _ E2.out).mono ?_; rintro e w9 ⟨rfl, t9⟩; have E3 := Lib.hid t9; clear t9 E2) | (go_at_call 20; refine (V1.out _ _ _ E0.out).mono ?_; rintro e w9 ⟨rfl, t9⟩; have E1' := Lib.hid t9; clear t9 E0) | (have _z := E3; clear _z; go_at_call 22; refine (G2.out _ _ _ E3.out (by omega)).mono ?_; rintro e w9 ⟨Ay, cy, rfl, hcy, t9⟩; have E4 := Lib.hid t9; have HCY := Lib.hid hcy; clear t9 hcy E3) | (go_at_call 22; refine (G1.out _ _ _ E1'.out (by omega)).mono ?_; rintro e w9 ⟨Ax, cx, rfl, hcx, t9⟩; have E2 := Lib.hid t9; have HCX := Lib.hid hcx; clear t9 hcx E1') | (have _z := E7; clear _z; go_at_call 24; refine (same_yes (te_row E7.out 2 rfl) HCZ.out ((HB1.out.keeps (OLE.out _ _ _ E7.out) (by simp)).C (by have := HL12.out; omega)) HB1.out.2.1).mono ?_; rintro e w9 ⟨rfl, k9⟩; have E8 := Lib.hid (te_blank E7.out k9); clear k9 E7) | (have _z := E5; clear _z; go_at_call 24; refine (same_yes (te_row E5.out 1 rfl) HCY.out ((HB2.out.keeps (OLE.out _ _ _ E5.out) (by simp)).C (by have := HL12.out; omega)) HB2.out.2.1).mono ?_; rintro e w9 ⟨rfl, k9⟩; have E6 := Lib.hid (te_blank E5.out k9); clear k9 E5) | (go_at_call 24; refine (same_yes (te_row E4.out 0 rfl) HCX.out ((HB1.out.keeps (OLE.out _ _ _ E4.out) (by simp)).C (by have := HL12.out; omega)) HB1.out.2.1).mono ?_; rintro e w9 ⟨rfl, k9⟩; have E5 := Lib.hid (te_blank E4.out k9); clear k9 E4) | (go_at_call 27; refine (BY.out _ _ _ E6.out).mono ?_; rintro e w9 ⟨Az, cz, rfl, hcz, t9⟩; have E7 := Lib.hid t9; have HCZ := Lib.hid hcz; clear t9 hcz E6) | (go_at_call 30; refine (started_calls (HWW.out _ (OLE.out _ _ _ E8.out)).1 (HWW.out _ (OLE.out _ _ _ E8.out)).2.1 (HWW.out _ (OLE.out _ _ _ E8.out)).2.2.1 (HWW.out _ (OLE.out _ _ _ E8.out)).2.2.2).mono ?_; rintro e w9 ⟨rfl, k9⟩; have E9 := Lib.hid (te_blank E8.out k9); clear k9 E8))
        go_ret
        exact ⟨rfl, OLE.out _ _ _ E9.out⟩
theorem turns_all {W0 : World} (hw : 3 ≤ W0.heap.size) (hTab : TabW W0) (hT : ShaW W0) (hH : HalfW W0) (A1 : Option Addr) (c1 : Nat) (xs1 : List Int) (hb1 : BSl W0 A1 xs1.length c1 xs1) (hu1 : ∀ x ∈ xs1, 0 ≤ x ∧ x < 256) (A2 : Option Addr) (c2 : Nat) (xs2 : List Int) (hb2 : BSl W0 A2 xs2.length c2 xs2) (hu2 : ∀ x ∈ xs2, 0 ≤ x ∧ x < 256)
    (A3 : Option Addr) (c3 : Nat) (ts : List Int) (hb3 : ISl W0 A3 ts.length c3 ts) (hL3 : ts.length ≤ 17592186044416) :
    Calls Tryd.prog 4 #[.slice A1 xs1.length c1, .slice A2 xs2.length c2, .slice A3 ts.length c3] W0 fun e w' => e = .returned (.bool true) ∧ Keeps [] W0 w' := by
  by_cases h : 20000 < xs1.length ∨ 20000 < xs2.length
  · exact turns_long A1 A2 A3 _ _ _ _ _ _ h
  · exact turns_walk hw A1 c1 xs1 A2 c2 xs2 A3 c3 ts hb1 hb2 hb3 (by omega) (by omega) (by omega) hTab hT hH
end Go.Proofs.YtgcpcgcfpjolnaaDoor.G
-- The arguments of the laws on chains, opened; the tables.
namespace Go.Proofs.YtgcpcgcfpjolnaaDoor.G
open Go.ChangeShapes Go.WideShapes Go.ChangeAt Go.RowKit
set_option linter.unusedVariables false
set_option linter.unusedSimpArgs false
set_option maxRecDepth 10000
theorem laidOut : laidOutB Tryd.prog = true := by kernel_rfl
theorem gTab : Tryd.prog.globalNamed "math/bits.deBruijn64tab" = some 2 := by kernel_rfl
theorem gSha : Tryd.prog.globalNamed "kiln/sha.table" = some 1 := by kernel_rfl
theorem gHalf : Tryd.prog.globalNamed "kiln/wire.half" = some 0 := by kernel_rfl
theorem gTabType : (Tryd.prog.globals[2]?).map (·.type) = some 198 := by kernel_rfl
theorem gShaType : (Tryd.prog.globals[1]?).map (·.type) = some 189 := by kernel_rfl
theorem gHalfType : (Tryd.prog.globals[0]?).map (·.type) = some 204 := by kernel_rfl
theorem cellsTab : Tryd.prog.cellsOf 198 = 64 := by kernel_rfl
theorem cellsSha : Tryd.prog.cellsOf 189 = 64 := by kernel_rfl
theorem cellsHalf : Tryd.prog.cellsOf 204 = 16 := by kernel_rfl
theorem cells179 : Tryd.prog.cellsOf 179 = 1 := by kernel_rfl
theorem laid_tail {P : Program} {x : String × DataW Unit} {rest : List (String × DataW Unit)} {W : World} (h : laidMet P (x :: rest) W) : laidMet P rest W := by
  obtain ⟨ps, ⟨g', t', cs, fuel, p, q, h1, h2, h3, h4, h5, h6⟩, hn, hc⟩ := h
  subst h6
  exact ⟨q, h5, (List.nodup_append.1 hn).2.1, fun b off hm => hc b off (List.mem_append_right _ hm)⟩
theorem tab_of {W : World} (h : Lib.TabIs Tryd.prog W "math/bits.deBruijn64tab" .u8 (Lib.deBruijn64tab.map fun (x : Nat) => (x : Int))) : TabW W := fun j hj => by
  have hl : (Lib.deBruijn64tab.map fun (x : Nat) => (x : Int)).length = 64 := rfl
  have := h.cell gTab j (by omega)
  rw [this]
  simp [List.getD_eq_getElem?_getD, List.getElem?_map]
  cases Lib.deBruijn64tab[j]? <;> rfl
theorem sha_of {W : World} (h : Lib.TabIs Tryd.prog W "kiln/sha.table" .u32 shaT) : ShaW W := fun j hj => h.cell gSha j (by have : shaT.length = 64 := rfl; omega)
theorem half_of {W : World} (h : Lib.TabIs Tryd.prog W "kiln/wire.half" .u32 halfL) : HalfW W := fun j hj => h.cell gHalf j (by have : halfL.length = 16 := rfl; omega)
def layTab : Obj → Obj
  | .cells _ t frozen => .cells (Lib.deBruijn64tab.map fun (x : Nat) => Value.int .u8 (x : Int)).toArray t frozen
  | o => o
def laySha : Obj → Obj
  | .cells _ t frozen => .cells (shaT.map (Value.int .u32)).toArray t frozen
  | o => o
def layHalf : Obj → Obj
  | .cells _ t frozen => .cells (halfL.map (Value.int .u32)).toArray t frozen
  | o => o
theorem cells5 : Tryd.prog.cellsOf 5 = 1 := by kernel_rfl
theorem cells3 : Tryd.prog.cellsOf 3 = 1 := by kernel_rfl
theorem spot_none {w : World} {a : Addr} {v : Value} (h : w.cell? a = some v) : a.spot = none := by
  unfold World.cell? at h
  split at h
  · split at h
    · cases h
    · rename_i hs
      simpa using hs
  · cases h
theorem add_off (b off k : Nat) : (⟨b, off, none⟩ : Addr).add k = ⟨b, off + k, none⟩ := by unfold Addr.add; split <;> simp_all
section
variable {H : Type} {enc : TypeId × Value → H}
theorem okWide_addr {T E : TypeId} (hT : Tryd.prog.underlying T = some (.slice E)) {W : World} {base : Nat} {r : Reach} {a : Addr} {len cap : Nat} (hv : Value.okWide Tryd.prog W r base T (.slice (some a) len cap)) : a.spot = none ∧ a.block < W.heap.size := by
  have h1 : Cell.okWide Tryd.prog W r base T (.slice (some a) len cap) := by
    unfold Value.okWide at hv
    rw [hT] at hv
    exact hv
  have h2 : Cell.ok Tryd.prog W r base T (.slice (some a) len cap) := by
    unfold Cell.okWide at h1
    rw [hT] at h1
    exact h1
  unfold Cell.ok at h2
  rw [hT] at h2
  obtain ⟨_, _, _, h3, row, cells, h4, _⟩ := h2
  refine ⟨h3, ?_⟩
  unfold World.shape? at h4
  rcases Nat.lt_or_ge a.block W.heap.size with h5 | h5
  · exact h5
  · rw [Array.getElem?_eq_none h5] at h4
    simp at h4
theorem open_rows {k : IntKind} {T E : TypeId} (hT : Tryd.prog.underlying T = some (.slice E)) (hE : Tryd.prog.underlying E = some (.int k)) (hC : Tryd.prog.cellsOf E = 1) {W : World} {base : Nat} {r : Reach} {v : Value} {d : DataW H} {p : List MemPlace}
    (hv : Value.okWide Tryd.prog W r base T v) (h : DataW.Trod enc Tryd.prog W 0 (fun _ => true) true T v d p) :
    ∃ (ao : Option Addr) (l : List Int) (c : Nat), v = .slice ao l.length c ∧ l.length ≤ c ∧ c ≤ maxLen ∧ (∀ x ∈ l, (Lit.int k x).wf = true) ∧ ((ao = none ∧ l = []) ∨ ∃ g o, ao = some ⟨g, o, none⟩ ∧ g < W.heap.size ∧ W.rangeAt g o (l.map (Value.int k))) ∧ (l = [] ∨ ∃ es sp, d = .slice es sp ∧ es.length = l.length) := by
  obtain ⟨fuel, hx⟩ := h
  rcases open_ints hT hE hC hx with ⟨h1, _⟩ | ⟨a, len, cap, zs, h1, _, h2, h3, h4, hd, h5, h6⟩
  · obtain ⟨a, n, c, rfl⟩ := okWide_slice hT hv
    simp [Value.cells] at h1
    obtain ⟨rfl, rfl, rfl⟩ := h1
    exact ⟨none, [], 0, rfl, Nat.le_refl _, Nat.zero_le _, (fun x hx => by cases hx), .inl ⟨rfl, rfl⟩, .inl rfl⟩
  · obtain ⟨a', n', c', rfl⟩ := okWide_slice hT hv
    simp [Value.cells] at h1
    obtain ⟨rfl, rfl, rfl⟩ := h1
    obtain ⟨g, o, sp⟩ := a
    obtain ⟨h7, h8⟩ := okWide_addr hT hv
    simp only at h7 h8
    subst h7
    simp only [if_true] at h4
    have hlen : (zs.take n').length = n' := by rw [List.length_take]; omega
    refine ⟨some ⟨g, o, none⟩, zs.take n', c', by rw [hlen], by rw [hlen]; exact h2, h3, fun x hx => h6 x (List.mem_of_mem_take hx), .inr ⟨g, o, rfl, h8, fun j u hj => ?_⟩, .inr ⟨_, _, (Prod.mk.inj hd).1, by have e9 := hlen; rw [List.length_take] at e9; simp [lits, e9]⟩⟩
    have hjl : j < n' := by
      have := (List.getElem?_eq_some_iff.1 hj).1
      rw [List.length_map, hlen] at this
      exact this
    have h9 := h5 j (by omega)
    rw [add_off] at h9
    rw [h9]
    rw [List.getElem?_map, List.getElem?_take, if_pos hjl, List.getElem?_eq_getElem (by omega)] at hj
    rw [List.getD_eq_getElem?_getD, List.getElem?_eq_getElem (by omega)]
    exact hj
theorem open_bytes {W : World} {base : Nat} {r : Reach} {v : Value} {d : DataW H} {p : List MemPlace} (hv : Value.okWide Tryd.prog W r base 22 v) (h : DataW.Trod enc Tryd.prog W 0 (fun _ => true) true 22 v d p) :
    ∃ (ao : Option Addr) (l : List Int) (c : Nat), v = .slice ao l.length c ∧ BSl W ao l.length c l ∧ (∀ x ∈ l, 0 ≤ x ∧ x < 256) ∧ (l = [] ∨ ∃ es sp, d = .slice es sp ∧ es.length = l.length) := by
  obtain ⟨ao, l, c, rfl, h1, h2, h3, h4, h9⟩ := open_rows Tryd.underlying22 Tryd.underlying5 cells5 hv h
  refine ⟨ao, l, c, rfl, ⟨rfl, h1, ?_⟩, fun x hx => by have := bounds_u8 (h3 x hx); omega, h9⟩
  rcases h4 with ⟨rfl, rfl⟩ | ⟨g, o, rfl, h5, h6⟩
  · exact .inl ⟨rfl, rfl, rfl⟩
  · exact .inr ⟨g, o, rfl, h6, rfl, h5⟩
theorem open_nums {W : World} {base : Nat} {r : Reach} {v : Value} {d : DataW H} {p : List MemPlace} (hv : Value.okWide Tryd.prog W r base 47 v) (h : DataW.Trod enc Tryd.prog W 0 (fun _ => true) true 47 v d p) :
    ∃ (ao : Option Addr) (l : List Int) (c : Nat), v = .slice ao l.length c ∧ ISl W ao l.length c l ∧ (l = [] ∨ ∃ es sp, d = .slice es sp ∧ es.length = l.length) := by
  obtain ⟨ao, l, c, rfl, h1, h2, h3, h4, h9⟩ := open_rows Tryd.underlying47 Tryd.underlying3 cells3 hv h
  refine ⟨ao, l, c, rfl, ⟨rfl, h1, ?_⟩, h9⟩
  rcases h4 with ⟨rfl, rfl⟩ | ⟨g, o, rfl, h5, h6⟩
  · exact .inl ⟨rfl, rfl, rfl⟩
  · exact .inr ⟨g, o, rfl, h6, rfl, h5⟩
theorem bytes3 : Tryd.prog.bytesOf 3 = 8 := by kernel_rfl
theorem nums_short {ts : List TypeId} {ds : List (DataW H)} (hz : (DataW.weightsEach Tryd.prog ts ds).all (· ≤ reachBytes) = true) {j : Nat} {d : DataW H} {l : List Int} (ht : ts[j]? = some 47) (hd : ds[j]? = some d) (h : l = [] ∨ ∃ es sp, d = .slice es sp ∧ es.length = l.length) : l.length ≤ 17592186044416 := by
  rcases h with rfl | ⟨es, sp, rfl, he⟩
  · simp
  · have h1 := sized_slice hz ht hd Tryd.underlying47
    rw [bytes3] at h1
    unfold reachBytes at h1
    omega
end
end Go.Proofs.YtgcpcgcfpjolnaaDoor.G
set_option linter.unusedVariables false
set_option linter.unusedSimpArgs false
namespace Go.Proofs.YtgcpcgcfpjolnaaDoor.chainTurns
open Go.ChangeShapes Go.WideShapes Go.ChangeAt Go.RowKit

theorem own : ownKnob Tryd.prog.godebug = none := by kernel_rfl
theorem tables {W : World} (h : laidMetH Tryd.prog Rows.chainTurnsRow.laid W) : TabW W ∧ G.ShaW W ∧ G.HalfW W := by
  have h0 : laidMetH Tryd.prog (_ :: _ :: _ :: []) W := h
  exact ⟨G.tab_of (Lib.tabIs_of_head G.gTab G.gTabType Tryd.underlying198 Tryd.underlying5 G.cells5 G.cellsTab h0), G.sha_of (Lib.tabIs_of_head G.gSha G.gShaType Tryd.underlying189 Tryd.underlying179 G.cells179 G.cellsSha (G.laid_tail h0)), G.half_of (Lib.tabIs_of_head G.gHalf G.gHalfType Tryd.underlying204 Tryd.underlying179 G.cells179 G.cellsHalf (G.laid_tail (G.laid_tail h0)))⟩

set_option maxRecDepth 100000 in
theorem contract (H : Type) (enc : TypeId × Value → H) (W : World) (base : Nat) (args : Array Value) (ds gs : List (DataW H)) (before : List MemPlace)
    (hval : ∀ (j : Nat) t v, Tryd.f4.params[j]? = some t → args[j]? = some v → Value.okWide Tryd.prog W .any base t v)
    (hW : DataW.Whole enc Tryd.prog Tryd.f4.params.toList Rows.chainTurnsSpec.vars false W args.toList ds gs before) (hL : laidMetH Tryd.prog Rows.chainTurnsRow.laid W)
    (hz : (DataW.weightsEach Tryd.prog (Tryd.f4.params.toList ++ (OpenSpec.ofChange Rows.chainTurnsSpec).bare.plain.varTypes Tryd.prog) (ds ++ gs)).all (· ≤ reachBytes) = true) :
    Calls Tryd.prog 4 args W fun e W' => ∃ v, e = .returned v ∧ Rows.chainTurnsSpec.post enc Tryd.prog Tryd.f4 false true false false W args v W' := by
  have hW' := hW
  obtain ⟨p, q, hA0, hV, rfl, hfz, hnd⟩ := hW
  have hA : DataW.TrodAll enc Tryd.prog W 0 (fun _ => true) true Tryd.f4.params.toList args.toList ds p := hA0
  rw [Tryd.params4] at hA hval hz
  obtain ⟨v0, vs0, d0, ds0, p0, q0, hargs, rfl, rfl, h0, r0⟩ := trodAll_cons hA
  obtain ⟨v1, vs1, d1, ds1, p1, q1, rfl, rfl, rfl, h1, r1⟩ := trodAll_cons r0
  obtain ⟨v2, vs2, d2, ds2, p2, q2, rfl, rfl, rfl, h2, r2⟩ := trodAll_cons r1
  obtain ⟨rfl, rfl, rfl⟩ := trodAll_nil r2
  obtain rfl : args = #[v0, v1, v2] := by cases args; simp_all
  obtain ⟨rfl, rfl⟩ := trodVars_none hV
  obtain ⟨o0, l0, c0, rfl, e0, u0, g0⟩ := G.open_bytes (hval 0 22 v0 rfl rfl) h0
  obtain ⟨o1, l1, c1, rfl, e1, u1, g1⟩ := G.open_bytes (hval 1 22 v1 rfl rfl) h1
  obtain ⟨o2, l2, c2, rfl, e2, g2⟩ := G.open_nums (hval 2 47 v2 rfl rfl) h2
  have s2 := G.nums_short hz (j := 2) rfl rfl g2
  clear hA0
  obtain ⟨t1, t2, t3⟩ := tables hL
  have hw3 : 3 ≤ W.heap.size := by have := World.block_lt_of_cell? W ⟨2, 0, none⟩ (t1 0 (by omega)); simp only at this; omega
  refine (G.turns_all hw3 t1 t2 t3 o0 c0 l0 e0 u0 o1 c1 l1 e1 u1 o2 c2 l2 e2 s2).mono fun e W' ⟨he, hg⟩ => ?_
  subst he
  exact ⟨_, rfl, law_post G.laidOut Tryd.underlying4 (by kernel_rfl) (fun t ht => by rw [Tryd.params4] at ht; simp at ht; rcases ht with rfl | rfl <;> exact ⟨by kernel_rfl, of_decide_eq_true (by kernel_rfl)⟩) rfl rfl hW' hg.below⟩

/-- A WORLD FOR THE WITNESS: the settled one, the tables (blocks 0, 1 and 2) holding what their texts lay. -/
noncomputable def laidWorld (os : Os) : World :=
  { World.holding Tryd.prog os ⟨#[], #[], []⟩ with heap := (((World.holding Tryd.prog os ⟨#[], #[], []⟩).heap.modify 0 G.layHalf).modify 1 G.laySha).modify 2 G.layTab }
theorem laid_met (os : Os) : laidMet Tryd.prog Rows.chainTurnsRow.laid ((laidWorld os).forCall (fun _ _ => 0) ⟨#[], #[Value.slice none 0 0, Value.slice none 0 0, Value.slice none 0 0], []⟩).memory :=
  laidMet_of_run' 8 (by kernel_rfl) (by kernel_rfl)
theorem reads (os : Os) {H : Type} (enc : TypeId × Value → H) : ∃ places, DataW.whole enc Tryd.prog ((laidWorld os).forCall (fun _ _ => 0) ⟨#[], #[Value.slice none 0 0, Value.slice none 0 0, Value.slice none 0 0], []⟩).memory Tryd.f4.params.toList Rows.chainTurnsSpec.vars false #[Value.slice none 0 0, Value.slice none 0 0, Value.slice none 0 0].toList 8 = some ([.nil, .nil, .nil], [], places) :=
  ⟨[], by kernel_rfl⟩

set_option maxRecDepth 100000 in
theorem lifted (os : Os) (started : os.Started) (H : Type) (enc : TypeId × Value → H) (F : Stop.Interp) :
    ReturnsInHanded {} Tryd.checked os 4 .any ((OpenSpec.ofChange Rows.chainTurnsSpec).preRow enc Tryd.prog Tryd.f4 Rows.chainTurnsRow.domain false Rows.chainTurnsRow.laid) (((OpenSpec.ofChange Rows.chainTurnsSpec).at F).post enc Tryd.prog Tryd.f4 false true false false) := by
  obtain ⟨places, hx⟩ := reads os enc
  refine returnsInHanded_of_row (C := Tryd.checked) (s := OpenSpec.ofChange Rows.chainTurnsSpec) own started (by kernel_rfl) Tryd.func4
    (witness_row_at (enc := enc) (C := Tryd.checked) false (laidWorld os) #[Value.slice none 0 0, Value.slice none 0 0, Value.slice none 0 0] rfl (by kernel_rfl) (by kernel_rfl) (by kernel_rfl)
      (OpenSpec.preRow_of_cond 8 hx (by kernel_rfl) (fun k hk => by cases hk) (by kernel_rfl) (laid_met os))) ?_
  intro W base args ds gs before hval hW _ _ hz hL _ _
  exact contract H enc W base args ds gs before hval hW hL hz

theorem said : Rows.ChainTurnsSaid :=
  OpenClaim.holds_of_cond 4 Tryd.f4 rfl rfl rfl rfl rfl rfl rfl ⟨rfl, rfl, rfl, rfl, rfl⟩ rfl rfl rfl rfl rfl (by kernel_rfl) Tryd.func4 (by kernel_rfl)
    (of_decide_eq_true (by kernel_rfl)) (by unfold Func.isWrapper; first | (rw [if_pos (by decide +kernel)]; kernel_rfl) | (rw [if_neg (by decide +kernel)]; exact ⟨rfl, rfl⟩))
    (fun os started H enc _ F => by rw [OpenClaim.pre_eq_preRow]; exact lifted os started H enc F)

/-- No parameter wants a stand-in; the program's own looks are off: what the card asks. -/
theorem plain (f : FuncId) (fn : Func) (hf : Tryd.pinned.checked.prog.funcNamed "kiln/kilnlaw6.ChainTurns" = some f) (hfn : Tryd.pinned.checked.prog.funcs[f]? = some fn) :
    false = Tryd.pinned.checked.prog.looks [] ∧ ∀ (j : Nat) t, fn.params[j]? = some t → Tryd.pinned.checked.prog.wantsStandIn t = false := by
  obtain rfl : f = 4 := Option.some.inj ((show Tryd.prog.funcNamed "kiln/kilnlaw6.ChainTurns" = some 4 by kernel_rfl).symm.trans hf) |>.symm
  obtain rfl : fn = Tryd.f4 := (Option.some.inj (Tryd.func4.symm.trans hfn)).symm
  refine ⟨by kernel_rfl, fun j t ht => ?_⟩
  rw [Tryd.params4] at ht
  have hm := Array.mem_of_getElem? ht
  simp at hm
  rcases hm with rfl | rfl
  · exact (show Tryd.prog.wantsStandIn 22 = false by kernel_rfl)
  · exact (show Tryd.prog.wantsStandIn 47 = false by kernel_rfl)

theorem card : Rows.ChainTurnsCardSaid :=
  Claim7.holds_tied_plain_at .later [] _ _ _ _ said (fun _ h => by cases h) (by kernel_rfl) (fun _ h => by cases h) chainTurns_row_tie rfl ⟨rfl, rfl⟩ (by kernel_rfl) rfl plain (by kernel_rfl)
end Go.Proofs.YtgcpcgcfpjolnaaDoor.chainTurns
