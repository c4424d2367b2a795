import Derived.Test.YtgcpcgcfpjolnaaDoorPG
import Derived.Test.YtgcpcgcfpjolnaaDoorPK
import Derived.Great.BuildSlice
-- ChainTurns: what stands ahead of the walk.
namespace Go.Proofs.YtgcpcgcfpjolnaaDoor.G
open Go.RowKit Go.Proofs.YtgcpcgcfpjolnaaDoorW.PrintWords Go.Proofs.YtgcpcgcfpjolnaaDoorW.PrintLast Go.Proofs.YtgcpcgcfpjolnaaDoorW.PrintMore
set_option linter.unusedVariables false
set_option linter.unusedSimpArgs false
set_option maxRecDepth 10000
theorem nSec_20000 (L : Nat) (h : L ≤ 20000) : 1 ≤ nSec L ∧ nSec L ≤ 42 := by unfold nSec; omega
/-- numbers that a slice shows -/
def ISl (w : World) (A : Option Addr) (L c : Nat) (xs : List Int) : Prop := xs.length = L ∧ L ≤ c ∧ ((A = none ∧ xs = [] ∧ L = 0) ∨ ∃ g o, A = some ⟨g, o, none⟩ ∧ w.rangeAt g o (ints xs) ∧ xs.length = L ∧ g < w.heap.size)
theorem ISl.keeps {w w' : World} {S : List Nat} {A : Option Addr} {L c : Nat} {xs : List Int} (h : ISl w A L c xs) (hk : Keeps S w w') (hn : ∀ g o, A = some ⟨g, o, none⟩ → g ∉ S) : ISl w' A L c xs := by
  refine ⟨h.1, h.2.1, ?_⟩
  rcases h.2.2 with h1 | ⟨g, o, rfl, h2, h3, h4⟩
  · exact .inl h1
  · exact .inr ⟨g, o, rfl, range_keeps h2 hk (hn g o rfl), h3, Nat.lt_of_lt_of_le h4 hk.size⟩
/-- two lists of numbers that have nothing in common, out of one space -/
theorem two_outs {fr hi k1 k2 : Nat} {is : List Bool} (hl : is.length = hi - fr) (hf : fr < hi) (h12 : k1 + k2 ≤ (trues is).length) :
    takeAllOk is (k1 : Int) = true ∧ takeAllOk (takeAllS is (k1 : Int)) (k2 : Int) = true ∧ (takeAllS is (k1 : Int)).length = hi - fr ∧ (∀ n ∈ takeAllOut fr is (k1 : Int), n ∉ takeAllOut fr (takeAllS is (k1 : Int)) (k2 : Int)) := by
  have o1 : takeAllOk is (k1 : Int) = true := by simp [takeAllOk]; omega
  have e1 : takeAllS is (k1 : Int) = clear is ((trues is).take k1) := by unfold takeAllS; rw [if_pos o1]; rfl
  have e2 : trues (takeAllS is (k1 : Int)) = (trues is).drop k1 := by rw [e1, trues_clear_take]
  have o2 : takeAllOk (takeAllS is (k1 : Int)) (k2 : Int) = true := by simp [takeAllOk, e2]; omega
  refine ⟨o1, o2, by rw [e1, clear_length]; exact hl, fun n h1 h2 => ?_⟩
  unfold takeAllOut at h1 h2
  rw [if_pos o1] at h1
  rw [if_pos o2, e2] at h2
  obtain ⟨m1, hm1, rfl⟩ := List.mem_map.1 h1
  obtain ⟨m2, hm2, he⟩ := List.mem_map.1 h2
  have e3 : m2 = m1 := by omega
  subst e3
  have hd := trues_nodup is
  rw [← List.take_append_drop k1 (trues is)] at hd
  exact (List.nodup_append.1 hd).2.2 m2 (by simpa using hm1) m2 (List.mem_of_mem_take hm2) rfl
/-- two chains under way on one disk -/
structure Two (d0 d : DK) (N1 b1 N2 b2 : List Int) (j1 j2 jr : Nat) : Prop where
  ok : DOk d
  w1 : Wrote d N1 b1 j1
  w2 : Wrote d N2 b2 j2
  db : d.db = d0.db
  last : d.last = d0.last
  rd : d.rd = d0.rd + (jr : Int)
  wr : d.wr = d0.wr + (j1 : Int) + (j2 : Int)
def TG (d0 d : DK) (N1 b1 N2 b2 : List Int) (vb wb rb : Nat) (nv1 bv1 nv2 bv2 nv bv : Value) (s : SI) (j1 j2 jr : Nat) : List (List Thing) :=
  [DL d, WLs d0.db (WJ vb N1 b1 nv1 bv1 j1), WLs d0.db (WJ wb N2 b2 nv2 bv2 j2), RLs d0.db (RJ rb 5 N1 b1 nv bv jr), [spT s]]
structure TX where
  W0 : World
  d0 : DK
  N1 : List Int
  b1 : List Int
  N2 : List Int
  b2 : List Int
  vb : Nat
  wb : Nat
  rb : Nat
  nv1 : Value
  bv1 : Value
  nv2 : Value
  bv2 : Value
  s : SI
/-- what lies in memory when j1, j2 sectors are written and jr read -/
def TS (x : TX) (j1 j2 jr : Nat) (W : World) : Prop := ∃ d nv bv, Two x.d0 d x.N1 x.b1 x.N2 x.b2 j1 j2 jr ∧ Moves [] (TG x.d0 d x.N1 x.b1 x.N2 x.b2 x.vb x.wb x.rb x.nv1 x.bv1 x.nv2 x.bv2 nv bv x.s j1 j2 jr).flatten x.W0 W
structure TOk (x : TX) : Prop where
  n1 : Nm x.d0 5 x.N1 x.b1
  n2 : Nm x.d0 5 x.N2 x.b2
  ap : ∀ n ∈ x.N1, n ∉ x.N2
  rd : x.d0.rd = 0
  wr : x.d0.wr = 0
  l1 : x.N1.length ≤ 42
  l2 : x.N2.length ≤ 42
  H : HalfW x.W0
  T : ShaW x.W0
theorem Two.nm {d0 d : DK} {N1 b1 N2 b2 : List Int} {j1 j2 jr : Nat} (h : Two d0 d N1 b1 N2 b2 j1 j2 jr) {N bs : List Int} (nm : Nm d0 5 N bs) : Nm d 5 N bs := ⟨nm.len, nm.le, nm.nd, nm.hp, nm.lo, by rw [h.last]; exact nm.hi⟩
theorem ts_blank {x : TX} {j1 j2 jr : Nat} {W W' : World} (h : TS x j1 j2 jr W) (hk : Keeps [] W W') : TS x j1 j2 jr W' := by
  obtain ⟨d, nv, bv, h1, m⟩ := h
  exact ⟨d, nv, bv, h1, m.blank hk⟩
theorem ts_done1 {x : TX} {j1 j2 jr : Nat} {W : World} (h : TS x j1 j2 jr W) : Calls Tryd.prog 31 #[.pointer (some ⟨x.vb, 0, none⟩)] W fun e w' => e = .returned (.int .i64 (j1 : Int)) ∧ w' = W := by
  obtain ⟨d, nv, bv, h1, m⟩ := h
  exact wdone_act m 1 rfl
theorem ts_done2 {x : TX} {j1 j2 jr : Nat} {W : World} (h : TS x j1 j2 jr W) : Calls Tryd.prog 31 #[.pointer (some ⟨x.wb, 0, none⟩)] W fun e w' => e = .returned (.int .i64 (j2 : Int)) ∧ w' = W := by
  obtain ⟨d, nv, bv, h1, m⟩ := h
  exact wdone_act m 2 rfl
theorem ts_nums1 {x : TX} (ok : TOk x) {j1 j2 jr : Nat} {W : World} (h : TS x j1 j2 jr W) : Calls Tryd.prog 18 #[.pointer (some ⟨x.vb, 0, none⟩)] W fun e w' => ∃ A c, e = .returned (.slice A x.N1.length c) ∧ TS x j1 j2 jr w' := by
  obtain ⟨d, nv, bv, h1, m⟩ := h
  refine (wnums_act m 1 rfl (by have := ok.l1; omega)).mono ?_
  rintro e w' ⟨A, c, rfl, hc, m'⟩
  exact ⟨A, c, rfl, d, nv, bv, h1, m'.shed⟩
theorem ts_nums2 {x : TX} (ok : TOk x) {j1 j2 jr : Nat} {W : World} (h : TS x j1 j2 jr W) : Calls Tryd.prog 18 #[.pointer (some ⟨x.wb, 0, none⟩)] W fun e w' => ∃ A c, e = .returned (.slice A x.N2.length c) ∧ TS x j1 j2 jr w' := by
  obtain ⟨d, nv, bv, h1, m⟩ := h
  refine (wnums_act m 2 rfl (by have := ok.l2; omega)).mono ?_
  rintro e w' ⟨A, c, rfl, hc, m'⟩
  exact ⟨A, c, rfl, d, nv, bv, h1, m'.shed⟩
theorem ts_step1 {x : TX} (ok : TOk x) {j1 j2 jr : Nat} {W : World} (h : TS x j1 j2 jr W) (hj : j1 < x.N1.length) (hj2 : j2 ≤ x.N2.length) : Calls Tryd.prog 19 #[.pointer (some ⟨x.vb, 0, none⟩)] W fun e w' => (∃ v, e = .returned v) ∧ TS x (j1 + 1) j2 jr w' := by
  obtain ⟨d, nv, bv, h1, m⟩ := h
  refine (wstep_act m 0 1 (by decide) rfl rfl h1.db h1.ok (h1.nm ok.n1) hj (by have := h1.wr; have := ok.wr; have := ok.l1; have := ok.l2; omega) ok.H).mono ?_
  rintro e w' ⟨rfl, d', hw, m'⟩
  refine ⟨⟨_, rfl⟩, d', nv, bv, ⟨hw.ok, h1.w1.step ok.n1.nd hj hw, h1.w2.other hj2 (ok.ap _ (getD_mem hj)) hw, hw.db.trans h1.db, hw.last.trans h1.last, hw.rd.trans h1.rd, by rw [hw.wr, h1.wr]; omega⟩, m'⟩
theorem ts_step2 {x : TX} (ok : TOk x) {j1 j2 jr : Nat} {W : World} (h : TS x j1 j2 jr W) (hj : j2 < x.N2.length) (hj1 : j1 ≤ x.N1.length) : Calls Tryd.prog 19 #[.pointer (some ⟨x.wb, 0, none⟩)] W fun e w' => (∃ v, e = .returned v) ∧ TS x j1 (j2 + 1) jr w' := by
  obtain ⟨d, nv, bv, h1, m⟩ := h
  refine (wstep_act m 0 2 (by decide) rfl rfl h1.db h1.ok (h1.nm ok.n2) hj (by have := h1.wr; have := ok.wr; have := ok.l1; have := ok.l2; omega) ok.H).mono ?_
  rintro e w' ⟨rfl, d', hw, m'⟩
  refine ⟨⟨_, rfl⟩, d', nv, bv, ⟨hw.ok, h1.w1.other hj1 (fun hm => ok.ap _ hm (getD_mem hj)) hw, h1.w2.step ok.n2.nd hj hw, hw.db.trans h1.db, hw.last.trans h1.last, hw.rd.trans h1.rd, by rw [hw.wr, h1.wr]; omega⟩, m'⟩
theorem ts_end1 {x : TX} {j2 jr : Nat} {W : World} (h : TS x x.N1.length j2 jr W) : Calls Tryd.prog 19 #[.pointer (some ⟨x.vb, 0, none⟩)] W fun e w' => (∃ v, e = .returned v) ∧ TS x x.N1.length j2 jr w' := by
  obtain ⟨d, nv, bv, h1, m⟩ := h
  refine (wend_act m 1 rfl).mono ?_
  rintro e w' ⟨rfl, hk⟩
  exact ⟨⟨_, rfl⟩, d, nv, bv, h1, m.blank hk⟩
theorem ts_read {x : TX} (ok : TOk x) {j1 j2 jr : Nat} {W : World} (h : TS x j1 j2 jr W) (hj : jr < j1) (hj1 : j1 ≤ x.N1.length) : Calls Tryd.prog 26 #[.pointer (some ⟨x.rb, 0, none⟩)] W fun e w' => (∃ v, e = .returned v) ∧ TS x j1 j2 (jr + 1) w' := by
  obtain ⟨d, nv, bv, h1, m⟩ := h
  refine (rstep_act m 0 3 (by decide) rfl rfl h1.db h1.ok (h1.nm ok.n1) (by omega) (h1.w1 jr hj) (by have := h1.rd; have := ok.rd; have := ok.l1; omega) ok.H ok.T).mono ?_
  rintro e w' ⟨rfl, nv', bv', m'⟩
  exact ⟨⟨_, rfl⟩, rdUp d, nv', bv', ⟨ok_rdUp h1.ok, h1.w1, h1.w2, h1.db, h1.last, by show d.rd + 1 = _; rw [h1.rd]; omega, h1.wr⟩, m'⟩
theorem ts_old {x : TX} {j1 j2 jr : Nat} {W : World} (h : TS x j1 j2 jr W) : Keeps [] x.W0 W := by
  obtain ⟨d, nv, bv, h1, m⟩ := h
  exact m.old
/-- behind both: what is got -/
theorem ts_ref1 {x : TX} {j1 j2 jr : Nat} {W : World} (h : TS x j1 j2 jr W) : Calls Tryd.prog 20 #[.pointer (some ⟨x.vb, 0, none⟩)] W fun e w' => e = .returned (.agg (refC (shaF x.b1) (x.N1.getD 0 0) (x.b1.length : Int)).toArray) ∧ TS x j1 j2 jr w' := by
  obtain ⟨d, nv, bv, h1, m⟩ := h
  refine (wref_act m 1 rfl).mono ?_
  rintro e w' ⟨rfl, hk⟩
  exact ⟨rfl, d, nv, bv, h1, m.blank hk⟩
theorem ts_ref2 {x : TX} {j1 j2 jr : Nat} {W : World} (h : TS x j1 j2 jr W) : Calls Tryd.prog 20 #[.pointer (some ⟨x.wb, 0, none⟩)] W fun e w' => e = .returned (.agg (refC (shaF x.b2) (x.N2.getD 0 0) (x.b2.length : Int)).toArray) ∧ TS x j1 j2 jr w' := by
  obtain ⟨d, nv, bv, h1, m⟩ := h
  refine (wref_act m 2 rfl).mono ?_
  rintro e w' ⟨rfl, hk⟩
  exact ⟨rfl, d, nv, bv, h1, m.blank hk⟩
/-- what a call told: bytes in memory of their own -/
def Tells8 (W0 : World) (bs : List Int) (A : Option Addr) (c : Nat) (W : World) : Prop := bs.length ≤ c ∧ W.ownsRow 0 5 1 (.slice A bs.length c) bs.length (by8 bs)
theorem Tells8.C {W0 W : World} {bs : List Int} {A : Option Addr} {c : Nat} (h : Tells8 W0 bs A c W) : Kd.C (Kd.int .u8) W A bs.length bs := by
  obtain ⟨A', c', e, _, hC, _⟩ := own_C (k := .u8) h.2
  cases e
  exact hC
theorem Tells8.keeps {W0 W W' : World} {bs : List Int} {A : Option Addr} {c : Nat} (h : Tells8 W0 bs A c W) (hk : Keeps [] W W') : Tells8 W0 bs A c W' := ⟨h.1, ownsRow_keeps h.2 hk (by simp)⟩
def TE (x : TX) (R : List (List Thing)) (jr : Nat) (W : World) : Prop := ∃ d nv bv, Two x.d0 d x.N1 x.b1 x.N2 x.b2 x.N1.length x.N2.length jr ∧ Moves [] (TG x.d0 d x.N1 x.b1 x.N2 x.b2 x.vb x.wb x.rb x.nv1 x.bv1 x.nv2 x.bv2 nv bv x.s x.N1.length x.N2.length x.N1.length ++ R).flatten x.W0 W
theorem Two.rdN {d0 d : DK} {N1 b1 N2 b2 : List Int} {j1 j2 jr : Nat} (h : Two d0 d N1 b1 N2 b2 j1 j2 jr) (n : Nat) : Two d0 (rdN d n) N1 b1 N2 b2 j1 j2 (jr + n) := ⟨ok_rdN h.ok n, h.w1, h.w2, h.db, h.last, by show d.rd + (n : Int) = _; rw [h.rd]; omega, h.wr⟩
theorem te_start {x : TX} {W : World} (h : TS x x.N1.length x.N2.length x.N1.length W) : TE x [] x.N1.length W := by
  obtain ⟨d, nv, bv, h1, m⟩ := h
  exact ⟨d, nv, bv, h1, by rw [List.append_nil]; exact m⟩
theorem te_blank {x : TX} {R : List (List Thing)} {jr : Nat} {W W' : World} (h : TE x R jr W) (hk : Keeps [] W W') : TE x R jr W' := by
  obtain ⟨d, nv, bv, h1, m⟩ := h
  exact ⟨d, nv, bv, h1, m.blank hk⟩
theorem perm_snoc (N : List Thing) (G : List (List Thing)) (R : List (List Thing)) : (N :: (G ++ R)).Perm (G ++ (R ++ [N])) := by
  rw [← List.append_assoc]
  exact List.perm_append_comm (l₁ := [N]) (l₂ := G ++ R)
theorem te_ref1 {x : TX} {R : List (List Thing)} {jr : Nat} {W : World} (h : TE x R jr W) : Calls Tryd.prog 20 #[.pointer (some ⟨x.vb, 0, none⟩)] W fun e w' => e = .returned (.agg (refC (shaF x.b1) (x.N1.getD 0 0) (x.b1.length : Int)).toArray) ∧ TE x R jr w' := by
  obtain ⟨d, nv, bv, h1, m⟩ := h
  refine (wref_act m 1 rfl).mono ?_
  rintro e w' ⟨rfl, hk⟩
  exact ⟨rfl, d, nv, bv, h1, m.blank hk⟩
theorem te_ref2 {x : TX} {R : List (List Thing)} {jr : Nat} {W : World} (h : TE x R jr W) : Calls Tryd.prog 20 #[.pointer (some ⟨x.wb, 0, none⟩)] W fun e w' => e = .returned (.agg (refC (shaF x.b2) (x.N2.getD 0 0) (x.b2.length : Int)).toArray) ∧ TE x R jr w' := by
  obtain ⟨d, nv, bv, h1, m⟩ := h
  refine (wref_act m 2 rfl).mono ?_
  rintro e w' ⟨rfl, hk⟩
  exact ⟨rfl, d, nv, bv, h1, m.blank hk⟩
theorem te_get1 {x : TX} (ok : TOk x) {R : List (List Thing)} {jr : Nat} {W : World} (h : TE x R jr W) (hjr : jr ≤ 4096) :
    Calls Tryd.prog 22 #[.pointer (some ⟨x.d0.db, 0, none⟩), .int .i64 5, .agg (refC (shaF x.b1) (x.N1.getD 0 0) (x.b1.length : Int)).toArray] W fun e w' => ∃ A c, e = .returned (.tuple #[.slice A x.b1.length c, .int .i64 0, .int .i64 0]) ∧ Tells8 W x.b1 A c w' ∧ TE x (R ++ [[rowT (.slice A x.b1.length c) 5 1 x.b1.length (by8 x.b1)]]) (jr + x.N1.length) w' := by
  obtain ⟨d, nv, bv, h1, m⟩ := h
  have hg := get_act m 0 rfl h1.ok (h1.nm ok.n1) h1.w1 (by have := h1.rd; have := ok.rd; omega) ok.H ok.T
  rw [h1.db] at hg
  refine hg.mono ?_
  rintro e w' ⟨A, c, rfl, hc, m'⟩
  exact ⟨A, c, rfl, ⟨hc, (m'.get 0 rfl).get 0 rfl⟩, rdN d x.N1.length, nv, bv, h1.rdN _, m'.permG (perm_snoc _ (TG x.d0 (rdN d x.N1.length) x.N1 x.b1 x.N2 x.b2 x.vb x.wb x.rb x.nv1 x.bv1 x.nv2 x.bv2 nv bv x.s x.N1.length x.N2.length x.N1.length) R)⟩
theorem te_get2 {x : TX} (ok : TOk x) {R : List (List Thing)} {jr : Nat} {W : World} (h : TE x R jr W) (hjr : jr ≤ 4096) :
    Calls Tryd.prog 22 #[.pointer (some ⟨x.d0.db, 0, none⟩), .int .i64 5, .agg (refC (shaF x.b2) (x.N2.getD 0 0) (x.b2.length : Int)).toArray] W fun e w' => ∃ A c, e = .returned (.tuple #[.slice A x.b2.length c, .int .i64 0, .int .i64 0]) ∧ Tells8 W x.b2 A c w' ∧ TE x (R ++ [[rowT (.slice A x.b2.length c) 5 1 x.b2.length (by8 x.b2)]]) (jr + x.N2.length) w' := by
  obtain ⟨d, nv, bv, h1, m⟩ := h
  have hg := get_act m 0 rfl h1.ok (h1.nm ok.n2) h1.w2 (by have := h1.rd; have := ok.rd; omega) ok.H ok.T
  rw [h1.db] at hg
  refine hg.mono ?_
  rintro e w' ⟨A, c, rfl, hc, m'⟩
  exact ⟨A, c, rfl, ⟨hc, (m'.get 0 rfl).get 0 rfl⟩, rdN d x.N2.length, nv, bv, h1.rdN _, m'.permG (perm_snoc _ (TG x.d0 (rdN d x.N2.length) x.N1 x.b1 x.N2 x.b2 x.vb x.wb x.rb x.nv1 x.bv1 x.nv2 x.bv2 nv bv x.s x.N1.length x.N2.length x.N1.length) R)⟩
theorem te_bytes {x : TX} (ok : TOk x) {R : List (List Thing)} {jr : Nat} {W : World} (h : TE x R jr W) :
    Calls Tryd.prog 27 #[.pointer (some ⟨x.rb, 0, none⟩)] W fun e w' => ∃ A c, e = .returned (.slice A x.b1.length c) ∧ Tells8 W x.b1 A c w' ∧ TE x (R ++ [[rowT (.slice A x.b1.length c) 5 1 x.b1.length (by8 x.b1)]]) jr w' := by
  obtain ⟨d, nv, bv, h1, m⟩ := h
  refine (rbytes_act m 3 rfl ok.n1.len ok.n1.le).mono ?_
  rintro e w' ⟨A, c, rfl, hc, m'⟩
  exact ⟨A, c, rfl, ⟨hc, (m'.get 0 rfl).get 0 rfl⟩, d, nv, bv, h1, m'.permG (perm_snoc _ _ _)⟩
theorem te_row {x : TX} {R : List (List Thing)} {jr : Nat} {W : World} (h : TE x R jr W) (i : Nat) {bs : List Int} {A : Option Addr} {c : Nat} (hi : R[i]? = some [rowT (.slice A bs.length c) 5 1 bs.length (by8 bs)]) : Kd.C (Kd.int .u8) W A bs.length bs := by
  obtain ⟨d, nv, bv, h1, m⟩ := h
  have h2 := m.get (5 + i) (M := [rowT (.slice A bs.length c) 5 1 bs.length (by8 bs)]) (by
    rw [List.getElem?_append_right (by simp [TG])]
    simpa [TG] using hi)
  have h3 : W.ownsRow 0 5 1 (.slice A bs.length c) bs.length (by8 bs) := h2.get 0 rfl
  obtain ⟨A', c', e, _, hC, _⟩ := own_C (k := .u8) h3
  cases e
  exact hC
theorem te_old {x : TX} {R : List (List Thing)} {jr : Nat} {W : World} (h : TE x R jr W) : Keeps [] x.W0 W := by
  obtain ⟨d, nv, bv, h1, m⟩ := h
  exact m.old
end Go.Proofs.YtgcpcgcfpjolnaaDoor.G
-- ChainLent: what lies in memory.
namespace Go.Proofs.YtgcpcgcfpjolnaaDoor.G
open Go.RowKit Go.Proofs.YtgcpcgcfpjolnaaDoorW.PrintWords Go.Proofs.YtgcpcgcfpjolnaaDoorW.PrintLast Go.Proofs.YtgcpcgcfpjolnaaDoorW.PrintMore
set_option linter.unusedVariables false
set_option linter.unusedSimpArgs false
set_option maxRecDepth 10000
structure LX where
  W0 : World
  db : Nat
  sb : Nat
  sg : Nat
  scap : Nat
  kb : Nat
  mb : Nat
  tb : Nat
  A : Nat → Option Addr
  C : Nat → Nat
  tx : Nat → List Int
def LX.txt (x : LX) (i : Nat) : Value := .slice (x.A i) (x.tx i).length (x.C i)
/-- a chain that was begun: where its writer lies, what it is -/
structure WC where
  wb : Nat
  N : List Int
  bs : List Int
  nv : Value
  bv : Value
def wcG (db : Nat) (c : WC) (j : Nat) : List Thing := WLs db (WJ c.wb c.N c.bs c.nv c.bv j)
structure RC where
  rb : Nat
  c : WC
  nv : Value
  bv : Value
def rcG (db : Nat) (r : RC) (j : Nat) : List Thing := RLs db (RJ r.rb 5 r.c.N r.c.bs r.nv r.bv j)
def spx (x : LX) (is : List Bool) : SI := ⟨x.sb, x.sg, x.scap, 5, 250, is⟩
def refV (c : WC) : List Value := refC (shaF c.bs) (c.N.getD 0 0) (c.bs.length : Int)
def refsV (cs : List WC) : List Value := cs.flatMap refV
def wptrs (cs : List WC) : List Value := cs.map fun c => .pointer (some ⟨c.wb, 0, none⟩)
def rptrs (rs : List RC) : List Value := rs.map fun r => .pointer (some ⟨r.rb, 0, none⟩)
structure BKS where
  Lb : Value
  Wb : Value
  eb : List NB.EI
  Ln : Value
  Wn : Value
  n : Int
  en : List NI.EI
structure BOk (k : BKS) (q : Nat) : Prop where
  n0 : 0 ≤ k.n
  n1 : k.n ≤ 1000 * (q : Int)
  ln : k.en.length ≤ q
  lb : k.eb.length ≤ q
/-- the texts, the refs, the writers' and the readers' lists -/
structure LV where
  rv : Value
  rl : List WC
  wv : Value
  wl : List WC
  pv : Value
  pl : List RC
/-- what lies there: the disk, the space, the two books, the lists; behind them R -/
def GH (x : LX) (d : DK) (is : List Bool) (KB MB : List Thing) (u : LV) (R : List (List Thing)) : List (List Thing) :=
  [DL d, [spT (spx x is)], KB, MB, [strT x.tb #[x.txt 0, x.txt 1] 31], [rowT u.rv 52 34 u.rl.length (refsV u.rl)], [rowT u.wv 43 1 u.wl.length (wptrs u.wl)], [rowT u.pv 65 1 u.pl.length (rptrs u.pl)]] ++ R
structure XOk (x : LX) : Prop where
  tab : TabW x.W0
  sha : ShaW x.W0
  half : HalfW x.W0
  w3 : 3 ≤ x.W0.heap.size
  tx : ∀ i, BSl x.W0 (x.A i) (x.tx i).length (x.C i) (x.tx i)
  le : ∀ i, (x.tx i).length ≤ 20000
/-- of the disk and the space -/
structure DSp (x : LX) (d : DK) (is : List Bool) (q : Nat) : Prop where
  ok : DOk d
  db : d.db = x.db
  len : d.last.length = 250
  il : is.length = 245
  fr : 245 ≤ (trues is).length + 42 * q
/-- a chain whose first j sectors are written, of whose numbers none is free -/
structure ChW (d : DK) (is : List Bool) (c : WC) (j : Nat) : Prop where
  nm : Nm d 5 c.N c.bs
  wrote : Wrote d c.N c.bs j
  gone : ∀ n ∈ c.N, ∀ m ∈ trues is, n ≠ 5 + (m : Int)
  le : c.bs.length ≤ 20000
  jl : j ≤ c.N.length
theorem ChW.short {d : DK} {is : List Bool} {c : WC} {j : Nat} (h : ChW d is c j) : 1 ≤ c.N.length ∧ c.N.length ≤ 42 := by
  have := nSec_20000 _ h.le
  rw [h.nm.len]; omega
theorem ChW.wr {d d' : DK} {is : List Bool} {c : WC} {j : Nat} (h : ChW d is c j) {k : Int} {s : List Int} (hk : k ∉ c.N) (hw : Wr d d' k s) : ChW d' is c j :=
  ⟨h.nm.wr hw, h.wrote.other h.jl hk hw, h.gone, h.le, h.jl⟩
theorem ChW.wn {d d' : DK} {is : List Bool} {c : WC} {j : Nat} (h : ChW d is c j) {M ms : List Int} {q : Nat} (hd : ∀ n ∈ c.N, n ∉ M) (hw : Wn d d' M ms q) : ChW d' is c j :=
  ⟨⟨h.nm.len, h.nm.le, h.nm.nd, h.nm.hp, h.nm.lo, by rw [hw.last]; exact h.nm.hi⟩, fun i hi => by rw [hw.other _ (hd _ (getD_mem (by have := h.jl; omega)))]; exact h.wrote i hi, h.gone, h.le, h.jl⟩
theorem ChW.rd {d : DK} {is : List Bool} {c : WC} {j : Nat} (h : ChW d is c j) (n : Nat) : ChW (rdN d n) is c j := ⟨h.nm.rdN n, h.wrote.rd n, h.gone, h.le, h.jl⟩
theorem ChW.rdUp {d : DK} {is : List Bool} {c : WC} {j : Nat} (h : ChW d is c j) : ChW (rdUp d) is c j := ⟨⟨h.nm.len, h.nm.le, h.nm.nd, h.nm.hp, h.nm.lo, h.nm.hi⟩, h.wrote, h.gone, h.le, h.jl⟩
/-- the space has told k numbers more -/
theorem DSp.take {x : LX} {d : DK} {is : List Bool} {q : Nat} (h : DSp x d is q) (i : Nat) (hx : XOk x) (hq : q ≤ 3) :
    takeAllOk is (nSec (x.tx i).length : Int) = true ∧ Outs 5 250 (nSec (x.tx i).length) (takeAllOut 5 is (nSec (x.tx i).length : Int)) ∧ DSp x d (takeAllS is (nSec (x.tx i).length : Int)) (q + 1) ∧
      (∀ n ∈ takeAllOut 5 is (nSec (x.tx i).length : Int), ∀ m ∈ trues (takeAllS is (nSec (x.tx i).length : Int)), n ≠ 5 + (m : Int)) ∧ (∀ m ∈ trues (takeAllS is (nSec (x.tx i).length : Int)), m ∈ trues is) ∧
      (∀ n ∈ takeAllOut 5 is (nSec (x.tx i).length : Int), ∃ m ∈ trues is, n = 5 + (m : Int)) := by
  have hk := nSec_20000 _ (hx.le i)
  generalize nSec (x.tx i).length = k at hk
  have hfr := h.fr
  have hil := h.il
  have o1 : takeAllOk is (k : Int) = true := by simp [takeAllOk]; omega
  have e1 : takeAllS is (k : Int) = clear is ((trues is).take k) := by unfold takeAllS; rw [if_pos o1]; rfl
  have e2 : trues (takeAllS is (k : Int)) = (trues is).drop k := by rw [e1, trues_clear_take]
  have e3 : takeAllOut 5 is (k : Int) = nums 5 ((trues is).take k) := by unfold takeAllOut; rw [if_pos o1]; rfl
  refine ⟨o1, outs_of (by rw [hil]) (by decide) o1, ⟨h.ok, h.db, h.len, by rw [e1, clear_length]; exact hil, by rw [e2, List.length_drop]; omega⟩, ?_, ?_, ?_⟩
  · intro n hn m hm he
    rw [e3] at hn
    rw [e2] at hm
    obtain ⟨m1, hm1, rfl⟩ := List.mem_map.1 hn
    have : m1 = m := by omega
    subst this
    have hd := trues_nodup is
    rw [← List.take_append_drop k (trues is)] at hd
    exact (List.nodup_append.1 hd).2.2 m1 hm1 m1 hm rfl
  · intro m hm
    rw [e2] at hm
    exact List.mem_of_mem_drop hm
  · intro n hn
    rw [e3] at hn
    obtain ⟨m1, hm1, rfl⟩ := List.mem_map.1 hn
    exact ⟨m1, List.mem_of_mem_take hm1, rfl⟩
theorem ChW.less {d : DK} {is is' : List Bool} {c : WC} {j : Nat} (h : ChW d is c j) (hs : ∀ m ∈ trues is', m ∈ trues is) : ChW d is' c j := ⟨h.nm, h.wrote, fun n hn m hm => h.gone n hn m (hs m hm), h.le, h.jl⟩
theorem DSp.other {x : LX} {d d' : DK} {is : List Bool} {q : Nat} (h : DSp x d is q) (ok : DOk d') (hdb : d'.db = d.db) (hl : d'.last = d.last) : DSp x d' is q := ⟨ok, hdb.trans h.db, by rw [hl]; exact h.len, h.il, h.fr⟩
/-- the books: both under way; the first is settled; both are -/
def KL (x : LX) (b : Nat) (KB MB : List Thing) : Prop := ∃ k : BKS, BOk k b ∧ KB = NB.BL x.kb k.Lb k.Wb 0 k.eb [] ∧ MB = NI.BL x.mb k.Ln k.Wn k.n k.en []
def KM (x : LX) (b : Nat) (KB MB : List Thing) : Prop := KB = [] ∧ ∃ k : BKS, BOk k b ∧ MB = NI.BL x.mb k.Ln k.Wn k.n k.en []
def KE (KB MB : List Thing) : Prop := True
def LS (x : LX) (u : LV) (K : List Thing → List Thing → Prop) (cs : List (WC × Nat)) (F X : List (List Thing)) (q t : Nat) (W : World) : Prop :=
  ∃ d is KB MB, DSp x d is q ∧ K KB MB ∧ (d.rd ≤ (t : Int) ∧ d.wr ≤ (t : Int)) ∧ (∀ p ∈ cs, ChW d is p.1 p.2) ∧ Moves [] (F ++ GH x d is KB MB u (cs.map (fun p => wcG x.db p.1 p.2) ++ X)).flatten x.W0 W
section
variable {x : LX} {u : LV} {K : List Thing → List Thing → Prop} {cs : List (WC × Nat)} {F X : List (List Thing)} {q t : Nat} {W W' : World}
theorem LS.old (h : LS x u K cs F X q t W) : Keeps [] x.W0 W := by
  obtain ⟨d, is, KB, MB, _, _, _, _, m⟩ := h
  exact m.old
theorem LS.blank (h : LS x u K cs F X q t W) (hk : Keeps [] W W') : LS x u K cs F X q t W' := by
  obtain ⟨d, is, KB, MB, h1, h2, h3, h4, m⟩ := h
  exact ⟨d, is, KB, MB, h1, h2, h3, h4, m.blank hk⟩
theorem LS.mono {t' : Nat} (h : LS x u K cs F X q t W) (ht : t ≤ t') : LS x u K cs F X q t' W := by
  obtain ⟨d, is, KB, MB, h1, h2, h3, h4, m⟩ := h
  exact ⟨d, is, KB, MB, h1, h2, ⟨by omega, by omega⟩, h4, m⟩
theorem LS.kmono {K' : List Thing → List Thing → Prop} (h : LS x u K cs F X q t W) (hk : ∀ a b, K a b → K' a b) : LS x u K' cs F X q t W := by
  obtain ⟨d, is, KB, MB, h1, h2, h3, h4, m⟩ := h
  exact ⟨d, is, KB, MB, h1, hk _ _ h2, h3, h4, m⟩
theorem KL.mono {b b' : Nat} (hb : b ≤ b') : ∀ KB MB, KL x b KB MB → KL x b' KB MB := by
  rintro KB MB ⟨k, h, e⟩
  exact ⟨k, ⟨h.n0, by have := h.n1; omega, by have := h.ln; omega, by have := h.lb; omega⟩, e⟩
/-- the first of F is forgotten -/
theorem LS.shed {N : List Thing} (h : LS x u K cs (N :: F) X q t W) : LS x u K cs F X q t W := by
  obtain ⟨d, is, KB, MB, h1, h2, h3, h4, m⟩ := h
  exact ⟨d, is, KB, MB, h1, h2, h3, h4, m.shed⟩
theorem LS.ch (h : LS x u K cs F X q t W) : ∀ p ∈ cs, (1 ≤ p.1.N.length ∧ p.1.N.length ≤ 42) ∧ p.1.bs.length ≤ 20000 := by
  obtain ⟨d, is, KB, MB, h1, h2, h3, h4, m⟩ := h
  exact fun p hp => ⟨(h4 p hp).short, (h4 p hp).le⟩
theorem perm_ls {α : Type} (N : α) (F A B : List α) : (N :: (F ++ (A ++ B))).Perm (F ++ (A ++ (N :: B))) := by
  classical
  rw [List.perm_iff_count]
  intro a
  simp only [List.count_append, List.count_cons, List.count_nil]
  omega
theorem perm_lx {α : Type} (N : α) (F A B C : List α) : (N :: (F ++ (A ++ (B ++ C)))).Perm (F ++ (A ++ (B ++ (N :: C)))) := by
  classical
  rw [List.perm_iff_count]
  intro a
  simp only [List.count_append, List.count_cons, List.count_nil]
  omega
theorem getX (A B C : List (List Thing)) (i : Nat) : (A ++ (B ++ C))[A.length + B.length + i]? = C[i]? := by
  rw [← List.append_assoc, List.getElem?_append_right (by simp)]
  simp
end
end Go.Proofs.YtgcpcgcfpjolnaaDoor.G
-- ChainLent: the calls.
namespace Go.Proofs.YtgcpcgcfpjolnaaDoor.G
open Go.RowKit Go.Proofs.YtgcpcgcfpjolnaaDoorW.PrintWords Go.Proofs.YtgcpcgcfpjolnaaDoorW.PrintLast Go.Proofs.YtgcpcgcfpjolnaaDoorW.PrintMore
set_option linter.unusedVariables false
set_option linter.unusedSimpArgs false
set_option maxRecDepth 10000
theorem BLI_F (b : Nat) (L W : Value) (n : Int) (es : List NI.EI) (F : List Thing) : NI.BL b L W n es F = NI.BL b L W n es [] ++ F := by simp [NI.BL]
theorem BLB_F (b : Nat) (L W : Value) (n : Int) (es : List NB.EI) (F : List Thing) : NB.BL b L W n es F = NB.BL b L W n es [] ++ F := by simp [NB.BL]
theorem perm_bkI {α : Type} (r d s kb mb t rf w p : α) (R : List α) : (r :: d :: s :: kb :: mb :: t :: rf :: w :: p :: R).Perm (r :: mb :: d :: s :: kb :: t :: rf :: w :: p :: R) := by
  classical
  rw [List.perm_iff_count]
  intro a
  simp only [List.count_cons]
  omega
theorem perm_bkB {α : Type} (r d s kb mb t rf w p : α) (R : List α) : (r :: d :: s :: kb :: mb :: t :: rf :: w :: p :: R).Perm (r :: kb :: d :: s :: mb :: t :: rf :: w :: p :: R) := by
  classical
  rw [List.perm_iff_count]
  intro a
  simp only [List.count_cons]
  omega
theorem perm_mbI {α : Type} (d s kb mb t rf w p : α) (R : List α) : (mb :: d :: s :: kb :: t :: rf :: w :: p :: R).Perm (d :: s :: kb :: mb :: t :: rf :: w :: p :: R) := by
  classical
  rw [List.perm_iff_count]
  intro a
  simp only [List.count_cons]
  omega
theorem perm_mbB {α : Type} (d s kb mb t rf w p : α) (R : List α) : (kb :: d :: s :: mb :: t :: rf :: w :: p :: R).Perm (d :: s :: kb :: mb :: t :: rf :: w :: p :: R) := by
  classical
  rw [List.perm_iff_count]
  intro a
  simp only [List.count_cons]
  omega
section
variable {x : LX} {u : LV} {K : List Thing → List Thing → Prop} {cs : List (WC × Nat)} {F X : List (List Thing)} {q t b : Nat} {W W' : World}
theorem ls_keepI {v : Value} {l : List Int} (hx : XOk x) (h : LS x u (KL x b) cs [[rowT v 3 1 l.length (ints l)]] X q t W) (hb : b ≤ 100000) (hl : l.length ≤ 900) :
    Calls Tryd.prog 17 #[.pointer (some ⟨x.mb, 0, none⟩), v] W fun e w' => e = .returned (.tuple #[]) ∧ LS x u (KL x (b + 1)) cs [] X q t w' := by
  obtain ⟨d, is, KB, MB, h1, ⟨k, hk, rfl, rfl⟩, h3, h4, m⟩ := h
  have m1 := m.permG (perm_bkI _ _ _ _ _ _ _ _ _ _)
  have H := moves_has m1
  rw [List.flatten_cons, List.flatten_cons] at H
  generalize hF : List.flatten (_ :: _ :: _ :: _ :: _ :: _ :: _ :: _) = G at H
  have H' : Has x.W0.heap.size W (NI.rowE v l :: NI.BL x.mb k.Ln k.Wn k.n k.en G) := by rw [BLI_F]; exact H
  refine (NI.keep_calls H' hk.n0 (by have := hk.n1; omega) (by have := hk.ln; omega) (by omega)).mono ?_
  rintro e w' ⟨rfl, Lv, Wv, n', es, g1, g2, g3, g4, g5⟩
  have m2 := has_moves m hx.w3 g1 g2
  rw [BLI_F, ← hF] at m2
  exact ⟨rfl, d, is, _, _, h1, ⟨{ k with Ln := Lv, Wn := Wv, n := n', en := es }, ⟨g3, by have := hk.n1; simp only; omega, by have := hk.ln; simp only; omega, by have := hk.lb; simp only; omega⟩, rfl, rfl⟩, h3, h4, Moves.permG (G := _ :: _ :: _ :: _ :: _ :: _ :: _ :: _ :: _) m2 (perm_mbI _ _ _ _ _ _ _ _ _)⟩
theorem ls_keepB {v : Value} {l : List Int} (hx : XOk x) (h : LS x u (KL x b) cs [[rowT v 5 1 l.length (by8 l)]] X q t W) (hb : b ≤ 100000) (hl : l.length ≤ 20000) :
    Calls Tryd.prog 25 #[.pointer (some ⟨x.kb, 0, none⟩), v] W fun e w' => e = .returned (.tuple #[]) ∧ LS x u (KL x (b + 1)) cs [] X q t w' := by
  obtain ⟨d, is, KB, MB, h1, ⟨k, hk, rfl, rfl⟩, h3, h4, m⟩ := h
  have m1 := m.permG (perm_bkB _ _ _ _ _ _ _ _ _ _)
  have H := moves_has m1
  rw [List.flatten_cons, List.flatten_cons] at H
  generalize hF : List.flatten (_ :: _ :: _ :: _ :: _ :: _ :: _ :: _) = G at H
  have H' : Has x.W0.heap.size W (NB.rowE v l :: NB.BL x.kb k.Lb k.Wb 0 k.eb G) := by rw [BLB_F]; exact H
  refine (NB.keep_calls H' (by decide) (by decide) (by have := hk.lb; omega) (by omega)).mono ?_
  rintro e w' ⟨rfl, Lv, Wv, n', es, g1, g2, g3, g4, g5⟩
  have m2 := has_moves m hx.w3 g1 g2
  rw [BLB_F, ← hF] at m2
  exact ⟨rfl, d, is, _, _, h1, ⟨{ k with Lb := Lv, Wb := Wv, eb := es }, ⟨hk.n0, by have := hk.n1; simp only; omega, by have := hk.ln; simp only; omega, by have := hk.lb; simp only; omega⟩, rfl, rfl⟩, h3, h4, Moves.permG (G := _ :: _ :: _ :: _ :: _ :: _ :: _ :: _ :: _) m2 (perm_mbB _ _ _ _ _ _ _ _ _)⟩
theorem ls_settleB (hx : XOk x) (h : LS x u (KL x b) cs [] X q t W) (hb : b ≤ 100000) :
    Calls Tryd.prog 28 #[.pointer (some ⟨x.kb, 0, none⟩)] W fun e w' => e = .returned (.bool true) ∧ LS x u (KM x b) cs [] X q t w' := by
  obtain ⟨d, is, KB, MB, h1, ⟨k, hk, rfl, rfl⟩, h3, h4, m⟩ := h
  have m1 := m.permG (perm_mbB _ _ _ _ _ _ _ _ _).symm
  have H := moves_has m1
  rw [List.flatten_cons] at H
  generalize hF : List.flatten (_ :: _ :: _ :: _ :: _ :: _ :: _ :: _) = G at H
  have H' : Has x.W0.heap.size W (NB.BL x.kb k.Lb k.Wb 0 k.eb G) := by rw [BLB_F]; exact H
  refine (NB.settle_calls H' (by have := hk.lb; omega)).mono ?_
  rintro e w' ⟨rfl, g1, g2⟩
  have m2 := has_moves m hx.w3 g1 g2
  rw [← hF] at m2
  exact ⟨rfl, d, is, [], _, h1, ⟨rfl, k, hk, rfl⟩, h3, h4, m2⟩
theorem ls_settleI (hx : XOk x) (h : LS x u (KM x b) cs [] X q t W) (hb : b ≤ 100000) :
    Calls Tryd.prog 29 #[.pointer (some ⟨x.mb, 0, none⟩)] W fun e w' => e = .returned (.bool true) ∧ LS x u KE cs [] X q t w' := by
  obtain ⟨d, is, KB, MB, h1, ⟨rfl, k, hk, rfl⟩, h3, h4, m⟩ := h
  have m1 := m.permG (perm_mbI _ _ _ _ _ _ _ _ _).symm
  have H := moves_has m1
  rw [List.flatten_cons] at H
  generalize hF : List.flatten (_ :: _ :: _ :: _ :: _ :: _ :: _ :: _) = G at H
  have H' : Has x.W0.heap.size W (NI.BL x.mb k.Ln k.Wn k.n k.en G) := by rw [BLI_F]; exact H
  refine (NI.settle_calls H' (by have := hk.ln; omega)).mono ?_
  rintro e w' ⟨rfl, g1, g2⟩
  have m2 := has_moves m hx.w3 g1 g2
  rw [← hF] at m2
  exact ⟨rfl, d, is, [], [], h1, trivial, h3, h4, m2⟩
theorem ls_newW (hx : XOk x) (h : LS x u K cs [] [] q t W) (hq : q ≤ 3) (i : Nat) :
    Calls Tryd.prog 16 #[.pointer (some ⟨x.db, 0, none⟩), .pointer (some ⟨x.sb, 0, none⟩), x.txt i] W fun e w' => ∃ c : WC, e = .returned (.tuple #[.pointer (some ⟨c.wb, 0, none⟩), .int .i64 0]) ∧ c.bs = x.tx i ∧ (∀ p ∈ cs, ∀ n ∈ c.N, n ∉ p.1.N) ∧ LS x u K ((c, 0) :: cs) [] [] (q + 1) t w' := by
  obtain ⟨d, is, KB, MB, h1, h2, h3, h4, m⟩ := h
  obtain ⟨o1, o2, o3, o4, o5, o6⟩ := h1.take i hx hq
  have hk := nSec_20000 _ (hx.le i)
  have hg := getD_mem (N := takeAllOut 5 is (nSec (x.tx i).length : Int)) (j := 0) (by rw [o2.len]; omega)
  have hg1 := getD_mem (N := takeAllOut 5 is (nSec (x.tx i).length : Int)) (j := nSec (x.tx i).length - 1) (by rw [o2.len]; omega)
  rw [← h1.db]
  refine (newW_act (s := spx x is) m 0 1 (by decide) rfl rfl (x.A i) _ (x.C i) (x.tx i) (hx.tx i) (by have := hx.le i; omega) hx.tab hx.sha o1 _ rfl (by have := o2.lo _ hg; simp only [spx]; omega) (by rw [h1.len]; exact o2.hi _ hg1)).mono ?_
  rintro e w' ⟨wb, nv, bv, rfl, m'⟩
  refine ⟨⟨wb, takeAllOut 5 is (nSec (x.tx i).length : Int), x.tx i, nv, bv⟩, rfl, rfl, ?_, d, _, KB, MB, o3, h2, h3, ?_, ?_⟩
  · intro p hp n hn hn'
    obtain ⟨m1, hm1, e1⟩ := o6 n hn
    exact (h4 p hp).gone n hn' m1 hm1 e1
  · intro p hp
    rcases List.mem_cons.1 hp with rfl | hp
    · exact ⟨⟨o2.len, by have := hx.le i; simp only; omega, o2.nodup, by decide, o2.lo, fun n hn => by rw [h1.len]; exact o2.hi n hn⟩, fun i hi => absurd hi (by omega), o4, hx.le i, Nat.zero_le _⟩
    · exact (h4 p hp).less o5
  · rw [h1.db] at m'
    exact m'.permG (perm_ls _ [] [_, _, _, _, _, _, _, _] _)
theorem ls_nums {c : WC} {j : Nat} (h : LS x u K ((c, j) :: cs) [] X q t W) :
    Calls Tryd.prog 18 #[.pointer (some ⟨c.wb, 0, none⟩)] W fun e w' => ∃ A cp, e = .returned (.slice A c.N.length cp) ∧ c.N.length ≤ cp ∧ LS x u K ((c, j) :: cs) [[rowT (.slice A c.N.length cp) 3 1 c.N.length (ints c.N)]] X q t w' := by
  obtain ⟨d, is, KB, MB, h1, h2, h3, h4, m⟩ := h
  refine (wnums_act m 8 rfl (by have := (h4 _ (List.mem_cons_self ..)).short; simp only at this ⊢; omega)).mono ?_
  rintro e w' ⟨A, cp, rfl, hc, m'⟩
  exact ⟨A, cp, rfl, hc, d, is, KB, MB, h1, h2, h3, h4, m'⟩
theorem ls_wstep (hx : XOk x) {c : WC} {j : Nat} (h : LS x u K ((c, j) :: cs) [] X q t W) (hj : j < c.N.length) (hap : ∀ p ∈ cs, ∀ n ∈ c.N, n ∉ p.1.N) (ht : t < 536870912) :
    Calls Tryd.prog 19 #[.pointer (some ⟨c.wb, 0, none⟩)] W fun e w' => e = .returned (.tuple #[.bool (decide (j + 1 = c.N.length)), .int .i64 0]) ∧ LS x u K ((c, j + 1) :: cs) [] X q (t + 1) w' := by
  obtain ⟨d, is, KB, MB, h1, h2, h3, h4, m⟩ := h
  have hc := h4 _ (List.mem_cons_self ..)
  refine (wstep_act m 0 8 (by decide) rfl rfl h1.db h1.ok hc.nm hj (by omega) hx.half).mono ?_
  rintro e w' ⟨rfl, d', hw, m'⟩
  refine ⟨rfl, d', is, KB, MB, h1.other hw.ok hw.db hw.last, h2, ⟨by rw [hw.rd]; omega, by rw [hw.wr]; omega⟩, ?_, m'⟩
  intro p hp
  rcases List.mem_cons.1 hp with rfl | hp
  · exact ⟨hc.nm.wr hw, hc.wrote.step hc.nm.nd hj hw, hc.gone, hc.le, hj⟩
  · exact (h4 p (List.mem_cons_of_mem _ hp)).wr (hap p hp _ (getD_mem hj)) hw
theorem ls_wref {c : WC} {j : Nat} (h : LS x u K ((c, j) :: cs) [] X q t W) :
    Calls Tryd.prog 20 #[.pointer (some ⟨c.wb, 0, none⟩)] W fun e w' => e = .returned (.agg (refV c).toArray) ∧ LS x u K ((c, j) :: cs) [] X q t w' := by
  obtain ⟨d, is, KB, MB, h1, h2, h3, h4, m⟩ := h
  refine (wref_act m 8 rfl).mono ?_
  rintro e w' ⟨rfl, hk⟩
  exact ⟨rfl, d, is, KB, MB, h1, h2, h3, h4, m.blank hk⟩
theorem ls_put (hx : XOk x) (h : LS x u K cs [] X q t W) (hq : q ≤ 3) (i : Nat) (ht : t < 536000000) :
    Calls Tryd.prog 21 #[.pointer (some ⟨x.db, 0, none⟩), .pointer (some ⟨x.sb, 0, none⟩), x.txt i] W fun e w' => ∃ (L : List Value) (v : Value) (l : List Int), e = .returned (.tuple #[.agg L.toArray, v, .int .i64 0]) ∧ L.length = 34 ∧ (∀ y ∈ L, y.oneCell' = true) ∧ l.length ≤ 42 ∧ LS x u K cs [[rowT v 3 1 l.length (ints l)]] X (q + 1) (t + 42) w' := by
  obtain ⟨d, is, KB, MB, h1, h2, h3, h4, m⟩ := h
  obtain ⟨o1, o2, o3, o4, o5, o6⟩ := h1.take i hx hq
  have hk := nSec_20000 _ (hx.le i)
  have hg := getD_mem (N := takeAllOut 5 is (nSec (x.tx i).length : Int)) (j := 0) (by rw [o2.len]; omega)
  have hg1 := getD_mem (N := takeAllOut 5 is (nSec (x.tx i).length : Int)) (j := nSec (x.tx i).length - 1) (by rw [o2.len]; omega)
  rw [← h1.db]
  refine (put_act (s := spx x is) m 0 1 (by decide) rfl rfl h1.ok (x.A i) _ (x.C i) (x.tx i) (hx.tx i) (by have := hx.le i; omega) hx.tab hx.sha hx.half o1 _ rfl (by have := o2.lo _ hg; simp only [spx]; omega) (by rw [h1.len]; exact o2.hi _ hg1) (by omega)).mono ?_
  rintro e w' ⟨v, d', rfl, hn, m'⟩
  have hlen : (takeAllOut 5 is (nSec (x.tx i).length : Int)).length ≤ 42 := by rw [o2.len]; omega
  refine ⟨_, v, takeAllOut 5 is (nSec (x.tx i).length : Int), rfl, refC_length _ _ _ (shaF_length _), refC_one _ _ _, hlen, d', _, KB, MB, o3.other hn.ok hn.db hn.last, h2, ⟨by rw [hn.rd]; omega, by rw [hn.wr]; simp only [spx]; omega⟩, ?_, m'⟩
  intro p hp
  refine ((h4 p hp).less o5).wn ?_ hn
  intro n hn1 hn2
  obtain ⟨m1, hm1, e1⟩ := o6 n hn2
  exact (h4 p hp).gone n hn1 m1 hm1 e1
theorem ls_get (hx : XOk x) {c : WC} (h : LS x u K cs [] X q t W) (hc : (c, c.N.length) ∈ cs) (ht : t < 536000000) :
    Calls Tryd.prog 22 #[.pointer (some ⟨x.db, 0, none⟩), .int .i64 5, .agg (refV c).toArray] W fun e w' => ∃ A cp, e = .returned (.tuple #[.slice A c.bs.length cp, .int .i64 0, .int .i64 0]) ∧ c.bs.length ≤ cp ∧ LS x u K cs [[rowT (.slice A c.bs.length cp) 5 1 c.bs.length (by8 c.bs)]] X q (t + 42) w' := by
  obtain ⟨d, is, KB, MB, h1, h2, h3, h4, m⟩ := h
  have hcc := h4 _ hc
  rw [← h1.db]
  refine (get_act m 0 rfl h1.ok hcc.nm hcc.wrote (by omega) hx.half hx.sha).mono ?_
  rintro e w' ⟨A, cp, rfl, hcp, m'⟩
  have hs := hcc.short
  simp only at hs
  exact ⟨A, cp, rfl, hcp, rdN d c.N.length, is, KB, MB, h1.other (ok_rdN h1.ok _) rfl rfl, h2, ⟨by show d.rd + (c.N.length : Int) ≤ _; omega, by show d.wr ≤ _; omega⟩, fun p hp => (h4 p hp).rd _, m'⟩
theorem ls_newR (hx : XOk x) {c : WC} {N : List Thing} (h : LS x u K cs [N] X q t W) (hc : (c, c.N.length) ∈ cs) :
    Calls Tryd.prog 23 #[.pointer (some ⟨x.db, 0, none⟩), .int .i64 5, .agg (refV c).toArray] W fun e w' => ∃ r : RC, e = .returned (.tuple #[.pointer (some ⟨r.rb, 0, none⟩), .int .i64 0]) ∧ r.c = c ∧ LS x u K cs [N] (rcG x.db r 0 :: X) q t w' := by
  obtain ⟨d, is, KB, MB, h1, h2, h3, h4, m⟩ := h
  have hcc := h4 _ hc
  rw [← h1.db]
  refine (newR_act m 1 rfl hcc.nm).mono ?_
  rintro e w' ⟨rb, rfl, m'⟩
  rw [h1.db] at m'
  exact ⟨⟨rb, c, .slice none 0 0, .slice none 0 0⟩, rfl, rfl, d, is, KB, MB, h1, h2, h3, h4, by rw [← h1.db] at m' ⊢; exact m'.permG (perm_lx _ [N] [_, _, _, _, _, _, _, _] _ _)⟩
/-- the i-th of X; the k-th chain -/
theorem at_X (d : DK) (is : List Bool) (KB MB : List Thing) (R : List (List Thing)) (F : List (List Thing)) (i : Nat) : (F ++ GH x d is KB MB u (R ++ X))[F.length + (8 + R.length + i)]? = X[i]? := by
  rw [List.getElem?_append_right (by omega), Nat.add_sub_cancel_left]
  exact getX [_, _, _, _, _, _, _, _] R X i
theorem at_C (d : DK) (is : List Bool) (KB MB : List Thing) (i : Nat) {p : WC × Nat} (hi : cs[i]? = some p) : (GH x d is KB MB u (cs.map (fun p => wcG x.db p.1 p.2) ++ X))[8 + i]? = some (wcG x.db p.1 p.2) := by
  have h1 := (List.getElem?_eq_some_iff.1 hi).1
  rw [Nat.add_comm 8 i]
  show (cs.map (fun p => wcG x.db p.1 p.2) ++ X)[i]? = _
  rw [List.getElem?_append_left (by simpa using h1)]
  simp [hi]
theorem map_len (cs : List (WC × Nat)) (x : LX) : (cs.map (fun p => wcG x.db p.1 p.2)).length = cs.length := by simp
theorem set_at {A B C : List (List Thing)} (N : List Thing) (v : List Thing) : (A ++ (B ++ (N :: C))).set (A.length + B.length) v = A ++ (B ++ (v :: C)) := by
  rw [← List.append_assoc, ← List.length_append, List.set_append_right _ _ (Nat.le_refl _), Nat.sub_self, List.set_cons_zero, List.append_assoc]
theorem ls_rstep (hx : XOk x) {r : RC} {j : Nat} (h : LS x u K cs [] (rcG x.db r j :: X) q t W) (hc : (r.c, r.c.N.length) ∈ cs) (hj : j < r.c.N.length) (ht : t < 536000000) :
    Calls Tryd.prog 26 #[.pointer (some ⟨r.rb, 0, none⟩)] W fun e w' => e = .returned (.tuple #[.bool (decide (r.c.N.length ≤ j + 1)), .int .i64 0]) ∧ ∃ r' : RC, r'.rb = r.rb ∧ r'.c = r.c ∧ LS x u K cs [] (rcG x.db r' (j + 1) :: X) q (t + 1) w' := by
  obtain ⟨d, is, KB, MB, h1, h2, h3, h4, m⟩ := h
  have hcc := h4 _ hc
  have hi := at_X (x := x) (u := u) (X := rcG x.db r j :: X) d is KB MB (cs.map (fun p => wcG x.db p.1 p.2)) [] 0
  simp only [List.nil_append, List.length_nil, Nat.zero_add, Nat.add_zero, List.getElem?_cons_zero] at hi m
  refine (rstep_act m 0 _ (by simp; omega) rfl hi h1.db h1.ok hcc.nm hj (hcc.wrote j hj) (by omega) hx.half hx.sha).mono ?_
  rintro e w' ⟨rfl, nv', bv', m'⟩
  refine ⟨rfl, ⟨r.rb, r.c, nv', bv'⟩, rfl, rfl, rdUp d, is, KB, MB, h1.other (ok_rdUp h1.ok) rfl rfl, h2, ⟨by show d.rd + 1 ≤ _; omega, by show d.wr ≤ _; omega⟩, fun p hp => (h4 p hp).rdUp, ?_⟩
  have e1 := set_at (A := [DL (rdUp d), [spT (spx x is)], KB, MB, [strT x.tb #[x.txt 0, x.txt 1] 31], [rowT u.rv 52 34 u.rl.length (refsV u.rl)], [rowT u.wv 43 1 u.wl.length (wptrs u.wl)], [rowT u.pv 65 1 u.pl.length (rptrs u.pl)]]) (B := cs.map (fun p => wcG x.db p.1 p.2)) (C := X) (rcG x.db r j) (RLs x.db (RJ r.rb 5 r.c.N r.c.bs nv' bv' (j + 1)))
  exact (congrArg (fun G => Moves [] (List.flatten G) x.W0 w') e1).mp m'
theorem ls_rnums {i n : Nat} {r : RC} {j : Nat} (h : LS x u K cs [] X q t W) (hi : X[i]? = some (rcG x.db r j)) (hc : (r.c, r.c.N.length) ∈ cs) (hn : (r.c.N.take j).length = n) :
    Calls Tryd.prog 18 #[.pointer (some ⟨r.rb, 0, none⟩)] W fun e w' => ∃ A cp, e = .returned (.slice A n cp) ∧ n ≤ cp ∧ LS x u K cs [[rowT (.slice A n cp) 3 1 (r.c.N.take j).length (ints (r.c.N.take j))]] X q t w' := by
  obtain ⟨d, is, KB, MB, h1, h2, h3, h4, m⟩ := h
  have hcc := (h4 _ hc).short
  have hi' := at_X (x := x) (u := u) (X := X) d is KB MB (cs.map (fun p => wcG x.db p.1 p.2)) [] i
  rw [hi] at hi'
  have g := m.get _ hi'
  refine (numbers_calls (g.get 0 rfl) (shaF_length r.c.bs) (r.c.N.take j) (g.get 1 rfl) (by rw [List.length_take]; simp only at hcc; omega)).mono ?_
  rintro e w' ⟨v, rfl, g1, g2, g3⟩
  subst hn
  obtain ⟨A, c, rfl, hc, _, _⟩ := own_C (k := .i64) g1
  exact ⟨A, c, rfl, hc, d, is, KB, MB, h1, h2, h3, h4, m.newVal g1 g2 g3⟩
theorem ls_rbytes {i : Nat} {r : RC} (h : LS x u K cs [] X q t W) (hi : X[i]? = some (rcG x.db r r.c.N.length)) (hc : (r.c, r.c.N.length) ∈ cs) :
    Calls Tryd.prog 27 #[.pointer (some ⟨r.rb, 0, none⟩)] W fun e w' => ∃ A cp, e = .returned (.slice A r.c.bs.length cp) ∧ r.c.bs.length ≤ cp ∧ LS x u K cs [[rowT (.slice A r.c.bs.length cp) 5 1 r.c.bs.length (by8 r.c.bs)]] X q t w' := by
  obtain ⟨d, is, KB, MB, h1, h2, h3, h4, m⟩ := h
  have hcc := h4 _ hc
  have hi' := at_X (x := x) (u := u) (X := X) d is KB MB (cs.map (fun p => wcG x.db p.1 p.2)) [] i
  rw [hi] at hi'
  refine (rbytes_act m _ hi' hcc.nm.len (by have := hcc.le; simp only at this; omega)).mono ?_
  rintro e w' ⟨A, c, rfl, hc, m'⟩
  exact ⟨A, c, rfl, hc, d, is, KB, MB, h1, h2, h3, h4, m'⟩
theorem ls_wnums {i : Nat} {c : WC} {j : Nat} (h : LS x u K cs [] X q t W) (hi : cs[i]? = some (c, j)) :
    Calls Tryd.prog 18 #[.pointer (some ⟨c.wb, 0, none⟩)] W fun e w' => ∃ A cp, e = .returned (.slice A c.N.length cp) ∧ c.N.length ≤ cp ∧ LS x u K cs [[rowT (.slice A c.N.length cp) 3 1 c.N.length (ints c.N)]] X q t w' := by
  obtain ⟨d, is, KB, MB, h1, h2, h3, h4, m⟩ := h
  refine (wnums_act m (8 + i) (at_C d is KB MB i hi) (by have := (h4 _ (List.mem_of_getElem? hi)).short; simp only at this ⊢; omega)).mono ?_
  rintro e w' ⟨A, cp, rfl, hc, m'⟩
  exact ⟨A, cp, rfl, hc, d, is, KB, MB, h1, h2, h3, h4, m'⟩
theorem ls_same (hx : XOk x) {i : Nat} {A : Option Addr} {cp : Nat} {bs : List Int} (h : LS x u K cs ([rowT (.slice A bs.length cp) 5 1 bs.length (by8 bs)] :: F) X q t W) (hcp : bs.length ≤ cp) (he : bs = x.tx i) :
    Calls Tryd.prog 24 #[.slice A bs.length cp, x.txt i] W fun e w' => e = .returned (.bool true) ∧ LS x u K cs ([rowT (.slice A bs.length cp) 5 1 bs.length (by8 bs)] :: F) X q t w' := by
  have hk := h.old
  obtain ⟨d, is, KB, MB, h1, h2, h3, h4, m⟩ := h
  obtain ⟨A', c', e9, _, hC, _⟩ := own_C (k := .u8) ((m.get 0 rfl).get 0 rfl)
  cases e9
  subst he
  refine (same_yes hC hcp (((hx.tx i).keeps hk (by simp)).C (by have := hx.le i; omega)) (hx.tx i).2.1).mono ?_
  rintro e w' ⟨rfl, k9⟩
  exact ⟨rfl, d, is, KB, MB, h1, h2, h3, h4, m.blank k9⟩
end
end Go.Proofs.YtgcpcgcfpjolnaaDoor.G
-- ChainLent: the walk's parts.
namespace Go.Proofs.YtgcpcgcfpjolnaaDoor.G
open Go.RowKit Go.Proofs.YtgcpcgcfpjolnaaDoorW.PrintWords Go.Proofs.YtgcpcgcfpjolnaaDoorW.PrintLast Go.Proofs.YtgcpcgcfpjolnaaDoorW.PrintMore
set_option linter.unusedVariables false
set_option linter.unusedSimpArgs false
set_option maxRecDepth 10000
theorem rowG_moves {G : List (List Thing)} {W0 W W1 : World} (m : Moves [] G.flatten W0 W) (i : Nat) {v v1 : Value} {e size n n1 : Nat} {xs ys : List Value} (hi : G[i]? = some [rowT v e size n xs]) (hown : W1.ownsRow 0 e size v1 n1 ys)
    (hk : Keeps v.ownBlock.toList W W1) (hf : ∀ k, v1.ownBlock = some k → v.ownBlock = some k ∨ W.heap.size ≤ k) : Moves [] (G.set i [rowT v1 e size n1 ys]).flatten W0 W1 :=
  m.upd i hi (Moves.at (m.get i hi) 0 (rowT v1 e size n1 ys) rfl hk hown (rowT_nodup ..) (fun k hk => (hf k (by simpa [rowT] using hk)).imp (by simp [rowT]) id))
section
variable {x : LX} {u : LV} {K : List Thing → List Thing → Prop} {cs : List (WC × Nat)} {F X : List (List Thing)} {q t b : Nat} {W W1 : World}
theorem ls_pushR {v1 : Value} {c : WC} (h : LS x u K cs [] X q t W) (hown : W1.ownsRow 0 52 34 v1 (u.rl.length + 1) (refsV u.rl ++ refV c)) (hk : Keeps u.rv.ownBlock.toList W W1) (hf : ∀ k, v1.ownBlock = some k → u.rv.ownBlock = some k ∨ W.heap.size ≤ k) :
    LS x { u with rv := v1, rl := u.rl ++ [c] } K cs [] X q t W1 := by
  obtain ⟨d, is, KB, MB, h1, h2, h3, h4, m⟩ := h
  have m' := rowG_moves m 5 rfl hown hk hf
  refine ⟨d, is, KB, MB, h1, h2, h3, h4, ?_⟩
  have e1 : u.rl.length + 1 = (u.rl ++ [c]).length := by simp
  have e2 : refsV u.rl ++ refV c = refsV (u.rl ++ [c]) := by simp [refsV]
  rw [e1, e2] at m'
  exact m'
theorem ls_pushW {v1 : Value} {c : WC} (h : LS x u K cs [] X q t W) (hown : W1.ownsRow 0 43 1 v1 (u.wl.length + 1) (wptrs u.wl ++ [.pointer (some ⟨c.wb, 0, none⟩)])) (hk : Keeps u.wv.ownBlock.toList W W1) (hf : ∀ k, v1.ownBlock = some k → u.wv.ownBlock = some k ∨ W.heap.size ≤ k) :
    LS x { u with wv := v1, wl := u.wl ++ [c] } K cs [] X q t W1 := by
  obtain ⟨d, is, KB, MB, h1, h2, h3, h4, m⟩ := h
  have m' := rowG_moves m 6 rfl hown hk hf
  refine ⟨d, is, KB, MB, h1, h2, h3, h4, ?_⟩
  have e1 : u.wl.length + 1 = (u.wl ++ [c]).length := by simp
  have e2 : wptrs u.wl ++ [.pointer (some ⟨c.wb, 0, none⟩)] = wptrs (u.wl ++ [c]) := by simp [wptrs]
  rw [e1, e2] at m'
  exact m'
theorem ls_pushP {v1 : Value} {r : RC} (h : LS x u K cs [] X q t W) (hown : W1.ownsRow 0 65 1 v1 (u.pl.length + 1) (rptrs u.pl ++ [.pointer (some ⟨r.rb, 0, none⟩)])) (hk : Keeps u.pv.ownBlock.toList W W1) (hf : ∀ k, v1.ownBlock = some k → u.pv.ownBlock = some k ∨ W.heap.size ≤ k) :
    LS x { u with pv := v1, pl := u.pl ++ [r] } K cs [] X q t W1 := by
  obtain ⟨d, is, KB, MB, h1, h2, h3, h4, m⟩ := h
  have m' := rowG_moves m 7 rfl hown hk hf
  refine ⟨d, is, KB, MB, h1, h2, h3, h4, ?_⟩
  have e1 : u.pl.length + 1 = (u.pl ++ [r]).length := by simp
  have e2 : rptrs u.pl ++ [.pointer (some ⟨r.rb, 0, none⟩)] = rptrs (u.pl ++ [r]) := by simp [rptrs]
  rw [e1, e2] at m'
  exact m'
theorem ls_rowR (h : LS x u K cs [] X q t W) : W.ownsRow 0 52 34 u.rv u.rl.length (refsV u.rl) := by
  obtain ⟨d, is, KB, MB, h1, h2, h3, h4, m⟩ := h
  exact (m.get 5 rfl).get 0 rfl
theorem ls_rowW (h : LS x u K cs [] X q t W) : W.ownsRow 0 43 1 u.wv u.wl.length (wptrs u.wl) := by
  obtain ⟨d, is, KB, MB, h1, h2, h3, h4, m⟩ := h
  exact (m.get 6 rfl).get 0 rfl
theorem ls_rowP (h : LS x u K cs [] X q t W) : W.ownsRow 0 65 1 u.pv u.pl.length (rptrs u.pl) := by
  obtain ⟨d, is, KB, MB, h1, h2, h3, h4, m⟩ := h
  exact (m.get 7 rfl).get 0 rfl
/-- the texts' cells, with whatever stands ahead -/
theorem ls_txt (h : LS x u K cs F X q t W) (i : Nat) (hi : i < 2) : W.cell? ⟨x.tb, i, none⟩ = some (x.txt i) := by
  obtain ⟨d, is, KB, MB, h1, h2, h3, h4, m⟩ := h
  have hg : (F ++ GH x d is KB MB u (cs.map (fun p => wcG x.db p.1 p.2) ++ X))[F.length + 4]? = some [strT x.tb #[x.txt 0, x.txt 1] 31] := by
    rw [List.getElem?_append_right (by omega), Nat.add_sub_cancel_left]; rfl
  have hs : StrAt W x.tb #[x.txt 0, x.txt 1] 31 := (m.get _ hg).get 0 rfl
  have := StrAt.cell hs i
  have h2 : i = 0 ∨ i = 1 := by omega
  rcases h2 with rfl | rfl <;> simpa using this
/-- a struct's block in X -/
theorem ls_strX {bk T : Nat} {cells : Array Value} (h : LS x u K cs F X q t W) (i : Nat) (hi : X[i]? = some [strT bk cells T]) : StrAt W bk cells T := by
  obtain ⟨d, is, KB, MB, h1, h2, h3, h4, m⟩ := h
  have hi' := at_X (x := x) (u := u) (X := X) d is KB MB (cs.map (fun p => wcG x.db p.1 p.2)) F i
  rw [hi] at hi'
  exact (m.get _ hi').get 0 rfl
theorem refV_length (c : WC) : (refV c).length = 34 := refC_length _ _ _ (shaF_length _)
theorem refsV_at (rl : List WC) (i : Nat) (c : WC) (hi : rl[i]? = some c) (j : Nat) (hj : j < 34) : (refsV rl)[34 * i + j]? = (refV c)[j]? := by
  induction rl generalizing i with
  | nil => simp at hi
  | cons a rl ih =>
    rw [show refsV (a :: rl) = refV a ++ refsV rl by simp [refsV]]
    cases i with
    | zero =>
      simp only [List.getElem?_cons_zero, Option.some.injEq] at hi
      subst hi
      rw [List.getElem?_append_left (by rw [refV_length]; omega)]
      congr 1; omega
    | succ i =>
      rw [List.getElem?_append_right (by rw [refV_length]; omega), refV_length, show 34 * (i + 1) + j - 34 = 34 * i + j by omega]
      exact ih i (by simpa using hi)
/-- the refs' cells -/
theorem ls_refs (h : LS x u K cs F X q t W) (hn : 1 ≤ u.rl.length) : ∃ g c, u.rv = .slice (some ⟨g, 0, none⟩) u.rl.length c ∧ u.rl.length ≤ c ∧ ∀ i c, u.rl[i]? = some c → W.rangeAt g (34 * i) (refV c) := by
  obtain ⟨d, is, KB, MB, h1, h2, h3, h4, m⟩ := h
  have hg : (F ++ GH x d is KB MB u (cs.map (fun p => wcG x.db p.1 p.2) ++ X))[F.length + 5]? = some [rowT u.rv 52 34 u.rl.length (refsV u.rl)] := by
    rw [List.getElem?_append_right (by omega), Nat.add_sub_cancel_left]; rfl
  have hs : W.ownsRow 0 52 34 u.rv u.rl.length (refsV u.rl) := (m.get _ hg).get 0 rfl
  obtain ⟨g, c, e, hr⟩ := own_some hs hn
  refine ⟨g, c, e, hr.capLe.1, fun i c hi j v hj => ?_⟩
  have hj' : j < 34 := by
    have := (List.getElem?_eq_some_iff.1 hj).1
    rwa [refV_length] at this
  have hlt := (List.getElem?_eq_some_iff.1 hi).1
  have h9 := hr.cell (34 * i + j) (by omega)
  rw [refsV_at _ _ _ hi _ hj', hj] at h9
  exact h9
theorem ls_ws (h : LS x u K cs F X q t W) (hn : 1 ≤ u.wl.length) : ∃ g c, u.wv = .slice (some ⟨g, 0, none⟩) u.wl.length c ∧ u.wl.length ≤ c ∧ ∀ (i : Nat) (c : WC), u.wl[i]? = some c → W.cell? ⟨g, i, none⟩ = some (.pointer (some ⟨c.wb, 0, none⟩)) := by
  obtain ⟨d, is, KB, MB, h1, h2, h3, h4, m⟩ := h
  have hg : (F ++ GH x d is KB MB u (cs.map (fun p => wcG x.db p.1 p.2) ++ X))[F.length + 6]? = some [rowT u.wv 43 1 u.wl.length (wptrs u.wl)] := by
    rw [List.getElem?_append_right (by omega), Nat.add_sub_cancel_left]; rfl
  have hs : W.ownsRow 0 43 1 u.wv u.wl.length (wptrs u.wl) := (m.get _ hg).get 0 rfl
  obtain ⟨g, c, e, hr⟩ := own_some hs hn
  refine ⟨g, c, e, hr.capLe.1, fun i c hi => ?_⟩
  have hlt := (List.getElem?_eq_some_iff.1 hi).1
  have h9 := hr.cell i (by omega)
  rw [h9]; simp [wptrs, hi]
theorem ls_ps (h : LS x u K cs F X q t W) (hn : 1 ≤ u.pl.length) : ∃ g c, u.pv = .slice (some ⟨g, 0, none⟩) u.pl.length c ∧ u.pl.length ≤ c ∧ ∀ (i : Nat) (r : RC), u.pl[i]? = some r → W.cell? ⟨g, i, none⟩ = some (.pointer (some ⟨r.rb, 0, none⟩)) := by
  obtain ⟨d, is, KB, MB, h1, h2, h3, h4, m⟩ := h
  have hg : (F ++ GH x d is KB MB u (cs.map (fun p => wcG x.db p.1 p.2) ++ X))[F.length + 7]? = some [rowT u.pv 65 1 u.pl.length (rptrs u.pl)] := by
    rw [List.getElem?_append_right (by omega), Nat.add_sub_cancel_left]; rfl
  have hs : W.ownsRow 0 65 1 u.pv u.pl.length (rptrs u.pl) := (m.get _ hg).get 0 rfl
  obtain ⟨g, c, e, hr⟩ := own_some hs hn
  refine ⟨g, c, e, hr.capLe.1, fun i c hi => ?_⟩
  have hlt := (List.getElem?_eq_some_iff.1 hi).1
  have h9 := hr.cell i (by omega)
  rw [h9]; simp [rptrs, hi]
end
end Go.Proofs.YtgcpcgcfpjolnaaDoor.G
-- ChainLent: the start; the rounds' states.
namespace Go.Proofs.YtgcpcgcfpjolnaaDoor.G
open Go.RowKit Go.Proofs.YtgcpcgcfpjolnaaDoorW.PrintWords Go.Proofs.YtgcpcgcfpjolnaaDoorW.PrintLast Go.Proofs.YtgcpcgcfpjolnaaDoorW.PrintMore
set_option linter.unusedVariables false
set_option linter.unusedSimpArgs false
set_option maxRecDepth 10000
theorem info43 : (Tryd.prog.info? 43).map (fun i => (i.zero, i.size, i.bytes)) = some (some (.pointer none), 1, 8) := by kernel_rfl
theorem info65 : (Tryd.prog.info? 65).map (fun i => (i.zero, i.size, i.bytes)) = some (some (.pointer none), 1, 8) := by kernel_rfl
theorem info52c : (Tryd.prog.info? 52).map (fun i => (i.zero, i.size, i.bytes)) = some (some (.agg z34.toArray), 34, 48) := by kernel_rfl
theorem z34_cells : (Value.agg z34.toArray).cells.size = 34 := by rfl
theorem add_nil {M L : List Thing} {w0 w : World} (m : Moves M L w0 w) (e sz : Nat) : Moves M (rowT (.slice none 0 0) e sz 0 [] :: L) w0 w :=
  Moves.add (N := [rowT (.slice none 0 0) e sz 0 []]) m ⟨fun t ht => by rw [List.mem_singleton.1 ht]; exact World.ownsRow_nil _ _ _ _, by simp [fps, rowT, Value.ownBlock], by simp [fps, rowT, Value.ownBlock], m.has.le⟩ (by simp [fps, rowT, Value.ownBlock])
theorem perm_start {α : Type} (D : List α) (s a b c n1 n2 n3 n4 n5 n6 n7 : α) : (n1 :: n2 :: n3 :: n4 :: n5 :: n6 :: n7 :: (c :: b :: a :: (D ++ [s]))).Perm (D ++ ([s] ++ ([b, n1, n2] ++ ([c, n3, n4] ++ ([a] ++ ([n5] ++ ([n6] ++ ([n7] ++ [])))))))) := by
  classical
  rw [List.perm_iff_count]
  intro y
  simp only [List.count_append, List.count_cons, List.count_nil]
  omega
def U0 : LV := ⟨.slice none 0 0, [], .slice none 0 0, [], .slice none 0 0, []⟩
theorem ls_start (x : LX) {W : World} {d : DK} (hd : Blank d 250) (hdb : d.db = x.db) (e1 : x.tb = W.heap.size) (e2 : x.kb = W.heap.size + 1) (e3 : x.mb = W.heap.size + 1 + 1) (m : Moves [] [DL d, [spT (spx x (List.replicate (250 - 5) true))]].flatten x.W0 W) :
    LS x U0 (KL x 0) [] [] [] 0 0 (((W.alloc (.cells #[x.txt 0, x.txt 1] 31)).alloc (.cells #[.slice none 0 0, .slice none 0 0] 35)).alloc (.cells #[.slice none 0 0, .slice none 0 0, .int .i64 0] 39)) := by
  have m1 := m.newStr #[x.txt 0, x.txt 1] 31
  have m2 := m1.newStr #[.slice none 0 0, .slice none 0 0] 35
  have m3 := m2.newStr #[.slice none 0 0, .slice none 0 0, .int .i64 0] 39
  have m4 := add_nil (add_nil (add_nil (add_nil (add_nil (add_nil (add_nil m3 65 1) 43 1) 52 34) 47 1) 47 1) 22 1) 22 1
  have h5 : (List.replicate (250 - 5) true).length = 245 := by simp
  refine ⟨d, List.replicate (250 - 5) true, NB.BL x.kb (.slice none 0 0) (.slice none 0 0) 0 [] [], NI.BL x.mb (.slice none 0 0) (.slice none 0 0) 0 [] [], ⟨hd.ok, hdb, by rw [hd.last]; simp, h5, by rw [trues_full]; simp⟩, ⟨⟨.slice none 0 0, .slice none 0 0, [], .slice none 0 0, .slice none 0 0, 0, []⟩, ⟨by simp, by simp, by simp, by simp⟩, rfl, rfl⟩, ⟨by rw [hd.rd]; simp, by rw [hd.wr]; simp⟩, by simp, ?_⟩
  have q1 := m4.perm (List.Perm.refl _) (perm_start (DL d) (spT (spx x (List.replicate (250 - 5) true))) _ _ _ _ _ _ _ _ _ _)
  rw [← e1, show (W.alloc (.cells #[x.txt 0, x.txt 1] 31)).heap.size = x.kb by rw [e2]; simp, show ((W.alloc (.cells #[x.txt 0, x.txt 1] 31)).alloc (.cells #[.slice none 0 0, .slice none 0 0] 35)).heap.size = x.mb by rw [e3]; simp] at q1
  exact q1
/-- the chains, written whole, the newest first -/
def fullC (cs : List WC) : List (WC × Nat) := cs.reverse.map fun c => (c, c.N.length)
theorem fullC_snoc (cs : List WC) (c : WC) : fullC (cs ++ [c]) = (c, c.N.length) :: fullC cs := by simp [fullC]
/-- ahead of the i-th round of the writers -/
def P1 (x : LX) (i : Nat) (rv wv : Value) (W : World) : Prop :=
  ∃ cs : List WC, cs.length = i ∧ (∀ j c, cs[j]? = some c → c.bs = x.tx j) ∧ LS x ⟨rv, cs, wv, cs, .slice none 0 0, []⟩ (KL x (10 * i)) (fullC cs) [] [] (2 * i) (1000 * i) W
theorem p1_step {x : LX} {i : Nat} {rv wv : Value} {W : World} (cs : List WC) (c : WC) (hcs : cs.length = i) (htx : ∀ j c, cs[j]? = some c → c.bs = x.tx j) (hcb : c.bs = x.tx i)
    (h : LS x ⟨rv, cs ++ [c], wv, cs ++ [c], .slice none 0 0, []⟩ (KL x (10 * i + 1 + 1 + 1 + 1 + 1)) ((c, c.N.length) :: fullC cs) [] [] (2 * i + 1 + 1) (1000 * i + 42 + 42) W) : P1 x (i + 1) rv wv W := by
  refine ⟨cs ++ [c], by simp [hcs], fun j c' hj => ?_, ?_⟩
  · by_cases hji : j < i
    · rw [List.getElem?_append_left (by omega)] at hj
      exact htx j c' hj
    · rw [List.getElem?_append_right (by omega)] at hj
      have hj0 : j - cs.length = 0 := by
        rcases Nat.eq_zero_or_pos (j - cs.length) with h0 | h0
        · exact h0
        · rw [List.getElem?_eq_none (by simp; omega)] at hj; cases hj
      rw [hj0] at hj
      have hje : j = i := by omega
      cases hj
      rw [hje]; exact hcb
  · rw [fullC_snoc]
    exact (h.mono (by omega)).kmono (KL.mono (by omega))
theorem LS.permX {x : LX} {u : LV} {K : List Thing → List Thing → Prop} {cs : List (WC × Nat)} {F X X' : List (List Thing)} {q t : Nat} {W : World} (h : LS x u K cs F X q t W) (p : X.Perm X') : LS x u K cs F X' q t W := by
  obtain ⟨d, is, KB, MB, h1, h2, h3, h4, m⟩ := h
  exact ⟨d, is, KB, MB, h1, h2, h3, h4, m.permG (List.Perm.append (List.Perm.refl _) (List.Perm.append (List.Perm.refl _) (List.Perm.append (List.Perm.refl _) p)))⟩
section
variable {x : LX} {u : LV} {K : List Thing → List Thing → Prop} {cs : List (WC × Nat)} {F X : List (List Thing)} {q t : Nat} {W : World}
theorem ls_refAt {g n c0 i : Nat} {c : WC} (h : LS x u K cs F X q t W) (hrv : u.rv = .slice (some ⟨g, 0, none⟩) n c0) (hi : u.rl[i]? = some c) : W.rangeAt g (34 * i) (refV c) := by
  have hl := (List.getElem?_eq_some_iff.1 hi).1
  obtain ⟨g', c', e, _, h1⟩ := ls_refs h (by omega)
  cases hrv.symm.trans e
  exact h1 i c hi
theorem ls_wsAt {g n c0 i : Nat} {c : WC} (h : LS x u K cs F X q t W) (hrv : u.wv = .slice (some ⟨g, 0, none⟩) n c0) (hi : u.wl[i]? = some c) : W.cell? ⟨g, i, none⟩ = some (.pointer (some ⟨c.wb, 0, none⟩)) := by
  have hl := (List.getElem?_eq_some_iff.1 hi).1
  obtain ⟨g', c', e, _, h1⟩ := ls_ws h (by omega)
  cases hrv.symm.trans e
  exact h1 i c hi
theorem ls_psAt {g n c0 i : Nat} {c : RC} (h : LS x u K cs F X q t W) (hrv : u.pv = .slice (some ⟨g, 0, none⟩) n c0) (hi : u.pl[i]? = some c) : W.cell? ⟨g, i, none⟩ = some (.pointer (some ⟨c.rb, 0, none⟩)) := by
  have hl := (List.getElem?_eq_some_iff.1 hi).1
  obtain ⟨g', c', e, _, h1⟩ := ls_ps h (by omega)
  cases hrv.symm.trans e
  exact h1 i c hi
/-- a new block at the end of X -/
theorem ls_str (h : LS x u K cs F X q t W) (cells : Array Value) (T : TypeId) : LS x u K cs F ([strT W.heap.size cells T] :: X) q t (W.alloc (.cells cells T)) := by
  obtain ⟨d, is, KB, MB, h1, h2, h3, h4, m⟩ := h
  exact ⟨d, is, KB, MB, h1, h2, h3, h4, (m.newStr cells T).permG (perm_lx _ F [_, _, _, _, _, _, _, _] _ _)⟩
end
def wayC : Array Value := #[.int .i64 0, .int .i64 0, .int .i64 1, .int .i64 1, .int .i64 0, .int .i64 1]
def wy (i : Nat) : Nat := [0, 0, 1, 1, 0, 1].getD i 0
theorem way_at {W : World} {b i : Nat} (h : StrAt W b wayC 62) (hi : i < 6) : W.cell? ⟨b, i, none⟩ = some (.int .i64 (wy i : Int)) := by
  have := StrAt.cell h i
  rw [this]
  have h6 : i = 0 ∨ i = 1 ∨ i = 2 ∨ i = 3 ∨ i = 4 ∨ i = 5 := by omega
  rcases h6 with rfl | rfl | rfl | rfl | rfl | rfl <;> rfl
theorem wy_lt (i : Nat) : wy i < 2 := by
  unfold wy
  rcases i with _ | _ | _ | _ | _ | _ | i <;> simp
/-- readers that are through -/
def rdX (x : LX) (wb : Nat) (pl : List RC) : List (List Thing) := [strT wb wayC 62] :: pl.map fun r => rcG x.db r r.c.N.length
theorem rdX_at (x : LX) (wb : Nat) (pl : List RC) (i : Nat) (r : RC) (hi : pl[i]? = some r) : (rdX x wb pl)[i + 1]? = some (rcG x.db r r.c.N.length) := by simp [rdX, hi]
theorem rdX_perm (x : LX) (wb : Nat) (pl : List RC) (r : RC) : (rcG x.db r r.c.N.length :: rdX x wb pl).Perm (rdX x wb (pl ++ [r])) := by
  unfold rdX
  rw [List.map_append, List.map_cons, List.map_nil]
  refine (List.Perm.swap _ _ _).trans (List.Perm.cons _ ?_)
  exact (List.perm_append_singleton _ _).symm
/-- ahead of the i-th round of the readers -/
def P2 (x : LX) (wb rg rc : Nat) (wv : Value) (cs : List WC) (i : Nat) (pv : Value) (W : World) : Prop :=
  ∃ pl : List RC, pl.length = i ∧ (∀ j r, pl[j]? = some r → cs[wy j]? = some r.c) ∧ LS x ⟨.slice (some ⟨rg, 0, none⟩) 2 rc, cs, wv, cs, pv, pl⟩ (KL x (20 + 200 * i)) (fullC cs) [] (rdX x wb pl) 4 (2000 + 1000 * i) W
theorem fullC_mem {cs : List WC} {c : WC} {k : Nat} (h : cs[k]? = some c) : (c, c.N.length) ∈ fullC cs := List.mem_map.2 ⟨c, List.mem_reverse.2 (List.mem_of_getElem? h), rfl⟩
theorem fullC_at {cs : List WC} {c : WC} {k : Nat} (h : cs[k]? = some c) : (fullC cs)[cs.length - 1 - k]? = some (c, c.N.length) := by
  have hk := (List.getElem?_eq_some_iff.1 h).1
  unfold fullC
  rw [List.getElem?_map, List.getElem?_reverse (by omega), show cs.length - 1 - (cs.length - 1 - k) = k by omega, h]
  rfl
theorem p2_step {x : LX} {wb rg rc : Nat} {wv pv : Value} {cs : List WC} {i b t : Nat} {W : World} (pl : List RC) (r : RC) (hpl : pl.length = i) (hrl : ∀ j r, pl[j]? = some r → cs[wy j]? = some r.c) (c : WC) (hc : cs[wy i]? = some c) (hrc : r.c = c)
    (h : LS x ⟨.slice (some ⟨rg, 0, none⟩) 2 rc, cs, wv, cs, pv, pl ++ [r]⟩ (KL x b) (fullC cs) [] (rcG x.db r r.c.N.length :: rdX x wb pl) 4 t W) (hb : b ≤ 20 + 200 * (i + 1)) (ht : t ≤ 2000 + 1000 * (i + 1)) : P2 x wb rg rc wv cs (i + 1) pv W := by
  refine ⟨pl ++ [r], by simp [hpl], fun j r' hj => ?_, ((h.permX (rdX_perm x wb pl r)).mono ht).kmono (KL.mono hb)⟩
  by_cases hji : j < i
  · rw [List.getElem?_append_left (by omega)] at hj
    exact hrl j r' hj
  · rw [List.getElem?_append_right (by omega)] at hj
    have hj0 : j - pl.length = 0 := by
      rcases Nat.eq_zero_or_pos (j - pl.length) with h0 | h0
      · exact h0
      · rw [List.getElem?_eq_none (by simp; omega)] at hj; cases hj
    rw [hj0] at hj
    have hje : j = i := by omega
    cases hj
    rw [hje, hrc]; exact hc
theorem size52v (c : WC) : (Tryd.prog.info? 52).map (·.size) = some (refV c).length := by rw [size52, refV_length]
theorem ref_first (c : WC) : (refV c)[32]? = some (.int .i64 (c.N.getD 0 0)) := by
  unfold refV refC
  rw [List.getElem?_append_right (by simp [by8_length, shaF_length])]
  simp [by8_length, shaF_length]
section
variable {x : LX} {u : LV} {K : List Thing → List Thing → Prop} {cs : List (WC × Nat)} {F X : List (List Thing)} {q t : Nat} {W : World}
theorem row_first {w : World} {A : Option Addr} {n cp : Nat} {N : List Int} (hn : 1 ≤ N.length) (he : N.length = n) (h : w.ownsRow 0 3 1 (.slice A n cp) N.length (ints N)) : ∃ g, A = some ⟨g, 0, none⟩ ∧ n ≤ cp ∧ w.cell? ⟨g, 0, none⟩ = some (.int .i64 (N.getD 0 0)) := by
  obtain ⟨g, c, e, hr⟩ := own_some h hn
  cases e
  refine ⟨g, rfl, by have := hr.capLe.1; omega, ?_⟩
  rw [hr.cell 0 (by omega)]
  cases N with
  | nil => simp at hn
  | cons a N => simp [ints]
/-- the numbers of a reader that is through, of a writer: the first of them -/
theorem ls_rnum0 {i : Nat} {r : RC} {c : WC} (h : LS x u K cs [] X q t W) (hi : X[i]? = some (rcG x.db r r.c.N.length)) (hc : (c, c.N.length) ∈ cs) (hrc : r.c = c) :
    Calls Tryd.prog 18 #[.pointer (some ⟨r.rb, 0, none⟩)] W fun e w' => ∃ g cp, e = .returned (.slice (some ⟨g, 0, none⟩) c.N.length cp) ∧ c.N.length ≤ cp ∧ w'.cell? ⟨g, 0, none⟩ = some (.int .i64 (c.N.getD 0 0)) ∧ LS x u K cs [] X q t w' := by
  subst hrc
  have hs := (h.ch _ hc).1
  refine (ls_rnums h hi hc (n := r.c.N.length) (by rw [List.length_take, Nat.min_self])).mono ?_
  rintro e w' ⟨A, cp, rfl, _, h'⟩
  have ht : r.c.N.take r.c.N.length = r.c.N := List.take_length
  have hrow : w'.ownsRow 0 3 1 (.slice A r.c.N.length cp) r.c.N.length (ints r.c.N) := by
    obtain ⟨d, is, KB, MB, h1, h2, h3, h4, m⟩ := h'
    have := (m.get 0 rfl).get 0 rfl
    rw [ht] at this
    exact this
  obtain ⟨g, rfl, h1, h2⟩ := row_first hs.1 rfl hrow
  exact ⟨g, cp, rfl, h1, h2, h'.shed⟩
theorem ls_wnum0 {i : Nat} {c : WC} {j : Nat} (h : LS x u K cs [] X q t W) (hi : cs[i]? = some (c, j)) :
    Calls Tryd.prog 18 #[.pointer (some ⟨c.wb, 0, none⟩)] W fun e w' => ∃ g cp, e = .returned (.slice (some ⟨g, 0, none⟩) c.N.length cp) ∧ c.N.length ≤ cp ∧ w'.cell? ⟨g, 0, none⟩ = some (.int .i64 (c.N.getD 0 0)) ∧ LS x u K cs [] X q t w' := by
  have hs := (h.ch _ (List.mem_of_getElem? hi)).1
  refine (ls_wnums h hi).mono ?_
  rintro e w' ⟨A, cp, rfl, _, h'⟩
  have hrow : w'.ownsRow 0 3 1 (.slice A c.N.length cp) c.N.length (ints c.N) := by
    obtain ⟨d, is, KB, MB, h1, h2, h3, h4, m⟩ := h'
    exact (m.get 0 rfl).get 0 rfl
  obtain ⟨g, rfl, h1, h2⟩ := row_first hs.1 rfl hrow
  exact ⟨g, cp, rfl, h1, h2, h'.shed⟩
end
theorem refV_one (c : WC) : ∀ v ∈ (refV c), v.oneCell' = true := refC_one _ _ _
/-- []T{x} of a struct of 34 cells -/
theorem wp_slice40 {ops : Array Oper} {rest : List Oper} {o : Oper} {a : Act} {Q : Exit → Act → World → Prop} {W : World} (hg : o.guard = none) (y : Operand) (hop : o.op = .buildSlice 40 1 #[(0, y)]) (L : List Value) (hL : L.length = 34) (hy : a.eval y = .agg L.toArray)
    (h : wpList Tryd.prog ops Q rest (a.put o.dst (.slice (some ⟨W.heap.size, 0, none⟩) 1 1)) (W.alloc (.cells L.toArray 52))) : wpList Tryd.prog ops Q (o :: rest) a W := by
  obtain ⟨i0, hi, hz0, hz1, hz2⟩ := info_parts info52c
  refine wpList_buildSlice hg 40 52 1 _ hop L.toArray i0 (.agg z34.toArray) Tryd.underlying40 hi hz0 (by rw [hz1]; decide) (by rw [hz1]; decide) ?_ h
  rw [hz1]
  simp only [List.map_toArray, List.map_cons, List.map_nil]
  rw [hy, fill_step _ _ 0 _ _ 0 34 rfl (by simpa [Value.cells] using hL) (by simp)]
  rw [show (putAt (Array.map (fun x => (Value.agg z34.toArray).cells[x % (Value.agg z34.toArray).cells.size]!) (Array.range (1 * 34))).toList 0 (Value.agg L.toArray).cells.toList) = L from by
    unfold putAt
    simp [Value.cells, hL]]
  rfl
theorem blank52 (w : World) (L : List Value) : Keeps [] w ((w.alloc (.cells z34.toArray 52)).setCells w.heap.size 0 L) :=
  (keeps_setCells (S := [w.heap.size]) (g := w.heap.size) (by simp) L 0 w _ ((Keeps.refl _ _).alloc (.cells z34.toArray 52))).mono (by simp)
theorem size52c {L : List Value} (h : L.length = 34) : (Tryd.prog.info? 52).map (·.size) = some L.toArray.size := by rw [size52]; simp [h]
end Go.Proofs.YtgcpcgcfpjolnaaDoor.G
