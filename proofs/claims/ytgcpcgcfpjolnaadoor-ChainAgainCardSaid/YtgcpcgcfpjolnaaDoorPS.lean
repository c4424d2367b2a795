import Derived.Test.YtgcpcgcfpjolnaaDoorPG
-- ChainTurns: what stands ahead of the walk.
namespace Go.Proofs.YtgcpcgcfpjolnaaDoor.G
open Go.RowKit Go.Proofs.YtgcpcgcfpjolnaaDoorW.PrintWords Go.Proofs.YtgcpcgcfpjolnaaDoorW.PrintLast Go.Proofs.YtgcpcgcfpjolnaaDoorW.PrintMore
set_option linter.unusedVariables false
set_option linter.unusedSimpArgs false
set_option maxRecDepth 10000
theorem nSec_20000 (L : Nat) (h : L ≤ 20000) : 1 ≤ nSec L ∧ nSec L ≤ 42 := by unfold nSec; omega
/-- numbers that a slice shows -/
def ISl (w : World) (A : Option Addr) (L c : Nat) (xs : List Int) : Prop := xs.length = L ∧ L ≤ c ∧ ((A = none ∧ xs = [] ∧ L = 0) ∨ ∃ g o, A = some ⟨g, o, none⟩ ∧ w.rangeAt g o (ints xs) ∧ xs.length = L ∧ g < w.heap.size)
theorem ISl.keeps {w w' : World} {S : List Nat} {A : Option Addr} {L c : Nat} {xs : List Int} (h : ISl w A L c xs) (hk : Keeps S w w') (hn : ∀ g o, A = some ⟨g, o, none⟩ → g ∉ S) : ISl w' A L c xs := by
  refine ⟨h.1, h.2.1, ?_⟩
  rcases h.2.2 with h1 | ⟨g, o, rfl, h2, h3, h4⟩
  · exact .inl h1
  · exact .inr ⟨g, o, rfl, range_keeps h2 hk (hn g o rfl), h3, Nat.lt_of_lt_of_le h4 hk.size⟩
/-- two lists of numbers that have nothing in common, out of one space -/
theorem two_outs {fr hi k1 k2 : Nat} {is : List Bool} (hl : is.length = hi - fr) (hf : fr < hi) (h12 : k1 + k2 ≤ (trues is).length) :
    takeAllOk is (k1 : Int) = true ∧ takeAllOk (takeAllS is (k1 : Int)) (k2 : Int) = true ∧ (takeAllS is (k1 : Int)).length = hi - fr ∧ (∀ n ∈ takeAllOut fr is (k1 : Int), n ∉ takeAllOut fr (takeAllS is (k1 : Int)) (k2 : Int)) := by
  have o1 : takeAllOk is (k1 : Int) = true := by simp [takeAllOk]; omega
  have e1 : takeAllS is (k1 : Int) = clear is ((trues is).take k1) := by unfold takeAllS; rw [if_pos o1]; rfl
  have e2 : trues (takeAllS is (k1 : Int)) = (trues is).drop k1 := by rw [e1, trues_clear_take]
  have o2 : takeAllOk (takeAllS is (k1 : Int)) (k2 : Int) = true := by simp [takeAllOk, e2]; omega
  refine ⟨o1, o2, by rw [e1, clear_length]; exact hl, fun n h1 h2 => ?_⟩
  unfold takeAllOut at h1 h2
  rw [if_pos o1] at h1
  rw [if_pos o2, e2] at h2
  obtain ⟨m1, hm1, rfl⟩ := List.mem_map.1 h1
  obtain ⟨m2, hm2, he⟩ := List.mem_map.1 h2
  have e3 : m2 = m1 := by omega
  subst e3
  have hd := trues_nodup is
  rw [← List.take_append_drop k1 (trues is)] at hd
  exact (List.nodup_append.1 hd).2.2 m2 (by simpa using hm1) m2 (List.mem_of_mem_take hm2) rfl
/-- two chains under way on one disk -/
structure Two (d0 d : DK) (N1 b1 N2 b2 : List Int) (j1 j2 jr : Nat) : Prop where
  ok : DOk d
  w1 : Wrote d N1 b1 j1
  w2 : Wrote d N2 b2 j2
  db : d.db = d0.db
  last : d.last = d0.last
  rd : d.rd = d0.rd + (jr : Int)
  wr : d.wr = d0.wr + (j1 : Int) + (j2 : Int)
def TG (d0 d : DK) (N1 b1 N2 b2 : List Int) (vb wb rb : Nat) (nv1 bv1 nv2 bv2 nv bv : Value) (s : SI) (j1 j2 jr : Nat) : List (List Thing) :=
  [DL d, WLs d0.db (WJ vb N1 b1 nv1 bv1 j1), WLs d0.db (WJ wb N2 b2 nv2 bv2 j2), RLs d0.db (RJ rb 5 N1 b1 nv bv jr), [spT s]]
structure TX where
  W0 : World
  d0 : DK
  N1 : List Int
  b1 : List Int
  N2 : List Int
  b2 : List Int
  vb : Nat
  wb : Nat
  rb : Nat
  nv1 : Value
  bv1 : Value
  nv2 : Value
  bv2 : Value
  s : SI
/-- what lies in memory when j1, j2 sectors are written and jr read -/
def TS (x : TX) (j1 j2 jr : Nat) (W : World) : Prop := ∃ d nv bv, Two x.d0 d x.N1 x.b1 x.N2 x.b2 j1 j2 jr ∧ Moves [] (TG x.d0 d x.N1 x.b1 x.N2 x.b2 x.vb x.wb x.rb x.nv1 x.bv1 x.nv2 x.bv2 nv bv x.s j1 j2 jr).flatten x.W0 W
structure TOk (x : TX) : Prop where
  n1 : Nm x.d0 5 x.N1 x.b1
  n2 : Nm x.d0 5 x.N2 x.b2
  ap : ∀ n ∈ x.N1, n ∉ x.N2
  rd : x.d0.rd = 0
  wr : x.d0.wr = 0
  l1 : x.N1.length ≤ 42
  l2 : x.N2.length ≤ 42
  H : HalfW x.W0
  T : ShaW x.W0
theorem Two.nm {d0 d : DK} {N1 b1 N2 b2 : List Int} {j1 j2 jr : Nat} (h : Two d0 d N1 b1 N2 b2 j1 j2 jr) {N bs : List Int} (nm : Nm d0 5 N bs) : Nm d 5 N bs := ⟨nm.len, nm.le, nm.nd, nm.hp, nm.lo, by rw [h.last]; exact nm.hi⟩
theorem ts_blank {x : TX} {j1 j2 jr : Nat} {W W' : World} (h : TS x j1 j2 jr W) (hk : Keeps [] W W') : TS x j1 j2 jr W' := by
  obtain ⟨d, nv, bv, h1, m⟩ := h
  exact ⟨d, nv, bv, h1, m.blank hk⟩
theorem ts_done1 {x : TX} {j1 j2 jr : Nat} {W : World} (h : TS x j1 j2 jr W) : Calls Tryd.prog 31 #[.pointer (some ⟨x.vb, 0, none⟩)] W fun e w' => e = .returned (.int .i64 (j1 : Int)) ∧ w' = W := by
  obtain ⟨d, nv, bv, h1, m⟩ := h
  exact wdone_act m 1 rfl
theorem ts_done2 {x : TX} {j1 j2 jr : Nat} {W : World} (h : TS x j1 j2 jr W) : Calls Tryd.prog 31 #[.pointer (some ⟨x.wb, 0, none⟩)] W fun e w' => e = .returned (.int .i64 (j2 : Int)) ∧ w' = W := by
  obtain ⟨d, nv, bv, h1, m⟩ := h
  exact wdone_act m 2 rfl
theorem ts_nums1 {x : TX} (ok : TOk x) {j1 j2 jr : Nat} {W : World} (h : TS x j1 j2 jr W) : Calls Tryd.prog 18 #[.pointer (some ⟨x.vb, 0, none⟩)] W fun e w' => ∃ A c, e = .returned (.slice A x.N1.length c) ∧ TS x j1 j2 jr w' := by
  obtain ⟨d, nv, bv, h1, m⟩ := h
  refine (wnums_act m 1 rfl (by have := ok.l1; omega)).mono ?_
  rintro e w' ⟨A, c, rfl, hc, m'⟩
  exact ⟨A, c, rfl, d, nv, bv, h1, m'.shed⟩
theorem ts_nums2 {x : TX} (ok : TOk x) {j1 j2 jr : Nat} {W : World} (h : TS x j1 j2 jr W) : Calls Tryd.prog 18 #[.pointer (some ⟨x.wb, 0, none⟩)] W fun e w' => ∃ A c, e = .returned (.slice A x.N2.length c) ∧ TS x j1 j2 jr w' := by
  obtain ⟨d, nv, bv, h1, m⟩ := h
  refine (wnums_act m 2 rfl (by have := ok.l2; omega)).mono ?_
  rintro e w' ⟨A, c, rfl, hc, m'⟩
  exact ⟨A, c, rfl, d, nv, bv, h1, m'.shed⟩
theorem ts_step1 {x : TX} (ok : TOk x) {j1 j2 jr : Nat} {W : World} (h : TS x j1 j2 jr W) (hj : j1 < x.N1.length) (hj2 : j2 ≤ x.N2.length) : Calls Tryd.prog 19 #[.pointer (some ⟨x.vb, 0, none⟩)] W fun e w' => (∃ v, e = .returned v) ∧ TS x (j1 + 1) j2 jr w' := by
  obtain ⟨d, nv, bv, h1, m⟩ := h
  refine (wstep_act m 0 1 (by decide) rfl rfl h1.db h1.ok (h1.nm ok.n1) hj (by have := h1.wr; have := ok.wr; have := ok.l1; have := ok.l2; omega) ok.H).mono ?_
  rintro e w' ⟨rfl, d', hw, m'⟩
  refine ⟨⟨_, rfl⟩, d', nv, bv, ⟨hw.ok, h1.w1.step ok.n1.nd hj hw, h1.w2.other hj2 (ok.ap _ (getD_mem hj)) hw, hw.db.trans h1.db, hw.last.trans h1.last, hw.rd.trans h1.rd, by rw [hw.wr, h1.wr]; omega⟩, m'⟩
theorem ts_step2 {x : TX} (ok : TOk x) {j1 j2 jr : Nat} {W : World} (h : TS x j1 j2 jr W) (hj : j2 < x.N2.length) (hj1 : j1 ≤ x.N1.length) : Calls Tryd.prog 19 #[.pointer (some ⟨x.wb, 0, none⟩)] W fun e w' => (∃ v, e = .returned v) ∧ TS x j1 (j2 + 1) jr w' := by
  obtain ⟨d, nv, bv, h1, m⟩ := h
  refine (wstep_act m 0 2 (by decide) rfl rfl h1.db h1.ok (h1.nm ok.n2) hj (by have := h1.wr; have := ok.wr; have := ok.l1; have := ok.l2; omega) ok.H).mono ?_
  rintro e w' ⟨rfl, d', hw, m'⟩
  refine ⟨⟨_, rfl⟩, d', nv, bv, ⟨hw.ok, h1.w1.other hj1 (fun hm => ok.ap _ hm (getD_mem hj)) hw, h1.w2.step ok.n2.nd hj hw, hw.db.trans h1.db, hw.last.trans h1.last, hw.rd.trans h1.rd, by rw [hw.wr, h1.wr]; omega⟩, m'⟩
theorem ts_end1 {x : TX} {j2 jr : Nat} {W : World} (h : TS x x.N1.length j2 jr W) : Calls Tryd.prog 19 #[.pointer (some ⟨x.vb, 0, none⟩)] W fun e w' => (∃ v, e = .returned v) ∧ TS x x.N1.length j2 jr w' := by
  obtain ⟨d, nv, bv, h1, m⟩ := h
  refine (wend_act m 1 rfl).mono ?_
  rintro e w' ⟨rfl, hk⟩
  exact ⟨⟨_, rfl⟩, d, nv, bv, h1, m.blank hk⟩
theorem ts_read {x : TX} (ok : TOk x) {j1 j2 jr : Nat} {W : World} (h : TS x j1 j2 jr W) (hj : jr < j1) (hj1 : j1 ≤ x.N1.length) : Calls Tryd.prog 26 #[.pointer (some ⟨x.rb, 0, none⟩)] W fun e w' => (∃ v, e = .returned v) ∧ TS x j1 j2 (jr + 1) w' := by
  obtain ⟨d, nv, bv, h1, m⟩ := h
  refine (rstep_act m 0 3 (by decide) rfl rfl h1.db h1.ok (h1.nm ok.n1) (by omega) (h1.w1 jr hj) (by have := h1.rd; have := ok.rd; have := ok.l1; omega) ok.H ok.T).mono ?_
  rintro e w' ⟨rfl, nv', bv', m'⟩
  exact ⟨⟨_, rfl⟩, rdUp d, nv', bv', ⟨ok_rdUp h1.ok, h1.w1, h1.w2, h1.db, h1.last, by show d.rd + 1 = _; rw [h1.rd]; omega, h1.wr⟩, m'⟩
theorem ts_old {x : TX} {j1 j2 jr : Nat} {W : World} (h : TS x j1 j2 jr W) : Keeps [] x.W0 W := by
  obtain ⟨d, nv, bv, h1, m⟩ := h
  exact m.old
/-- behind both: what is got -/
theorem ts_ref1 {x : TX} {j1 j2 jr : Nat} {W : World} (h : TS x j1 j2 jr W) : Calls Tryd.prog 20 #[.pointer (some ⟨x.vb, 0, none⟩)] W fun e w' => e = .returned (.agg (refC (shaF x.b1) (x.N1.getD 0 0) (x.b1.length : Int)).toArray) ∧ TS x j1 j2 jr w' := by
  obtain ⟨d, nv, bv, h1, m⟩ := h
  refine (wref_act m 1 rfl).mono ?_
  rintro e w' ⟨rfl, hk⟩
  exact ⟨rfl, d, nv, bv, h1, m.blank hk⟩
theorem ts_ref2 {x : TX} {j1 j2 jr : Nat} {W : World} (h : TS x j1 j2 jr W) : Calls Tryd.prog 20 #[.pointer (some ⟨x.wb, 0, none⟩)] W fun e w' => e = .returned (.agg (refC (shaF x.b2) (x.N2.getD 0 0) (x.b2.length : Int)).toArray) ∧ TS x j1 j2 jr w' := by
  obtain ⟨d, nv, bv, h1, m⟩ := h
  refine (wref_act m 2 rfl).mono ?_
  rintro e w' ⟨rfl, hk⟩
  exact ⟨rfl, d, nv, bv, h1, m.blank hk⟩
/-- what a call told: bytes in memory of their own -/
def Tells8 (W0 : World) (bs : List Int) (A : Option Addr) (c : Nat) (W : World) : Prop := bs.length ≤ c ∧ W.ownsRow 0 5 1 (.slice A bs.length c) bs.length (by8 bs)
theorem Tells8.C {W0 W : World} {bs : List Int} {A : Option Addr} {c : Nat} (h : Tells8 W0 bs A c W) : Kd.C (Kd.int .u8) W A bs.length bs := by
  obtain ⟨A', c', e, _, hC, _⟩ := own_C (k := .u8) h.2
  cases e
  exact hC
theorem Tells8.keeps {W0 W W' : World} {bs : List Int} {A : Option Addr} {c : Nat} (h : Tells8 W0 bs A c W) (hk : Keeps [] W W') : Tells8 W0 bs A c W' := ⟨h.1, ownsRow_keeps h.2 hk (by simp)⟩
def TE (x : TX) (R : List (List Thing)) (jr : Nat) (W : World) : Prop := ∃ d nv bv, Two x.d0 d x.N1 x.b1 x.N2 x.b2 x.N1.length x.N2.length jr ∧ Moves [] (TG x.d0 d x.N1 x.b1 x.N2 x.b2 x.vb x.wb x.rb x.nv1 x.bv1 x.nv2 x.bv2 nv bv x.s x.N1.length x.N2.length x.N1.length ++ R).flatten x.W0 W
theorem Two.rdN {d0 d : DK} {N1 b1 N2 b2 : List Int} {j1 j2 jr : Nat} (h : Two d0 d N1 b1 N2 b2 j1 j2 jr) (n : Nat) : Two d0 (rdN d n) N1 b1 N2 b2 j1 j2 (jr + n) := ⟨ok_rdN h.ok n, h.w1, h.w2, h.db, h.last, by show d.rd + (n : Int) = _; rw [h.rd]; omega, h.wr⟩
theorem te_start {x : TX} {W : World} (h : TS x x.N1.length x.N2.length x.N1.length W) : TE x [] x.N1.length W := by
  obtain ⟨d, nv, bv, h1, m⟩ := h
  exact ⟨d, nv, bv, h1, by rw [List.append_nil]; exact m⟩
theorem te_blank {x : TX} {R : List (List Thing)} {jr : Nat} {W W' : World} (h : TE x R jr W) (hk : Keeps [] W W') : TE x R jr W' := by
  obtain ⟨d, nv, bv, h1, m⟩ := h
  exact ⟨d, nv, bv, h1, m.blank hk⟩
theorem perm_snoc (N : List Thing) (G : List (List Thing)) (R : List (List Thing)) : (N :: (G ++ R)).Perm (G ++ (R ++ [N])) := by
  rw [← List.append_assoc]
  exact List.perm_append_comm (l₁ := [N]) (l₂ := G ++ R)
theorem te_ref1 {x : TX} {R : List (List Thing)} {jr : Nat} {W : World} (h : TE x R jr W) : Calls Tryd.prog 20 #[.pointer (some ⟨x.vb, 0, none⟩)] W fun e w' => e = .returned (.agg (refC (shaF x.b1) (x.N1.getD 0 0) (x.b1.length : Int)).toArray) ∧ TE x R jr w' := by
  obtain ⟨d, nv, bv, h1, m⟩ := h
  refine (wref_act m 1 rfl).mono ?_
  rintro e w' ⟨rfl, hk⟩
  exact ⟨rfl, d, nv, bv, h1, m.blank hk⟩
theorem te_ref2 {x : TX} {R : List (List Thing)} {jr : Nat} {W : World} (h : TE x R jr W) : Calls Tryd.prog 20 #[.pointer (some ⟨x.wb, 0, none⟩)] W fun e w' => e = .returned (.agg (refC (shaF x.b2) (x.N2.getD 0 0) (x.b2.length : Int)).toArray) ∧ TE x R jr w' := by
  obtain ⟨d, nv, bv, h1, m⟩ := h
  refine (wref_act m 2 rfl).mono ?_
  rintro e w' ⟨rfl, hk⟩
  exact ⟨rfl, d, nv, bv, h1, m.blank hk⟩
theorem te_get1 {x : TX} (ok : TOk x) {R : List (List Thing)} {jr : Nat} {W : World} (h : TE x R jr W) (hjr : jr ≤ 4096) :
    Calls Tryd.prog 22 #[.pointer (some ⟨x.d0.db, 0, none⟩), .int .i64 5, .agg (refC (shaF x.b1) (x.N1.getD 0 0) (x.b1.length : Int)).toArray] W fun e w' => ∃ A c, e = .returned (.tuple #[.slice A x.b1.length c, .int .i64 0, .int .i64 0]) ∧ Tells8 W x.b1 A c w' ∧ TE x (R ++ [[rowT (.slice A x.b1.length c) 5 1 x.b1.length (by8 x.b1)]]) (jr + x.N1.length) w' := by
  obtain ⟨d, nv, bv, h1, m⟩ := h
  have hg := get_act m 0 rfl h1.ok (h1.nm ok.n1) h1.w1 (by have := h1.rd; have := ok.rd; omega) ok.H ok.T
  rw [h1.db] at hg
  refine hg.mono ?_
  rintro e w' ⟨A, c, rfl, hc, m'⟩
  exact ⟨A, c, rfl, ⟨hc, (m'.get 0 rfl).get 0 rfl⟩, rdN d x.N1.length, nv, bv, h1.rdN _, m'.permG (perm_snoc _ (TG x.d0 (rdN d x.N1.length) x.N1 x.b1 x.N2 x.b2 x.vb x.wb x.rb x.nv1 x.bv1 x.nv2 x.bv2 nv bv x.s x.N1.length x.N2.length x.N1.length) R)⟩
theorem te_get2 {x : TX} (ok : TOk x) {R : List (List Thing)} {jr : Nat} {W : World} (h : TE x R jr W) (hjr : jr ≤ 4096) :
    Calls Tryd.prog 22 #[.pointer (some ⟨x.d0.db, 0, none⟩), .int .i64 5, .agg (refC (shaF x.b2) (x.N2.getD 0 0) (x.b2.length : Int)).toArray] W fun e w' => ∃ A c, e = .returned (.tuple #[.slice A x.b2.length c, .int .i64 0, .int .i64 0]) ∧ Tells8 W x.b2 A c w' ∧ TE x (R ++ [[rowT (.slice A x.b2.length c) 5 1 x.b2.length (by8 x.b2)]]) (jr + x.N2.length) w' := by
  obtain ⟨d, nv, bv, h1, m⟩ := h
  have hg := get_act m 0 rfl h1.ok (h1.nm ok.n2) h1.w2 (by have := h1.rd; have := ok.rd; omega) ok.H ok.T
  rw [h1.db] at hg
  refine hg.mono ?_
  rintro e w' ⟨A, c, rfl, hc, m'⟩
  exact ⟨A, c, rfl, ⟨hc, (m'.get 0 rfl).get 0 rfl⟩, rdN d x.N2.length, nv, bv, h1.rdN _, m'.permG (perm_snoc _ (TG x.d0 (rdN d x.N2.length) x.N1 x.b1 x.N2 x.b2 x.vb x.wb x.rb x.nv1 x.bv1 x.nv2 x.bv2 nv bv x.s x.N1.length x.N2.length x.N1.length) R)⟩
theorem te_bytes {x : TX} (ok : TOk x) {R : List (List Thing)} {jr : Nat} {W : World} (h : TE x R jr W) :
    Calls Tryd.prog 27 #[.pointer (some ⟨x.rb, 0, none⟩)] W fun e w' => ∃ A c, e = .returned (.slice A x.b1.length c) ∧ Tells8 W x.b1 A c w' ∧ TE x (R ++ [[rowT (.slice A x.b1.length c) 5 1 x.b1.length (by8 x.b1)]]) jr w' := by
  obtain ⟨d, nv, bv, h1, m⟩ := h
  refine (rbytes_act m 3 rfl ok.n1.len ok.n1.le).mono ?_
  rintro e w' ⟨A, c, rfl, hc, m'⟩
  exact ⟨A, c, rfl, ⟨hc, (m'.get 0 rfl).get 0 rfl⟩, d, nv, bv, h1, m'.permG (perm_snoc _ _ _)⟩
theorem te_row {x : TX} {R : List (List Thing)} {jr : Nat} {W : World} (h : TE x R jr W) (i : Nat) {bs : List Int} {A : Option Addr} {c : Nat} (hi : R[i]? = some [rowT (.slice A bs.length c) 5 1 bs.length (by8 bs)]) : Kd.C (Kd.int .u8) W A bs.length bs := by
  obtain ⟨d, nv, bv, h1, m⟩ := h
  have h2 := m.get (5 + i) (M := [rowT (.slice A bs.length c) 5 1 bs.length (by8 bs)]) (by
    rw [List.getElem?_append_right (by simp [TG])]
    simpa [TG] using hi)
  have h3 : W.ownsRow 0 5 1 (.slice A bs.length c) bs.length (by8 bs) := h2.get 0 rfl
  obtain ⟨A', c', e, _, hC, _⟩ := own_C (k := .u8) h3
  cases e
  exact hC
theorem te_old {x : TX} {R : List (List Thing)} {jr : Nat} {W : World} (h : TE x R jr W) : Keeps [] x.W0 W := by
  obtain ⟨d, nv, bv, h1, m⟩ := h
  exact m.old
end Go.Proofs.YtgcpcgcfpjolnaaDoor.G
