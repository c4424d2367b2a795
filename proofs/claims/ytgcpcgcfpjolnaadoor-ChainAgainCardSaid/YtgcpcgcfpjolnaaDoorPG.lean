import Derived.Test.YtgcpcgcfpjolnaaDoorPF
import Derived.Test.YtgcpcgcfpjolnaaDoorPA
import Derived.Deep.DeepCutAuto
-- chain.Put where there is room.
namespace Go.Proofs.YtgcpcgcfpjolnaaDoor.G
open Go.RowKit Go.Proofs.YtgcpcgcfpjolnaaDoorW.PrintWords Go.Proofs.YtgcpcgcfpjolnaaDoorW.PrintLast Go.Proofs.YtgcpcgcfpjolnaaDoorW.PrintMore
set_option linter.unusedVariables false
set_option linter.unusedSimpArgs false
set_option maxRecDepth 10000
/-- the disk behind the first j sectors of a chain -/
structure Wn (d d' : DK) (N bs : List Int) (j : Nat) : Prop where
  ok : DOk d'
  wrote : Wrote d' N bs j
  other : ∀ i, i ∉ N → d'.cur i = d.cur i
  db : d'.db = d.db
  last : d'.last = d.last
  rd : d'.rd = d.rd
  wr : d'.wr = d.wr + (j : Int)
  fl : d'.fl = d.fl
theorem Wn.zero {d : DK} (ok : DOk d) (N bs : List Int) : Wn d d N bs 0 := ⟨ok, fun i hi => by omega, fun _ _ => rfl, rfl, rfl, rfl, by simp, rfl⟩
theorem Wn.step {d d' d2 : DK} {N bs : List Int} {j : Nat} (h : Wn d d' N bs j) (hnd : N.Nodup) (hj : j < N.length) (hw : Wr d' d2 (N.getD j 0) (secB (shaF bs) (j : Int) (nextI N j) (pieceB bs j))) : Wn d d2 N bs (j + 1) :=
  ⟨hw.ok, h.wrote.step hnd hj hw, fun i hi => by rw [hw.cur, if_neg (fun e : i = N.getD j 0 => hi (e ▸ getD_mem hj))]; exact h.other i hi, hw.db.trans h.db, hw.last.trans h.last, hw.rd.trans h.rd, by rw [hw.wr, h.wr]; omega, hw.fl.trans h.fl⟩
theorem Wn.nm {d d' : DK} {heap : Int} {N bs : List Int} {j : Nat} (h : Wn d d' N bs j) (nm : Nm d heap N bs) : Nm d' heap N bs := ⟨nm.len, nm.le, nm.nd, nm.hp, nm.lo, by rw [h.last]; exact nm.hi⟩
theorem results_cell3 {P : Program} {fn : Func} {p u v : Tmp} {ty : TypeId} (h : fn.results = #[.cell p ty, .tmp u, .tmp v]) (tmps : Array Value) (w : World) (b f : Nat) (hp : tmps.getD p undef = .pointer (some ⟨b, f, none⟩)) (cs : List Value) (hS : w.rangeAt b f cs)
    {d : TypeDesc} (hu : P.underlying ty = some d) (hd : d.isRow = true) (hi : (P.info? ty).map (·.size) = some cs.length) : (results fn tmps).run P w = .ok (.tuple #[.agg cs.toArray, tmps.getD u undef, tmps.getD v undef]) w := by
  have h1 := run_loadVar_mid (P := P) w b f ty cs d hS hu hd hi
  simp only [Array.getD_eq_getD_getElem?] at hp
  simp [results, h, hp, asAddr, h1, Result.andThen]
def PutPost (d : DK) (s : SI) (ns xs : List Int) (is' : List Bool) (w : World) (e : Ending) (w' : World) : Prop :=
  ∃ v d', e = .returned (.tuple #[.agg (refC (shaF xs) (ns.getD 0 0) (xs.length : Int)).toArray, v, .int .i64 0]) ∧ Wn d d' ns xs ns.length ∧ Moves (DL d ++ [spT s]) ([rowT v 3 1 ns.length (ints ns)] ++ (DL d' ++ [spT { s with is := is' }])) w w'
set_option maxHeartbeats 2000000 in
theorem put_calls {w : World} {d : DK} {s : SI} (h : Has 3 w (DL d ++ [spT s])) (ok : DOk d) (A : Option Addr) (L c : Nat) (xs : List Int) (hb : BSl w A L c xs) (hA : ∀ g o, A = some ⟨g, o, none⟩ → g ≠ s.b ∧ g ≠ s.g) (hL : L ≤ 1048576) (hTab : TabW w) (hT : ShaW w) (hH : HalfW w)
    (hok : takeAllOk s.is (nSec L : Int) = true) (ns : List Int) (hns : ns = takeAllOut s.fr s.is (nSec L : Int)) (hn0 : 1 ≤ ns.getD 0 0) (hn1 : ns.getD (nSec L - 1) 0 < (d.last.length : Int)) (hwr : d.wr < 536870912) :
    Calls Tryd.prog 21 #[.pointer (some ⟨d.db, 0, none⟩), .pointer (some ⟨s.b, 0, none⟩), .slice A L c] w (PutPost d s ns xs (takeAllS s.is (nSec L : Int)) w) := by
  have hsp : Sp w s.b s.g s.cap s.fr s.hi s.is := h.right.get 0 rfl
  have hspf := Sp.facts hsp
  have hxL : xs.length = L := hb.1
  have outs := outs_of (k := nSec L) (is := s.is) (fr := s.fr) (hi := s.hi) hspf.2.2.2.2.2.2.2 hspf.2.2.2.2.2.1 hok
  rw [← hns] at outs
  have nm : Nm d (ns.getD 0 0) ns xs := outs.nm (by rw [hxL]) (by omega) hn0 (Int.le_refl _) hn1
  have hk := nSec_le L hL
  have hlen : ns.length = nSec L := outs.len
  obtain ⟨is', his⟩ : ∃ is', is' = takeAllS s.is (nSec L : Int) := ⟨_, rfl⟩
  rw [← his]
  have HW1 := Lib.hid (show ∀ W, Keeps (fps (DL d ++ [spT s])) w W → HalfW W ∧ ShaW W ∧ 1 < W.heap.size from fun W hk => ⟨hH.keeps hk (fun hm9 => by have := h.ge 0 hm9; omega), hT.keeps hk (fun hm9 => by have := h.ge 1 hm9; omega), by have := h.le; have := hk.size; omega⟩)
  have h3 := h.le
  have hB := Lib.hid (StrAt.new w z34.toArray 52)
  have HNEW := Lib.hid (show Calls Tryd.prog 16 #[.pointer (some ⟨d.db, 0, none⟩), .pointer (some ⟨s.b, 0, none⟩), .slice A L c] (w.alloc (.cells z34.toArray 52)) fun e w' => ∃ wb nv bv, e = .returned (.tuple #[.pointer (some ⟨wb, 0, none⟩), .int .i64 0]) ∧ Moves (DL d ++ [spT s]) ([DL d, WLs d.db (WJ wb ns xs nv bv 0), [spT { s with is := is' }], [strT w.heap.size z34.toArray 52]]).flatten w w' from by
    have k0 : Keeps [] w (w.alloc (.cells z34.toArray 52)) := (Keeps.refl _ _).alloc _
    refine (newWriter_calls (h.keeps0 k0) A L c xs (hb.keeps k0 (by simp)) hA hL (hTab.keeps k0 (by simp)) (hT.keeps k0 (by simp)) hok ns hns hn0 hn1).mono ?_
    rintro e w' ⟨x, rfl, x1, x2, x3, x4, x5, x6, m⟩
    refine ⟨x.wb, x.nv, x.bv, rfl, ?_⟩
    have ex : x = WJ x.wb ns xs x.nv x.bv 0 := by
      obtain ⟨wb, h9, fi, len, nv, nss, done, bv, bs⟩ := x
      simp only at x1 x2 x3 x4 x5 x6
      subst x1 x2 x3 x4 x5 x6
      rfl
    rw [← ex, his]
    have m0 : Moves (DL d ++ [spT s]) (strT w.heap.size z34.toArray 52 :: (DL d ++ [spT s])) w (w.alloc (.cells z34.toArray 52)) := Moves.cons h k0 (StrAt.new w z34.toArray 52) (strT_nodup ..) (by simp [strT])
    refine m0.act (A := [spT s]) (L := strT w.heap.size z34.toArray 52 :: DL d) ?_ m ?_
    · exact (List.perm_append_comm (l₁ := strT w.heap.size z34.toArray 52 :: DL d) (l₂ := [spT s]))
    · simp only [List.flatten_cons, List.flatten_nil, List.append_nil]
      refine List.Perm.trans (List.perm_append_comm) ?_
      refine List.Perm.trans (List.perm_middle (a := strT w.heap.size z34.toArray 52) (l₁ := []) ).symm ?_
      simp only [List.nil_append, List.cons_append]
      refine List.Perm.trans (List.perm_append_comm (l₁ := [strT w.heap.size z34.toArray 52]) (l₂ := DL d ++ (WLs d.db x ++ [spT { s with is := takeAllS s.is (nSec L : Int) }]))) ?_
      simp)
  have HSTEP := Lib.hid (show ∀ W wb nv bv j d', j < ns.length → Wn d d' ns xs j → Moves (DL d ++ [spT s]) ([DL d', WLs d.db (WJ wb ns xs nv bv j), [spT { s with is := is' }], [strT w.heap.size z34.toArray 52]]).flatten w W → Calls Tryd.prog 19 #[.pointer (some ⟨wb, 0, none⟩)] W fun e w' => e = .returned (.tuple #[.bool (decide (j + 1 = ns.length)), .int .i64 0]) ∧ ∃ d2, Wn d d2 ns xs (j + 1) ∧ Moves (DL d ++ [spT s]) ([DL d2, WLs d.db (WJ wb ns xs nv bv (j + 1)), [spT { s with is := is' }], [strT w.heap.size z34.toArray 52]]).flatten w w' from fun W wb nv bv j d' hj hn m => by
    have hw := HW1.out W m.keeps
    have h01 := m.get2 0 1 (by decide) rfl rfl
    rw [← hn.db] at h01
    refine (wstep_at h01 hn.ok (hn.nm nm) hj (by rw [hn.wr]; omega) hw.1).mono ?_
    rintro e w' ⟨rfl, d2, hw2, m2⟩
    refine ⟨rfl, d2, hn.step nm.nd hj hw2, ?_⟩
    rw [hw2.db, hn.db] at m2
    exact m.upd2 0 1 (by decide) rfl rfl m2)
  have HLEN := Lib.hid (show 1 ≤ ns.length ∧ ns.length ≤ 2185 by omega)
  have HREF := Lib.hid (show ∀ W wb nv bv d', Moves (DL d ++ [spT s]) ([DL d', WLs d.db (WJ wb ns xs nv bv ns.length), [spT { s with is := is' }], [strT w.heap.size z34.toArray 52]]).flatten w W → (Calls Tryd.prog 20 #[.pointer (some ⟨wb, 0, none⟩)] W fun e w' => e = .returned (.agg (refC (shaF xs) (ns.getD 0 0) (xs.length : Int)).toArray) ∧ Keeps [] W w') ∧ (Calls Tryd.prog 18 #[.pointer (some ⟨wb, 0, none⟩)] W (CopyI ns W)) from fun W wb nv bv d' m => by
    have h1 := m.get 1 rfl
    exact ⟨ref_calls (h1.get 0 rfl) (shaF_length xs), numbers_calls (h1.get 0 rfl) (shaF_length xs) ns (h1.get 1 rfl) (by have := HLEN.out; omega)⟩)
  obtain ⟨RC, hRC⟩ : ∃ RC, RC = refC (shaF xs) (ns.getD 0 0) (xs.length : Int) := ⟨_, rfl⟩
  have hrl : RC.length = 34 := by rw [hRC]; exact refC_length _ _ _ (shaF_length xs)
  have hu52 := Tryd.underlying52
  have HSZ := Lib.hid (show (Tryd.prog.info? 52).map (·.size) = some RC.length by rw [hrl]; exact size52)
  have HON := Lib.hid (show RC.toArray.all (·.oneCell') = true by rw [hRC]; exact all_oneCell_toArray (refC_one _ _ _))
  have HRL := Lib.hid hrl
  have HOK := Lib.hid ok
  rw [← hRC] at HREF
  have HRCE := Lib.hid hRC
  clear hsp hspf hxL outs nm hk hlen his h hH hT hTab hb hok hns hn0 hn1 hA hRC hrl ok hL
  go_enter Tryd.func21, Tryd.ntmps21
  go_wp2_with (go_at_call 16; refine HNEW.out.mono ?_; rintro e w1 ⟨wb, nv, bv, rfl, m1⟩; have M1 := Lib.hid m1; clear m1)
  go_loopg [11] ns.length (fun q ov W => ∃ j d', j ≤ ns.length ∧ ns.length - j ≤ q ∧ (∃ b, ov = .bool b ∧ Hid (b = decide (j = ns.length))) ∧ Hid (Wn d d' ns xs j) ∧ Hid (Moves (DL d ++ [spT s]) ([DL d', WLs d.db (WJ wb ns xs nv bv j), [spT { s with is := is' }], [strT w.heap.size z34.toArray 52]]).flatten w W))
  case atStart => exact ⟨0, d, by omega, by omega, ⟨false, rfl, Lib.hid (decide_eq_false (by have := HLEN.out; omega)).symm⟩, Lib.hid (Wn.zero HOK.out ns xs), M1⟩
  case round =>
    obtain ⟨j, d', hj, hq, ⟨b, rfl, HB⟩, HWN, M⟩ := hrel
    by_cases hjk : j < ns.length
    · have hb : b = false := HB.out.trans (decide_eq_false (by omega))
      subst hb
      go_wp2_with (go_at_call 19; refine (HSTEP.out _ wb nv bv j d' hjk HWN.out M.out).mono ?_; rintro e w2 ⟨rfl, d2, n2, m2⟩; have M2 := Lib.hid m2; have N2 := Lib.hid n2; clear m2 n2)
      go_roundg (ns.length - (j + 1))
      case measure => omega
      case rel => exact ⟨j + 1, d2, by omega, by omega, ⟨_, rfl, Lib.hid rfl⟩, N2, M2⟩
    · have hjN : j = ns.length := by omega
      have hb : b = true := HB.out.trans (decide_eq_true hjN)
      subst hb
      subst hjN
      go_wp2_with fail
      have M3 := Lib.hid (M.out.blank ((Keeps.refl _ _).drew))
      refine wp_region_any (by kernel_rfl) ?_
      change wpAny _ _ _ _ _ _ _ (World.drew _)
      refine wpAny_take (i := 0) (oi := { dst := some 30, op := Op.move (Operand.tmp 9), type := 43, pos := "step.go:159", after := #[], guard := none }) (v := ?_) rfl (by kernel_rfl) (by kernel_rfl) (by kernel_rfl) (fun _ _ _ h => h) (Or.inl ⟨by rfl, ?_⟩) ?_
      rotate_left
      · (intro w9; go_simp; try with_reducible rfl)
      try simp only [Act.put, List.setIfInBounds_toArray, List.set_cons_zero, List.set_cons_succ]
      refine wpAny_take (i := 2) (oi := { dst := some 32, op := Op.move (Operand.tmp 9), type := 43, pos := "step.go:159", after := #[], guard := none }) (v := ?_) rfl (by kernel_rfl) (by kernel_rfl) (by kernel_rfl) (fun _ _ _ h => h) (Or.inl ⟨by rfl, ?_⟩) ?_
      rotate_left
      · (intro w9; go_simp; try with_reducible rfl)
      try simp only [Act.put, List.setIfInBounds_toArray, List.set_cons_zero, List.set_cons_succ]
      refine wpAny_take (i := 3) (oi := { dst := some 33, op := Op.nilCheck (Operand.tmp 32), type := 0, pos := "step.go:159", after := #[{ on := 2, ground := Ground.data }], guard := none }) (v := ?_) rfl (by kernel_rfl) (by kernel_rfl) (by kernel_rfl) (fun _ _ _ h => h) (Or.inl ⟨by rfl, ?_⟩) ?_
      rotate_left
      · (intro w9; go_simp; try with_reducible rfl)
      try simp only [Act.put, List.setIfInBounds_toArray, List.set_cons_zero, List.set_cons_succ]
      refine wpAny_take (i := 4) (oi := { dst := some 34, op := Op.fieldAddr 56 (Operand.tmp 33) 0, type := 0, pos := "step.go:159", after := #[{ on := 3, ground := Ground.data }], guard := none }) (v := ?_) rfl (by kernel_rfl) (by kernel_rfl) (by kernel_rfl) (fun _ _ _ h => h) (Or.inl ⟨by rfl, ?_⟩) ?_
      rotate_left
      · (intro w9; go_simp; try with_reducible rfl)
      try simp only [Act.put, List.setIfInBounds_toArray, List.set_cons_zero, List.set_cons_succ]
      refine wpAny_ready (rs := [1]) (by kernel_rfl) (by simp) ?_
      refine AllReady.cons (o := { dst := some 31, op := Op.call { callee := Callee.value (Operand.func 20), args := #[Operand.tmp 30], argTypes := #[43] }, type := 52, pos := "step.go:159", after := #[{ on := 0, ground := Ground.data }], guard := none }) rfl (fun K hK => ?_) AllReady.nil
      go_simp
      refine ((HREF.out _ wb nv bv d' M3.out).1).mono ?_
      rintro e w3 ⟨rfl, k3⟩
      have M4 := Lib.hid (M3.out.blank k3)
      refine hK _ _ ?_
      clear hK K
      try simp only [Act.put, List.setIfInBounds_toArray, List.set_cons_zero, List.set_cons_succ]
      refine wpAny_ready (rs := [5]) (by kernel_rfl) (by simp) ?_
      refine AllReady.cons (o := { dst := some 35, op := Op.call { callee := Callee.value (Operand.func 18), args := #[Operand.tmp 34], argTypes := #[54] }, type := 47, pos := "step.go:159", after := #[{ on := 4, ground := Ground.data }, { on := 1, ground := Ground.chain }], guard := none }) rfl (fun K hK => ?_) AllReady.nil
      go_simp
      refine ((HREF.out _ wb nv bv d' M4.out).2).mono ?_
      rintro e w4 ⟨v4, rfl, o4, f4, k4⟩
      have M5 := Lib.hid (M4.out.fresh (N := [rowT v4 3 1 ns.length (ints ns)]) k4 (rowH o4 (fun k hk9 => by have := f4 k hk9; have := M4.out.has.le; omega) (by have := M4.out.has.le; have := k4.size; omega)) (fun k hk9 => f4 k (by simpa [fps, rowT] using hk9)))
      have S5 : StrAt w4 w.heap.size z34.toArray 52 := (M5.out.get 4 rfl).get 0 rfl
      have S5H := Lib.hid S5
      clear S5
      refine hK _ _ ?_
      clear hK K
      try simp only [Act.put, List.setIfInBounds_toArray, List.set_cons_zero, List.set_cons_succ]
      refine wpAny_ready (rs := [6]) (by kernel_rfl) (by simp) ?_
      refine AllReady.cons (o := { dst := none, op := Op.store 52 (Operand.tmp 6) (Operand.tmp 31), type := 0, pos := "step.go:159", after := #[{ on := 1, ground := Ground.data }, { on := 5, ground := Ground.chain }, { on := 0, ground := Ground.phase }, { on := 1, ground := Ground.phase }, { on := 2, ground := Ground.textOnly Departure.lateStores }, { on := 3, ground := Ground.textOnly Departure.lateStores }, { on := 4, ground := Ground.textOnly Departure.lateStores }, { on := 5, ground := Ground.textOnly Departure.lateStoresUnsure }], guard := none }) rfl (fun K hK => ?_) AllReady.nil
      refine step_store_mid rfl 52 (.tmp 6) (.tmp 31) rfl w.heap.size 0 RC.toArray rfl rfl (StrAt_there S5H.out 0 _ (by simp [HRL.out, z34_length])) (by rw [HSZ.out, List.size_toArray]) HON.out ?_
      refine hK _ _ ?_
      clear hK K
      try simp only [Act.put, List.setIfInBounds_toArray, List.set_cons_zero, List.set_cons_succ]
      refine wpAny_take (i := 7) (oi := { dst := some 7, op := Op.assign (Operand.tmp 35), type := 47, pos := "step.go:159", after := #[{ on := 5, ground := Ground.data }, { on := 6, ground := Ground.chain }, { on := 0, ground := Ground.phase }, { on := 1, ground := Ground.phase }, { on := 2, ground := Ground.phase }, { on := 3, ground := Ground.phase }, { on := 4, ground := Ground.phase }, { on := 5, ground := Ground.phase }, { on := 6, ground := Ground.phase }], guard := none }) (v := ?_) rfl (by kernel_rfl) (by kernel_rfl) (by kernel_rfl) (fun _ _ _ h => h) (Or.inl ⟨by rfl, ?_⟩) ?_
      rotate_left
      · (intro w9; go_simp; try with_reducible rfl)
      try simp only [Act.put, List.setIfInBounds_toArray, List.set_cons_zero, List.set_cons_succ]
      refine wpAny_take (i := 8) (oi := { dst := some 8, op := Op.assign (Operand.const (Value.int IntKind.i64 0)), type := 24, pos := "step.go:159", after := #[{ on := 7, ground := Ground.chain }, { on := 0, ground := Ground.phase }, { on := 1, ground := Ground.phase }, { on := 2, ground := Ground.phase }, { on := 3, ground := Ground.phase }, { on := 4, ground := Ground.phase }, { on := 5, ground := Ground.phase }, { on := 6, ground := Ground.phase }, { on := 7, ground := Ground.phase }], guard := none }) (v := ?_) rfl (by kernel_rfl) (by kernel_rfl) (by kernel_rfl) (fun _ _ _ h => h) (Or.inl ⟨by rfl, ?_⟩) ?_
      rotate_left
      · (intro w9; go_simp; try with_reducible rfl)
      try simp only [Act.put, List.setIfInBounds_toArray, List.set_cons_zero, List.set_cons_succ]
      refine wpAny_done (by kernel_rfl) ?_ _
      go_wp2
      have hst : StrAt w4 w.heap.size z34.toArray 52 := (M5.out.get 4 rfl).get 0 rfl
      have hsw := StrAt_whole hst RC (by simp [HRL.out, z34_length])
      have M6 := M5.out.one 4 (t := strT w.heap.size z34.toArray 52) (t' := strT w.heap.size RC.toArray 52) rfl (keeps_setCells (S := [w.heap.size]) (g := w.heap.size) (by simp) RC 0 w4 w4 (Keeps.refl _ _)) hsw rfl
      refine bodyPost_ret (results_cell3 rfl _ _ w.heap.size 0 rfl RC (str_range hsw) hu52 rfl HSZ.out) rfl ?_
      refine ⟨v4, d', ?_, HWN.out, ?_⟩
      · rw [← HRCE.out]; rfl
      · have p := (M6.cut 4 rfl).cut 2 rfl
        simpa [List.eraseIdx] using p
end Go.Proofs.YtgcpcgcfpjolnaaDoor.G
-- chain.NewWriter and NewReader where they refuse.
namespace Go.Proofs.YtgcpcgcfpjolnaaDoor.G
open Go.RowKit Go.Proofs.YtgcpcgcfpjolnaaDoorW.PrintWords Go.Proofs.YtgcpcgcfpjolnaaDoorW.PrintLast Go.Proofs.YtgcpcgcfpjolnaaDoorW.PrintMore
set_option linter.unusedVariables false
set_option linter.unusedSimpArgs false
set_option maxRecDepth 10000
/-- a writer is refused -/
def NoW (n : Int) (e : Ending) : Prop := e = .returned (.tuple #[.pointer none, .int .i64 n])
theorem newW_nil1 (w : World) (v : Value) (A : Option Addr) (L c : Nat) : Calls Tryd.prog 16 #[.pointer none, v, .slice A L c] w fun e w' => NoW 1 e ∧ w' = w := by
  go_enter Tryd.func16, Tryd.ntmps16
  go_wp2
  go_ret2
  exact ⟨rfl, rfl⟩
theorem newW_nil2 (w : World) (db : Nat) (A : Option Addr) (L c : Nat) : Calls Tryd.prog 16 #[.pointer (some ⟨db, 0, none⟩), .pointer none, .slice A L c] w fun e w' => NoW 1 e ∧ w' = w := by
  go_enter Tryd.func16, Tryd.ntmps16
  go_wp2
  go_ret2
  exact ⟨rfl, rfl⟩
theorem newW_long (w : World) (db sb : Nat) (A : Option Addr) (L c : Nat) (h : 1048576 < L) : Calls Tryd.prog 16 #[.pointer (some ⟨db, 0, none⟩), .pointer (some ⟨sb, 0, none⟩), .slice A L c] w fun e w' => NoW 2 e ∧ w' = w := by
  have e9 : decide (1048576 < (L : Int)) = true := by simp; omega
  go_enter Tryd.func16, Tryd.ntmps16
  go_wp2
  go_ret2
  exact ⟨rfl, rfl⟩
theorem newW_full {w : World} {s : SI} (hsp : Sp w s.b s.g s.cap s.fr s.hi s.is) (db : Nat) (A : Option Addr) (L c : Nat) (hL : L ≤ 1048576) (hok : takeAllOk s.is (nSec L : Int) = false) :
    Calls Tryd.prog 16 #[.pointer (some ⟨db, 0, none⟩), .pointer (some ⟨s.b, 0, none⟩), .slice A L c] w fun e w' => NoW 60 e ∧ Sp w' s.b s.g s.cap s.fr s.hi s.is ∧ Keeps [s.b, s.g] w w' := by
  have HTA := Lib.hid (takeAll_no hsp (nSec L : Int) hok)
  have HS : takeAllS s.is (nSec L : Int) = s.is := by unfold takeAllS; rw [hok]; rfl
  rw [show TakeAllPost s.fr s.hi s.b s.g s.cap s.is (nSec L : Int) w = fun e w' => ∃ v, e = .returned (.tuple #[v, .bool false]) ∧ IntsAt w' v (takeAllOut s.fr s.is (nSec L : Int)) ∧ Fresh w v ∧ Sp w' s.b s.g s.cap s.fr s.hi s.is ∧ Keeps [s.b, s.g] w w' from by
    funext e w'; unfold TakeAllPost; rw [hok, HS]] at HTA
  have e9 : decide (1048576 < (L : Int)) = false := by simp; omega
  have HSE := Lib.hid (sectors33 L hL)
  obtain ⟨k, hk⟩ : ∃ k, k = nSec L := ⟨_, rfl⟩
  rw [← hk] at HTA HSE
  clear hk hok HS hsp
  go_enter Tryd.func16, Tryd.ntmps16
  go_wp2_with (first | (go_at_call 33; refine (HSE.out _).mono ?_; rintro e w0 ⟨rfl, rfl⟩) | (go_at_call 62; refine HTA.out.mono ?_; rintro e w1 ⟨v, rfl, hI, hF, hSp, hK1⟩))
  go_ret2
  exact ⟨rfl, hSp, hK1⟩
theorem clear_comm (t : List Nat) : ∀ (is : List Bool) (a : Nat), clear (is.set a false) t = (clear is t).set a false := by
  induction t with
  | nil => intro is a; rfl
  | cons x t ih =>
    intro is a
    show clear ((is.set a false).set x false) t = (clear (is.set x false) t).set a false
    rw [← ih]
    congr 1
    by_cases e : a = x
    · subst e; rfl
    · exact List.set_comm _ _ e
theorem clear_getD (t : List Nat) : ∀ (is : List Bool) (a : Nat), a ∉ t → (clear is t).getD a false = is.getD a false := by
  induction t with
  | nil => intro is a _; rfl
  | cons x t ih =>
    intro is a h
    show (clear (is.set x false) t).getD a false = _
    rw [ih _ _ (fun hm => h (List.mem_cons_of_mem _ hm)), getD_set, if_neg (fun h1 => h (by rw [h1.1]; exact List.mem_cons_self ..))]
theorem set_true_self (is : List Bool) (m : Nat) (h : is.getD m false = true) : is.set m true = is := by
  refine List.ext_getElem? fun j => ?_
  rw [List.getElem?_set]
  by_cases e : m = j
  · subst e
    rw [if_pos rfl]
    by_cases h1 : m < is.length
    · rw [if_pos h1]
      rw [List.getD_eq_getElem?_getD, List.getElem?_eq_getElem h1] at h
      rw [List.getElem?_eq_getElem h1]
      simp at h; rw [h]
    · rw [if_neg h1, List.getElem?_eq_none (by omega)]
  · rw [if_neg e]
/-- the numbers that were taken are given back, one by one -/
theorem give_back {fr hi k j m : Nat} {is : List Bool} (hl : is.length = hi - fr) (hf : fr < hi) (hm : ((trues is).take k)[j]? = some m) :
    giveS fr hi (clear is (((trues is).take k).drop j)) ((fr : Int) + (m : Int)) = clear is (((trues is).take k).drop (j + 1)) := by
  have hj := (List.getElem?_eq_some_iff.1 hm).1
  have hme := (List.getElem?_eq_some_iff.1 hm).2
  have hin : m ∈ trues is := List.mem_of_mem_take (List.mem_of_getElem? hm)
  have hlt := trues_lt hin
  have htr := (mem_trues is m).1 hin
  have hd : ((trues is).take k).drop j = m :: ((trues is).take k).drop (j + 1) := by rw [List.drop_eq_getElem_cons hj, hme]
  have hnd : (((trues is).take k).drop j).Nodup := ((trues_nodup is).sublist (List.take_sublist _ _)).sublist (List.drop_sublist _ _)
  rw [hd] at hnd
  have hnt := (List.nodup_cons.1 hnd).1
  rw [hd]
  generalize ((trues is).take k).drop (j + 1) = t at hnt
  have e1 : clear is (m :: t) = (clear is t).set m false := by
    show clear (is.set m false) t = _
    exact clear_comm t is m
  have hlen : (clear is t).length = is.length := clear_length t is
  have e2 : ((fr : Int) + m - fr).toNat = m := by omega
  have hb : hasB fr ((clear is t).set m false) ((fr : Int) + (m : Int)) = false := by
    unfold hasB
    rw [e2, getD_set, if_pos ⟨rfl, by omega⟩]
    simp
  have hg : giveB fr hi ((clear is t).set m false) ((fr : Int) + (m : Int)) = true := by
    unfold giveB
    rw [hb]
    have h1 : decide ((fr : Int) ≤ (fr : Int) + (m : Int)) = true := decide_eq_true (by omega)
    have h2 : decide ((fr : Int) + (m : Int) < (hi : Int)) = true := decide_eq_true (by omega)
    rw [h1, h2]; rfl
  rw [e1]
  unfold giveS
  rw [if_pos hg, e2, List.set_set]
  exact set_true_self _ _ (by rw [clear_getD t is m hnt]; exact htr)
theorem takeAllOut_get {fr k j : Nat} {is : List Bool} (hok : takeAllOk is (k : Int) = true) (hj : j < k) : ∃ m, ((trues is).take k)[j]? = some m ∧ (takeAllOut fr is (k : Int)).getD j 0 = (fr : Int) + (m : Int) := by
  have hk : k ≤ (trues is).length := by simp [takeAllOk] at hok; omega
  have hl : j < ((trues is).take k).length := by rw [List.length_take]; omega
  refine ⟨((trues is).take k)[j], List.getElem?_eq_getElem hl, ?_⟩
  unfold takeAllOut
  rw [if_pos hok, Int.toNat_natCast, List.getD_eq_getElem?_getD]
  unfold nums
  rw [List.getElem?_map, List.getElem?_eq_getElem hl]
  rfl
set_option maxHeartbeats 1000000 in
theorem newW_bad {w : World} {d : DK} {s : SI} (h : Has 3 w (DL d ++ [spT s])) (A : Option Addr) (L c : Nat) (hL : L ≤ 1048576) (hTab : TabW w)
    (hok : takeAllOk s.is (nSec L : Int) = true) (ns : List Int) (hns : ns = takeAllOut s.fr s.is (nSec L : Int)) (hbad : ns.getD 0 0 < 1 ∨ (d.last.length : Int) ≤ ns.getD (nSec L - 1) 0) :
    Calls Tryd.prog 16 #[.pointer (some ⟨d.db, 0, none⟩), .pointer (some ⟨s.b, 0, none⟩), .slice A L c] w fun e w' => NoW 31 e ∧ Sp w' s.b s.g s.cap s.fr s.hi s.is ∧ Keeps [s.b, s.g] w w' := by
  have hS : StrAt w d.db (dCells d) 125 := h.get 0 rfl
  have hsp : Sp w s.b s.g s.cap s.fr s.hi s.is := h.right.get 0 rfl
  have hspf := Sp.facts hsp
  have hap := h.apart2
  have hdb : d.db ∉ [s.b, s.g] := fun hm => hap d.db (by simp [DL, fps, strT]) (by simpa [fps, spT] using hm)
  obtain ⟨hk1, hk2⟩ := nSec_le L hL
  have hnl : ns.length = nSec L := by
    rw [hns]
    unfold takeAllOut
    rw [if_pos hok, nums_length, List.length_take]
    simp [takeAllOk] at hok
    simp; omega
  have HTA := Lib.hid (takeAll_yes hsp hTab (nSec L : Int) hok)
  rw [show TakeAllPost s.fr s.hi s.b s.g s.cap s.is (nSec L : Int) w = fun e w' => ∃ v, e = .returned (.tuple #[v, .bool true]) ∧ IntsAt w' v ns ∧ Fresh w v ∧ Sp w' s.b s.g s.cap s.fr s.hi (clear s.is (((trues s.is).take (nSec L)).drop 0)) ∧ Keeps [s.b, s.g] w w' from by
    funext e w'; unfold TakeAllPost takeAllS; rw [hok, ← hns]; rfl] at HTA
  have e9 : decide (1048576 < (L : Int)) = false := by simp; omega
  have HSE := Lib.hid (sectors33 L hL)
  have HGET := Lib.hid (show ∀ j, j < nSec L → ∃ m, ((trues s.is).take (nSec L))[j]? = some m ∧ ns.getD j 0 = (s.fr : Int) + (m : Int) from fun j hj => by rw [hns]; exact takeAllOut_get hok hj)
  have HEND := Lib.hid (show clear s.is (((trues s.is).take (nSec L)).drop (nSec L)) = s.is from by
    rw [List.drop_eq_nil_of_le (by rw [List.length_take]; omega)]; rfl)
  obtain ⟨k, hk⟩ : ∃ k, k = nSec L := ⟨_, rfl⟩
  rw [← hk] at HTA HSE hbad hk1 hk2 hnl HGET HEND
  have HS := Lib.hid hS
  have HSPF := Lib.hid hspf
  clear hk hS hns hok hsp hspf hap
  go_enter Tryd.func16, Tryd.ntmps16
  go_wp2_with (first | (go_at_call 33; refine (HSE.out _).mono ?_; rintro e w0 ⟨rfl, rfl⟩) | (go_at_call 62; refine HTA.out.mono ?_; rintro e w1 ⟨v, rfl, hI, hF, hSp, hK1⟩; obtain ⟨q, cq, rfl, hrow⟩ := own_some hI (by omega)))
  have hq : w0.heap.size ≤ q := hF q rfl
  rw [hnl] at hrow
  obtain ⟨j, hj⟩ : ∃ j, k = j + 1 := ⟨k - 1, by omega⟩
  have hkj : k - 1 = j := by omega
  rw [hkj] at hbad
  have ci : ∀ i, i < k → w1.cell? ⟨q, i, none⟩ = some (.int .i64 (ns.getD i 0)) := fun i hi => by
    rw [RowAt.cell hrow i (by omega)]
    simp [ints, List.getD_eq_getElem?_getD, List.getElem?_eq_getElem (show i < ns.length by omega)]
  have c0 := ci 0 (by omega)
  have c1 := ci j (by omega)
  have HN0 : Hid (∃ z, z = ns.getD 0 0) := Lib.hid ⟨_, rfl⟩
  obtain ⟨n0, hn0e⟩ := HN0.out
  obtain ⟨nl, hnle⟩ : ∃ z, z = ns.getD j 0 := ⟨_, rfl⟩
  rw [← hn0e, ← hnle] at hbad
  rw [← hn0e] at c0
  rw [← hnle] at c1
  have ekj : (k : Int) - 1 = (j : Int) := by omega
  have ekw : IntKind.i64.wrap (j : Int) = (j : Int) := IntWalk.i64_in _ (by omega)
  have hjk : j < k := by omega
  have h0k : 0 < k := by omega
  have hS1 := Lib.hid (HS.out.keeps hK1 hdb)
  have HR := Lib.hid hrow
  have HSP := Lib.hid hSp
  have HK1 := Lib.hid hK1
  have HNL := Lib.hid hnl
  have HQ := Lib.hid (show q ≠ s.b ∧ q ≠ s.g from ⟨by have := HSPF.out; omega, by have := HSPF.out; omega⟩)
  clear ci hI hF hrow hSp hK1 hn0e hnle hnl hj hkj HTA HSE HS HN0
  by_cases h9 : n0 < 1
  · have b0 : decide (n0 < 1) = true := by simp; omega
    clear hbad
    go_quiet (fail)
    have KS := Lib.hid (show Keeps [] w1 (w1.drewN nq) from (Keeps.refl _ _).drewN _)
    go_wp2
    have hrow := HR.out
    have f0 := hrow.lt
    go_loopw [50] (fun i W => ∃ j9 : Nat, j9 ≤ k ∧ i = .int .i64 (j9 : Int) ∧ Hid (Sp W s.b s.g s.cap s.fr s.hi (clear s.is (((trues s.is).take k).drop j9))) ∧ Hid (Keeps [s.b, s.g] w1 W)) (fun i _ => k - (intOf i).toNat)
    case atStart => exact ⟨0, by omega, rfl, Lib.hid (HSP.out.keeps KS.out (by simp) (by simp)), Lib.hid (KS.out.mono (by simp))⟩
    case round =>
      obtain ⟨j9, hj9, rfl, SPW, KW⟩ := hrel
      by_cases hlt : j9 < k
      · have hlti : ((j9 : Int) < (k : Int)) = True := eq_true (by omega)
        have cj : wr.cell? ⟨q, j9, none⟩ = some (.int .i64 (ns.getD j9 0)) := by
          rw [RowAt.cell (HR.out.keeps KW.out (by have := HQ.out; simp; omega)) j9 (by omega)]
          simp [ints, List.getD_eq_getElem?_getD, List.getElem?_eq_getElem (show j9 < ns.length by have := HNL.out; omega)]
        obtain ⟨z, hz⟩ : ∃ z, z = ns.getD j9 0 := ⟨_, rfl⟩
        rw [← hz] at cj
        have HGV := Lib.hid (show Calls Tryd.prog 64 #[.pointer (some ⟨s.b, 0, none⟩), .int .i64 z] wr fun e w' => ∃ bb, e = .returned (.bool bb) ∧ Sp w' s.b s.g s.cap s.fr s.hi (clear s.is (((trues s.is).take k).drop (j9 + 1))) ∧ Keeps [s.b, s.g] wr w' from by
          obtain ⟨m, hm1, hm2⟩ := HGET.out j9 hlt
          refine (give_calls SPW.out z).mono ?_
          rintro e w' ⟨rfl, h1, h2⟩
          refine ⟨_, rfl, ?_, h2⟩
          rw [hz, hm2, give_back HSPF.out.2.2.2.2.2.2.2 HSPF.out.2.2.2.2.2.1 hm1] at h1
          exact h1)
        clear hz
        go_wp2_with (go_at_call 64; refine HGV.out.mono ?_; rintro e w3 ⟨bb, rfl, h3, k3⟩; have SP3 := Lib.hid h3; have K3 := Lib.hid (KW.out.trans' k3); clear h3 k3)
        go_roundw
        case rel => exact ⟨j9 + 1, by omega, by go_num, SP3, K3⟩
        case measure => simp [intOf]; omega
      · have hlti : ((j9 : Int) < (k : Int)) = False := eq_false (by omega)
        have hjN : j9 = k := by omega
        subst hjN
        go_wp2
        go_ret2
        refine ⟨rfl, ?_, HK1.out.trans' KW.out⟩
        have := SPW.out
        rw [HEND.out] at this
        exact this
  · have b0 : decide (n0 < 1) = false := by simp; omega
    have b1 : decide ((d.last.length : Int) ≤ nl) = true := by simp; omega
    clear hbad
    go_region_held3 (fun W => W.cell? ⟨q, 0, none⟩ = some (.int .i64 n0) ∧ W.cell? ⟨q, j, none⟩ = some (.int .i64 nl)) (first | exact ⟨c0, c1⟩ | assumption) (first | (go_at_call 63; refine (sectors_calls (d := d) hS1.out.drew1).mono ?_; rintro e w' ⟨rfl, rfl⟩) | fail)
    have KS := Lib.hid (show Keeps [] w1 (w1.drew) from (Keeps.refl _ _).drew)
    go_wp2
    have hrow := HR.out
    have f0 := hrow.lt
    go_loopw [50] (fun i W => ∃ j9 : Nat, j9 ≤ k ∧ i = .int .i64 (j9 : Int) ∧ Hid (Sp W s.b s.g s.cap s.fr s.hi (clear s.is (((trues s.is).take k).drop j9))) ∧ Hid (Keeps [s.b, s.g] w1 W)) (fun i _ => k - (intOf i).toNat)
    case atStart => exact ⟨0, by omega, rfl, Lib.hid (HSP.out.keeps KS.out (by simp) (by simp)), Lib.hid (KS.out.mono (by simp))⟩
    case round =>
      obtain ⟨j9, hj9, rfl, SPW, KW⟩ := hrel
      by_cases hlt : j9 < k
      · have hlti : ((j9 : Int) < (k : Int)) = True := eq_true (by omega)
        have cj : wr.cell? ⟨q, j9, none⟩ = some (.int .i64 (ns.getD j9 0)) := by
          rw [RowAt.cell (HR.out.keeps KW.out (by have := HQ.out; simp; omega)) j9 (by omega)]
          simp [ints, List.getD_eq_getElem?_getD, List.getElem?_eq_getElem (show j9 < ns.length by have := HNL.out; omega)]
        obtain ⟨z, hz⟩ : ∃ z, z = ns.getD j9 0 := ⟨_, rfl⟩
        rw [← hz] at cj
        have HGV := Lib.hid (show Calls Tryd.prog 64 #[.pointer (some ⟨s.b, 0, none⟩), .int .i64 z] wr fun e w' => ∃ bb, e = .returned (.bool bb) ∧ Sp w' s.b s.g s.cap s.fr s.hi (clear s.is (((trues s.is).take k).drop (j9 + 1))) ∧ Keeps [s.b, s.g] wr w' from by
          obtain ⟨m, hm1, hm2⟩ := HGET.out j9 hlt
          refine (give_calls SPW.out z).mono ?_
          rintro e w' ⟨rfl, h1, h2⟩
          refine ⟨_, rfl, ?_, h2⟩
          rw [hz, hm2, give_back HSPF.out.2.2.2.2.2.2.2 HSPF.out.2.2.2.2.2.1 hm1] at h1
          exact h1)
        clear hz
        go_wp2_with (go_at_call 64; refine HGV.out.mono ?_; rintro e w3 ⟨bb, rfl, h3, k3⟩; have SP3 := Lib.hid h3; have K3 := Lib.hid (KW.out.trans' k3); clear h3 k3)
        go_roundw
        case rel => exact ⟨j9 + 1, by omega, by go_num, SP3, K3⟩
        case measure => simp [intOf]; omega
      · have hlti : ((j9 : Int) < (k : Int)) = False := eq_false (by omega)
        have hjN : j9 = k := by omega
        subst hjN
        go_wp2
        go_ret2
        refine ⟨rfl, ?_, HK1.out.trans' KW.out⟩
        have := SPW.out
        rw [HEND.out] at this
        exact this
/-- a reader is refused -/
theorem newR_nil (w : World) (hp : Int) (RC : Array Value) : Calls Tryd.prog 23 #[.pointer none, .int .i64 hp, .agg RC] w fun e w' => NoW 1 e ∧ Keeps [] w w' := by
  go_enter Tryd.func23, Tryd.ntmps23
  go_wp2
  go_ret2
  exact ⟨rfl, (Keeps.refl _ _).alloc _⟩
theorem newR_arg {w : World} {d : DK} (hS : StrAt w d.db (dCells d) 125) (hp : Int) (h1 : hp < 1 ∨ (d.last.length : Int) < hp) (RC : Array Value) :
    Calls Tryd.prog 23 #[.pointer (some ⟨d.db, 0, none⟩), .int .i64 hp, .agg RC] w fun e w' => NoW 1 e ∧ Keeps [] w w' := by
  have HS := Lib.hid (hS.keeps ((Keeps.refl [] w).alloc (.cells RC 52)) (by simp))
  clear hS
  by_cases h9 : hp < 1
  · have b1 : decide (hp < 1) = true := by simp; omega
    go_enter Tryd.func23, Tryd.ntmps23
    go_wp2
    go_ret2
    exact ⟨rfl, (Keeps.refl _ _).alloc _⟩
  · have b1 : decide (hp < 1) = false := by simp; omega
    have b2 : decide ((d.last.length : Int) < hp) = true := by simp; omega
    clear h1
    go_enter Tryd.func23, Tryd.ntmps23
    go_wp2_with (go_at_call 63; refine (sectors_calls (d := d) HS.out).mono ?_; rintro e w' ⟨rfl, rfl⟩)
    go_ret2
    exact ⟨rfl, (Keeps.refl _ _).alloc _⟩
theorem refC_33 (h : List Int) (hh : h.length = 32) (fi len : Int) : (refC h fi len).toArray[33]? = some (.int .i64 len) := by
  rw [List.getElem?_toArray]; simp [refC, by8_length, hh]
theorem refC_32 (h : List Int) (hh : h.length = 32) (fi len : Int) : (refC h fi len).toArray[32]? = some (.int .i64 fi) := by
  rw [List.getElem?_toArray]; simp [refC, by8_length, hh]
theorem newR_long {w : World} {d : DK} (hS : StrAt w d.db (dCells d) 125) (hp : Int) (h1 : 1 ≤ hp) (h2 : hp ≤ (d.last.length : Int)) (h : List Int) (hh : h.length = 32) (fi len : Int) (hl : len < 0 ∨ 1048576 < len) :
    Calls Tryd.prog 23 #[.pointer (some ⟨d.db, 0, none⟩), .int .i64 hp, .agg (refC h fi len).toArray] w fun e w' => NoW 2 e ∧ Keeps [] w w' := by
  have a33 := refC_33 h hh fi len
  have r33 : (refC h fi len)[33]? = some (.int .i64 len) := by rw [← List.getElem?_toArray]; exact a33
  generalize refC h fi len = RC at a33 r33 ⊢
  have b1 : decide (hp < 1) = false := by simp; omega
  have b2 : decide ((d.last.length : Int) < hp) = false := by simp; omega
  have HS := Lib.hid (hS.keeps ((Keeps.refl [] w).alloc (.cells RC.toArray 52)) (by simp))
  have k0 : Keeps [] w (w.alloc (.cells RC.toArray 52)) := (Keeps.refl _ _).alloc _
  have HK0 := Lib.hid k0
  clear hS k0 h1 h2
  by_cases h9 : len < 0
  · have b3 : decide (len < 0) = true := by simp; omega
    go_enter Tryd.func23, Tryd.ntmps23
    go_wp2_with (go_at_call 63; refine (sectors_calls (d := d) HS.out).mono ?_; rintro e w' ⟨rfl, rfl⟩)
    go_ret2
    exact ⟨rfl, HK0.out⟩
  · have b3 : decide (len < 0) = false := by simp; omega
    have b4 : decide (1048576 < len) = true := by simp; omega
    clear hl
    go_enter Tryd.func23, Tryd.ntmps23
    go_wp2_with (go_at_call 63; refine (sectors_calls (d := d) HS.out).mono ?_; rintro e w' ⟨rfl, rfl⟩)
    go_ret2
    exact ⟨rfl, HK0.out⟩
theorem newR_broken {w : World} {d : DK} (hS : StrAt w d.db (dCells d) 125) (hp : Int) (h1 : 1 ≤ hp) (h2 : hp ≤ (d.last.length : Int)) (h : List Int) (hh : h.length = 32) (fi : Int) (hf : fi < hp ∨ (d.last.length : Int) ≤ fi) (L : Nat) (hL : L ≤ 1048576) :
    Calls Tryd.prog 23 #[.pointer (some ⟨d.db, 0, none⟩), .int .i64 hp, .agg (refC h fi (L : Int)).toArray] w fun e w' => NoW 61 e ∧ Keeps [] w w' := by
  have a33 := refC_33 h hh fi (L : Int)
  have r33 : (refC h fi (L : Int))[33]? = some (.int .i64 (L : Int)) := by rw [← List.getElem?_toArray]; exact a33
  have a32 := refC_32 h hh fi (L : Int)
  have r32 : (refC h fi (L : Int))[32]? = some (.int .i64 fi) := by rw [← List.getElem?_toArray]; exact a32
  generalize refC h fi (L : Int) = RC at a33 r33 a32 r32 ⊢
  have b1 : decide (hp < 1) = false := by simp; omega
  have b2 : decide ((d.last.length : Int) < hp) = false := by simp; omega
  have b3 : decide ((L : Int) < 0) = false := by simp
  have b4 : decide (1048576 < (L : Int)) = false := by simp; omega
  have k0 : Keeps [] w (w.alloc (.cells RC.toArray 52)) := (Keeps.refl _ _).alloc _
  have HK0 := Lib.hid k0
  have HS := Lib.hid (show ∀ W, Keeps [] w W → StrAt W d.db (dCells d) 125 from fun W hk => hS.keeps hk (by simp))
  have cfi : (w.alloc (.cells RC.toArray 52)).cell? ⟨w.heap.size, 32, none⟩ = some (.int .i64 fi) := ((StrAt.new w RC.toArray 52).cell 32).trans a32
  clear hS k0 h1 h2
  by_cases h9 : fi < hp
  · have b5 : decide (fi < hp) = true := by simp; omega
    clear hf
    go_enter Tryd.func23, Tryd.ntmps23
    go_wp2_with (go_at_call 63; refine (sectors_calls (d := d) (HS.out _ HK0.out)).mono ?_; rintro e w' ⟨rfl, rfl⟩)
    go_quiet (fail)
    go_wp2
    go_ret2
    exact ⟨rfl, HK0.out.drewN _⟩
  · have b5 : decide (fi < hp) = false := by simp; omega
    have b6 : decide ((d.last.length : Int) ≤ fi) = true := by simp; omega
    clear hf
    go_enter Tryd.func23, Tryd.ntmps23
    go_wp2_with (go_at_call 63; refine (sectors_calls (d := d) (HS.out _ HK0.out)).mono ?_; rintro e w' ⟨rfl, rfl⟩)
    go_region_held3 (fun W => W.cell? ⟨w.heap.size, 32, none⟩ = some (.int .i64 fi)) (first | exact cfi | assumption) (first | (go_at_call 63; refine (sectors_calls (d := d) (HS.out _ HK0.out.drew)).mono ?_; rintro e w' ⟨rfl, rfl⟩) | fail)
    go_wp2
    go_ret2
    exact ⟨rfl, HK0.out.drew⟩
end Go.Proofs.YtgcpcgcfpjolnaaDoor.G
-- Small calls; both.
namespace Go.Proofs.YtgcpcgcfpjolnaaDoor.G
open Go.RowKit Go.Proofs.YtgcpcgcfpjolnaaDoorW.PrintWords Go.Proofs.YtgcpcgcfpjolnaaDoorW.PrintLast Go.Proofs.YtgcpcgcfpjolnaaDoorW.PrintMore
set_option linter.unusedVariables false
set_option linter.unusedSimpArgs false
set_option maxRecDepth 10000
theorem num_calls (n : Int) (w : World) : Calls Tryd.prog 15 #[.int .i64 n] w fun e w' => e = .returned (.int .i64 n) ∧ w' = w := by
  go_enter Tryd.func15, Tryd.ntmps15
  go_wp2
  go_ret
  exact ⟨rfl, rfl⟩
theorem drawn0_keeps {w w' : World} (h : Drawn0 w w') : Keeps [] w w' := by
  obtain ⟨n, rfl⟩ := h.out
  exact (Keeps.refl _ _).drewN n
theorem same_yes {w : World} {A0 A1 : Option Addr} {c0 c1 n : Nat} {l : List Int} (h0 : Kd.C (Kd.int .u8) w A0 n l) (hc0 : n ≤ c0) (h1 : Kd.C (Kd.int .u8) w A1 n l) (hc1 : n ≤ c1) :
    Calls Tryd.prog 24 #[.slice A0 n c0, .slice A1 n c1] w fun e w' => e = .returned (.bool true) ∧ Keeps [] w w' := by
  have hn : l.length = n := h0.1
  subst hn
  refine (kilnlaw6_same.calls A0 c0 l A1 c1 l true w h0 hc0 h1 hc1 (by simp [kilnlaw6_same.f])).mono ?_
  rintro e w' ⟨rfl, hd⟩
  exact ⟨rfl, drawn0_keeps hd⟩
theorem sameInts_l (x y : List Int) (hxy : x.length = y.length) (hl : x.length ≤ 1073741824) : ∀ (k i : Nat), i ≤ x.length → x.length < i + k → kilnlaw6_sameInts.l0 k x y (i : Int) = some (decide (x.drop i = y.drop i))
  | 0, i, h1, h2 => by omega
  | k + 1, i, h1, h2 => by
    unfold kilnlaw6_sameInts.l0
    by_cases h : i < x.length
    · have hy : i < y.length := by omega
      have e1 : rd x (i : Int) = x[i] := by
        unfold rd
        rw [Int.toNat_natCast, List.getD_eq_getElem?_getD, List.getElem?_eq_getElem h]; rfl
      have e2 : rd y (i : Int) = y[i] := by
        unfold rd
        rw [Int.toNat_natCast, List.getD_eq_getElem?_getD, List.getElem?_eq_getElem hy]; rfl
      have d1 : x.drop i = x[i] :: x.drop (i + 1) := List.drop_eq_getElem_cons h
      have d2 : y.drop i = y[i] :: y.drop (i + 1) := List.drop_eq_getElem_cons hy
      rw [if_pos (by omega), if_pos (by omega), if_pos (by omega), e1, e2]
      by_cases he : x[i] = y[i]
      · rw [if_pos he, show wrap64 ((i : Int) + 1) = ((i + 1 : Nat) : Int) from by unfold wrap64; omega, sameInts_l x y hxy hl k (i + 1) (by omega) (by omega)]
        exact congrArg some (decide_eq_decide.2 ⟨fun h => by rw [d1, d2, he, h], fun h => by rw [d1, d2] at h; exact (List.cons.inj h).2⟩)
      · rw [if_neg he]
        exact congrArg some (decide_eq_false (fun h => by rw [d1, d2] at h; exact he (List.cons.inj h).1)).symm
    · have e : i = x.length := by omega
      rw [if_neg (by omega)]
      subst e
      rw [List.drop_length, hxy, List.drop_length]
      simp
theorem sameInts_calls {w : World} {A0 A1 : Option Addr} {c0 c1 n0 n1 : Nat} {x y : List Int} (h0 : Kd.C (Kd.int .i64) w A0 n0 x) (hc0 : n0 ≤ c0) (h1 : Kd.C (Kd.int .i64) w A1 n1 y) (hc1 : n1 ≤ c1) (hl : n0 ≤ 1073741824) :
    Calls Tryd.prog 46 #[.slice A0 n0 c0, .slice A1 n1 c1] w fun e w' => e = .returned (.bool (decide (x = y))) ∧ Keeps [] w w' := by
  have hn : x.length = n0 := h0.1
  have hm : y.length = n1 := h1.1
  subst hn
  subst hm
  refine (kilnlaw6_sameInts.calls (x.length + 1) A0 c0 x A1 c1 y (decide (x = y)) w h0 hc0 h1 hc1 ?_).mono ?_
  · unfold kilnlaw6_sameInts.f
    by_cases he : x.length = y.length
    · rw [if_pos (by omega)]
      have := sameInts_l x y he hl (x.length + 1) 0 (by omega) (by omega)
      simpa using this
    · rw [if_neg (by omega)]
      have : ¬ x = y := fun h => he (by rw [h])
      simp [this]
  · rintro e w' ⟨rfl, hd⟩
    exact ⟨rfl, drawn0_keeps hd⟩
theorem sp_free {w : World} {b g cap fr hi : Nat} {is : List Bool} (h : Sp w b g cap fr hi is) : Calls Tryd.prog 59 #[.pointer (some ⟨b, 0, none⟩)] w fun e w' => e = .returned (.int .i64 ((trues is).length : Int)) ∧ w' = w := by
  obtain ⟨free, low, ws, h⟩ := h
  refine (free_calls h).mono ?_
  rintro e w' ⟨rfl, rfl⟩
  exact ⟨by rw [h.inv.free], rfl⟩
/-- what a space has become -/
theorem sp_moves {w w' : World} {s : SI} {is' : List Bool} (h : Has 3 w [spT s]) (hs : Sp w' s.b s.g s.cap s.fr s.hi is') (hk : Keeps [s.b, s.g] w w') : Moves [spT s] [spT { s with is := is' }] w w' :=
  Moves.at h 0 (spT { s with is := is' }) rfl hk hs (by have := Sp.facts hs; simp [spT]; omega) (fun k hk => .inl hk)
/-- a new disk, a new space -/
structure Blank (d : DK) (n : Nat) : Prop where
  ok : DOk d
  last : d.last = List.replicate n (zs 512)
  ents : d.ents = []
  rd : d.rd = 0
  wr : d.wr = 0
  fl : d.fl = 0
theorem disk_new {M0 : List Thing} {G : List (List Thing)} {w0 w : World} (m : Moves M0 G.flatten w0 w) (n : Nat) (h1 : 2 ≤ n) (h2 : n ≤ 65536) :
    Calls Tryd.prog 13 #[.int .i64 (n : Int)] w fun e w' => ∃ d, e = .returned (.tuple #[.pointer (some ⟨d.db, 0, none⟩), .int .i64 0]) ∧ Blank d n ∧ Moves M0 (DL d :: G).flatten w0 w' := by
  refine (new_disk n w h1 h2 m.has.le).mono ?_
  rintro e w' ⟨d, rfl, h3, h4, h5, h6, h7, h8, h9, h10, h11⟩
  exact ⟨d, rfl, ⟨h3, h7, h8, h9, h10, h11⟩, m.fresh h5 h4 h6⟩
theorem space_new {M0 : List Thing} {G : List (List Thing)} {w0 w : World} (m : Moves M0 G.flatten w0 w) (fr hi : Nat) (h1 : fr < hi) (h2 : hi ≤ 65536) :
    Calls Tryd.prog 14 #[.int .i64 (fr : Int), .int .i64 (hi : Int)] w fun e w' => ∃ b g cap, e = .returned (.tuple #[.pointer (some ⟨b, 0, none⟩), .int .i64 0]) ∧ Moves M0 ([spT ⟨b, g, cap, fr, hi, List.replicate (hi - fr) true⟩] :: G).flatten w0 w' := by
  refine (new_good fr hi w h1 h2 m.has.le).mono ?_
  rintro e w' ⟨b, g, cap, rfl, h3, h4, h5, h6⟩
  have hf := Sp.facts h3
  have hw := m.has.le
  refine ⟨b, g, cap, rfl, m.fresh h6 ⟨by simpa [spT] using h3, by simp [fps, spT]; omega, by simp [fps, spT]; omega, by have := h6.size; omega⟩ (by simp [fps, spT]; omega)⟩
theorem build52p (w : World) (n : Int) : (Instr.build 52 #[(2, .int .i64 n)]).run Tryd.prog w = .ok (.agg (refC (zs 32) 0 n).toArray) w := by
  obtain ⟨i0, hi, hz0, hz1, hz2⟩ := info_parts info52
  obtain ⟨i2, hi2, _, hz21, _⟩ := info_parts info3c
  obtain ⟨i1, hi1, _, hz11, _⟩ := info_parts info50
  have hf : Instr.fill (fun x => [(0, 32), (32, 1), (33, 1)][x]?) (by8 (zs 32) ++ [Value.int .i64 0, Value.int .i64 0]).toArray [(2, .int .i64 n)] = some (refC (zs 32) 0 n).toArray := by
    rw [fill_step _ _ 2 _ _ 33 1 rfl rfl (by simp [by8_length, zs_length])]
    rw [show (putAt (by8 (zs 32) ++ [Value.int .i64 0, Value.int .i64 0]).toArray.toList 33 (Value.int .i64 n).cells.toList) = refC (zs 32) 0 n from by
      have := putAt_mid (by8 (zs 32) ++ [Value.int .i64 0]) [Value.int .i64 0] [] [Value.int .i64 n] 33 (by simp [by8_length, zs_length]) rfl
      simp only [List.append_assoc, List.cons_append, List.nil_append, List.append_nil] at this
      exact this]
    rfl
  simp [Instr.build, zeroValue, typeInfo, hi, hz0, run_underlying Tryd.underlying52, sizeOf, hi1, hz11, hi2, hz21, Value.cells, Result.andThen]
  rw [hf]
  rfl
theorem build52q (w : World) (n : Int) : (Instr.build 52 #[(1, .int .i64 n)]).run Tryd.prog w = .ok (.agg (refC (zs 32) n 0).toArray) w := by
  obtain ⟨i0, hi, hz0, hz1, hz2⟩ := info_parts info52
  obtain ⟨i2, hi2, _, hz21, _⟩ := info_parts info3c
  obtain ⟨i1, hi1, _, hz11, _⟩ := info_parts info50
  have hf : Instr.fill (fun x => [(0, 32), (32, 1), (33, 1)][x]?) (by8 (zs 32) ++ [Value.int .i64 0, Value.int .i64 0]).toArray [(1, .int .i64 n)] = some (refC (zs 32) n 0).toArray := by
    rw [fill_step _ _ 1 _ _ 32 1 rfl rfl (by simp [by8_length, zs_length])]
    rw [show (putAt (by8 (zs 32) ++ [Value.int .i64 0, Value.int .i64 0]).toArray.toList 32 (Value.int .i64 n).cells.toList) = refC (zs 32) n 0 from by
      have := putAt_mid (by8 (zs 32)) [Value.int .i64 0] [Value.int .i64 0] [Value.int .i64 n] 32 (by simp [by8_length, zs_length]) rfl
      simp only [List.append_assoc, List.cons_append, List.nil_append, List.append_nil] at this
      exact this]
    rfl
  simp [Instr.build, zeroValue, typeInfo, hi, hz0, run_underlying Tryd.underlying52, sizeOf, hi1, hz11, hi2, hz21, Value.cells, Result.andThen]
  rw [hf]
  rfl
/-- make([]byte, n) -/
theorem wp_make8 {ops : Array Oper} {rest : List Oper} {o : Oper} {a : Act} {Q : Exit → Act → World → Prop} {W : World} (hg : o.guard = none) (l c : Operand) (hop : o.op = Op.makeSlice 22 l c)
    (n : Nat) {L C : Int} (hl : a.eval l = .int .i64 L) (hc : a.eval c = .int .i64 C) (hL : L = (n : Int)) (hC : C = (n : Int)) (b2 : n ≤ 1073741824)
    (hK : ∀ w' xs q, W.heap.size = q → xs = zs n → RowAt w' q 5 1 n n (by8 xs) → Keeps [] W w' → wpList Tryd.prog ops Q rest (a.put o.dst (.slice (some ⟨q, 0, none⟩) n n)) w') : wpList Tryd.prog ops Q (o :: rest) a W :=
  wp_make hg l c 22 5 (.int .u8 0) 1 1 hop Tryd.underlying22 info5c n hl hc hL hC (by omega) (by unfold maxLen; omega) fun w' h1 h2 => hK w' (zs n) _ rfl rfl (by have e := made8 (n * 1); rw [Nat.mul_one] at e; rw [← e]; rw [Nat.mul_one] at h1; exact h1) h2
end Go.Proofs.YtgcpcgcfpjolnaaDoor.G
-- both.
namespace Go.Proofs.YtgcpcgcfpjolnaaDoor.G
open Go.RowKit Go.Proofs.YtgcpcgcfpjolnaaDoorW.PrintWords Go.Proofs.YtgcpcgcfpjolnaaDoorW.PrintLast Go.Proofs.YtgcpcgcfpjolnaaDoorW.PrintMore
set_option linter.unusedVariables false
set_option linter.unusedSimpArgs false
set_option maxRecDepth 10000
set_option maxHeartbeats 4000000 in
theorem both_calls {w : World} (hw : 3 ≤ w.heap.size) (hTab : TabW w) : Calls Tryd.prog 78 #[] w fun e w' => e = .returned (.bool true) ∧ Keeps [] w w' := by
  have M0 := Lib.hid (Moves.start hw)
  have HT := Lib.hid (show ∀ (G : List (List Thing)) W, Moves [] G.flatten w W → TabW W from fun G W m => hTab.keeps m.old (by simp))
  have HD := Lib.hid (show ∀ n, Blank n 4 → n.last.length = 4 from fun n h => by rw [h.last]; simp)
  have n3 : nSec 1000 = 3 := by decide
  have n2 : nSec 900 = 2 := by decide
  have HI : Hid (∃ is, is = List.replicate (2 - 0) true) := Lib.hid ⟨_, rfl⟩
  obtain ⟨is, his⟩ := HI.out
  have HOK3 := Lib.hid (show takeAllOk is (nSec 1000 : Int) = false by rw [his, n3]; decide)
  have HOK2 := Lib.hid (show takeAllOk is (nSec 900 : Int) = true by rw [his, n2]; decide)
  have HOUT := Lib.hid (show (takeAllOut 0 is (nSec 900 : Int)).getD 0 0 < 1 by rw [his, n2]; decide)
  have HFR := Lib.hid (show (trues is).length = 2 by rw [his]; decide)
  have HIS := Lib.hid his
  clear n3 n2 HI his hTab hw
  go_enter Tryd.func78, Tryd.ntmps78
  go_wp2_with (first | (go_at_call 15; refine (num_calls _ _).mono ?_; rintro e w' ⟨rfl, rfl⟩) | (go_at_call 13; refine (disk_new M0.out 4 (by decide) (by decide)).mono ?_; rintro e w' ⟨d, rfl, hd, m1⟩; have M1 := Lib.hid m1; have BL := Lib.hid hd; clear m1 hd) | (go_at_call 14; refine (space_new M1.out 0 2 (by decide) (by decide)).mono ?_; rintro e w' ⟨b, g, cap, rfl, m2⟩; rw [← HIS.out] at m2; have M2 := Lib.hid m2; clear m2) | (refine wp_make8 rfl _ _ rfl 1048577 rfl rfl rfl rfl (by decide) ?_; intro w3 xs3 q3 hq3 hx3 hr3 hk3; clear hx3 hq3; have M3 := Lib.hid (M2.out.blank hk3); clear hr3 hk3 M2) | (have _z := mkW4; clear _z; go_at_call 16; refine (newW_bad (s := ⟨b, g, cap, 0, 2, is⟩) (Has.perm (mkW4.out.get2 0 1 (by decide) rfl rfl) List.perm_append_comm) _ 900 _ (by decide) (HT.out _ _ mkW4.out) HOK2.out _ rfl (.inl HOUT.out)).mono ?_; rintro e w' ⟨rfl, hsp, hk⟩; have M5 := Lib.hid (mkW4.out.upd 0 rfl (sp_moves (mkW4.out.get 0 rfl) hsp hk)); clear hsp hk mkW4) | (have _z := mkW3; clear _z; go_at_call 16; refine (newW_full (s := ⟨b, g, cap, 0, 2, is⟩) ((mkW3.out.get 0 rfl).get 0 rfl) _ _ 1000 _ (by decide) HOK3.out).mono ?_; rintro e w' ⟨rfl, hsp, hk⟩; have mkW4 := Lib.hid (mkW3.out.upd 0 rfl (sp_moves (mkW3.out.get 0 rfl) hsp hk)); clear hsp hk mkW3) | (have _z := mkW2; clear _z; go_at_call 16; refine (newW_long _ _ _ _ _ _ (by decide)).mono ?_; rintro e w' ⟨rfl, rfl⟩; have mkW3 := mkW2; clear mkW2) | (have _z := mkW1; clear _z; go_at_call 16; refine (newW_nil2 _ _ _ _ _).mono ?_; rintro e w' ⟨rfl, rfl⟩; have mkW2 := mkW1; clear mkW1) | (go_at_call 16; refine (newW_nil1 _ _ _ _ _).mono ?_; rintro e w' ⟨rfl, rfl⟩; have mkW1 := M3; clear M3) | (have _z := mkR6; clear _z; refine wp_build rfl 52 _ rfl (.agg (refC (zs 32) 4 0).toArray) (by simp only [List.map_toArray, List.map_cons, List.map_nil]; exact build52q _ 4) ?_) | (have _z := mkR5; clear _z; refine wp_build rfl 52 _ rfl (.agg (refC (zs 32) 1 0).toArray) (by simp only [List.map_toArray, List.map_cons, List.map_nil]; exact build52q _ 1) ?_) | (have _z := mkR4; clear _z; refine wp_build rfl 52 _ rfl (.agg (refC (zs 32) 0 1048577).toArray) (by simp only [List.map_toArray, List.map_cons, List.map_nil]; exact build52p _ 1048577) ?_) | (refine wp_build rfl 52 _ rfl (.agg (refC (zs 32) 0 (-1)).toArray) (by simp only [List.map_toArray, List.map_cons, List.map_nil]; exact build52p _ (-1)) ?_) | (have _z := mkR6; clear _z; go_at_call 23; refine (newR_broken (d := d) ((mkR6.out.get 1 rfl).get 0 rfl) 4 (by decide) (by rw [HD.out d BL.out]; decide) (zs 32) rfl 4 (.inr (by rw [HD.out d BL.out]; decide)) 0 (by decide)).mono ?_; rintro e w' ⟨rfl, hk⟩; have M6 := Lib.hid (mkR6.out.blank hk); clear hk mkR6) | (have _z := mkR5; clear _z; go_at_call 23; refine (newR_broken (d := d) ((mkR5.out.get 1 rfl).get 0 rfl) 2 (by decide) (by rw [HD.out d BL.out]; decide) (zs 32) rfl 1 (.inl (by decide)) 0 (by decide)).mono ?_; rintro e w' ⟨rfl, hk⟩; have mkR6 := Lib.hid (mkR5.out.blank hk); clear hk mkR5) | (have _z := mkR4; clear _z; go_at_call 23; refine (newR_long (d := d) ((mkR4.out.get 1 rfl).get 0 rfl) 2 (by decide) (by rw [HD.out d BL.out]; decide) (zs 32) rfl 0 1048577 (.inr (by decide))).mono ?_; rintro e w' ⟨rfl, hk⟩; have mkR5 := Lib.hid (mkR4.out.blank hk); clear hk mkR4) | (have _z := mkR3; clear _z; go_at_call 23; refine (newR_arg (d := d) ((mkR3.out.get 1 rfl).get 0 rfl) 5 (.inr (by rw [HD.out d BL.out]; decide)) _).mono ?_; rintro e w' ⟨rfl, hk⟩; have mkR4 := Lib.hid (mkR3.out.blank hk); clear hk mkR3) | (have _z := mkR2; clear _z; go_at_call 23; refine (newR_arg (d := d) ((mkR2.out.get 1 rfl).get 0 rfl) 0 (.inl (by decide)) _).mono ?_; rintro e w' ⟨rfl, hk⟩; have mkR3 := Lib.hid (mkR2.out.blank hk); clear hk mkR2) | (go_at_call 23; refine (newR_nil _ _ _).mono ?_; rintro e w' ⟨rfl, hk⟩; have mkR2 := Lib.hid (M5.out.blank hk); clear hk M5) | (go_at_call 59; refine (sp_free ((M6.out.get 0 rfl).get 0 rfl)).mono ?_; rw [HFR.out]; rintro e w' ⟨rfl, rfl⟩))
  go_ret
  exact ⟨rfl, M6.out.old⟩
end Go.Proofs.YtgcpcgcfpjolnaaDoor.G
-- started.
namespace Go.Proofs.YtgcpcgcfpjolnaaDoor.G
open Go.RowKit Go.Proofs.YtgcpcgcfpjolnaaDoorW.PrintWords Go.Proofs.YtgcpcgcfpjolnaaDoorW.PrintLast Go.Proofs.YtgcpcgcfpjolnaaDoorW.PrintMore
set_option linter.unusedVariables false
set_option linter.unusedSimpArgs false
set_option maxRecDepth 10000
theorem C_ints {w : World} {g n cap : Nat} {xs : List Int} (h : RowAt w g 3 1 n cap (ints xs)) : Kd.C (Kd.int .i64) w (some ⟨g, 0, none⟩) n xs := by
  obtain ⟨A, c, e, _, hC, _⟩ := own_C (k := .i64) (w := w) (e := 3) (n := n) (v := .slice (some ⟨g, 0, none⟩) n cap) (xs := xs) h
  cases e
  exact hC
theorem C_bytes {w : World} {g n cap : Nat} {xs : List Int} (h : RowAt w g 5 1 n cap (by8 xs)) : Kd.C (Kd.int .u8) w (some ⟨g, 0, none⟩) n xs := by
  obtain ⟨A, c, e, _, hC, _⟩ := own_C (k := .u8) (w := w) (e := 5) (n := n) (v := .slice (some ⟨g, 0, none⟩) n cap) (xs := xs) h
  cases e
  exact hC
theorem row_BSl {w : World} {g n cap : Nat} {xs : List Int} (h : RowAt w g 5 1 n cap (by8 xs)) : BSl w (some ⟨g, 0, none⟩) n cap xs := by
  have hl : xs.length = n := by have := h.1; rw [by8_length] at this; omega
  exact ⟨hl, h.capLe.1, .inr ⟨g, 0, rfl, row_range8 h, hl, h.lt⟩⟩
theorem row_free {w : World} {s : SI} {g n cap : Nat} {xs : List Value} (h : Has 3 w ([rowT (.slice (some ⟨g, 0, none⟩) n cap) 5 1 n xs] ++ [spT s])) : ∀ g' o, (some (⟨g, 0, none⟩ : Addr)) = some ⟨g', o, none⟩ → g' ≠ s.b ∧ g' ≠ s.g := by
  intro g' o e
  cases e
  have := h.apart2 g (by simp [fps, rowT, Value.ownBlock])
  simpa [fps, spT] using this
theorem sameInts_yes {w : World} {A0 A1 : Option Addr} {c0 c1 n : Nat} {x : List Int} (h0 : Kd.C (Kd.int .i64) w A0 n x) (hc0 : n ≤ c0) (h1 : Kd.C (Kd.int .i64) w A1 n x) (hc1 : n ≤ c1) (hl : n ≤ 1073741824) :
    Calls Tryd.prog 46 #[.slice A0 n c0, .slice A1 n c1] w fun e w' => e = .returned (.bool true) ∧ Keeps [] w w' := by
  have := sameInts_calls h0 hc0 h1 hc1 hl
  rwa [decide_eq_true rfl] at this
theorem str_all {w : World} {b T : Nat} {cs : List Value} (h : StrAt w b cs.toArray T) : w.rangeAt b 0 cs := by
  have := str_range h
  rwa [List.toList_toArray] at this
theorem by8_set (xs : List Int) (j : Nat) (x : Int) : by8 (xs.set j x) = (by8 xs).set j (.int .u8 x) := by simp [by8, List.map_set]
set_option maxHeartbeats 4000000 in
theorem started_calls {w : World} (hw : 3 ≤ w.heap.size) (hTab : TabW w) (hT : ShaW w) (hH : HalfW w) : Calls Tryd.prog 30 #[] w fun e w' => e = .returned (.bool true) ∧ Keeps [] w w' := by
  have M0 := Lib.hid (Moves.start hw)
  have HT := Lib.hid (show ∀ (G : List (List Thing)) W, Moves [] G.flatten w W → TabW W ∧ ShaW W ∧ HalfW W ∧ 3 ≤ W.heap.size from fun G W m => ⟨hTab.keeps m.old (by simp), hT.keeps m.old (by simp), hH.keeps m.old (by simp), m.has.le⟩)
  have HIS : Hid (∃ is, is = List.replicate (20 - 10) true) := Lib.hid ⟨_, rfl⟩
  obtain ⟨is, his⟩ := HIS.out
  have HOK := Lib.hid (show takeAllOk is (nSec 1000 : Int) = true by rw [his]; decide)
  have HNS := Lib.hid (show ([10, 11, 12] : List Int) = takeAllOut 10 is (nSec 1000 : Int) by rw [his]; decide)
  have HI := Lib.hid his
  obtain ⟨is', his'⟩ : ∃ is', is' = takeAllS is (nSec 1000 : Int) := ⟨_, rfl⟩
  have HFR := Lib.hid (show (trues is').length = 7 by rw [his', his]; decide)
  have HI' := Lib.hid his'
  have HB : Hid (∃ bs : List Int, bs = (zs 1000).set 999 7) := Lib.hid ⟨_, rfl⟩
  obtain ⟨bs, hbs⟩ := HB.out
  have HBS := Lib.hid hbs
  have HBL := Lib.hid (show bs.length = 1000 by rw [hbs]; simp [zs_length])
  have HFL := Lib.hid (shaF_length bs)
  have hu52 := Tryd.underlying52
  obtain ⟨RC, hRC⟩ : ∃ RC, RC = refC (shaF bs) 10 1000 := ⟨_, rfl⟩
  have HRL := Lib.hid (show RC.length = 34 by rw [hRC]; exact refC_length _ _ _ HFL.out)
  have HSZ := Lib.hid (show (Tryd.prog.info? 52).map (·.size) = some RC.length by rw [HRL.out]; exact size52)
  have HON := Lib.hid (show RC.toArray.all (·.oneCell') = true by rw [hRC]; exact all_oneCell_toArray (refC_one _ _ _))
  have HRC := Lib.hid hRC
  have HC32 := Lib.hid (show RC.toArray[32]? = some (.int .i64 10) by rw [hRC]; exact refC_32 _ HFL.out _ _)
  have HC33 := Lib.hid (show RC.toArray[33]? = some (.int .i64 1000) by rw [hRC]; exact refC_33 _ HFL.out _ _)
  have HPUT := Lib.hid (show ∀ (d : DK) (b g cap q : Nat) W, Blank d 20 → Moves [] [[rowT (.slice (some ⟨q, 0, none⟩) 1000 1000) 5 1 1000 (by8 bs)], DL d, [spT ⟨b, g, cap, 10, 20, is⟩]].flatten w W →
      Calls Tryd.prog 21 #[.pointer (some ⟨d.db, 0, none⟩), .pointer (some ⟨b, 0, none⟩), .slice (some ⟨q, 0, none⟩) 1000 1000] W fun e w' => ∃ v d', e = .returned (.tuple #[.agg RC.toArray, v, .int .i64 0]) ∧ Wn d d' [10, 11, 12] bs 3 ∧ Moves [] ([rowT v 3 1 3 (ints [10, 11, 12])] :: [[rowT (.slice (some ⟨q, 0, none⟩) 1000 1000) 5 1 1000 (by8 bs)], DL d', [spT ⟨b, g, cap, 10, 20, is'⟩]]).flatten w w' from
    fun d b g cap q W hbl m => by
      have hx := HT.out _ _ m
      have hrow : RowAt W q 5 1 1000 1000 (by8 bs) := (m.get 0 rfl).get 0 rfl
      refine (put_calls (s := ⟨b, g, cap, 10, 20, is⟩) (m.get2 1 2 (by decide) rfl rfl) hbl.ok (some ⟨q, 0, none⟩) 1000 1000 bs (row_BSl hrow) (row_free (m.get2 0 2 (by decide) rfl rfl)) (by decide) hx.1 hx.2.1 hx.2.2.1 HOK.out [10, 11, 12] HNS.out (by decide) (by rw [hbl.last, List.length_replicate]; decide) (by rw [hbl.wr]; decide)).mono ?_
      rintro e w' ⟨v, d', rfl, hn, m'⟩
      refine ⟨v, d', ?_, hn, ?_⟩
      · rw [HBL.out, HRC.out]; rfl
      · rw [← HI'.out] at m'
        exact m.upd2New 1 2 (by decide) rfl rfl m')
  have HGET := Lib.hid (show ∀ (d d' : DK) (G : List (List Thing)) (i : Nat) W, Blank d 20 → Wn d d' [10, 11, 12] bs 3 → Moves [] G.flatten w W → G[i]? = some (DL d') →
      Calls Tryd.prog 22 #[.pointer (some ⟨d.db, 0, none⟩), .int .i64 10, .agg RC.toArray] W fun e w' => ∃ g c, e = .returned (.tuple #[.slice (some ⟨g, 0, none⟩) 1000 c, .int .i64 0, .int .i64 0]) ∧ Moves [] ([rowT (.slice (some ⟨g, 0, none⟩) 1000 c) 5 1 1000 (by8 bs)] :: G.set i (DL (rdN d' 3))).flatten w w' from
    fun d d' G i W hbl hn m hi => by
      have hx := HT.out _ _ m
      have hl : d'.last.length = 20 := by rw [hn.last, hbl.last]; simp
      have nm : Nm d' 10 [10, 11, 12] bs := ⟨by rw [HBL.out]; decide, by rw [HBL.out]; decide, by decide, by decide, by decide, by rw [hl]; decide⟩
      have hg := get_calls (m.get i hi) hn.ok nm hn.wrote (by rw [hn.rd, hbl.rd]; decide) hx.2.2.1 hx.2.1
      rw [HBL.out] at hg
      have e0 : (refC (shaF bs) (([10, 11, 12] : List Int).getD 0 0) ((1000 : Nat) : Int)) = RC := by rw [HRC.out]; rfl
      rw [e0, hn.db] at hg
      refine hg.mono ?_
      rintro e w' ⟨v, rfl, m'⟩
      have hv : w'.ownsRow 0 5 1 v 1000 (by8 bs) := m'.has.get 0 rfl
      obtain ⟨g, c, hvv, _⟩ := own_some hv (by decide)
      subst hvv
      exact ⟨g, c, rfl, m.updNew (N := [rowT (.slice (some ⟨g, 0, none⟩) 1000 c) 5 1 1000 (by8 bs)]) i hi m'⟩)
  have HM4 := Lib.hid (show ∀ (d : DK) (b g cap q : Nat) W xs, xs = zs 1000 → Moves [] [[rowT (.slice (some ⟨q, 0, none⟩) 1000 1000) 5 1 1000 (by8 xs)], DL d, [spT ⟨b, g, cap, 10, 20, is⟩]].flatten w W →
      Moves [] [[rowT (.slice (some ⟨q, 0, none⟩) 1000 1000) 5 1 1000 (by8 bs)], DL d, [spT ⟨b, g, cap, 10, 20, is⟩]].flatten w (W.setCell ⟨q, 999, none⟩ (.int .u8 7)) from fun d b g cap q W xs hx m =>
    m.one 0 (t' := rowT (.slice (some ⟨q, 0, none⟩) 1000 1000) 5 1 1000 (by8 bs)) rfl ((Keeps.refl _ _).setCell (by simp [rowT, Value.ownBlock]) _) (by
      have h1 : RowAt W q 5 1 1000 1000 (by8 xs) := (m.get 0 rfl).get 0 rfl
      have h2 := h1.set 999 (.int .u8 7)
      rw [← by8_set, hx, ← HBS.out] at h2
      exact h2) rfl)
  clear his his' hbs hRC hTab hT hH HIS HB hw
  go_enter Tryd.func30, Tryd.ntmps30
  go_wp2_with (first | (go_at_call 15; refine (num_calls _ _).mono ?_; rintro e w' ⟨rfl, rfl⟩) | (go_at_call 13; refine (disk_new M0.out 20 (by decide) (by decide)).mono ?_; rintro e w' ⟨d, rfl, hd, m1⟩; have M1 := Lib.hid m1; have BL := Lib.hid hd; clear m1 hd) | (go_at_call 14; refine (space_new M1.out 10 20 (by decide) (by decide)).mono ?_; rintro e w' ⟨b, g, cap, rfl, m2⟩; rw [← HI.out] at m2; have M2 := Lib.hid (m2.permG (List.Perm.swap _ _ _)); clear m2 M1) | (refine wp_make8 rfl _ _ rfl 1000 rfl rfl rfl rfl (by decide) ?_; intro w3 xs3 q hq hx3 hr3 hk3; have M3 := Lib.hid (M2.out.newRow hq hr3 hk3); have c999 : w3.cell? ⟨q, 999, none⟩ = some (.int .u8 0) := (by rw [RowAt.cell hr3 999 (by decide), hx3]; simp [by8, zs]); have f999 := RowAt.frozen hr3 999; have HX3 := Lib.hid hx3; clear hx3 hr3 hk3 hq M2) | (go_at_call 21; refine (HPUT.out d b g cap q _ BL.out (HM4.out _ _ _ _ _ _ _ HX3.out M3.out)).mono ?_; rintro e w5 ⟨v5, d5, rfl, n5, m5⟩; obtain ⟨g5, c5, hv5, _⟩ := own_some (show w5.ownsRow 0 3 1 v5 3 (ints [10, 11, 12]) from (m5.get 0 rfl).get 0 rfl) (by decide); rw [hv5] at m5 ⊢; have M5 := Lib.hid m5; have N5 := Lib.hid n5; clear m5 n5 c999 f999 hv5) | (refine wpList_store_mid rfl 52 (.tmp 6) (.tmp 44) rfl w5.heap.size 0 RC.toArray rfl rfl (StrAt_there (StrAt.new w5 z34.toArray 52) 0 _ (by simp [HRL.out, z34_length])) (by rw [HSZ.out, List.size_toArray]) HON.out ?_; have M6 := Lib.hid ((M5.out.newStr z34.toArray 52).one 0 (t' := strT w5.heap.size RC.toArray 52) rfl (keeps_setCells (S := [w5.heap.size]) (g := w5.heap.size) (by simp) RC 0 _ _ (Keeps.refl _ _)) (StrAt_whole (StrAt.new w5 z34.toArray 52) RC (by simp [HRL.out, z34_length])) rfl)) | (refine wpList_load_mid rfl 52 (.tmp 6) rfl w5.heap.size 0 rfl RC _ (str_all ((M6.out.get 0 rfl).get 0 rfl)) hu52 rfl HSZ.out ?_) | (go_at_call 22; refine (HGET.out d d5 _ 3 _ BL.out N5.out M6.out rfl).mono ?_; rintro e w7 ⟨g7, c7, rfl, m7⟩; have M7 := Lib.hid m7; clear m7) | (go_at_call 24; refine (same_yes (C_bytes ((M7.out.get 3 rfl).get 0 rfl)) (Nat.le_refl _) (C_bytes ((M7.out.get 0 rfl).get 0 rfl)) (RowAt.capLe ((M7.out.get 0 rfl).get 0 rfl)).1).mono ?_; rintro e w8 ⟨rfl, k8⟩; have M8 := Lib.hid (M7.out.blank k8); clear k8) | (go_at_call 46; refine (sameInts_yes (x := [10, 11, 12]) (C_ints (((M8.out.blank ((Keeps.refl _ _).alloc _)).get 2 rfl).get 0 rfl)) (RowAt.capLe ((M8.out.get 2 rfl).get 0 rfl)).1 (C_ints (xs := [10, 11, 12]) (RowAt.lit w8 #[Value.int .i64 10, Value.int .i64 11, Value.int .i64 12] 3 1 3 rfl (by decide))) (Nat.le_refl _) (by decide)).mono ?_; rintro e w9 ⟨rfl, k9⟩; have M9 := Lib.hid (M8.out.blank (((Keeps.refl _ _).alloc _).trans' k9)); have S9 : StrAt w9 w5.heap.size RC.toArray 52 := (M9.out.get 1 rfl).get 0 rfl; have c32 := (S9.cell 32).trans HC32.out; have c33 := (S9.cell 33).trans HC33.out; clear S9 k9) | (go_at_call 59; refine (sp_free ((M9.out.get 5 rfl).get 0 rfl)).mono ?_; rw [HFR.out]; rintro e w' ⟨rfl, rfl⟩) | (go_at_call 78; refine (both_calls (HT.out _ _ M9.out).2.2.2 (HT.out _ _ M9.out).1).mono ?_; rintro e w10 ⟨rfl, k10⟩))
  go_ret
  exact ⟨rfl, M9.out.old.trans' k10⟩
end Go.Proofs.YtgcpcgcfpjolnaaDoor.G
-- The calls of a chain among groups of things.
namespace Go.Proofs.YtgcpcgcfpjolnaaDoor.G
open Go.RowKit Go.Proofs.YtgcpcgcfpjolnaaDoorW.PrintWords Go.Proofs.YtgcpcgcfpjolnaaDoorW.PrintLast Go.Proofs.YtgcpcgcfpjolnaaDoorW.PrintMore
set_option linter.unusedVariables false
set_option linter.unusedSimpArgs false
set_option maxRecDepth 10000
theorem fresh_ne {W0 W : World} {G : List (List Thing)} {s : SI} (m : Moves [] G.flatten W0 W) (j : Nat) (hj : G[j]? = some [spT s]) {A : Option Addr} (hA : ∀ a, A = some a → a.block < W0.heap.size) : ∀ g o, A = some ⟨g, o, none⟩ → g ≠ s.b ∧ g ≠ s.g := by
  intro g o e
  have h1 := hA _ e
  have hm : ∀ k ∈ [s.b, s.g], k ∈ fps G.flatten := fun k hk => by
    have : spT s ∈ G.flatten := List.mem_flatten.2 ⟨_, List.mem_of_getElem? hj, List.mem_singleton.2 rfl⟩
    exact mem_fps this hk
  have h2 := m.news s.b (hm _ (by simp))
  have h3 := m.news s.g (hm _ (by simp))
  have h4 : g < W0.heap.size := h1
  omega
theorem newW_act {W0 W : World} {G : List (List Thing)} {d : DK} {s : SI} (m : Moves [] G.flatten W0 W) (i j : Nat) (hij : i < j) (hi : G[i]? = some (DL d)) (hj : G[j]? = some [spT s]) (A : Option Addr) (L c : Nat) (xs : List Int) (hb : BSl W0 A L c xs) (hL : L ≤ 1048576) (hTab : TabW W0) (hT : ShaW W0)
    (hok : takeAllOk s.is (nSec L : Int) = true) (ns : List Int) (hns : ns = takeAllOut s.fr s.is (nSec L : Int)) (hn0 : 1 ≤ ns.getD 0 0) (hn1 : ns.getD (nSec L - 1) 0 < (d.last.length : Int)) :
    Calls Tryd.prog 16 #[.pointer (some ⟨d.db, 0, none⟩), .pointer (some ⟨s.b, 0, none⟩), .slice A L c] W fun e w' => ∃ wb nv bv, e = .returned (.tuple #[.pointer (some ⟨wb, 0, none⟩), .int .i64 0]) ∧ Moves [] (WLs d.db (WJ wb ns xs nv bv 0) :: G.set j [spT { s with is := takeAllS s.is (nSec L : Int) }]).flatten W0 w' := by
  refine (newWriter_calls (m.get2 i j hij hi hj) A L c xs (hb.keeps m.old (by simp)) (fresh_ne m j hj (fun a e => hb.lt a e)) hL (hTab.keeps m.old (by simp)) (hT.keeps m.old (by simp)) hok ns hns hn0 hn1).mono ?_
  rintro e w' ⟨x, rfl, x1, x2, x3, x4, x5, x6, m'⟩
  refine ⟨x.wb, x.nv, x.bv, rfl, ?_⟩
  have ex : x = WJ x.wb ns xs x.nv x.bv 0 := by
    obtain ⟨wb, h9, fi, len, nv, nss, done, bv, bs⟩ := x
    simp only at x1 x2 x3 x4 x5 x6
    subst x1 x2 x3 x4 x5 x6
    rfl
  rw [← ex]
  exact m.updNew (N := WLs d.db x) j hj m'
theorem put_act {W0 W : World} {G : List (List Thing)} {d : DK} {s : SI} (m : Moves [] G.flatten W0 W) (i j : Nat) (hij : i < j) (hi : G[i]? = some (DL d)) (hj : G[j]? = some [spT s]) (ok : DOk d) (A : Option Addr) (L c : Nat) (xs : List Int) (hb : BSl W0 A L c xs) (hL : L ≤ 1048576) (hTab : TabW W0) (hT : ShaW W0) (hH : HalfW W0)
    (hok : takeAllOk s.is (nSec L : Int) = true) (ns : List Int) (hns : ns = takeAllOut s.fr s.is (nSec L : Int)) (hn0 : 1 ≤ ns.getD 0 0) (hn1 : ns.getD (nSec L - 1) 0 < (d.last.length : Int)) (hwr : d.wr < 536870912) :
    Calls Tryd.prog 21 #[.pointer (some ⟨d.db, 0, none⟩), .pointer (some ⟨s.b, 0, none⟩), .slice A L c] W fun e w' => ∃ v d', e = .returned (.tuple #[.agg (refC (shaF xs) (ns.getD 0 0) (xs.length : Int)).toArray, v, .int .i64 0]) ∧ Wn d d' ns xs ns.length ∧
      Moves [] ([rowT v 3 1 ns.length (ints ns)] :: (G.set i (DL d')).set j [spT { s with is := takeAllS s.is (nSec L : Int) }]).flatten W0 w' := by
  refine (put_calls (m.get2 i j hij hi hj) ok A L c xs (hb.keeps m.old (by simp)) (fresh_ne m j hj (fun a e => hb.lt a e)) hL (hTab.keeps m.old (by simp)) (hT.keeps m.old (by simp)) (hH.keeps m.old (by simp)) hok ns hns hn0 hn1 hwr).mono ?_
  rintro e w' ⟨v, d', rfl, hn, m'⟩
  exact ⟨v, d', rfl, hn, m.upd2New i j hij hi hj m'⟩
theorem reader_new {W : World} {db b : Nat} {heap : Int} {N bs : List Int} (hN : 1 ≤ N.length) (hs : StrAt W b (lnC db (shaF bs) (N.getD 0 0) (bs.length : Int) (.slice none 0 0) 0 [.int .i64 heap, .int .i64 (N.getD 0 0), .slice none 0 0, .bool false, .int .i64 0, .int .i64 0]) 71) (hb : 3 ≤ b) :
    Has 3 W (RLs db (RJ b heap N bs (.slice none 0 0) (.slice none 0 0) 0)) ∧ ∀ k ∈ fps (RLs db (RJ b heap N bs (.slice none 0 0) (.slice none 0 0) 0)), k = b := by
  have hd0 : decide (N.length ≤ 0) = false := decide_eq_false (by omega)
  have hlt := hs.lt
  refine ⟨⟨fun t ht => ?_, ?_, fun k hm9 => ?_, by omega⟩, fun k hm9 => by simpa [RLs, RJ, fps, strT, rowT, Value.ownBlock] using hm9⟩
  · have ht' : t = strT b (lnC db (shaF bs) (N.getD 0 0) (bs.length : Int) (.slice none 0 0) 0 [.int .i64 heap, .int .i64 (N.getD (min 0 (N.length - 1)) 0), .slice none 0 0, .bool (decide (N.length ≤ 0)), .int .i64 0, .int .i64 0]) 71 ∨ t = rowT (.slice none 0 0) 3 1 (N.take 0).length (ints (N.take 0)) ∨ t = rowT (.slice none 0 0) 5 1 (bs.take (480 * 0)).length (by8 (bs.take (480 * 0))) := by simpa [RLs, RJ, rTl] using ht
    rcases ht' with rfl | rfl | rfl
    · rw [hd0, Nat.zero_min]; exact hs
    · exact World.ownsRow_nil _ _ _ _
    · exact World.ownsRow_nil _ _ _ _
  · simp [RLs, RJ, fps, strT, rowT, Value.ownBlock]
  · have : k = b := by simpa [RLs, RJ, fps, strT, rowT, Value.ownBlock] using hm9
    omega
theorem newR_act {M0 : List Thing} {W0 W : World} {G : List (List Thing)} {d : DK} (m : Moves M0 G.flatten W0 W) (i : Nat) (hi : G[i]? = some (DL d)) {heap : Int} {N bs : List Int} (nm : Nm d heap N bs) :
    Calls Tryd.prog 23 #[.pointer (some ⟨d.db, 0, none⟩), .int .i64 heap, .agg (refC (shaF bs) (N.getD 0 0) (bs.length : Int)).toArray] W fun e w' => ∃ b, e = .returned (.tuple #[.pointer (some ⟨b, 0, none⟩), .int .i64 0]) ∧
      Moves M0 (RLs d.db (RJ b heap N bs (.slice none 0 0) (.slice none 0 0) 0) :: G).flatten W0 w' := by
  have hS : StrAt W d.db (dCells d) 125 := (m.get i hi).get 0 rfl
  have hk := nSec_le bs.length nm.le
  have hlen := nm.len
  have h0 := getD_mem (show 0 < N.length by omega)
  have hl := nm.lo _ h0
  have hh := nm.hi _ h0
  have h3 := m.has.le
  refine (newReader_calls hS heap nm.hp (by omega) (shaF bs) (shaF_length bs) (N.getD 0 0) hl hh bs.length nm.le).mono ?_
  rintro e w' ⟨b, rfl, hb, hs, hk'⟩
  obtain ⟨r1, r2⟩ := reader_new (by omega) hs (by omega)
  exact ⟨b, rfl, m.fresh hk' r1 (fun k hk9 => by have := r2 k hk9; omega)⟩
theorem get_act {W0 W : World} {G : List (List Thing)} {d : DK} (m : Moves [] G.flatten W0 W) (i : Nat) (hi : G[i]? = some (DL d)) (ok : DOk d) {heap : Int} {N bs : List Int} (nm : Nm d heap N bs) (hw : Wrote d N bs N.length) (hrd : d.rd < 1073741824) (hH : HalfW W0) (hT : ShaW W0) :
    Calls Tryd.prog 22 #[.pointer (some ⟨d.db, 0, none⟩), .int .i64 heap, .agg (refC (shaF bs) (N.getD 0 0) (bs.length : Int)).toArray] W fun e w' => ∃ A c, e = .returned (.tuple #[.slice A bs.length c, .int .i64 0, .int .i64 0]) ∧ bs.length ≤ c ∧
      Moves [] ([rowT (.slice A bs.length c) 5 1 bs.length (by8 bs)] :: G.set i (DL (rdN d N.length))).flatten W0 w' := by
  refine (get_calls (m.get i hi) ok nm hw hrd (hH.keeps m.old (by simp)) (hT.keeps m.old (by simp))).mono ?_
  rintro e w' ⟨v, rfl, m'⟩
  have hv : w'.ownsRow 0 5 1 v bs.length (by8 bs) := m'.has.get 0 rfl
  obtain ⟨A, c, rfl, hc, _, _⟩ := own_C (k := .u8) hv
  exact ⟨A, c, rfl, hc, m.updNew (N := [rowT (.slice A bs.length c) 5 1 bs.length (by8 bs)]) i hi m'⟩
theorem wstep_act {W0 W : World} {G : List (List Thing)} {d : DK} {db wb : Nat} {heap : Int} {N bs : List Int} {nv bv : Value} {j : Nat} (m : Moves [] G.flatten W0 W) (a b : Nat) (hab : a < b) (ha : G[a]? = some (DL d)) (hb : G[b]? = some (WLs db (WJ wb N bs nv bv j))) (hdb : d.db = db) (ok : DOk d) (nm : Nm d heap N bs) (hj : j < N.length) (hwr : d.wr < 1073741824) (hH : HalfW W0) :
    Calls Tryd.prog 19 #[.pointer (some ⟨wb, 0, none⟩)] W fun e w' => e = .returned (.tuple #[.bool (decide (j + 1 = N.length)), .int .i64 0]) ∧ ∃ d', Wr d d' (N.getD j 0) (secB (shaF bs) (j : Int) (nextI N j) (pieceB bs j)) ∧
      Moves [] ((G.set a (DL d')).set b (WLs db (WJ wb N bs nv bv (j + 1)))).flatten W0 w' := by
  have h := m.get2 a b hab ha hb
  rw [← hdb] at h
  refine (wstep_at h ok nm hj hwr (hH.keeps m.old (by simp))).mono ?_
  rintro e w' ⟨rfl, d', hw, m'⟩
  rw [hw.db, hdb] at m'
  exact ⟨rfl, d', hw, m.upd2 a b hab ha hb m'⟩
theorem wend_act {W0 W : World} {G : List (List Thing)} {db wb : Nat} {N bs : List Int} {nv bv : Value} (m : Moves [] G.flatten W0 W) (b : Nat) (hb : G[b]? = some (WLs db (WJ wb N bs nv bv N.length))) :
    Calls Tryd.prog 19 #[.pointer (some ⟨wb, 0, none⟩)] W fun e w' => e = .returned (.tuple #[.bool true, .int .i64 0]) ∧ Keeps [] W w' :=
  wstep_end (db := db) (L := []) (N := N) (bs := bs) (nv := nv) (bv := bv) (m.get b hb)
theorem rstep_act {W0 W : World} {G : List (List Thing)} {d : DK} {db rb : Nat} {heap : Int} {N bs : List Int} {nv bv : Value} {j : Nat} (m : Moves [] G.flatten W0 W) (a b : Nat) (hab : a < b) (ha : G[a]? = some (DL d)) (hb : G[b]? = some (RLs db (RJ rb heap N bs nv bv j))) (hdb : d.db = db) (ok : DOk d) (nm : Nm d heap N bs) (hj : j < N.length)
    (hc : d.cur (N.getD j 0) = secB (shaF bs) (j : Int) (nextI N j) (pieceB bs j)) (hrd : d.rd < 1099511627776) (hH : HalfW W0) (hT : ShaW W0) :
    Calls Tryd.prog 26 #[.pointer (some ⟨rb, 0, none⟩)] W fun e w' => e = .returned (.tuple #[.bool (decide (N.length ≤ j + 1)), .int .i64 0]) ∧ ∃ nv' bv',
      Moves [] ((G.set a (DL (rdUp d))).set b (RLs db (RJ rb heap N bs nv' bv' (j + 1)))).flatten W0 w' := by
  have h := m.get2 a b hab ha hb
  rw [← hdb] at h
  have h3 := m.has.le
  refine (rstep_at h ok nm hj hc hrd (hH.keeps m.old (by simp)) (hT.keeps m.old (by simp)) (by omega)).mono ?_
  rintro e w' ⟨rfl, nv', bv', m'⟩
  rw [hdb] at m'
  exact ⟨rfl, nv', bv', m.upd2 a b hab ha hb m'⟩
/-- Done, Numbers, Ref of a writer; Done, Numbers, Bytes of a reader -/
theorem wdone_act {W0 W : World} {G : List (List Thing)} {db wb : Nat} {N bs : List Int} {nv bv : Value} {j : Nat} (m : Moves [] G.flatten W0 W) (b : Nat) (hb : G[b]? = some (WLs db (WJ wb N bs nv bv j))) :
    Calls Tryd.prog 31 #[.pointer (some ⟨wb, 0, none⟩)] W fun e w' => e = .returned (.int .i64 (j : Int)) ∧ w' = W :=
  done_calls (done := (j : Int)) ((m.get b hb).get 0 rfl) (shaF_length bs)
theorem wnums_act {W0 W : World} {G : List (List Thing)} {db wb : Nat} {N bs : List Int} {nv bv : Value} {j : Nat} (m : Moves [] G.flatten W0 W) (b : Nat) (hb : G[b]? = some (WLs db (WJ wb N bs nv bv j))) (hl : N.length ≤ 65536) :
    Calls Tryd.prog 18 #[.pointer (some ⟨wb, 0, none⟩)] W fun e w' => ∃ A c, e = .returned (.slice A N.length c) ∧ N.length ≤ c ∧ Moves [] ([rowT (.slice A N.length c) 3 1 N.length (ints N)] :: G).flatten W0 w' := by
  refine (numbers_calls ((m.get b hb).get 0 rfl) (shaF_length bs) N ((m.get b hb).get 1 rfl) hl).mono ?_
  rintro e w' ⟨v, rfl, h1, h2, h3⟩
  obtain ⟨A, c, rfl, hc, _, _⟩ := own_C (k := .i64) h1
  exact ⟨A, c, rfl, hc, m.newVal h1 h2 h3⟩
theorem wref_act {W0 W : World} {G : List (List Thing)} {db wb : Nat} {N bs : List Int} {nv bv : Value} {j : Nat} (m : Moves [] G.flatten W0 W) (b : Nat) (hb : G[b]? = some (WLs db (WJ wb N bs nv bv j))) :
    Calls Tryd.prog 20 #[.pointer (some ⟨wb, 0, none⟩)] W fun e w' => e = .returned (.agg (refC (shaF bs) (N.getD 0 0) (bs.length : Int)).toArray) ∧ Keeps [] W w' :=
  ref_calls ((m.get b hb).get 0 rfl) (shaF_length bs)
theorem rbytes_act {W0 W : World} {G : List (List Thing)} {db rb : Nat} {heap : Int} {N bs : List Int} {nv bv : Value} (m : Moves [] G.flatten W0 W) (b : Nat) (hb : G[b]? = some (RLs db (RJ rb heap N bs nv bv N.length))) (hlen : N.length = nSec bs.length) (hl : bs.length ≤ 1048576) :
    Calls Tryd.prog 27 #[.pointer (some ⟨rb, 0, none⟩)] W fun e w' => ∃ A c, e = .returned (.slice A bs.length c) ∧ bs.length ≤ c ∧ Moves [] ([rowT (.slice A bs.length c) 5 1 bs.length (by8 bs)] :: G).flatten W0 w' := by
  have hu := nSec_up bs.length
  have ht : bs.take (480 * N.length) = bs := List.take_of_length_le (by rw [hlen]; exact hu.1)
  have hb1 : W.ownsRow 0 5 1 bv (bs.take (480 * N.length)).length (by8 (bs.take (480 * N.length))) := (m.get b hb).get 2 rfl
  have key := bytes_calls (x := RJ rb heap N bs nv bv N.length) ((m.get b hb).get 0 rfl) (shaF_length bs) (show decide (N.length ≤ N.length) = true from decide_eq_true (Nat.le_refl _)) rfl hb1 (show (bs.take (480 * N.length)).length ≤ _ by rw [ht]; omega)
  simp only [RJ] at key
  rw [ht] at key
  refine key.mono ?_
  rintro e w' ⟨v, rfl, h1, h2, h3⟩
  obtain ⟨A, c, rfl, hc, _, _⟩ := own_C (k := .u8) h1
  exact ⟨A, c, rfl, hc, m.newVal h1 h2 h3⟩
end Go.Proofs.YtgcpcgcfpjolnaaDoor.G
