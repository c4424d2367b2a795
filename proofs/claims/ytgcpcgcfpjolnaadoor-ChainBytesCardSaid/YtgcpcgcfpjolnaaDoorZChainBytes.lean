/- Sectors of any number and Sound of any bytes, for any piece of any ref, tell what the document tells: law ChainBytes returns true. For all arguments that can be read; the tables math/bits.deBruijn64tab, kiln/sha.table and kiln/wire.half are as their texts lay them. -/
import Derived.Test.YtgcpcgcfpjolnaaDoorPQ
import Derived.Test.YtgcpcgcfpjolnaaDoorPG
import Derived.Test.YtgcpcgcfpjolnaaDoorPS
import Derived.Test.YtgcpcgcfpjolnaaDoorPR
import Derived.Lib.LaidTab
import Derived.SizedLaws
import Derived.Test.YtgcpcgcfpjolnaaDoorPN
import Derived.Test.YtgcpcgcfpjolnaaDoorCards
import Derived.Test.YtgcpcgcfpjolnaaDoorTie
import Derived.Deep.DeepHandedRow
-- ChainBytes: the walk.
namespace Go.Proofs.YtgcpcgcfpjolnaaDoor.G
open Go.RowKit Go.Proofs.YtgcpcgcfpjolnaaDoorW.PrintWords Go.Proofs.YtgcpcgcfpjolnaaDoorW.PrintLast Go.Proofs.YtgcpcgcfpjolnaaDoorW.PrintMore
set_option linter.unusedVariables false
set_option linter.unusedSimpArgs false
set_option maxRecDepth 10000
theorem exec_load_mid {P : Program} {o : Oper} {a : Act} {w : World} (ty : TypeId) (x : Operand) (ho : o.op = .load ty x) (b f : Nat) (hx : a.eval x = .pointer (some ⟨b, f, none⟩)) (cs : List Value) (d : TypeDesc) (hc : w.rangeAt b f cs)
    (hu : P.underlying ty = some d) (hd : d.isRow = true) (hi : (P.info? ty).map (·.size) = some cs.length) : (execOp a.eval o).run P w = .ok (.value (.agg cs.toArray)) w := by
  unfold execOp
  simp only [ho, hx, Instr.loadAt, Instr.sureAddr, Sem.run_bind, Sem.run_pure, Result.andThen_ok, run_loadVar_mid w b f ty cs d hc hu hd hi]
def t5 : List Int := [201, 202, 203, 204, 205]
theorem byt_t5 : Byt t5 := by unfold Byt t5; decide
theorem roomy_calls {w : World} {A : Option Addr} {n c : Nat} {xs : List Int} (h : BSl w A n c xs) (hl : n ≤ 140737488351232) :
    Calls Tryd.prog 32 #[.slice A n c] w fun e w' => ∃ g cap, e = .returned (.slice (some ⟨g, 0, none⟩) (n + 5) cap) ∧ RowAt w' g 5 1 (n + 5) cap (by8 (xs ++ t5)) ∧ w.heap.size ≤ g ∧ Keeps [] w w' := by
  have hn := h.1
  have ev : kilnlaw6_roomy.f xs = some (xs ++ t5) := by
    unfold kilnlaw6_roomy.f
    rw [if_pos (by simp; omega), List.nil_append, Option.bind_some, Option.bind_some, if_pos (by simp; omega)]
    rfl
  have := kilnlaw6_roomy.calls A c xs (xs ++ t5) w (by have := h.C (by omega); rwa [← hn] at this) (by have := h.2.1; omega) ev
  rw [hn] at this
  refine this.mono ?_
  rintro e w' ⟨v, rfl, hR, hB⟩
  have hr := R_row8 hR
  have hf : ∀ k, v.ownBlock = some k → w.heap.size ≤ k := fun k hk => (World.ownsRow.lt (Kd.own_of_R hR) k hk).1
  have hlen : (xs ++ t5).length = n + 5 := by simp [t5, hn]
  rw [hlen] at hr
  rcases own_form hr with ⟨_, h0, _⟩ | ⟨g, cap, rfl, hrow⟩
  · omega
  · exact ⟨g, cap, rfl, hrow, hf g rfl, Keeps.of_below hB⟩
theorem row_B {W : World} {g n c : Nat} {xs : List Int} (h : RowAt W g 5 1 n c (by8 xs)) : BSl W (some ⟨g, 0, none⟩) n c xs := by
  have hl : xs.length = n := by have := h.1; rw [by8_length] at this; omega
  exact ⟨hl, h.capLe.1, .inr ⟨g, 0, rfl, row_range8 h, hl, h.lt⟩⟩
set_option maxHeartbeats 1000000 in
theorem bytes_walk {W0 : World} (hw : 3 ≤ W0.heap.size) (hTab : TabW W0) (hT : ShaW W0) (hH : HalfW W0) (n : Int) {A : Option Addr} {L c : Nat} {xs h : List Int} {fi len place next : Int} (hB : BSl W0 A L c xs) (hb : Byt xs) (hL : L ≤ 140737488351232) (hh : h.length = 32) (hhb : Byt h)
    (hlen : -9223372036854775808 ≤ len ∧ len ≤ 9223372036854775807) (hpl : -9223372036854775808 ≤ place ∧ place ≤ 9223372036854775807) :
    Calls Tryd.prog 5 #[.int .i64 n, .slice A L c, .agg (refC h fi len).toArray, .int .i64 place, .int .i64 next] W0 fun e w' => e = .returned (.bool true) ∧ Keeps [] W0 w' := by
  have hxl := hB.1
  have HRM := Lib.hid (show ∀ W, Keeps [] W0 W → Calls Tryd.prog 32 #[.slice A L c] W fun e w' => ∃ g cap, e = .returned (.slice (some ⟨g, 0, none⟩) (L + 5) cap) ∧ RowAt w' g 5 1 (L + 5) cap (by8 (xs ++ t5)) ∧ W.heap.size ≤ g ∧ Keeps [] W w' from fun W hk => roomy_calls (hB.keeps hk (fun _ _ _ => by simp)) hL)
  have H3 := Lib.hid (show ∀ W, Keeps [] W0 W → Calls Tryd.prog 33 #[.int .i64 n] W fun e w' => e = .returned (.int .i64 (secsI n)) ∧ Keeps [] W w' from fun W _ => secs33 n W)
  have H4 := Lib.hid (show ∀ W, Keeps [] W0 W → Calls Tryd.prog 34 #[.int .i64 n] W fun e w' => e = .returned (.int .i64 (secsI n)) ∧ Keeps [] W w' from fun W _ => secs34 n W)
  have H5 := Lib.hid (show ∀ W, Keeps [] W0 W → Calls Tryd.prog 33 #[.int .i64 len] W fun e w' => e = .returned (.int .i64 (secsI len)) ∧ Keeps [] W w' from fun W _ => secs33 len W)
  have H6 := Lib.hid (show ∀ W, Keeps [] W0 W → Calls Tryd.prog 34 #[.int .i64 len] W fun e w' => e = .returned (.int .i64 (secsI len)) ∧ Keeps [] W w' from fun W _ => secs34 len W)
  have HS1 := Lib.hid (show ∀ W g cap, Keeps [] W0 W → RowAt W g 5 1 (L + 5) cap (by8 (xs ++ t5)) → Calls Tryd.prog 35 #[.slice (some ⟨g, 0, none⟩) L cap, .agg (refC h fi len).toArray, .int .i64 place, .int .i64 next] W fun e w' => e = .returned (.bool (soundB xs h len place next)) ∧ Keeps [] W w' from fun W g cap hk hr => by
    have h1 := row_range8 hr
    rw [by8_append] at h1
    exact sound_calls (fun j v hj => h1 j v (by rw [List.getElem?_append_left (List.getElem?_eq_some_iff.1 hj).1]; exact hj)) hxl (by have := hr.capLe.1; omega) hb hh (hH.keeps hk (by simp)) hlen hpl)
  have HS2 := Lib.hid (show ∀ W, Keeps [] W0 W → Calls Tryd.prog 36 #[.slice A L c, .agg (refC h fi len).toArray, .int .i64 place, .int .i64 next] W fun e w' => e = .returned (.bool (soundB xs h len place next)) ∧ Keeps [] W w' from fun W hk => sound_ref (hB.keeps hk (fun _ _ _ => by simp)) hb hh hhb hlen hpl)
  have HSA := Lib.hid (show ∀ W g cap g2 cap2, RowAt W g 5 1 (L + 5) cap (by8 (xs ++ t5)) → RowAt W g2 5 1 (L + 5) cap2 (by8 (xs ++ t5)) → Calls Tryd.prog 24 #[.slice (some ⟨g, 0, none⟩) (L + 5) cap, .slice (some ⟨g2, 0, none⟩) (L + 5) cap2] W fun e w' => e = .returned (.bool true) ∧ Keeps [] W w' from fun W g cap g2 cap2 h1 h2 =>
    same_yes ((row_B h1).C (by omega)) h1.capLe.1 ((row_B h2).C (by omega)) h2.capLe.1)
  have HST := Lib.hid (show ∀ W, Keeps [] W0 W → Calls Tryd.prog 30 #[] W fun e w' => e = .returned (.bool true) ∧ Keeps [] W w' from fun W hk => started_calls (Nat.le_trans hw hk.size) (hTab.keeps hk (by simp)) (hT.keeps hk (by simp)) (hH.keeps hk (by simp)))
  have HLD := Lib.hid (show ∀ W, Keeps [] (W0.alloc (.cells (refC h fi len).toArray 52)) W → W.rangeAt W0.heap.size 0 (refC h fi len) from fun W hk => by
    have := str_range (StrAt.new W0 (refC h fi len).toArray 52)
    exact range_keeps (by simpa using this) hk (by simp))
  have HL33 := Lib.hid (show ∀ W : World, W.rangeAt W0.heap.size 0 (refC h fi len) → W.cell? ⟨W0.heap.size, 33, none⟩ = some (.int .i64 len) from fun W hr => by have := hr 33 _ (refC_at33 hh fi len); simpa using this)
  have HSZ := Lib.hid (show (Tryd.prog.info? 52).map (·.size) = some (refC h fi len).length from by rw [show (refC h fi len).length = 34 by simp [refC, by8_length, hh]]; exact size52n)
  have HK1 := Lib.hid (show Keeps [] W0 (W0.alloc (.cells (refC h fi len).toArray 52)) from (Keeps.refl [] _).alloc _)
  have HK2 := Lib.hid (Keeps.refl [] (W0.alloc (.cells (refC h fi len).toArray 52)))
  clear hB hb hh hhb hH hT hTab hw hlen hpl
  generalize secsI n = s1 at H3 H4
  generalize secsI len = s2 at H5 H6
  generalize soundB xs h len place next = sb at HS1 HS2
  obtain ⟨L5, hL5⟩ : ∃ q, q = L + 5 := ⟨_, rfl⟩
  rw [← hL5] at HRM HS1 HSA
  generalize hbx : xs ++ t5 = xt at HRM HS1 HSA
  generalize hrl : refC h fi len = rl at *
  have HL5 := Lib.hid hL5
  clear hbx hrl hL5 hxl
  go_enter Tryd.func5, Tryd.ntmps5
  go_wp2_with (go_at_call 32; refine (HRM.out _ HK1.out).mono ?_; rintro e w1 ⟨gw, cw, rfl, hrw, hgw, h3⟩; have RW := Lib.hid hrw; have HK3 := Lib.hid (HK2.out.trans' h3); have GW := Lib.hid h3; clear h3 HK2 hrw; rename Hid (Keeps [] (World.alloc _ _) _) => HK2)
  have K0 := Lib.hid (And.intro HK2.out.drew (Keeps.refl [] w1).drew)
  have HRK := Lib.hid (show ∀ W, Keeps [] w1 W → RowAt W gw 5 1 L5 cw (by8 xt) from fun W hk => RowAt.keeps RW.out hk (by simp))
  have hcw := RW.out.capLe.1
  have hLc : ((L : Int) ≤ (cw : Int)) = True := eq_true (by have := HL5.out; omega)
  have hLc2 : L ≤ cw := by have := HL5.out; omega
  refine wp_region_held_drew (S := fun W => W.cell? ⟨W0.heap.size, 33, none⟩ = some (.int .i64 len)) (by kernel_rfl) (HL33.out _ (HLD.out _ K0.out.1)) (fun hHeld => ?_)
  refine wpAnyH_take (i := 0) (oi := { dst := some 14, op := Op.move (Operand.tmp 0), type := 3, pos := "law.go:198", after := #[], guard := none }) (v := ?_) rfl (by kernel_rfl) (by kernel_rfl) (by kernel_rfl) (fun _ _ _ h => h) (Or.inl ⟨by kernel_rfl, ?_⟩) (by assumption) ?_
  rotate_left
  · (intro w9 hSw; clear hSw; go_simp; try with_reducible rfl)
  try simp only [Act.put, List.setIfInBounds_toArray, List.set_cons_zero, List.set_cons_succ]
  refine wpAnyH_take (i := 2) (oi := { dst := some 16, op := Op.move (Operand.tmp 0), type := 3, pos := "law.go:198", after := #[], guard := none }) (v := ?_) rfl (by kernel_rfl) (by kernel_rfl) (by kernel_rfl) (fun _ _ _ h => h) (Or.inl ⟨by kernel_rfl, ?_⟩) (by assumption) ?_
  rotate_left
  · (intro w9 hSw; clear hSw; go_simp; try with_reducible rfl)
  try simp only [Act.put, List.setIfInBounds_toArray, List.set_cons_zero, List.set_cons_succ]
  refine wpAnyH_ready (rs := [1]) (by kernel_rfl) (by simp) ?_
  refine AllReadyH.cons (o := { dst := some 15, op := Op.call { callee := Callee.value (Operand.func 33), args := #[Operand.tmp 14], argTypes := #[3] }, type := 3, pos := "law.go:198", after := #[{ on := 0, ground := Ground.data }], guard := none }) rfl (fun K hK => ?_) AllReadyH.nil
  go_simp
  refine (H3.out _ (HK1.out.trans' K0.out.1)).mono ?_
  rintro e wa ⟨rfl, k9⟩
  have Ka := Lib.hid (And.intro (K0.out.1.trans' k9) (K0.out.2.trans' k9))
  clear k9
  refine hK.out _ _ (HL33.out _ (HLD.out _ Ka.out.1)) (fun hHeld1 => ?_)
  clear hK K hHeld
  try simp only [Act.put, List.setIfInBounds_toArray, List.set_cons_zero, List.set_cons_succ]
  refine wpAnyH_ready (rs := [3]) (by kernel_rfl) (by simp) ?_
  refine AllReadyH.cons (o := { dst := some 17, op := Op.call { callee := Callee.value (Operand.func 34), args := #[Operand.tmp 16], argTypes := #[3] }, type := 3, pos := "law.go:198", after := #[{ on := 2, ground := Ground.data }, { on := 1, ground := Ground.chain }], guard := none }) rfl (fun K hK => ?_) AllReadyH.nil
  go_simp
  refine (H4.out _ (HK1.out.trans' Ka.out.1)).mono ?_
  rintro e wb ⟨rfl, k9⟩
  have Kb := Lib.hid (And.intro (Ka.out.1.trans' k9) (Ka.out.2.trans' k9))
  clear k9
  refine hK.out _ _ (HL33.out _ (HLD.out _ Kb.out.1)) (fun hHeld3 => ?_)
  clear hK K hHeld1
  try simp only [Act.put, List.setIfInBounds_toArray, List.set_cons_zero, List.set_cons_succ]
  refine wpAnyH_take (i := 4) (oi := { dst := some 18, op := Op.binOp BinOp.neq 3 (Operand.tmp 15) (Operand.tmp 17) 3, type := 4, pos := "law.go:198", after := #[{ on := 1, ground := Ground.data }, { on := 3, ground := Ground.data }], guard := none }) (v := ?_) rfl (by kernel_rfl) (by kernel_rfl) (by kernel_rfl) (fun _ _ _ h => h) (Or.inl ⟨by kernel_rfl, ?_⟩) (by assumption) ?_
  rotate_left
  · (intro w9 hSw; clear hSw; go_simp; try with_reducible rfl)
  try simp only [Act.put, List.setIfInBounds_toArray, List.set_cons_zero, List.set_cons_succ]
  refine wpAnyH_take (i := 5) (oi := { dst := some 19, op := Op.move (Operand.tmp 18), type := 4, pos := "law.go:198", after := #[{ on := 4, ground := Ground.data }, { on := 3, ground := Ground.chain }], guard := none }) (v := ?_) rfl (by kernel_rfl) (by kernel_rfl) (by kernel_rfl) (fun _ _ _ h => h) (Or.inl ⟨by kernel_rfl, ?_⟩) (by assumption) ?_
  rotate_left
  · (intro w9 hSw; clear hSw; go_simp; try with_reducible rfl)
  try simp only [Act.put, List.setIfInBounds_toArray, List.set_cons_zero, List.set_cons_succ]
  refine wpAnyH_take (i := 6) (oi := { dst := some 20, op := Op.fieldAddr 52 (Operand.tmp 7) 2, type := 0, pos := "law.go:198", after := #[{ on := 5, ground := Ground.guard }], guard := some (5, false) }) (v := ?_) rfl (by kernel_rfl) (by kernel_rfl) (by kernel_rfl) (fun _ _ _ h => h) (Or.inl ⟨by kernel_rfl, ?_⟩) (by assumption) ?_
  rotate_left
  · (intro w9 hSw; clear hSw; go_simp; try with_reducible rfl)
  try simp only [Act.put, List.setIfInBounds_toArray, List.set_cons_zero, List.set_cons_succ]
  refine wpAnyH_take (i := 7) (oi := { dst := some 21, op := Op.load 3 (Operand.tmp 20), type := 3, pos := "law.go:198", after := #[{ on := 6, ground := Ground.data }, { on := 5, ground := Ground.guard }], guard := some (5, false) }) (v := ?_) rfl (by kernel_rfl) (by kernel_rfl) (by kernel_rfl) (fun _ _ _ h => h) (Or.inl ⟨by kernel_rfl, ?_⟩) (by assumption) ?_
  rotate_left
  · (intro w9 hSw; (try dsimp only at hSw); go_simp; try with_reducible rfl)
  try simp only [Act.put, List.setIfInBounds_toArray, List.set_cons_zero, List.set_cons_succ]
  refine wpAnyH_take (i := 9) (oi := { dst := some 23, op := Op.fieldAddr 52 (Operand.tmp 7) 2, type := 0, pos := "law.go:198", after := #[{ on := 5, ground := Ground.guard }], guard := some (5, false) }) (v := ?_) rfl (by kernel_rfl) (by kernel_rfl) (by kernel_rfl) (fun _ _ _ h => h) (Or.inl ⟨by kernel_rfl, ?_⟩) (by assumption) ?_
  rotate_left
  · (intro w9 hSw; clear hSw; go_simp; try with_reducible rfl)
  try simp only [Act.put, List.setIfInBounds_toArray, List.set_cons_zero, List.set_cons_succ]
  refine wpAnyH_take (i := 10) (oi := { dst := some 24, op := Op.load 3 (Operand.tmp 23), type := 3, pos := "law.go:198", after := #[{ on := 9, ground := Ground.data }, { on := 5, ground := Ground.guard }], guard := some (5, false) }) (v := ?_) rfl (by kernel_rfl) (by kernel_rfl) (by kernel_rfl) (fun _ _ _ h => h) (Or.inl ⟨by kernel_rfl, ?_⟩) (by assumption) ?_
  rotate_left
  · (intro w9 hSw; (try dsimp only at hSw); go_simp; try with_reducible rfl)
  try simp only [Act.put, List.setIfInBounds_toArray, List.set_cons_zero, List.set_cons_succ]
  refine wpAnyH_ready (rs := [8]) (by kernel_rfl) (by simp) ?_
  refine AllReadyH.cons (o := { dst := some 22, op := Op.call { callee := Callee.value (Operand.func 33), args := #[Operand.tmp 21], argTypes := #[3] }, type := 3, pos := "law.go:198", after := #[{ on := 7, ground := Ground.data }, { on := 5, ground := Ground.chain }, { on := 5, ground := Ground.guard }], guard := some (5, false) }) rfl (fun K hK => ?_) AllReadyH.nil
  go_simp
  refine (H5.out _ (HK1.out.trans' Kb.out.1)).mono ?_
  rintro e wc ⟨rfl, k9⟩
  have Kc := Lib.hid (And.intro (Kb.out.1.trans' k9) (Kb.out.2.trans' k9))
  clear k9
  refine hK.out _ _ (HL33.out _ (HLD.out _ Kc.out.1)) (fun hHeld8 => ?_)
  clear hK K hHeld3
  try simp only [Act.put, List.setIfInBounds_toArray, List.set_cons_zero, List.set_cons_succ]
  refine wpAnyH_ready (rs := [11]) (by kernel_rfl) (by simp) ?_
  refine AllReadyH.cons (o := { dst := some 25, op := Op.call { callee := Callee.value (Operand.func 34), args := #[Operand.tmp 24], argTypes := #[3] }, type := 3, pos := "law.go:198", after := #[{ on := 10, ground := Ground.data }, { on := 8, ground := Ground.chain }, { on := 5, ground := Ground.guard }], guard := some (5, false) }) rfl (fun K hK => ?_) AllReadyH.nil
  go_simp
  refine (H6.out _ (HK1.out.trans' Kc.out.1)).mono ?_
  rintro e wd ⟨rfl, k9⟩
  have Kd := Lib.hid (And.intro (Kc.out.1.trans' k9) (Kc.out.2.trans' k9))
  clear k9
  refine hK.out _ _ (HL33.out _ (HLD.out _ Kd.out.1)) (fun hHeld11 => ?_)
  clear hK K hHeld8
  try simp only [Act.put, List.setIfInBounds_toArray, List.set_cons_zero, List.set_cons_succ]
  refine wpAnyH_take (i := 12) (oi := { dst := some 26, op := Op.binOp BinOp.neq 3 (Operand.tmp 22) (Operand.tmp 25) 3, type := 4, pos := "law.go:198", after := #[{ on := 8, ground := Ground.data }, { on := 11, ground := Ground.data }, { on := 5, ground := Ground.guard }], guard := some (5, false) }) (v := ?_) rfl (by kernel_rfl) (by kernel_rfl) (by kernel_rfl) (fun _ _ _ h => h) (Or.inl ⟨by kernel_rfl, ?_⟩) (by assumption) ?_
  rotate_left
  · (intro w9 hSw; clear hSw; go_simp; try with_reducible rfl)
  try simp only [Act.put, List.setIfInBounds_toArray, List.set_cons_zero, List.set_cons_succ]
  refine wpAnyH_take (i := 13) (oi := { dst := some 27, op := Op.pick (Operand.tmp 19) (Operand.const (Value.bool true)) (Operand.tmp 26), type := 4, pos := "law.go:198", after := #[{ on := 5, ground := Ground.data }, { on := 12, ground := Ground.data }], guard := none }) (v := ?_) rfl (by kernel_rfl) (by kernel_rfl) (by kernel_rfl) (fun _ _ _ h => h) (Or.inl ⟨by kernel_rfl, ?_⟩) (by assumption) ?_
  rotate_left
  · (intro w9 hSw; clear hSw; go_simp; try with_reducible rfl)
  try simp only [Act.put, List.setIfInBounds_toArray, List.set_cons_zero, List.set_cons_succ]
  refine wpAnyH_done (by kernel_rfl) ?_ _
  go_wp2
  have Ke := Lib.hid (And.intro Kd.out.1.drew Kd.out.2.drew)
  refine wp_region_held_drew (S := fun W => W.rangeAt W0.heap.size 0 rl) (by kernel_rfl) (HLD.out _ Ke.out.1) (fun hHeld => ?_)
  refine wpAnyH_take (i := 0) (oi := { dst := some 28, op := Op.move (Operand.tmp 11), type := 22, pos := "law.go:201", after := #[], guard := none }) (v := ?_) rfl (by kernel_rfl) (by kernel_rfl) (by kernel_rfl) (fun _ _ _ h => h) (Or.inl ⟨by kernel_rfl, ?_⟩) (by assumption) ?_
  rotate_left
  · (intro w9 hSw; clear hSw; go_simp; try with_reducible rfl)
  try simp only [Act.put, List.setIfInBounds_toArray, List.set_cons_zero, List.set_cons_succ]
  refine wpAnyH_take (i := 1) (oi := { dst := some 29, op := Op.move (Operand.tmp 1), type := 22, pos := "law.go:201", after := #[], guard := none }) (v := ?_) rfl (by kernel_rfl) (by kernel_rfl) (by kernel_rfl) (fun _ _ _ h => h) (Or.inl ⟨by kernel_rfl, ?_⟩) (by assumption) ?_
  rotate_left
  · (intro w9 hSw; clear hSw; go_simp; try with_reducible rfl)
  try simp only [Act.put, List.setIfInBounds_toArray, List.set_cons_zero, List.set_cons_succ]
  refine wpAnyH_take (i := 2) (oi := { dst := some 30, op := Op.call { callee := Callee.builtin Builtin.len, args := #[Operand.tmp 29], argTypes := #[22] }, type := 3, pos := "law.go:201", after := #[{ on := 1, ground := Ground.data }], guard := none }) (v := ?_) rfl (by kernel_rfl) (by kernel_rfl) (by kernel_rfl) (fun _ _ _ h => h) (Or.inl ⟨by kernel_rfl, ?_⟩) (by assumption) ?_
  rotate_left
  · (intro w9 hSw; clear hSw; go_simp; try with_reducible rfl)
  try simp only [Act.put, List.setIfInBounds_toArray, List.set_cons_zero, List.set_cons_succ]
  refine wpAnyH_take (i := 3) (oi := { dst := some 31, op := Op.slice 22 (Operand.tmp 28) none (some (Operand.tmp 30)) none, type := 22, pos := "law.go:201", after := #[{ on := 0, ground := Ground.data }, { on := 2, ground := Ground.data }], guard := none }) (v := ?_) rfl (by kernel_rfl) (by kernel_rfl) (by kernel_rfl) (fun _ _ _ h => h) (Or.inl ⟨by kernel_rfl, ?_⟩) (by assumption) ?_
  rotate_left
  · (intro w9 hSw; clear hSw; go_simp; try with_reducible rfl)
  try simp only [Act.put, List.setIfInBounds_toArray, List.set_cons_zero, List.set_cons_succ]
  refine wpAnyH_take (i := 4) (oi := { dst := some 32, op := Op.load 52 (Operand.tmp 7), type := 52, pos := "law.go:201", after := #[], guard := none }) (v := ?_) rfl (by kernel_rfl) (by kernel_rfl) (by kernel_rfl) (fun _ _ _ h => h) (Or.inl ⟨by kernel_rfl, ?_⟩) (by assumption) ?_
  rotate_left
  · (intro w9 hSw; refine exec_load_mid 52 (.tmp 7) ?_ W0.heap.size 0 ?_ rl _ hSw Tryd.underlying52 rfl HSZ.out <;> rfl)
  try simp only [Act.put, List.setIfInBounds_toArray, List.set_cons_zero, List.set_cons_succ]
  refine wpAnyH_take (i := 5) (oi := { dst := some 33, op := Op.move (Operand.tmp 3), type := 3, pos := "law.go:201", after := #[], guard := none }) (v := ?_) rfl (by kernel_rfl) (by kernel_rfl) (by kernel_rfl) (fun _ _ _ h => h) (Or.inl ⟨by kernel_rfl, ?_⟩) (by assumption) ?_
  rotate_left
  · (intro w9 hSw; clear hSw; go_simp; try with_reducible rfl)
  try simp only [Act.put, List.setIfInBounds_toArray, List.set_cons_zero, List.set_cons_succ]
  refine wpAnyH_take (i := 6) (oi := { dst := some 34, op := Op.move (Operand.tmp 4), type := 3, pos := "law.go:201", after := #[], guard := none }) (v := ?_) rfl (by kernel_rfl) (by kernel_rfl) (by kernel_rfl) (fun _ _ _ h => h) (Or.inl ⟨by kernel_rfl, ?_⟩) (by assumption) ?_
  rotate_left
  · (intro w9 hSw; clear hSw; go_simp; try with_reducible rfl)
  try simp only [Act.put, List.setIfInBounds_toArray, List.set_cons_zero, List.set_cons_succ]
  refine wpAnyH_take (i := 8) (oi := { dst := some 36, op := Op.move (Operand.tmp 1), type := 22, pos := "law.go:201", after := #[], guard := none }) (v := ?_) rfl (by kernel_rfl) (by kernel_rfl) (by kernel_rfl) (fun _ _ _ h => h) (Or.inl ⟨by kernel_rfl, ?_⟩) (by assumption) ?_
  rotate_left
  · (intro w9 hSw; clear hSw; go_simp; try with_reducible rfl)
  try simp only [Act.put, List.setIfInBounds_toArray, List.set_cons_zero, List.set_cons_succ]
  refine wpAnyH_take (i := 9) (oi := { dst := some 37, op := Op.load 52 (Operand.tmp 7), type := 52, pos := "law.go:201", after := #[], guard := none }) (v := ?_) rfl (by kernel_rfl) (by kernel_rfl) (by kernel_rfl) (fun _ _ _ h => h) (Or.inl ⟨by kernel_rfl, ?_⟩) (by assumption) ?_
  rotate_left
  · (intro w9 hSw; refine exec_load_mid 52 (.tmp 7) ?_ W0.heap.size 0 ?_ rl _ hSw Tryd.underlying52 rfl HSZ.out <;> rfl)
  try simp only [Act.put, List.setIfInBounds_toArray, List.set_cons_zero, List.set_cons_succ]
  refine wpAnyH_take (i := 10) (oi := { dst := some 38, op := Op.move (Operand.tmp 3), type := 3, pos := "law.go:201", after := #[], guard := none }) (v := ?_) rfl (by kernel_rfl) (by kernel_rfl) (by kernel_rfl) (fun _ _ _ h => h) (Or.inl ⟨by kernel_rfl, ?_⟩) (by assumption) ?_
  rotate_left
  · (intro w9 hSw; clear hSw; go_simp; try with_reducible rfl)
  try simp only [Act.put, List.setIfInBounds_toArray, List.set_cons_zero, List.set_cons_succ]
  refine wpAnyH_take (i := 11) (oi := { dst := some 39, op := Op.move (Operand.tmp 4), type := 3, pos := "law.go:201", after := #[], guard := none }) (v := ?_) rfl (by kernel_rfl) (by kernel_rfl) (by kernel_rfl) (fun _ _ _ h => h) (Or.inl ⟨by kernel_rfl, ?_⟩) (by assumption) ?_
  rotate_left
  · (intro w9 hSw; clear hSw; go_simp; try with_reducible rfl)
  try simp only [Act.put, List.setIfInBounds_toArray, List.set_cons_zero, List.set_cons_succ]
  refine wpAnyH_ready (rs := [7]) (by kernel_rfl) (by simp) ?_
  refine AllReadyH.cons (o := { dst := some 35, op := Op.call { callee := Callee.value (Operand.func 35), args := #[Operand.tmp 31, Operand.tmp 32, Operand.tmp 33, Operand.tmp 34], argTypes := #[22, 52, 3, 3] }, type := 4, pos := "law.go:201", after := #[{ on := 3, ground := Ground.data }, { on := 4, ground := Ground.data }, { on := 5, ground := Ground.data }, { on := 6, ground := Ground.data }], guard := none }) rfl (fun K hK => ?_) AllReadyH.nil
  go_simp
  refine (HS1.out _ _ _ (HK1.out.trans' Ke.out.1) (HRK.out _ Ke.out.2)).mono ?_
  rintro e wf ⟨rfl, k9⟩
  have Kf := Lib.hid (And.intro (Ke.out.1.trans' k9) (Ke.out.2.trans' k9))
  clear k9
  refine hK.out _ _ (HLD.out _ Kf.out.1) (fun hHeld7 => ?_)
  clear hK K hHeld
  try simp only [Act.put, List.setIfInBounds_toArray, List.set_cons_zero, List.set_cons_succ]
  refine wpAnyH_ready (rs := [12]) (by kernel_rfl) (by simp) ?_
  refine AllReadyH.cons (o := { dst := some 40, op := Op.call { callee := Callee.value (Operand.func 36), args := #[Operand.tmp 36, Operand.tmp 37, Operand.tmp 38, Operand.tmp 39], argTypes := #[22, 52, 3, 3] }, type := 4, pos := "law.go:201", after := #[{ on := 8, ground := Ground.data }, { on := 9, ground := Ground.data }, { on := 10, ground := Ground.data }, { on := 11, ground := Ground.data }, { on := 7, ground := Ground.chain }], guard := none }) rfl (fun K hK => ?_) AllReadyH.nil
  go_simp
  refine (HS2.out _ (HK1.out.trans' Kf.out.1)).mono ?_
  rintro e wg ⟨rfl, k9⟩
  have Kg := Lib.hid (And.intro (Kf.out.1.trans' k9) (Kf.out.2.trans' k9))
  clear k9
  refine hK.out _ _ (HLD.out _ Kg.out.1) (fun hHeld12 => ?_)
  clear hK K hHeld7
  try simp only [Act.put, List.setIfInBounds_toArray, List.set_cons_zero, List.set_cons_succ]
  refine wpAnyH_take (i := 13) (oi := { dst := some 41, op := Op.binOp BinOp.eql 4 (Operand.tmp 35) (Operand.tmp 40) 4, type := 4, pos := "law.go:201", after := #[{ on := 7, ground := Ground.data }, { on := 12, ground := Ground.data }], guard := none }) (v := ?_) rfl (by kernel_rfl) (by kernel_rfl) (by kernel_rfl) (fun _ _ _ h => h) (Or.inl ⟨by kernel_rfl, ?_⟩) (by assumption) ?_
  rotate_left
  · (intro w9 hSw; clear hSw; go_simp; try with_reducible rfl)
  try simp only [Act.put, List.setIfInBounds_toArray, List.set_cons_zero, List.set_cons_succ]
  refine wpAnyH_take (i := 14) (oi := { dst := some 42, op := Op.move (Operand.tmp 41), type := 4, pos := "law.go:201", after := #[{ on := 13, ground := Ground.data }, { on := 12, ground := Ground.chain }], guard := none }) (v := ?_) rfl (by kernel_rfl) (by kernel_rfl) (by kernel_rfl) (fun _ _ _ h => h) (Or.inl ⟨by kernel_rfl, ?_⟩) (by assumption) ?_
  rotate_left
  · (intro w9 hSw; clear hSw; go_simp; try with_reducible rfl)
  try simp only [Act.put, List.setIfInBounds_toArray, List.set_cons_zero, List.set_cons_succ]
  refine wpAnyH_take (i := 15) (oi := { dst := some 43, op := Op.move (Operand.tmp 11), type := 22, pos := "law.go:201", after := #[{ on := 14, ground := Ground.guard }], guard := some (14, true) }) (v := ?_) rfl (by kernel_rfl) (by kernel_rfl) (by kernel_rfl) (fun _ _ _ h => h) (Or.inl ⟨by kernel_rfl, ?_⟩) (by assumption) ?_
  rotate_left
  · (intro w9 hSw; clear hSw; go_simp; try with_reducible rfl)
  try simp only [Act.put, List.setIfInBounds_toArray, List.set_cons_zero, List.set_cons_succ]
  refine wpAnyH_take (i := 16) (oi := { dst := some 44, op := Op.move (Operand.tmp 1), type := 22, pos := "law.go:201", after := #[{ on := 14, ground := Ground.guard }], guard := some (14, true) }) (v := ?_) rfl (by kernel_rfl) (by kernel_rfl) (by kernel_rfl) (fun _ _ _ h => h) (Or.inl ⟨by kernel_rfl, ?_⟩) (by assumption) ?_
  rotate_left
  · (intro w9 hSw; clear hSw; go_simp; try with_reducible rfl)
  try simp only [Act.put, List.setIfInBounds_toArray, List.set_cons_zero, List.set_cons_succ]
  refine wpAnyH_ready (rs := [17]) (by kernel_rfl) (by simp) ?_
  refine AllReadyH.cons (o := { dst := some 45, op := Op.call { callee := Callee.value (Operand.func 32), args := #[Operand.tmp 44], argTypes := #[22] }, type := 22, pos := "law.go:201", after := #[{ on := 16, ground := Ground.data }, { on := 14, ground := Ground.chain }, { on := 14, ground := Ground.guard }], guard := some (14, true) }) rfl (fun K hK => ?_) AllReadyH.nil
  go_simp
  refine (HRM.out _ (HK1.out.trans' Kg.out.1)).mono ?_
  rintro e wh ⟨gv, cv, rfl, hrv, hgv, k9⟩
  have Kh := Lib.hid (And.intro (Kg.out.1.trans' k9) (Kg.out.2.trans' k9))
  have RV := Lib.hid hrv
  clear k9 hrv
  refine hK.out _ _ (HLD.out _ Kh.out.1) (fun hHeld17 => ?_)
  clear hK K hHeld12
  try simp only [Act.put, List.setIfInBounds_toArray, List.set_cons_zero, List.set_cons_succ]
  refine wpAnyH_ready (rs := [18]) (by kernel_rfl) (by simp) ?_
  refine AllReadyH.cons (o := { dst := some 46, op := Op.call { callee := Callee.value (Operand.func 24), args := #[Operand.tmp 43, Operand.tmp 45], argTypes := #[22, 22] }, type := 4, pos := "law.go:201", after := #[{ on := 15, ground := Ground.data }, { on := 17, ground := Ground.data }, { on := 17, ground := Ground.chain }, { on := 14, ground := Ground.guard }], guard := some (14, true) }) rfl (fun K hK => ?_) AllReadyH.nil
  go_simp
  refine (HSA.out _ gw cw gv cv (HRK.out _ Kh.out.2) RV.out).mono ?_
  rintro e wi ⟨rfl, k9⟩
  have Ki := Lib.hid (And.intro (Kh.out.1.trans' k9) (Kh.out.2.trans' k9))
  clear k9
  refine hK.out _ _ (HLD.out _ Ki.out.1) (fun hHeld18 => ?_)
  clear hK K hHeld17
  try simp only [Act.put, List.setIfInBounds_toArray, List.set_cons_zero, List.set_cons_succ]
  refine wpAnyH_take (i := 19) (oi := { dst := some 47, op := Op.pick (Operand.tmp 42) (Operand.tmp 46) (Operand.const (Value.bool false)), type := 4, pos := "law.go:201", after := #[{ on := 14, ground := Ground.data }, { on := 18, ground := Ground.data }], guard := none }) (v := ?_) rfl (by kernel_rfl) (by kernel_rfl) (by kernel_rfl) (fun _ _ _ h => h) (Or.inl ⟨by kernel_rfl, ?_⟩) (by assumption) ?_
  rotate_left
  · (intro w9 hSw; clear hSw; go_simp; try with_reducible rfl)
  try simp only [Act.put, List.setIfInBounds_toArray, List.set_cons_zero, List.set_cons_succ]
  refine wpAnyH_take (i := 20) (oi := { dst := some 48, op := Op.move (Operand.tmp 47), type := 4, pos := "law.go:201", after := #[{ on := 19, ground := Ground.data }, { on := 18, ground := Ground.chain }], guard := none }) (v := ?_) rfl (by kernel_rfl) (by kernel_rfl) (by kernel_rfl) (fun _ _ _ h => h) (Or.inl ⟨by kernel_rfl, ?_⟩) (by assumption) ?_
  rotate_left
  · (intro w9 hSw; clear hSw; go_simp; try with_reducible rfl)
  try simp only [Act.put, List.setIfInBounds_toArray, List.set_cons_zero, List.set_cons_succ]
  refine wpAnyH_ready (rs := [21]) (by kernel_rfl) (by simp) ?_
  refine AllReadyH.cons (o := { dst := some 49, op := Op.call { callee := Callee.value (Operand.func 30), args := #[], argTypes := #[] }, type := 4, pos := "law.go:201", after := #[{ on := 20, ground := Ground.chain }, { on := 20, ground := Ground.guard }], guard := some (20, true) }) rfl (fun K hK => ?_) AllReadyH.nil
  go_simp
  refine (HST.out _ (HK1.out.trans' Ki.out.1)).mono ?_
  rintro e wj ⟨rfl, k9⟩
  have Kj := Lib.hid (And.intro (Ki.out.1.trans' k9) (Ki.out.2.trans' k9))
  clear k9
  refine hK.out _ _ (HLD.out _ Kj.out.1) (fun hHeld21 => ?_)
  clear hK K hHeld18
  try simp only [Act.put, List.setIfInBounds_toArray, List.set_cons_zero, List.set_cons_succ]
  refine wpAnyH_take (i := 22) (oi := { dst := some 50, op := Op.pick (Operand.tmp 48) (Operand.tmp 49) (Operand.const (Value.bool false)), type := 4, pos := "law.go:201", after := #[{ on := 20, ground := Ground.data }, { on := 21, ground := Ground.data }], guard := none }) (v := ?_) rfl (by kernel_rfl) (by kernel_rfl) (by kernel_rfl) (fun _ _ _ h => h) (Or.inl ⟨by kernel_rfl, ?_⟩) (by assumption) ?_
  rotate_left
  · (intro w9 hSw; clear hSw; go_simp; try with_reducible rfl)
  try simp only [Act.put, List.setIfInBounds_toArray, List.set_cons_zero, List.set_cons_succ]
  refine wpAnyH_take (i := 23) (oi := { dst := some 10, op := Op.assign (Operand.tmp 50), type := 4, pos := "law.go:201", after := #[{ on := 22, ground := Ground.data }, { on := 21, ground := Ground.chain }, { on := 0, ground := Ground.phase }, { on := 1, ground := Ground.phase }, { on := 2, ground := Ground.phase }, { on := 3, ground := Ground.phase }, { on := 4, ground := Ground.phase }, { on := 5, ground := Ground.phase }, { on := 6, ground := Ground.phase }, { on := 7, ground := Ground.phase }, { on := 8, ground := Ground.phase }, { on := 9, ground := Ground.phase }, { on := 10, ground := Ground.phase }, { on := 11, ground := Ground.phase }, { on := 12, ground := Ground.phase }, { on := 13, ground := Ground.phase }, { on := 14, ground := Ground.phase }, { on := 15, ground := Ground.phase }, { on := 16, ground := Ground.phase }, { on := 17, ground := Ground.phase }, { on := 18, ground := Ground.phase }, { on := 19, ground := Ground.phase }, { on := 20, ground := Ground.phase }, { on := 21, ground := Ground.phase }, { on := 22, ground := Ground.phase }], guard := none }) (v := ?_) rfl (by kernel_rfl) (by kernel_rfl) (by kernel_rfl) (fun _ _ _ h => h) (Or.inl ⟨by kernel_rfl, ?_⟩) (by assumption) ?_
  rotate_left
  · (intro w9 hSw; clear hSw; go_simp; try with_reducible rfl)
  try simp only [Act.put, List.setIfInBounds_toArray, List.set_cons_zero, List.set_cons_succ]
  refine wpAnyH_done (by kernel_rfl) ?_ _
  go_wp2
  go_ret
  exact ⟨rfl, HK1.out.trans' Kj.out.1⟩
theorem bytes_all {W0 : World} (hw : 3 ≤ W0.heap.size) (hTab : TabW W0) (hT : ShaW W0) (hH : HalfW W0) (n : Int) (_ : -9223372036854775808 ≤ n ∧ n ≤ 9223372036854775807) (A : Option Addr) (c : Nat) (xs : List Int) (hB : BSl W0 A xs.length c xs) (hb : ∀ x ∈ xs, 0 ≤ x ∧ x < 256) (hL : xs.length ≤ 140737488351232)
    (h : List Int) (fi len : Int) (hh : h.length = 32) (hhb : Byt h) (_ : -9223372036854775808 ≤ fi ∧ fi ≤ 9223372036854775807) (hlen : -9223372036854775808 ≤ len ∧ len ≤ 9223372036854775807) (place : Int) (hpl : -9223372036854775808 ≤ place ∧ place ≤ 9223372036854775807) (next : Int) (_ : -9223372036854775808 ≤ next ∧ next ≤ 9223372036854775807) :
    Calls Tryd.prog 5 #[.int .i64 n, .slice A xs.length c, .agg (refC h fi len).toArray, .int .i64 place, .int .i64 next] W0 fun e w' => e = .returned (.bool true) ∧ Keeps [] W0 w' :=
  bytes_walk hw hTab hT hH n hB hb hL hh hhb hlen hpl
end Go.Proofs.YtgcpcgcfpjolnaaDoor.G
-- The arguments of the laws on chains, opened; the tables.
namespace Go.Proofs.YtgcpcgcfpjolnaaDoor.G
open Go.ChangeShapes Go.WideShapes Go.ChangeAt Go.RowKit
set_option linter.unusedVariables false
set_option linter.unusedSimpArgs false
set_option maxRecDepth 10000
theorem laidOut : laidOutB Tryd.prog = true := by kernel_rfl
theorem gTab : Tryd.prog.globalNamed "math/bits.deBruijn64tab" = some 2 := by kernel_rfl
theorem gSha : Tryd.prog.globalNamed "kiln/sha.table" = some 1 := by kernel_rfl
theorem gHalf : Tryd.prog.globalNamed "kiln/wire.half" = some 0 := by kernel_rfl
theorem gTabType : (Tryd.prog.globals[2]?).map (·.type) = some 198 := by kernel_rfl
theorem gShaType : (Tryd.prog.globals[1]?).map (·.type) = some 189 := by kernel_rfl
theorem gHalfType : (Tryd.prog.globals[0]?).map (·.type) = some 204 := by kernel_rfl
theorem cellsTab : Tryd.prog.cellsOf 198 = 64 := by kernel_rfl
theorem cellsSha : Tryd.prog.cellsOf 189 = 64 := by kernel_rfl
theorem cellsHalf : Tryd.prog.cellsOf 204 = 16 := by kernel_rfl
theorem cells179 : Tryd.prog.cellsOf 179 = 1 := by kernel_rfl
theorem laid_tail {P : Program} {x : String × DataW Unit} {rest : List (String × DataW Unit)} {W : World} (h : laidMet P (x :: rest) W) : laidMet P rest W := by
  obtain ⟨ps, ⟨g', t', cs, fuel, p, q, h1, h2, h3, h4, h5, h6⟩, hn, hc⟩ := h
  subst h6
  exact ⟨q, h5, (List.nodup_append.1 hn).2.1, fun b off hm => hc b off (List.mem_append_right _ hm)⟩
theorem tab_of {W : World} (h : Lib.TabIs Tryd.prog W "math/bits.deBruijn64tab" .u8 (Lib.deBruijn64tab.map fun (x : Nat) => (x : Int))) : TabW W := fun j hj => by
  have hl : (Lib.deBruijn64tab.map fun (x : Nat) => (x : Int)).length = 64 := rfl
  have := h.cell gTab j (by omega)
  rw [this]
  simp [List.getD_eq_getElem?_getD, List.getElem?_map]
  cases Lib.deBruijn64tab[j]? <;> rfl
theorem sha_of {W : World} (h : Lib.TabIs Tryd.prog W "kiln/sha.table" .u32 shaT) : ShaW W := fun j hj => h.cell gSha j (by have : shaT.length = 64 := rfl; omega)
theorem half_of {W : World} (h : Lib.TabIs Tryd.prog W "kiln/wire.half" .u32 halfL) : HalfW W := fun j hj => h.cell gHalf j (by have : halfL.length = 16 := rfl; omega)
def layTab : Obj → Obj
  | .cells _ t frozen => .cells (Lib.deBruijn64tab.map fun (x : Nat) => Value.int .u8 (x : Int)).toArray t frozen
  | o => o
def laySha : Obj → Obj
  | .cells _ t frozen => .cells (shaT.map (Value.int .u32)).toArray t frozen
  | o => o
def layHalf : Obj → Obj
  | .cells _ t frozen => .cells (halfL.map (Value.int .u32)).toArray t frozen
  | o => o
theorem cells5 : Tryd.prog.cellsOf 5 = 1 := by kernel_rfl
theorem cells3 : Tryd.prog.cellsOf 3 = 1 := by kernel_rfl
theorem spot_none {w : World} {a : Addr} {v : Value} (h : w.cell? a = some v) : a.spot = none := by
  unfold World.cell? at h
  split at h
  · split at h
    · cases h
    · rename_i hs
      simpa using hs
  · cases h
theorem add_off (b off k : Nat) : (⟨b, off, none⟩ : Addr).add k = ⟨b, off + k, none⟩ := by unfold Addr.add; split <;> simp_all
section
variable {H : Type} {enc : TypeId × Value → H}
theorem okWide_addr {T E : TypeId} (hT : Tryd.prog.underlying T = some (.slice E)) {W : World} {base : Nat} {r : Reach} {a : Addr} {len cap : Nat} (hv : Value.okWide Tryd.prog W r base T (.slice (some a) len cap)) : a.spot = none ∧ a.block < W.heap.size := by
  have h1 : Cell.okWide Tryd.prog W r base T (.slice (some a) len cap) := by
    unfold Value.okWide at hv
    rw [hT] at hv
    exact hv
  have h2 : Cell.ok Tryd.prog W r base T (.slice (some a) len cap) := by
    unfold Cell.okWide at h1
    rw [hT] at h1
    exact h1
  unfold Cell.ok at h2
  rw [hT] at h2
  obtain ⟨_, _, _, h3, row, cells, h4, _⟩ := h2
  refine ⟨h3, ?_⟩
  unfold World.shape? at h4
  rcases Nat.lt_or_ge a.block W.heap.size with h5 | h5
  · exact h5
  · rw [Array.getElem?_eq_none h5] at h4
    simp at h4
theorem open_rows {k : IntKind} {T E : TypeId} (hT : Tryd.prog.underlying T = some (.slice E)) (hE : Tryd.prog.underlying E = some (.int k)) (hC : Tryd.prog.cellsOf E = 1) {W : World} {base : Nat} {r : Reach} {v : Value} {d : DataW H} {p : List MemPlace}
    (hv : Value.okWide Tryd.prog W r base T v) (h : DataW.Trod enc Tryd.prog W 0 (fun _ => true) true T v d p) :
    ∃ (ao : Option Addr) (l : List Int) (c : Nat), v = .slice ao l.length c ∧ l.length ≤ c ∧ c ≤ maxLen ∧ (∀ x ∈ l, (Lit.int k x).wf = true) ∧ ((ao = none ∧ l = []) ∨ ∃ g o, ao = some ⟨g, o, none⟩ ∧ g < W.heap.size ∧ W.rangeAt g o (l.map (Value.int k))) ∧ (l = [] ∨ ∃ es sp, d = .slice es sp ∧ es.length = l.length) := by
  obtain ⟨fuel, hx⟩ := h
  rcases open_ints hT hE hC hx with ⟨h1, _⟩ | ⟨a, len, cap, zs, h1, _, h2, h3, h4, hd, h5, h6⟩
  · obtain ⟨a, n, c, rfl⟩ := okWide_slice hT hv
    simp [Value.cells] at h1
    obtain ⟨rfl, rfl, rfl⟩ := h1
    exact ⟨none, [], 0, rfl, Nat.le_refl _, Nat.zero_le _, (fun x hx => by cases hx), .inl ⟨rfl, rfl⟩, .inl rfl⟩
  · obtain ⟨a', n', c', rfl⟩ := okWide_slice hT hv
    simp [Value.cells] at h1
    obtain ⟨rfl, rfl, rfl⟩ := h1
    obtain ⟨g, o, sp⟩ := a
    obtain ⟨h7, h8⟩ := okWide_addr hT hv
    simp only at h7 h8
    subst h7
    simp only [if_true] at h4
    have hlen : (zs.take n').length = n' := by rw [List.length_take]; omega
    refine ⟨some ⟨g, o, none⟩, zs.take n', c', by rw [hlen], by rw [hlen]; exact h2, h3, fun x hx => h6 x (List.mem_of_mem_take hx), .inr ⟨g, o, rfl, h8, fun j u hj => ?_⟩, .inr ⟨_, _, (Prod.mk.inj hd).1, by have e9 := hlen; rw [List.length_take] at e9; simp [lits, e9]⟩⟩
    have hjl : j < n' := by
      have := (List.getElem?_eq_some_iff.1 hj).1
      rw [List.length_map, hlen] at this
      exact this
    have h9 := h5 j (by omega)
    rw [add_off] at h9
    rw [h9]
    rw [List.getElem?_map, List.getElem?_take, if_pos hjl, List.getElem?_eq_getElem (by omega)] at hj
    rw [List.getD_eq_getElem?_getD, List.getElem?_eq_getElem (by omega)]
    exact hj
theorem open_bytes {W : World} {base : Nat} {r : Reach} {v : Value} {d : DataW H} {p : List MemPlace} (hv : Value.okWide Tryd.prog W r base 22 v) (h : DataW.Trod enc Tryd.prog W 0 (fun _ => true) true 22 v d p) :
    ∃ (ao : Option Addr) (l : List Int) (c : Nat), v = .slice ao l.length c ∧ BSl W ao l.length c l ∧ (∀ x ∈ l, 0 ≤ x ∧ x < 256) ∧ (l = [] ∨ ∃ es sp, d = .slice es sp ∧ es.length = l.length) := by
  obtain ⟨ao, l, c, rfl, h1, h2, h3, h4, h9⟩ := open_rows Tryd.underlying22 Tryd.underlying5 cells5 hv h
  refine ⟨ao, l, c, rfl, ⟨rfl, h1, ?_⟩, fun x hx => by have := bounds_u8 (h3 x hx); omega, h9⟩
  rcases h4 with ⟨rfl, rfl⟩ | ⟨g, o, rfl, h5, h6⟩
  · exact .inl ⟨rfl, rfl, rfl⟩
  · exact .inr ⟨g, o, rfl, h6, rfl, h5⟩
theorem open_nums {W : World} {base : Nat} {r : Reach} {v : Value} {d : DataW H} {p : List MemPlace} (hv : Value.okWide Tryd.prog W r base 47 v) (h : DataW.Trod enc Tryd.prog W 0 (fun _ => true) true 47 v d p) :
    ∃ (ao : Option Addr) (l : List Int) (c : Nat), v = .slice ao l.length c ∧ ISl W ao l.length c l ∧ (l = [] ∨ ∃ es sp, d = .slice es sp ∧ es.length = l.length) := by
  obtain ⟨ao, l, c, rfl, h1, h2, h3, h4, h9⟩ := open_rows Tryd.underlying47 Tryd.underlying3 cells3 hv h
  refine ⟨ao, l, c, rfl, ⟨rfl, h1, ?_⟩, h9⟩
  rcases h4 with ⟨rfl, rfl⟩ | ⟨g, o, rfl, h5, h6⟩
  · exact .inl ⟨rfl, rfl, rfl⟩
  · exact .inr ⟨g, o, rfl, h6, rfl, h5⟩
theorem bytes3 : Tryd.prog.bytesOf 3 = 8 := by kernel_rfl
theorem nums_short {ts : List TypeId} {ds : List (DataW H)} (hz : (DataW.weightsEach Tryd.prog ts ds).all (· ≤ reachBytes) = true) {j : Nat} {d : DataW H} {l : List Int} (ht : ts[j]? = some 47) (hd : ds[j]? = some d) (h : l = [] ∨ ∃ es sp, d = .slice es sp ∧ es.length = l.length) : l.length ≤ 17592186044416 := by
  rcases h with rfl | ⟨es, sp, rfl, he⟩
  · simp
  · have h1 := sized_slice hz ht hd Tryd.underlying47
    rw [bytes3] at h1
    unfold reachBytes at h1
    omega
end
end Go.Proofs.YtgcpcgcfpjolnaaDoor.G
-- A ref that comes in, opened.
namespace Go.Proofs.YtgcpcgcfpjolnaaDoor.G
open Go.ChangeShapes Go.WideShapes Go.ChangeAt Go.RowKit
set_option linter.unusedVariables false
set_option linter.unusedSimpArgs false
set_option maxRecDepth 10000
theorem cells52 : Tryd.prog.cellsOf 52 = 34 := by kernel_rfl
theorem types52 : Tryd.prog.cellTypes Tryd.prog.depth 52 = some (List.replicate 32 5 ++ [3, 3]) := by kernel_rfl
theorem cell_int {t : TypeId} {k : IntKind} (ht : Tryd.prog.underlying t = some (.int k)) {W : World} {base : Nat} {r : Reach} {v : Value} (h : Cell.okWide Tryd.prog W r base t v) : ∃ n, v = .int k n ∧ k.has n := by
  have h1 : Value.okWide Tryd.prog W r base t v := by unfold Value.okWide; rw [ht]; exact h
  obtain ⟨n, rfl⟩ := okWide_int ht h1
  unfold Cell.okWide at h
  rw [ht] at h
  have h2 : Cell.ok Tryd.prog W r base t (.int k n) := h
  unfold Cell.ok at h2
  rw [ht] at h2
  exact ⟨n, rfl, h2.2⟩
theorem open_ref {W : World} {base : Nat} {r : Reach} {v : Value} (hv : Value.okWide Tryd.prog W r base 52 v) :
    ∃ (h : List Int) (fi len : Int), v = .agg (refC h fi len).toArray ∧ h.length = 32 ∧ Byt h ∧ (-9223372036854775808 ≤ fi ∧ fi ≤ 9223372036854775807) ∧ (-9223372036854775808 ≤ len ∧ len ≤ 9223372036854775807) := by
  unfold Value.okWide at hv
  rw [Tryd.underlying52] at hv
  obtain ⟨cs, rfl, hsz, ts, hts, _, hcs⟩ := hv
  rw [types52] at hts
  cases hts
  rw [cells52] at hsz
  have hlen : (List.replicate 32 5 ++ [3, 3] : List TypeId).length = 34 := by simp
  have hb : ∀ i, i < 32 → ∃ n, cs[i]? = some (.int .u8 n) ∧ 0 ≤ n ∧ n < 256 := fun i hi => by
    have h1 : cs[i]? = some cs[i] := Array.getElem?_eq_getElem (by omega)
    obtain ⟨u, hu, hok⟩ := hcs i cs[i] h1
    rw [hlen, Nat.mod_eq_of_lt (by omega), List.getElem?_append_left (by simpa using hi), List.getElem?_replicate, if_pos hi] at hu
    cases hu
    obtain ⟨n, hn, hh⟩ := cell_int Tryd.underlying5 hok
    rw [hn] at h1
    have h2 : 0 ≤ n ∧ n ≤ 255 := hh
    exact ⟨n, h1, h2.1, by omega⟩
  have hi : ∀ i, i = 32 ∨ i = 33 → ∃ n, cs[i]? = some (.int .i64 n) ∧ (-9223372036854775808 ≤ n ∧ n ≤ 9223372036854775807) := fun i hi => by
    have h1 : cs[i]? = some (cs[i]'(by omega)) := Array.getElem?_eq_getElem (by omega)
    obtain ⟨u, hu, hok⟩ := hcs i _ h1
    have hu3 : u = 3 := by
      rw [hlen] at hu
      rcases hi with rfl | rfl <;> simpa using hu.symm
    subst hu3
    obtain ⟨n, hn, hh⟩ := cell_int Tryd.underlying3 hok
    rw [hn] at h1
    exact ⟨n, h1, hh⟩
  obtain ⟨fi, hfi, hfr⟩ := hi 32 (.inl rfl)
  obtain ⟨len, hle, hlr⟩ := hi 33 (.inr rfl)
  refine ⟨(List.range 32).map fun i => intOf (cs.getD i undef), fi, len, ?_, by simp, ?_, hfr, hlr⟩
  · congr 1
    refine Array.ext_getElem? fun i => ?_
    conv => rhs; rw [List.getElem?_toArray]
    unfold refC
    rcases Nat.lt_or_ge i 32 with h1 | h1
    · obtain ⟨n, hn, _⟩ := hb i h1
      have hd : cs.getD i undef = .int .u8 n := by rw [Array.getD_eq_getD_getElem?, hn]; rfl
      rw [hn, List.getElem?_append_left (by rw [by8_length]; simpa using h1), by8_get, List.getElem?_map, List.getElem?_range h1]
      simp only [Option.map_some, hd, intOf]
    · rcases Nat.lt_or_ge i 34 with h2 | h2
      · rw [List.getElem?_append_right (by rw [by8_length]; simpa using h1), by8_length, List.length_map, List.length_range]
        have : i = 32 ∨ i = 33 := by omega
        rcases this with rfl | rfl
        · rw [hfi]; rfl
        · rw [hle]; rfl
      · rw [Array.getElem?_eq_none (by omega), List.getElem?_eq_none (by rw [List.length_append, by8_length]; simp; omega)]
  · intro x hx
    obtain ⟨i, hi9, rfl⟩ := List.mem_map.1 hx
    obtain ⟨n, hn, h0, h1⟩ := hb i (List.mem_range.1 hi9)
    have hd : cs.getD i undef = .int .u8 n := by rw [Array.getD_eq_getD_getElem?, hn]; rfl
    rw [hd]
    exact ⟨h0, h1⟩
section
variable {H : Type} {enc : TypeId × Value → H}
theorem bytes5 : Tryd.prog.bytesOf 5 = 1 := by kernel_rfl
theorem bytes_short {ts : List TypeId} {ds : List (DataW H)} (hz : (DataW.weightsEach Tryd.prog ts ds).all (· ≤ reachBytes) = true) {j : Nat} {d : DataW H} {l : List Int} (ht : ts[j]? = some 22) (hd : ds[j]? = some d) (h : l = [] ∨ ∃ es sp, d = .slice es sp ∧ es.length = l.length) : l.length ≤ 140737488351232 := by
  rcases h with rfl | ⟨es, sp, rfl, he⟩
  · simp
  · have h1 := sized_slice hz ht hd Tryd.underlying22
    rw [bytes5] at h1
    unfold reachBytes at h1
    omega
end
end Go.Proofs.YtgcpcgcfpjolnaaDoor.G
set_option linter.unusedVariables false
set_option linter.unusedSimpArgs false
namespace Go.Proofs.YtgcpcgcfpjolnaaDoor.chainBytes
open Go.ChangeShapes Go.WideShapes Go.ChangeAt Go.RowKit

theorem own : ownKnob Tryd.prog.godebug = none := by kernel_rfl
theorem tables {W : World} (h : laidMetH Tryd.prog Rows.chainBytesRow.laid W) : TabW W ∧ G.ShaW W ∧ G.HalfW W := by
  have h0 : laidMetH Tryd.prog (_ :: _ :: _ :: []) W := h
  exact ⟨G.tab_of (Lib.tabIs_of_head G.gTab G.gTabType Tryd.underlying198 Tryd.underlying5 G.cells5 G.cellsTab h0), G.sha_of (Lib.tabIs_of_head G.gSha G.gShaType Tryd.underlying189 Tryd.underlying179 G.cells179 G.cellsSha (G.laid_tail h0)), G.half_of (Lib.tabIs_of_head G.gHalf G.gHalfType Tryd.underlying204 Tryd.underlying179 G.cells179 G.cellsHalf (G.laid_tail (G.laid_tail h0)))⟩

set_option maxRecDepth 100000 in
theorem contract (H : Type) (enc : TypeId × Value → H) (W : World) (base : Nat) (args : Array Value) (ds gs : List (DataW H)) (before : List MemPlace)
    (hval : ∀ (j : Nat) t v, Tryd.f5.params[j]? = some t → args[j]? = some v → Value.okWide Tryd.prog W .any base t v)
    (hW : DataW.Whole enc Tryd.prog Tryd.f5.params.toList Rows.chainBytesSpec.vars false W args.toList ds gs before) (hL : laidMetH Tryd.prog Rows.chainBytesRow.laid W)
    (hz : (DataW.weightsEach Tryd.prog (Tryd.f5.params.toList ++ (OpenSpec.ofChange Rows.chainBytesSpec).bare.plain.varTypes Tryd.prog) (ds ++ gs)).all (· ≤ reachBytes) = true) :
    Calls Tryd.prog 5 args W fun e W' => ∃ v, e = .returned v ∧ Rows.chainBytesSpec.post enc Tryd.prog Tryd.f5 false true false false W args v W' := by
  have hW' := hW
  obtain ⟨p, q, hA0, hV, rfl, hfz, hnd⟩ := hW
  have hA : DataW.TrodAll enc Tryd.prog W 0 (fun _ => true) true Tryd.f5.params.toList args.toList ds p := hA0
  rw [Tryd.params5] at hA hval hz
  obtain ⟨v0, vs0, d0, ds0, p0, q0, hargs, rfl, rfl, h0, r0⟩ := trodAll_cons hA
  obtain ⟨v1, vs1, d1, ds1, p1, q1, rfl, rfl, rfl, h1, r1⟩ := trodAll_cons r0
  obtain ⟨v2, vs2, d2, ds2, p2, q2, rfl, rfl, rfl, h2, r2⟩ := trodAll_cons r1
  obtain ⟨v3, vs3, d3, ds3, p3, q3, rfl, rfl, rfl, h3, r3⟩ := trodAll_cons r2
  obtain ⟨v4, vs4, d4, ds4, p4, q4, rfl, rfl, rfl, h4, r4⟩ := trodAll_cons r3
  obtain ⟨rfl, rfl, rfl⟩ := trodAll_nil r4
  obtain rfl : args = #[v0, v1, v2, v3, v4] := by cases args; simp_all
  obtain ⟨rfl, rfl⟩ := trodVars_none hV
  obtain ⟨a0, rfl, rfl, rfl, b0⟩ := open_int Tryd.underlying3 (hval 0 3 v0 rfl rfl) h0
  have b0' := bounds_i64 b0
  obtain ⟨o1, l1, c1, rfl, e1, u1, g1⟩ := G.open_bytes (hval 1 22 v1 rfl rfl) h1
  have s1 := G.bytes_short hz (j := 1) rfl rfl g1
  obtain ⟨o2, l2, c2, rfl, e2, u2, g2, s2⟩ := G.open_ref (hval 2 52 v2 rfl rfl)
  obtain ⟨a3, rfl, rfl, rfl, b3⟩ := open_int Tryd.underlying3 (hval 3 3 v3 rfl rfl) h3
  have b3' := bounds_i64 b3
  obtain ⟨a4, rfl, rfl, rfl, b4⟩ := open_int Tryd.underlying3 (hval 4 3 v4 rfl rfl) h4
  have b4' := bounds_i64 b4
  clear hA0
  obtain ⟨t1, t2, t3⟩ := tables hL
  have hw3 : 3 ≤ W.heap.size := by have := World.block_lt_of_cell? W ⟨2, 0, none⟩ (t1 0 (by omega)); simp only at this; omega
  refine (G.bytes_all hw3 t1 t2 t3 a0 b0' o1 c1 l1 e1 u1 s1 o2 l2 c2 e2 u2 g2 s2 a3 b3' a4 b4').mono fun e W' ⟨he, hg⟩ => ?_
  subst he
  exact ⟨_, rfl, law_post G.laidOut Tryd.underlying4 (by kernel_rfl) (fun t ht => by rw [Tryd.params5] at ht; simp at ht; rcases ht with rfl | rfl | rfl | rfl <;> exact ⟨by kernel_rfl, of_decide_eq_true (by kernel_rfl)⟩) rfl rfl hW' hg.below⟩

/-- A WORLD FOR THE WITNESS: the settled one, the tables (blocks 0, 1 and 2) holding what their texts lay. -/
noncomputable def laidWorld (os : Os) : World :=
  { World.holding Tryd.prog os ⟨#[], #[], []⟩ with heap := (((World.holding Tryd.prog os ⟨#[], #[], []⟩).heap.modify 0 G.layHalf).modify 1 G.laySha).modify 2 G.layTab }
theorem laid_met (os : Os) : laidMet Tryd.prog Rows.chainBytesRow.laid ((laidWorld os).forCall (fun _ _ => 0) ⟨#[], #[Value.int .i64 0, Value.slice none 0 0, (Value.agg (G.refC (List.replicate 32 0) 0 0).toArray), Value.int .i64 0, Value.int .i64 0], []⟩).memory :=
  laidMet_of_run' 8 (by kernel_rfl) (by kernel_rfl)
theorem reads (os : Os) {H : Type} (enc : TypeId × Value → H) : ∃ places, DataW.whole enc Tryd.prog ((laidWorld os).forCall (fun _ _ => 0) ⟨#[], #[Value.int .i64 0, Value.slice none 0 0, (Value.agg (G.refC (List.replicate 32 0) 0 0).toArray), Value.int .i64 0, Value.int .i64 0], []⟩).memory Tryd.f5.params.toList Rows.chainBytesSpec.vars false #[Value.int .i64 0, Value.slice none 0 0, (Value.agg (G.refC (List.replicate 32 0) 0 0).toArray), Value.int .i64 0, Value.int .i64 0].toList 8 = some ([.lit (.int .i64 0), .nil, (.agg [.agg (List.replicate 32 (.lit (.int .u8 0))), .lit (.int .i64 0), .lit (.int .i64 0)]), .lit (.int .i64 0), .lit (.int .i64 0)], [], places) :=
  ⟨[], by kernel_rfl⟩

set_option maxRecDepth 100000 in
theorem lifted (os : Os) (started : os.Started) (H : Type) (enc : TypeId × Value → H) (F : Stop.Interp) :
    ReturnsInHanded {} Tryd.checked os 5 .any ((OpenSpec.ofChange Rows.chainBytesSpec).preRow enc Tryd.prog Tryd.f5 Rows.chainBytesRow.domain false Rows.chainBytesRow.laid) (((OpenSpec.ofChange Rows.chainBytesSpec).at F).post enc Tryd.prog Tryd.f5 false true false false) := by
  obtain ⟨places, hx⟩ := reads os enc
  refine returnsInHanded_of_row (C := Tryd.checked) (s := OpenSpec.ofChange Rows.chainBytesSpec) own started (by kernel_rfl) Tryd.func5
    (witness_row_at (enc := enc) (C := Tryd.checked) false (laidWorld os) #[Value.int .i64 0, Value.slice none 0 0, (Value.agg (G.refC (List.replicate 32 0) 0 0).toArray), Value.int .i64 0, Value.int .i64 0] rfl (by kernel_rfl) (by kernel_rfl) (by kernel_rfl)
      (OpenSpec.preRow_of_cond 8 hx (by kernel_rfl) (fun k hk => by cases hk) (by kernel_rfl) (laid_met os))) ?_
  intro W base args ds gs before hval hW _ _ hz hL _ _
  exact contract H enc W base args ds gs before hval hW hL hz

theorem said : Rows.ChainBytesSaid :=
  OpenClaim.holds_of_cond 5 Tryd.f5 rfl rfl rfl rfl rfl rfl rfl ⟨rfl, rfl, rfl, rfl, rfl⟩ rfl rfl rfl rfl rfl (by kernel_rfl) Tryd.func5 (by kernel_rfl)
    (of_decide_eq_true (by kernel_rfl)) (by unfold Func.isWrapper; first | (rw [if_pos (by decide +kernel)]; kernel_rfl) | (rw [if_neg (by decide +kernel)]; exact ⟨rfl, rfl⟩))
    (fun os started H enc _ F => by rw [OpenClaim.pre_eq_preRow]; exact lifted os started H enc F)

/-- No parameter wants a stand-in; the program's own looks are off: what the card asks. -/
theorem plain (f : FuncId) (fn : Func) (hf : Tryd.pinned.checked.prog.funcNamed "kiln/kilnlaw6.ChainBytes" = some f) (hfn : Tryd.pinned.checked.prog.funcs[f]? = some fn) :
    false = Tryd.pinned.checked.prog.looks [] ∧ ∀ (j : Nat) t, fn.params[j]? = some t → Tryd.pinned.checked.prog.wantsStandIn t = false := by
  obtain rfl : f = 5 := Option.some.inj ((show Tryd.prog.funcNamed "kiln/kilnlaw6.ChainBytes" = some 5 by kernel_rfl).symm.trans hf) |>.symm
  obtain rfl : fn = Tryd.f5 := (Option.some.inj (Tryd.func5.symm.trans hfn)).symm
  refine ⟨by kernel_rfl, fun j t ht => ?_⟩
  rw [Tryd.params5] at ht
  have hm := Array.mem_of_getElem? ht
  simp at hm
  rcases hm with rfl | rfl | rfl | rfl
  · exact (show Tryd.prog.wantsStandIn 3 = false by kernel_rfl)
  · exact (show Tryd.prog.wantsStandIn 22 = false by kernel_rfl)
  · exact (show Tryd.prog.wantsStandIn 52 = false by kernel_rfl)
  · exact (show Tryd.prog.wantsStandIn 3 = false by kernel_rfl)

theorem card : Rows.ChainBytesCardSaid :=
  Claim7.holds_tied_plain_at .later [] _ _ _ _ said (fun _ h => by cases h) (by kernel_rfl) (fun _ h => by cases h) chainBytes_row_tie rfl ⟨rfl, rfl⟩ (by kernel_rfl) rfl plain (by kernel_rfl)
end Go.Proofs.YtgcpcgcfpjolnaaDoor.chainBytes
