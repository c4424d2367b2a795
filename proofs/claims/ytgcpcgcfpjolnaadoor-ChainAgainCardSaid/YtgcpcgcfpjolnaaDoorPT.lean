import Derived.Test.YtgcpcgcfpjolnaaDoorPQ
import Derived.Test.YtgcpcgcfpjolnaaDoorPG
import Derived.Test.YtgcpcgcfpjolnaaDoorPS
import Derived.Test.YtgcpcgcfpjolnaaDoorPN
import Derived.Great.BuildSlice
-- ChainBytes: the walk.
namespace Go.Proofs.YtgcpcgcfpjolnaaDoor.G
open Go.RowKit Go.Proofs.YtgcpcgcfpjolnaaDoorW.PrintWords Go.Proofs.YtgcpcgcfpjolnaaDoorW.PrintLast Go.Proofs.YtgcpcgcfpjolnaaDoorW.PrintMore
set_option linter.unusedVariables false
set_option linter.unusedSimpArgs false
set_option maxRecDepth 10000
theorem exec_load_mid {P : Program} {o : Oper} {a : Act} {w : World} (ty : TypeId) (x : Operand) (ho : o.op = .load ty x) (b f : Nat) (hx : a.eval x = .pointer (some ⟨b, f, none⟩)) (cs : List Value) (d : TypeDesc) (hc : w.rangeAt b f cs)
    (hu : P.underlying ty = some d) (hd : d.isRow = true) (hi : (P.info? ty).map (·.size) = some cs.length) : (execOp a.eval o).run P w = .ok (.value (.agg cs.toArray)) w := by
  unfold execOp
  simp only [ho, hx, Instr.loadAt, Instr.sureAddr, Sem.run_bind, Sem.run_pure, Result.andThen_ok, run_loadVar_mid w b f ty cs d hc hu hd hi]
def t5 : List Int := [201, 202, 203, 204, 205]
theorem byt_t5 : Byt t5 := by unfold Byt t5; decide
theorem roomy_calls {w : World} {A : Option Addr} {n c : Nat} {xs : List Int} (h : BSl w A n c xs) (hl : n ≤ 140737488351232) :
    Calls Tryd.prog 32 #[.slice A n c] w fun e w' => ∃ g cap, e = .returned (.slice (some ⟨g, 0, none⟩) (n + 5) cap) ∧ RowAt w' g 5 1 (n + 5) cap (by8 (xs ++ t5)) ∧ w.heap.size ≤ g ∧ Keeps [] w w' := by
  have hn := h.1
  have ev : kilnlaw6_roomy.f xs = some (xs ++ t5) := by
    unfold kilnlaw6_roomy.f
    rw [if_pos (by simp; omega), List.nil_append, Option.bind_some, Option.bind_some, if_pos (by simp; omega)]
    rfl
  have := kilnlaw6_roomy.calls A c xs (xs ++ t5) w (by have := h.C (by omega); rwa [← hn] at this) (by have := h.2.1; omega) ev
  rw [hn] at this
  refine this.mono ?_
  rintro e w' ⟨v, rfl, hR, hB⟩
  have hr := R_row8 hR
  have hf : ∀ k, v.ownBlock = some k → w.heap.size ≤ k := fun k hk => (World.ownsRow.lt (Kd.own_of_R hR) k hk).1
  have hlen : (xs ++ t5).length = n + 5 := by simp [t5, hn]
  rw [hlen] at hr
  rcases own_form hr with ⟨_, h0, _⟩ | ⟨g, cap, rfl, hrow⟩
  · omega
  · exact ⟨g, cap, rfl, hrow, hf g rfl, Keeps.of_below hB⟩
theorem row_B {W : World} {g n c : Nat} {xs : List Int} (h : RowAt W g 5 1 n c (by8 xs)) : BSl W (some ⟨g, 0, none⟩) n c xs := by
  have hl : xs.length = n := by have := h.1; rw [by8_length] at this; omega
  exact ⟨hl, h.capLe.1, .inr ⟨g, 0, rfl, row_range8 h, hl, h.lt⟩⟩
set_option maxHeartbeats 1000000 in
theorem bytes_walk {W0 : World} (hw : 3 ≤ W0.heap.size) (hTab : TabW W0) (hT : ShaW W0) (hH : HalfW W0) (n : Int) {A : Option Addr} {L c : Nat} {xs h : List Int} {fi len place next : Int} (hB : BSl W0 A L c xs) (hb : Byt xs) (hL : L ≤ 140737488351232) (hh : h.length = 32) (hhb : Byt h)
    (hlen : -9223372036854775808 ≤ len ∧ len ≤ 9223372036854775807) (hpl : -9223372036854775808 ≤ place ∧ place ≤ 9223372036854775807) :
    Calls Tryd.prog 5 #[.int .i64 n, .slice A L c, .agg (refC h fi len).toArray, .int .i64 place, .int .i64 next] W0 fun e w' => e = .returned (.bool true) ∧ Keeps [] W0 w' := by
  have hxl := hB.1
  have HRM := Lib.hid (show ∀ W, Keeps [] W0 W → Calls Tryd.prog 32 #[.slice A L c] W fun e w' => ∃ g cap, e = .returned (.slice (some ⟨g, 0, none⟩) (L + 5) cap) ∧ RowAt w' g 5 1 (L + 5) cap (by8 (xs ++ t5)) ∧ W.heap.size ≤ g ∧ Keeps [] W w' from fun W hk => roomy_calls (hB.keeps hk (fun _ _ _ => by simp)) hL)
  have H3 := Lib.hid (show ∀ W, Keeps [] W0 W → Calls Tryd.prog 33 #[.int .i64 n] W fun e w' => e = .returned (.int .i64 (secsI n)) ∧ Keeps [] W w' from fun W _ => secs33 n W)
  have H4 := Lib.hid (show ∀ W, Keeps [] W0 W → Calls Tryd.prog 34 #[.int .i64 n] W fun e w' => e = .returned (.int .i64 (secsI n)) ∧ Keeps [] W w' from fun W _ => secs34 n W)
  have H5 := Lib.hid (show ∀ W, Keeps [] W0 W → Calls Tryd.prog 33 #[.int .i64 len] W fun e w' => e = .returned (.int .i64 (secsI len)) ∧ Keeps [] W w' from fun W _ => secs33 len W)
  have H6 := Lib.hid (show ∀ W, Keeps [] W0 W → Calls Tryd.prog 34 #[.int .i64 len] W fun e w' => e = .returned (.int .i64 (secsI len)) ∧ Keeps [] W w' from fun W _ => secs34 len W)
  have HS1 := Lib.hid (show ∀ W g cap, Keeps [] W0 W → RowAt W g 5 1 (L + 5) cap (by8 (xs ++ t5)) → Calls Tryd.prog 35 #[.slice (some ⟨g, 0, none⟩) L cap, .agg (refC h fi len).toArray, .int .i64 place, .int .i64 next] W fun e w' => e = .returned (.bool (soundB xs h len place next)) ∧ Keeps [] W w' from fun W g cap hk hr => by
    have h1 := row_range8 hr
    rw [by8_append] at h1
    exact sound_calls (fun j v hj => h1 j v (by rw [List.getElem?_append_left (List.getElem?_eq_some_iff.1 hj).1]; exact hj)) hxl (by have := hr.capLe.1; omega) hb hh (hH.keeps hk (by simp)) hlen hpl)
  have HS2 := Lib.hid (show ∀ W, Keeps [] W0 W → Calls Tryd.prog 36 #[.slice A L c, .agg (refC h fi len).toArray, .int .i64 place, .int .i64 next] W fun e w' => e = .returned (.bool (soundB xs h len place next)) ∧ Keeps [] W w' from fun W hk => sound_ref (hB.keeps hk (fun _ _ _ => by simp)) hb hh hhb hlen hpl)
  have HSA := Lib.hid (show ∀ W g cap g2 cap2, RowAt W g 5 1 (L + 5) cap (by8 (xs ++ t5)) → RowAt W g2 5 1 (L + 5) cap2 (by8 (xs ++ t5)) → Calls Tryd.prog 24 #[.slice (some ⟨g, 0, none⟩) (L + 5) cap, .slice (some ⟨g2, 0, none⟩) (L + 5) cap2] W fun e w' => e = .returned (.bool true) ∧ Keeps [] W w' from fun W g cap g2 cap2 h1 h2 =>
    same_yes ((row_B h1).C (by omega)) h1.capLe.1 ((row_B h2).C (by omega)) h2.capLe.1)
  have HST := Lib.hid (show ∀ W, Keeps [] W0 W → Calls Tryd.prog 30 #[] W fun e w' => e = .returned (.bool true) ∧ Keeps [] W w' from fun W hk => started_calls (Nat.le_trans hw hk.size) (hTab.keeps hk (by simp)) (hT.keeps hk (by simp)) (hH.keeps hk (by simp)))
  have HLD := Lib.hid (show ∀ W, Keeps [] (W0.alloc (.cells (refC h fi len).toArray 52)) W → W.rangeAt W0.heap.size 0 (refC h fi len) from fun W hk => by
    have := str_range (StrAt.new W0 (refC h fi len).toArray 52)
    exact range_keeps (by simpa using this) hk (by simp))
  have HL33 := Lib.hid (show ∀ W : World, W.rangeAt W0.heap.size 0 (refC h fi len) → W.cell? ⟨W0.heap.size, 33, none⟩ = some (.int .i64 len) from fun W hr => by have := hr 33 _ (refC_at33 hh fi len); simpa using this)
  have HSZ := Lib.hid (show (Tryd.prog.info? 52).map (·.size) = some (refC h fi len).length from by rw [show (refC h fi len).length = 34 by simp [refC, by8_length, hh]]; exact size52n)
  have HK1 := Lib.hid (show Keeps [] W0 (W0.alloc (.cells (refC h fi len).toArray 52)) from (Keeps.refl [] _).alloc _)
  have HK2 := Lib.hid (Keeps.refl [] (W0.alloc (.cells (refC h fi len).toArray 52)))
  clear hB hb hh hhb hH hT hTab hw hlen hpl
  generalize secsI n = s1 at H3 H4
  generalize secsI len = s2 at H5 H6
  generalize soundB xs h len place next = sb at HS1 HS2
  obtain ⟨L5, hL5⟩ : ∃ q, q = L + 5 := ⟨_, rfl⟩
  rw [← hL5] at HRM HS1 HSA
  generalize hbx : xs ++ t5 = xt at HRM HS1 HSA
  generalize hrl : refC h fi len = rl at *
  have HL5 := Lib.hid hL5
  clear hbx hrl hL5 hxl
  go_enter Tryd.func5, Tryd.ntmps5
  go_wp2_with (go_at_call 32; refine (HRM.out _ HK1.out).mono ?_; rintro e w1 ⟨gw, cw, rfl, hrw, hgw, h3⟩; have RW := Lib.hid hrw; have HK3 := Lib.hid (HK2.out.trans' h3); have GW := Lib.hid h3; clear h3 HK2 hrw; rename Hid (Keeps [] (World.alloc _ _) _) => HK2)
  have K0 := Lib.hid (And.intro HK2.out.drew (Keeps.refl [] w1).drew)
  have HRK := Lib.hid (show ∀ W, Keeps [] w1 W → RowAt W gw 5 1 L5 cw (by8 xt) from fun W hk => RowAt.keeps RW.out hk (by simp))
  have hcw := RW.out.capLe.1
  have hLc : ((L : Int) ≤ (cw : Int)) = True := eq_true (by have := HL5.out; omega)
  have hLc2 : L ≤ cw := by have := HL5.out; omega
  refine wp_region_held_drew (S := fun W => W.cell? ⟨W0.heap.size, 33, none⟩ = some (.int .i64 len)) (by kernel_rfl) (HL33.out _ (HLD.out _ K0.out.1)) (fun hHeld => ?_)
  refine wpAnyH_take (i := 0) (oi := { dst := some 14, op := Op.move (Operand.tmp 0), type := 3, pos := "law.go:198", after := #[], guard := none }) (v := ?_) rfl (by kernel_rfl) (by kernel_rfl) (by kernel_rfl) (fun _ _ _ h => h) (Or.inl ⟨by kernel_rfl, ?_⟩) (by assumption) ?_
  rotate_left
  · (intro w9 hSw; clear hSw; go_simp; try with_reducible rfl)
  try simp only [Act.put, List.setIfInBounds_toArray, List.set_cons_zero, List.set_cons_succ]
  refine wpAnyH_take (i := 2) (oi := { dst := some 16, op := Op.move (Operand.tmp 0), type := 3, pos := "law.go:198", after := #[], guard := none }) (v := ?_) rfl (by kernel_rfl) (by kernel_rfl) (by kernel_rfl) (fun _ _ _ h => h) (Or.inl ⟨by kernel_rfl, ?_⟩) (by assumption) ?_
  rotate_left
  · (intro w9 hSw; clear hSw; go_simp; try with_reducible rfl)
  try simp only [Act.put, List.setIfInBounds_toArray, List.set_cons_zero, List.set_cons_succ]
  refine wpAnyH_ready (rs := [1]) (by kernel_rfl) (by simp) ?_
  refine AllReadyH.cons (o := { dst := some 15, op := Op.call { callee := Callee.value (Operand.func 33), args := #[Operand.tmp 14], argTypes := #[3] }, type := 3, pos := "law.go:198", after := #[{ on := 0, ground := Ground.data }], guard := none }) rfl (fun K hK => ?_) AllReadyH.nil
  go_simp
  refine (H3.out _ (HK1.out.trans' K0.out.1)).mono ?_
  rintro e wa ⟨rfl, k9⟩
  have Ka := Lib.hid (And.intro (K0.out.1.trans' k9) (K0.out.2.trans' k9))
  clear k9
  refine hK.out _ _ (HL33.out _ (HLD.out _ Ka.out.1)) (fun hHeld1 => ?_)
  clear hK K hHeld
  try simp only [Act.put, List.setIfInBounds_toArray, List.set_cons_zero, List.set_cons_succ]
  refine wpAnyH_ready (rs := [3]) (by kernel_rfl) (by simp) ?_
  refine AllReadyH.cons (o := { dst := some 17, op := Op.call { callee := Callee.value (Operand.func 34), args := #[Operand.tmp 16], argTypes := #[3] }, type := 3, pos := "law.go:198", after := #[{ on := 2, ground := Ground.data }, { on := 1, ground := Ground.chain }], guard := none }) rfl (fun K hK => ?_) AllReadyH.nil
  go_simp
  refine (H4.out _ (HK1.out.trans' Ka.out.1)).mono ?_
  rintro e wb ⟨rfl, k9⟩
  have Kb := Lib.hid (And.intro (Ka.out.1.trans' k9) (Ka.out.2.trans' k9))
  clear k9
  refine hK.out _ _ (HL33.out _ (HLD.out _ Kb.out.1)) (fun hHeld3 => ?_)
  clear hK K hHeld1
  try simp only [Act.put, List.setIfInBounds_toArray, List.set_cons_zero, List.set_cons_succ]
  refine wpAnyH_take (i := 4) (oi := { dst := some 18, op := Op.binOp BinOp.neq 3 (Operand.tmp 15) (Operand.tmp 17) 3, type := 4, pos := "law.go:198", after := #[{ on := 1, ground := Ground.data }, { on := 3, ground := Ground.data }], guard := none }) (v := ?_) rfl (by kernel_rfl) (by kernel_rfl) (by kernel_rfl) (fun _ _ _ h => h) (Or.inl ⟨by kernel_rfl, ?_⟩) (by assumption) ?_
  rotate_left
  · (intro w9 hSw; clear hSw; go_simp; try with_reducible rfl)
  try simp only [Act.put, List.setIfInBounds_toArray, List.set_cons_zero, List.set_cons_succ]
  refine wpAnyH_take (i := 5) (oi := { dst := some 19, op := Op.move (Operand.tmp 18), type := 4, pos := "law.go:198", after := #[{ on := 4, ground := Ground.data }, { on := 3, ground := Ground.chain }], guard := none }) (v := ?_) rfl (by kernel_rfl) (by kernel_rfl) (by kernel_rfl) (fun _ _ _ h => h) (Or.inl ⟨by kernel_rfl, ?_⟩) (by assumption) ?_
  rotate_left
  · (intro w9 hSw; clear hSw; go_simp; try with_reducible rfl)
  try simp only [Act.put, List.setIfInBounds_toArray, List.set_cons_zero, List.set_cons_succ]
  refine wpAnyH_take (i := 6) (oi := { dst := some 20, op := Op.fieldAddr 52 (Operand.tmp 7) 2, type := 0, pos := "law.go:198", after := #[{ on := 5, ground := Ground.guard }], guard := some (5, false) }) (v := ?_) rfl (by kernel_rfl) (by kernel_rfl) (by kernel_rfl) (fun _ _ _ h => h) (Or.inl ⟨by kernel_rfl, ?_⟩) (by assumption) ?_
  rotate_left
  · (intro w9 hSw; clear hSw; go_simp; try with_reducible rfl)
  try simp only [Act.put, List.setIfInBounds_toArray, List.set_cons_zero, List.set_cons_succ]
  refine wpAnyH_take (i := 7) (oi := { dst := some 21, op := Op.load 3 (Operand.tmp 20), type := 3, pos := "law.go:198", after := #[{ on := 6, ground := Ground.data }, { on := 5, ground := Ground.guard }], guard := some (5, false) }) (v := ?_) rfl (by kernel_rfl) (by kernel_rfl) (by kernel_rfl) (fun _ _ _ h => h) (Or.inl ⟨by kernel_rfl, ?_⟩) (by assumption) ?_
  rotate_left
  · (intro w9 hSw; (try dsimp only at hSw); go_simp; try with_reducible rfl)
  try simp only [Act.put, List.setIfInBounds_toArray, List.set_cons_zero, List.set_cons_succ]
  refine wpAnyH_take (i := 9) (oi := { dst := some 23, op := Op.fieldAddr 52 (Operand.tmp 7) 2, type := 0, pos := "law.go:198", after := #[{ on := 5, ground := Ground.guard }], guard := some (5, false) }) (v := ?_) rfl (by kernel_rfl) (by kernel_rfl) (by kernel_rfl) (fun _ _ _ h => h) (Or.inl ⟨by kernel_rfl, ?_⟩) (by assumption) ?_
  rotate_left
  · (intro w9 hSw; clear hSw; go_simp; try with_reducible rfl)
  try simp only [Act.put, List.setIfInBounds_toArray, List.set_cons_zero, List.set_cons_succ]
  refine wpAnyH_take (i := 10) (oi := { dst := some 24, op := Op.load 3 (Operand.tmp 23), type := 3, pos := "law.go:198", after := #[{ on := 9, ground := Ground.data }, { on := 5, ground := Ground.guard }], guard := some (5, false) }) (v := ?_) rfl (by kernel_rfl) (by kernel_rfl) (by kernel_rfl) (fun _ _ _ h => h) (Or.inl ⟨by kernel_rfl, ?_⟩) (by assumption) ?_
  rotate_left
  · (intro w9 hSw; (try dsimp only at hSw); go_simp; try with_reducible rfl)
  try simp only [Act.put, List.setIfInBounds_toArray, List.set_cons_zero, List.set_cons_succ]
  refine wpAnyH_ready (rs := [8]) (by kernel_rfl) (by simp) ?_
  refine AllReadyH.cons (o := { dst := some 22, op := Op.call { callee := Callee.value (Operand.func 33), args := #[Operand.tmp 21], argTypes := #[3] }, type := 3, pos := "law.go:198", after := #[{ on := 7, ground := Ground.data }, { on := 5, ground := Ground.chain }, { on := 5, ground := Ground.guard }], guard := some (5, false) }) rfl (fun K hK => ?_) AllReadyH.nil
  go_simp
  refine (H5.out _ (HK1.out.trans' Kb.out.1)).mono ?_
  rintro e wc ⟨rfl, k9⟩
  have Kc := Lib.hid (And.intro (Kb.out.1.trans' k9) (Kb.out.2.trans' k9))
  clear k9
  refine hK.out _ _ (HL33.out _ (HLD.out _ Kc.out.1)) (fun hHeld8 => ?_)
  clear hK K hHeld3
  try simp only [Act.put, List.setIfInBounds_toArray, List.set_cons_zero, List.set_cons_succ]
  refine wpAnyH_ready (rs := [11]) (by kernel_rfl) (by simp) ?_
  refine AllReadyH.cons (o := { dst := some 25, op := Op.call { callee := Callee.value (Operand.func 34), args := #[Operand.tmp 24], argTypes := #[3] }, type := 3, pos := "law.go:198", after := #[{ on := 10, ground := Ground.data }, { on := 8, ground := Ground.chain }, { on := 5, ground := Ground.guard }], guard := some (5, false) }) rfl (fun K hK => ?_) AllReadyH.nil
  go_simp
  refine (H6.out _ (HK1.out.trans' Kc.out.1)).mono ?_
  rintro e wd ⟨rfl, k9⟩
  have Kd := Lib.hid (And.intro (Kc.out.1.trans' k9) (Kc.out.2.trans' k9))
  clear k9
  refine hK.out _ _ (HL33.out _ (HLD.out _ Kd.out.1)) (fun hHeld11 => ?_)
  clear hK K hHeld8
  try simp only [Act.put, List.setIfInBounds_toArray, List.set_cons_zero, List.set_cons_succ]
  refine wpAnyH_take (i := 12) (oi := { dst := some 26, op := Op.binOp BinOp.neq 3 (Operand.tmp 22) (Operand.tmp 25) 3, type := 4, pos := "law.go:198", after := #[{ on := 8, ground := Ground.data }, { on := 11, ground := Ground.data }, { on := 5, ground := Ground.guard }], guard := some (5, false) }) (v := ?_) rfl (by kernel_rfl) (by kernel_rfl) (by kernel_rfl) (fun _ _ _ h => h) (Or.inl ⟨by kernel_rfl, ?_⟩) (by assumption) ?_
  rotate_left
  · (intro w9 hSw; clear hSw; go_simp; try with_reducible rfl)
  try simp only [Act.put, List.setIfInBounds_toArray, List.set_cons_zero, List.set_cons_succ]
  refine wpAnyH_take (i := 13) (oi := { dst := some 27, op := Op.pick (Operand.tmp 19) (Operand.const (Value.bool true)) (Operand.tmp 26), type := 4, pos := "law.go:198", after := #[{ on := 5, ground := Ground.data }, { on := 12, ground := Ground.data }], guard := none }) (v := ?_) rfl (by kernel_rfl) (by kernel_rfl) (by kernel_rfl) (fun _ _ _ h => h) (Or.inl ⟨by kernel_rfl, ?_⟩) (by assumption) ?_
  rotate_left
  · (intro w9 hSw; clear hSw; go_simp; try with_reducible rfl)
  try simp only [Act.put, List.setIfInBounds_toArray, List.set_cons_zero, List.set_cons_succ]
  refine wpAnyH_done (by kernel_rfl) ?_ _
  go_wp2
  have Ke := Lib.hid (And.intro Kd.out.1.drew Kd.out.2.drew)
  refine wp_region_held_drew (S := fun W => W.rangeAt W0.heap.size 0 rl) (by kernel_rfl) (HLD.out _ Ke.out.1) (fun hHeld => ?_)
  refine wpAnyH_take (i := 0) (oi := { dst := some 28, op := Op.move (Operand.tmp 11), type := 22, pos := "law.go:201", after := #[], guard := none }) (v := ?_) rfl (by kernel_rfl) (by kernel_rfl) (by kernel_rfl) (fun _ _ _ h => h) (Or.inl ⟨by kernel_rfl, ?_⟩) (by assumption) ?_
  rotate_left
  · (intro w9 hSw; clear hSw; go_simp; try with_reducible rfl)
  try simp only [Act.put, List.setIfInBounds_toArray, List.set_cons_zero, List.set_cons_succ]
  refine wpAnyH_take (i := 1) (oi := { dst := some 29, op := Op.move (Operand.tmp 1), type := 22, pos := "law.go:201", after := #[], guard := none }) (v := ?_) rfl (by kernel_rfl) (by kernel_rfl) (by kernel_rfl) (fun _ _ _ h => h) (Or.inl ⟨by kernel_rfl, ?_⟩) (by assumption) ?_
  rotate_left
  · (intro w9 hSw; clear hSw; go_simp; try with_reducible rfl)
  try simp only [Act.put, List.setIfInBounds_toArray, List.set_cons_zero, List.set_cons_succ]
  refine wpAnyH_take (i := 2) (oi := { dst := some 30, op := Op.call { callee := Callee.builtin Builtin.len, args := #[Operand.tmp 29], argTypes := #[22] }, type := 3, pos := "law.go:201", after := #[{ on := 1, ground := Ground.data }], guard := none }) (v := ?_) rfl (by kernel_rfl) (by kernel_rfl) (by kernel_rfl) (fun _ _ _ h => h) (Or.inl ⟨by kernel_rfl, ?_⟩) (by assumption) ?_
  rotate_left
  · (intro w9 hSw; clear hSw; go_simp; try with_reducible rfl)
  try simp only [Act.put, List.setIfInBounds_toArray, List.set_cons_zero, List.set_cons_succ]
  refine wpAnyH_take (i := 3) (oi := { dst := some 31, op := Op.slice 22 (Operand.tmp 28) none (some (Operand.tmp 30)) none, type := 22, pos := "law.go:201", after := #[{ on := 0, ground := Ground.data }, { on := 2, ground := Ground.data }], guard := none }) (v := ?_) rfl (by kernel_rfl) (by kernel_rfl) (by kernel_rfl) (fun _ _ _ h => h) (Or.inl ⟨by kernel_rfl, ?_⟩) (by assumption) ?_
  rotate_left
  · (intro w9 hSw; clear hSw; go_simp; try with_reducible rfl)
  try simp only [Act.put, List.setIfInBounds_toArray, List.set_cons_zero, List.set_cons_succ]
  refine wpAnyH_take (i := 4) (oi := { dst := some 32, op := Op.load 52 (Operand.tmp 7), type := 52, pos := "law.go:201", after := #[], guard := none }) (v := ?_) rfl (by kernel_rfl) (by kernel_rfl) (by kernel_rfl) (fun _ _ _ h => h) (Or.inl ⟨by kernel_rfl, ?_⟩) (by assumption) ?_
  rotate_left
  · (intro w9 hSw; refine exec_load_mid 52 (.tmp 7) ?_ W0.heap.size 0 ?_ rl _ hSw Tryd.underlying52 rfl HSZ.out <;> rfl)
  try simp only [Act.put, List.setIfInBounds_toArray, List.set_cons_zero, List.set_cons_succ]
  refine wpAnyH_take (i := 5) (oi := { dst := some 33, op := Op.move (Operand.tmp 3), type := 3, pos := "law.go:201", after := #[], guard := none }) (v := ?_) rfl (by kernel_rfl) (by kernel_rfl) (by kernel_rfl) (fun _ _ _ h => h) (Or.inl ⟨by kernel_rfl, ?_⟩) (by assumption) ?_
  rotate_left
  · (intro w9 hSw; clear hSw; go_simp; try with_reducible rfl)
  try simp only [Act.put, List.setIfInBounds_toArray, List.set_cons_zero, List.set_cons_succ]
  refine wpAnyH_take (i := 6) (oi := { dst := some 34, op := Op.move (Operand.tmp 4), type := 3, pos := "law.go:201", after := #[], guard := none }) (v := ?_) rfl (by kernel_rfl) (by kernel_rfl) (by kernel_rfl) (fun _ _ _ h => h) (Or.inl ⟨by kernel_rfl, ?_⟩) (by assumption) ?_
  rotate_left
  · (intro w9 hSw; clear hSw; go_simp; try with_reducible rfl)
  try simp only [Act.put, List.setIfInBounds_toArray, List.set_cons_zero, List.set_cons_succ]
  refine wpAnyH_take (i := 8) (oi := { dst := some 36, op := Op.move (Operand.tmp 1), type := 22, pos := "law.go:201", after := #[], guard := none }) (v := ?_) rfl (by kernel_rfl) (by kernel_rfl) (by kernel_rfl) (fun _ _ _ h => h) (Or.inl ⟨by kernel_rfl, ?_⟩) (by assumption) ?_
  rotate_left
  · (intro w9 hSw; clear hSw; go_simp; try with_reducible rfl)
  try simp only [Act.put, List.setIfInBounds_toArray, List.set_cons_zero, List.set_cons_succ]
  refine wpAnyH_take (i := 9) (oi := { dst := some 37, op := Op.load 52 (Operand.tmp 7), type := 52, pos := "law.go:201", after := #[], guard := none }) (v := ?_) rfl (by kernel_rfl) (by kernel_rfl) (by kernel_rfl) (fun _ _ _ h => h) (Or.inl ⟨by kernel_rfl, ?_⟩) (by assumption) ?_
  rotate_left
  · (intro w9 hSw; refine exec_load_mid 52 (.tmp 7) ?_ W0.heap.size 0 ?_ rl _ hSw Tryd.underlying52 rfl HSZ.out <;> rfl)
  try simp only [Act.put, List.setIfInBounds_toArray, List.set_cons_zero, List.set_cons_succ]
  refine wpAnyH_take (i := 10) (oi := { dst := some 38, op := Op.move (Operand.tmp 3), type := 3, pos := "law.go:201", after := #[], guard := none }) (v := ?_) rfl (by kernel_rfl) (by kernel_rfl) (by kernel_rfl) (fun _ _ _ h => h) (Or.inl ⟨by kernel_rfl, ?_⟩) (by assumption) ?_
  rotate_left
  · (intro w9 hSw; clear hSw; go_simp; try with_reducible rfl)
  try simp only [Act.put, List.setIfInBounds_toArray, List.set_cons_zero, List.set_cons_succ]
  refine wpAnyH_take (i := 11) (oi := { dst := some 39, op := Op.move (Operand.tmp 4), type := 3, pos := "law.go:201", after := #[], guard := none }) (v := ?_) rfl (by kernel_rfl) (by kernel_rfl) (by kernel_rfl) (fun _ _ _ h => h) (Or.inl ⟨by kernel_rfl, ?_⟩) (by assumption) ?_
  rotate_left
  · (intro w9 hSw; clear hSw; go_simp; try with_reducible rfl)
  try simp only [Act.put, List.setIfInBounds_toArray, List.set_cons_zero, List.set_cons_succ]
  refine wpAnyH_ready (rs := [7]) (by kernel_rfl) (by simp) ?_
  refine AllReadyH.cons (o := { dst := some 35, op := Op.call { callee := Callee.value (Operand.func 35), args := #[Operand.tmp 31, Operand.tmp 32, Operand.tmp 33, Operand.tmp 34], argTypes := #[22, 52, 3, 3] }, type := 4, pos := "law.go:201", after := #[{ on := 3, ground := Ground.data }, { on := 4, ground := Ground.data }, { on := 5, ground := Ground.data }, { on := 6, ground := Ground.data }], guard := none }) rfl (fun K hK => ?_) AllReadyH.nil
  go_simp
  refine (HS1.out _ _ _ (HK1.out.trans' Ke.out.1) (HRK.out _ Ke.out.2)).mono ?_
  rintro e wf ⟨rfl, k9⟩
  have Kf := Lib.hid (And.intro (Ke.out.1.trans' k9) (Ke.out.2.trans' k9))
  clear k9
  refine hK.out _ _ (HLD.out _ Kf.out.1) (fun hHeld7 => ?_)
  clear hK K hHeld
  try simp only [Act.put, List.setIfInBounds_toArray, List.set_cons_zero, List.set_cons_succ]
  refine wpAnyH_ready (rs := [12]) (by kernel_rfl) (by simp) ?_
  refine AllReadyH.cons (o := { dst := some 40, op := Op.call { callee := Callee.value (Operand.func 36), args := #[Operand.tmp 36, Operand.tmp 37, Operand.tmp 38, Operand.tmp 39], argTypes := #[22, 52, 3, 3] }, type := 4, pos := "law.go:201", after := #[{ on := 8, ground := Ground.data }, { on := 9, ground := Ground.data }, { on := 10, ground := Ground.data }, { on := 11, ground := Ground.data }, { on := 7, ground := Ground.chain }], guard := none }) rfl (fun K hK => ?_) AllReadyH.nil
  go_simp
  refine (HS2.out _ (HK1.out.trans' Kf.out.1)).mono ?_
  rintro e wg ⟨rfl, k9⟩
  have Kg := Lib.hid (And.intro (Kf.out.1.trans' k9) (Kf.out.2.trans' k9))
  clear k9
  refine hK.out _ _ (HLD.out _ Kg.out.1) (fun hHeld12 => ?_)
  clear hK K hHeld7
  try simp only [Act.put, List.setIfInBounds_toArray, List.set_cons_zero, List.set_cons_succ]
  refine wpAnyH_take (i := 13) (oi := { dst := some 41, op := Op.binOp BinOp.eql 4 (Operand.tmp 35) (Operand.tmp 40) 4, type := 4, pos := "law.go:201", after := #[{ on := 7, ground := Ground.data }, { on := 12, ground := Ground.data }], guard := none }) (v := ?_) rfl (by kernel_rfl) (by kernel_rfl) (by kernel_rfl) (fun _ _ _ h => h) (Or.inl ⟨by kernel_rfl, ?_⟩) (by assumption) ?_
  rotate_left
  · (intro w9 hSw; clear hSw; go_simp; try with_reducible rfl)
  try simp only [Act.put, List.setIfInBounds_toArray, List.set_cons_zero, List.set_cons_succ]
  refine wpAnyH_take (i := 14) (oi := { dst := some 42, op := Op.move (Operand.tmp 41), type := 4, pos := "law.go:201", after := #[{ on := 13, ground := Ground.data }, { on := 12, ground := Ground.chain }], guard := none }) (v := ?_) rfl (by kernel_rfl) (by kernel_rfl) (by kernel_rfl) (fun _ _ _ h => h) (Or.inl ⟨by kernel_rfl, ?_⟩) (by assumption) ?_
  rotate_left
  · (intro w9 hSw; clear hSw; go_simp; try with_reducible rfl)
  try simp only [Act.put, List.setIfInBounds_toArray, List.set_cons_zero, List.set_cons_succ]
  refine wpAnyH_take (i := 15) (oi := { dst := some 43, op := Op.move (Operand.tmp 11), type := 22, pos := "law.go:201", after := #[{ on := 14, ground := Ground.guard }], guard := some (14, true) }) (v := ?_) rfl (by kernel_rfl) (by kernel_rfl) (by kernel_rfl) (fun _ _ _ h => h) (Or.inl ⟨by kernel_rfl, ?_⟩) (by assumption) ?_
  rotate_left
  · (intro w9 hSw; clear hSw; go_simp; try with_reducible rfl)
  try simp only [Act.put, List.setIfInBounds_toArray, List.set_cons_zero, List.set_cons_succ]
  refine wpAnyH_take (i := 16) (oi := { dst := some 44, op := Op.move (Operand.tmp 1), type := 22, pos := "law.go:201", after := #[{ on := 14, ground := Ground.guard }], guard := some (14, true) }) (v := ?_) rfl (by kernel_rfl) (by kernel_rfl) (by kernel_rfl) (fun _ _ _ h => h) (Or.inl ⟨by kernel_rfl, ?_⟩) (by assumption) ?_
  rotate_left
  · (intro w9 hSw; clear hSw; go_simp; try with_reducible rfl)
  try simp only [Act.put, List.setIfInBounds_toArray, List.set_cons_zero, List.set_cons_succ]
  refine wpAnyH_ready (rs := [17]) (by kernel_rfl) (by simp) ?_
  refine AllReadyH.cons (o := { dst := some 45, op := Op.call { callee := Callee.value (Operand.func 32), args := #[Operand.tmp 44], argTypes := #[22] }, type := 22, pos := "law.go:201", after := #[{ on := 16, ground := Ground.data }, { on := 14, ground := Ground.chain }, { on := 14, ground := Ground.guard }], guard := some (14, true) }) rfl (fun K hK => ?_) AllReadyH.nil
  go_simp
  refine (HRM.out _ (HK1.out.trans' Kg.out.1)).mono ?_
  rintro e wh ⟨gv, cv, rfl, hrv, hgv, k9⟩
  have Kh := Lib.hid (And.intro (Kg.out.1.trans' k9) (Kg.out.2.trans' k9))
  have RV := Lib.hid hrv
  clear k9 hrv
  refine hK.out _ _ (HLD.out _ Kh.out.1) (fun hHeld17 => ?_)
  clear hK K hHeld12
  try simp only [Act.put, List.setIfInBounds_toArray, List.set_cons_zero, List.set_cons_succ]
  refine wpAnyH_ready (rs := [18]) (by kernel_rfl) (by simp) ?_
  refine AllReadyH.cons (o := { dst := some 46, op := Op.call { callee := Callee.value (Operand.func 24), args := #[Operand.tmp 43, Operand.tmp 45], argTypes := #[22, 22] }, type := 4, pos := "law.go:201", after := #[{ on := 15, ground := Ground.data }, { on := 17, ground := Ground.data }, { on := 17, ground := Ground.chain }, { on := 14, ground := Ground.guard }], guard := some (14, true) }) rfl (fun K hK => ?_) AllReadyH.nil
  go_simp
  refine (HSA.out _ gw cw gv cv (HRK.out _ Kh.out.2) RV.out).mono ?_
  rintro e wi ⟨rfl, k9⟩
  have Ki := Lib.hid (And.intro (Kh.out.1.trans' k9) (Kh.out.2.trans' k9))
  clear k9
  refine hK.out _ _ (HLD.out _ Ki.out.1) (fun hHeld18 => ?_)
  clear hK K hHeld17
  try simp only [Act.put, List.setIfInBounds_toArray, List.set_cons_zero, List.set_cons_succ]
  refine wpAnyH_take (i := 19) (oi := { dst := some 47, op := Op.pick (Operand.tmp 42) (Operand.tmp 46) (Operand.const (Value.bool false)), type := 4, pos := "law.go:201", after := #[{ on := 14, ground := Ground.data }, { on := 18, ground := Ground.data }], guard := none }) (v := ?_) rfl (by kernel_rfl) (by kernel_rfl) (by kernel_rfl) (fun _ _ _ h => h) (Or.inl ⟨by kernel_rfl, ?_⟩) (by assumption) ?_
  rotate_left
  · (intro w9 hSw; clear hSw; go_simp; try with_reducible rfl)
  try simp only [Act.put, List.setIfInBounds_toArray, List.set_cons_zero, List.set_cons_succ]
  refine wpAnyH_take (i := 20) (oi := { dst := some 48, op := Op.move (Operand.tmp 47), type := 4, pos := "law.go:201", after := #[{ on := 19, ground := Ground.data }, { on := 18, ground := Ground.chain }], guard := none }) (v := ?_) rfl (by kernel_rfl) (by kernel_rfl) (by kernel_rfl) (fun _ _ _ h => h) (Or.inl ⟨by kernel_rfl, ?_⟩) (by assumption) ?_
  rotate_left
  · (intro w9 hSw; clear hSw; go_simp; try with_reducible rfl)
  try simp only [Act.put, List.setIfInBounds_toArray, List.set_cons_zero, List.set_cons_succ]
  refine wpAnyH_ready (rs := [21]) (by kernel_rfl) (by simp) ?_
  refine AllReadyH.cons (o := { dst := some 49, op := Op.call { callee := Callee.value (Operand.func 30), args := #[], argTypes := #[] }, type := 4, pos := "law.go:201", after := #[{ on := 20, ground := Ground.chain }, { on := 20, ground := Ground.guard }], guard := some (20, true) }) rfl (fun K hK => ?_) AllReadyH.nil
  go_simp
  refine (HST.out _ (HK1.out.trans' Ki.out.1)).mono ?_
  rintro e wj ⟨rfl, k9⟩
  have Kj := Lib.hid (And.intro (Ki.out.1.trans' k9) (Ki.out.2.trans' k9))
  clear k9
  refine hK.out _ _ (HLD.out _ Kj.out.1) (fun hHeld21 => ?_)
  clear hK K hHeld18
  try simp only [Act.put, List.setIfInBounds_toArray, List.set_cons_zero, List.set_cons_succ]
  refine wpAnyH_take (i := 22) (oi := { dst := some 50, op := Op.pick (Operand.tmp 48) (Operand.tmp 49) (Operand.const (Value.bool false)), type := 4, pos := "law.go:201", after := #[{ on := 20, ground := Ground.data }, { on := 21, ground := Ground.data }], guard := none }) (v := ?_) rfl (by kernel_rfl) (by kernel_rfl) (by kernel_rfl) (fun _ _ _ h => h) (Or.inl ⟨by kernel_rfl, ?_⟩) (by assumption) ?_
  rotate_left
  · (intro w9 hSw; clear hSw; go_simp; try with_reducible rfl)
  try simp only [Act.put, List.setIfInBounds_toArray, List.set_cons_zero, List.set_cons_succ]
  refine wpAnyH_take (i := 23) (oi := { dst := some 10, op := Op.assign (Operand.tmp 50), type := 4, pos := "law.go:201", after := #[{ on := 22, ground := Ground.data }, { on := 21, ground := Ground.chain }, { on := 0, ground := Ground.phase }, { on := 1, ground := Ground.phase }, { on := 2, ground := Ground.phase }, { on := 3, ground := Ground.phase }, { on := 4, ground := Ground.phase }, { on := 5, ground := Ground.phase }, { on := 6, ground := Ground.phase }, { on := 7, ground := Ground.phase }, { on := 8, ground := Ground.phase }, { on := 9, ground := Ground.phase }, { on := 10, ground := Ground.phase }, { on := 11, ground := Ground.phase }, { on := 12, ground := Ground.phase }, { on := 13, ground := Ground.phase }, { on := 14, ground := Ground.phase }, { on := 15, ground := Ground.phase }, { on := 16, ground := Ground.phase }, { on := 17, ground := Ground.phase }, { on := 18, ground := Ground.phase }, { on := 19, ground := Ground.phase }, { on := 20, ground := Ground.phase }, { on := 21, ground := Ground.phase }, { on := 22, ground := Ground.phase }], guard := none }) (v := ?_) rfl (by kernel_rfl) (by kernel_rfl) (by kernel_rfl) (fun _ _ _ h => h) (Or.inl ⟨by kernel_rfl, ?_⟩) (by assumption) ?_
  rotate_left
  · (intro w9 hSw; clear hSw; go_simp; try with_reducible rfl)
  try simp only [Act.put, List.setIfInBounds_toArray, List.set_cons_zero, List.set_cons_succ]
  refine wpAnyH_done (by kernel_rfl) ?_ _
  go_wp2
  go_ret
  exact ⟨rfl, HK1.out.trans' Kj.out.1⟩
theorem bytes_all {W0 : World} (hw : 3 ≤ W0.heap.size) (hTab : TabW W0) (hT : ShaW W0) (hH : HalfW W0) (n : Int) (_ : -9223372036854775808 ≤ n ∧ n ≤ 9223372036854775807) (A : Option Addr) (c : Nat) (xs : List Int) (hB : BSl W0 A xs.length c xs) (hb : ∀ x ∈ xs, 0 ≤ x ∧ x < 256) (hL : xs.length ≤ 140737488351232)
    (h : List Int) (fi len : Int) (hh : h.length = 32) (hhb : Byt h) (_ : -9223372036854775808 ≤ fi ∧ fi ≤ 9223372036854775807) (hlen : -9223372036854775808 ≤ len ∧ len ≤ 9223372036854775807) (place : Int) (hpl : -9223372036854775808 ≤ place ∧ place ≤ 9223372036854775807) (next : Int) (_ : -9223372036854775808 ≤ next ∧ next ≤ 9223372036854775807) :
    Calls Tryd.prog 5 #[.int .i64 n, .slice A xs.length c, .agg (refC h fi len).toArray, .int .i64 place, .int .i64 next] W0 fun e w' => e = .returned (.bool true) ∧ Keeps [] W0 w' :=
  bytes_walk hw hTab hT hH n hB hb hL hh hhb hlen hpl
end Go.Proofs.YtgcpcgcfpjolnaaDoor.G
-- kilnlaw1.Desk: what lies of one.
namespace Go.Proofs.YtgcpcgcfpjolnaaDoor.G
open Go.RowKit Go.Proofs.YtgcpcgcfpjolnaaDoorW.PrintWords Go.Proofs.YtgcpcgcfpjolnaaDoorW.PrintLast Go.Proofs.YtgcpcgcfpjolnaaDoorW.PrintMore
set_option linter.unusedVariables false
set_option linter.unusedSimpArgs false
set_option maxRecDepth 10000
/-- bytes that lie somewhere; where there are none, it is nowhere -/
def TSl (w : World) (A : Option Addr) (L c : Nat) (xs : List Int) : Prop := xs.length = L ∧ L ≤ c ∧ (L = 0 ∨ ∃ g o, A = some ⟨g, o, none⟩ ∧ w.rangeAt g o (by8 xs) ∧ g < w.heap.size)
theorem TSl.keeps {w w' : World} {S : List Nat} {A : Option Addr} {L c : Nat} {xs : List Int} (h : TSl w A L c xs) (hk : Keeps S w w') (hn : L = 0 ∨ ∀ g o, A = some ⟨g, o, none⟩ → g ∉ S) : TSl w' A L c xs := by
  refine ⟨h.1, h.2.1, ?_⟩
  rcases h.2.2 with h1 | ⟨g, o, rfl, h2, h3⟩
  · exact .inl h1
  · rcases hn with h1 | hn
    · exact .inl h1
    · exact .inr ⟨g, o, rfl, range_keeps h2 hk (hn g o rfl), Nat.lt_of_lt_of_le h3 hk.size⟩
theorem TSl.C {w : World} {A : Option Addr} {L c : Nat} {xs : List Int} (h : TSl w A L c xs) (hl : L ≤ 9223372036854775807) : Kd.C (Kd.int .u8) w A L xs := by
  obtain ⟨h1, h2, h3⟩ := h
  subst h1
  rcases h3 with h1 | ⟨g, o, rfl, h4, _⟩
  · have : xs = [] := List.eq_nil_of_length_eq_zero h1
    subst this
    exact ⟨rfl, by decide, fun h0 => absurd h0 (by decide)⟩
  · exact C_of_range h4 hl
theorem TSl.of {w : World} {A : Option Addr} {L c : Nat} {xs : List Int} (h : BSl w A L c xs) : TSl w A L c xs :=
  ⟨h.1, h.2.1, by
    rcases h.2.2 with ⟨_, _, h1⟩ | ⟨g, o, h1, h2, _, h3⟩
    · exact .inl h1
    · exact .inr ⟨g, o, h1, h2, h3⟩⟩
theorem TSl.lt {w : World} {A : Option Addr} {L c : Nat} {xs : List Int} (h : TSl w A L c xs) : L = 0 ∨ ∀ a, A = some a → a.block < w.heap.size := by
  rcases h.2.2 with h1 | ⟨g, o, rfl, _, h3⟩
  · exact .inl h1
  · exact .inr fun a e => by cases e; exact h3
/-- what lies at a place behind what is lent -/
def mkI (i : Nat) : Int := (203 - 5 * (i : Int)) % 256
theorem mkI_range (i : Nat) : 0 ≤ mkI i ∧ mkI i < 256 := by unfold mkI; omega
def mkL (n : Nat) : List Int := (List.range n).map mkI
theorem mkL_length (n : Nat) : (mkL n).length = n := by simp [mkL]
def mks (i : Nat) (rm : List Int) : List Int := mkL i ++ rm.drop i
theorem mks_zero (rm : List Int) : mks 0 rm = rm := by simp [mks, mkL]
theorem mks_length (i : Nat) (rm : List Int) (h : i ≤ rm.length) : (mks i rm).length = rm.length := by simp [mks, mkL_length]; omega
theorem mks_all (rm : List Int) : mks rm.length rm = mkL rm.length := by simp [mks]
theorem mks_all' (R : Nat) (rm : List Int) (h : rm.length = R) : mks R rm = mkL R := by subst h; exact mks_all rm
theorem mks_set (i : Nat) (rm : List Int) (h : i < rm.length) : (mks i rm).set i (mkI i) = mks (i + 1) rm := by
  unfold mks
  rw [List.set_append_right _ _ (by rw [mkL_length]; exact Nat.le_refl _), mkL_length, Nat.sub_self, List.drop_eq_getElem_cons h, List.set_cons_zero]
  unfold mkL
  rw [List.range_succ, List.map_append, List.append_assoc]
  rfl
theorem mark_calls (i : Nat) (hi : i ≤ 1000000) (w : World) : Calls Tryd.prog 79 #[.int .i64 (i : Int)] w fun e w' => e = .returned (.int .u8 (mkI i)) ∧ Keeps [] w w' := by
  have ev : kilnlaw1_mark.f (i : Int) = some (mkI i) := by
    unfold kilnlaw1_mark.f mkI
    have e1 : wrap64 (5 * (i : Int)) = 5 * (i : Int) := by rw [← i64_w]; exact IntWalk.i64_in _ (by omega)
    have e2 : wrap64 (203 - 5 * (i : Int)) = 203 - 5 * (i : Int) := by rw [← i64_w]; exact IntWalk.i64_in _ (by omega)
    rw [e1, e2]
  refine (kilnlaw1_mark.calls (i : Int) (mkI i) w ev).mono ?_
  rintro e w' ⟨rfl, h⟩
  exact ⟨rfl, drawn0_keeps h⟩
/-- what lies of a desk: its struct, its room; what lay in w0 and is none of S lies as it lay -/
structure DP (w0 : World) (S : List Nat) (kb g R cap : Nat) (rm : List Int) (n : Int) (A : Option Addr) (L c : Nat) (xs : List Int) (W : World) : Prop where
  st : StrAt W kb #[.slice (some ⟨g, 0, none⟩) R cap, .int .i64 n] 82
  row : RowAt W g 5 1 R cap (by8 rm)
  ne : g ≠ kb
  gS : g ∈ S ∨ w0.heap.size ≤ g
  kS : kb ∈ S
  keeps : Keeps S w0 W
  src : TSl W A L c xs
  srcn : L = 0 ∨ ∀ b o, A = some ⟨b, o, none⟩ → b ≠ kb ∧ b ≠ g
section
variable {w0 : World} {S : List Nat} {kb g R cap : Nat} {rm : List Int} {n : Int} {A : Option Addr} {L c : Nat} {xs : List Int} {W W' : World}
theorem DP.len (h : DP w0 S kb g R cap rm n A L c xs W) : rm.length = R := by have := h.row.1; rw [by8_length] at this; omega
theorem DP.blank (h : DP w0 S kb g R cap rm n A L c xs W) (hk : Keeps [] W W') : DP w0 S kb g R cap rm n A L c xs W' :=
  ⟨h.st.keeps hk (by simp), h.row.keeps hk (by simp), h.ne, h.gS, h.kS, h.keeps.trans hk (by simp), h.src.keeps hk (.inr (fun _ _ _ => by simp)), h.srcn⟩
theorem DP.cell0 (h : DP w0 S kb g R cap rm n A L c xs W) : W.cell? ⟨kb, 0, none⟩ = some (.slice (some ⟨g, 0, none⟩) R cap) := by rw [h.st.cell 0]; rfl
theorem DP.cell1 (h : DP w0 S kb g R cap rm n A L c xs W) : W.cell? ⟨kb, 1, none⟩ = some (.int .i64 n) := by rw [h.st.cell 1]; rfl
theorem DP.at_ (h : DP w0 S kb g R cap rm n A L c xs W) (i : Nat) (hi : i < R) : W.cell? ⟨g, i, none⟩ = some (.int .u8 (rm.getD i 0)) := by
  have hl := h.len
  rw [h.row.cell i (by omega), by8_get, List.getElem?_eq_getElem (by omega)]
  simp [List.getD_eq_getElem?_getD, List.getElem?_eq_getElem (show i < rm.length by omega)]
theorem DP.set (h : DP w0 S kb g R cap rm n A L c xs W) (i : Nat) (x : Int) : DP w0 S kb g R cap (rm.set i x) n A L c xs (W.setCell ⟨g, i, none⟩ (.int .u8 x)) := by
  have hk : Keeps [g] W (W.setCell ⟨g, i, none⟩ (.int .u8 x)) := (Keeps.refl [g] W).setCell (a := ⟨g, i, none⟩) (by simp) _
  refine ⟨h.st.keeps hk (by have := h.ne; simp; omega), ?_, h.ne, h.gS, h.kS, h.keeps.trans hk (fun k hm => by simp at hm; subst hm; exact h.gS), h.src.keeps hk (h.srcn.imp id (fun f b o e => by have := (f b o e).2; simpa using this)), h.srcn⟩
  have := h.row.set i (.int .u8 x)
  rw [show (by8 rm).set i (.int .u8 x) = by8 (rm.set i x) by simp [by8, List.map_set]] at this
  exact this
theorem DP.copy (h : DP w0 S kb g R cap rm n A L c xs W) (hL : L ≤ R) : DP w0 S kb g R cap (putAt rm 0 xs) n A L c xs (W.setCells g 0 (by8 (xs.take R))) := by
  have hl := h.len
  have hx := h.src.1
  have ht : xs.take R = xs := List.take_of_length_le (by omega)
  rw [ht]
  have hk : Keeps [g] W (W.setCells g 0 (by8 xs)) := keeps_setCells (by simp) _ _ _ _ (Keeps.refl _ _)
  refine ⟨h.st.keeps hk (by have := h.ne; simp; omega), ?_, h.ne, h.gS, h.kS, h.keeps.trans hk (fun k hm => by simp at hm; subst hm; exact h.gS), h.src.keeps hk (h.srcn.imp id (fun f b o e => by have := (f b o e).2; simpa using this)), h.srcn⟩
  have := RowAt_setCells (by8 xs) 0 W _ h.row (by rw [by8_length, by8_length]; omega)
  rw [show putAt (by8 rm) 0 (by8 xs) = by8 (putAt rm 0 xs) from (putAt_map _ _ _ _).symm] at this
  exact this
theorem DP.setN (h : DP w0 S kb g R cap rm n A L c xs W) (m : Int) : DP w0 S kb g R cap rm m A L c xs (W.setCell ⟨kb, 1, none⟩ (.int .i64 m)) := by
  have hk : Keeps [kb] W (W.setCell ⟨kb, 1, none⟩ (.int .i64 m)) := (Keeps.refl [kb] W).setCell (a := ⟨kb, 1, none⟩) (by simp) _
  exact ⟨h.st.set 1 _, h.row.keeps hk (by have := h.ne; simpa using this), h.ne, h.gS, h.kS, h.keeps.trans hk (fun k hm => by simp at hm; subst hm; exact .inl h.kS), h.src.keeps hk (h.srcn.imp id (fun f b o e => by have := (f b o e).1; simpa using this)), h.srcn⟩
end
theorem made8' (n : Nat) : (madeCells (Value.int .u8 0).cells (n * 1)).toList = by8 (zs n) := by
  rw [Nat.mul_one]
  exact made8 n
/-- a desk with a new room -/
theorem lend_new {w w1 : World} {S : List Nat} {kb N : Nat} {rv : Value} {n : Int} {A : Option Addr} {L c : Nat} {xs : List Int} (hs : StrAt w kb #[rv, .int .i64 n] 82) (hb : TSl w A L c xs) (hA : L = 0 ∨ ∀ b o, A = some ⟨b, o, none⟩ → b ≠ kb ∧ rv.ownBlock ≠ some b) (hkS : kb ∈ S)
    (hr : RowAt w1 w.heap.size 5 1 N N (by8 (zs N))) (hk : Keeps [] w w1) : DP w S kb w.heap.size N N (zs N) n A L c xs (w1.setCell ⟨kb, 0, none⟩ (.slice (some ⟨w.heap.size, 0, none⟩) N N)) := by
  have hlt := hs.lt
  have k2 : Keeps [kb] w1 (w1.setCell ⟨kb, 0, none⟩ (.slice (some ⟨w.heap.size, 0, none⟩) N N)) := (Keeps.refl [kb] w1).setCell (a := ⟨kb, 0, none⟩) (by simp) _
  have k1 : Keeps [kb] w w1 := hk.mono (by simp)
  refine ⟨?_, hr.keeps k2 (by simp; omega), by omega, .inr (Nat.le_refl _), hkS, (k1.trans' k2).mono (fun k hm => by simp at hm; subst hm; exact .inl hkS), hb.keeps (k1.trans' k2) (hA.imp id (fun f b o e => by have := (f b o e).1; simpa using this)), ?_⟩
  · exact (hs.keeps hk (by simp)).set 0 _
  · rcases hA with h0 | f
    · exact .inl h0
    · rcases hb.2.2 with h0 | ⟨g', o', e1, _, hlt'⟩
      · exact .inl h0
      · refine .inr fun b o e => ⟨(f b o e).1, ?_⟩
        rw [e1] at e; cases e; omega
end Go.Proofs.YtgcpcgcfpjolnaaDoor.G
-- (*kilnlaw1.Desk).Lend. Printed by gendsk2.py and expand.py.
namespace Go.Proofs.YtgcpcgcfpjolnaaDoor.G
open Go.RowKit Go.Proofs.YtgcpcgcfpjolnaaDoorW.PrintWords Go.Proofs.YtgcpcgcfpjolnaaDoorW.PrintLast Go.Proofs.YtgcpcgcfpjolnaaDoorW.PrintMore
set_option linter.unusedVariables false
set_option linter.unusedSimpArgs false
set_option maxRecDepth 10000
/-- what a desk holds that lends these bytes -/
def lendL (xs : List Int) (R : Nat) : List Int := putAt (mkL R) 0 xs
theorem c2 (L : Nat) (h : L ≤ 100000) : IntKind.i64.wrap (2 * (L : Int)) = 2 * (L : Int) := IntWalk.i64_in _ (by omega)
theorem c70 (L : Nat) (h : L ≤ 100000) : IntKind.i64.wrap (2 * (L : Int) + 70) = 2 * (L : Int) + 70 := IntWalk.i64_in _ (by omega)
theorem c512 (L : Nat) (h : L ≤ 100000) : IntKind.i64.wrap (2 * (L : Int) + 512) = 2 * (L : Int) + 512 := IntWalk.i64_in _ (by omega)
set_option maxHeartbeats 4000000 in
theorem lend_calls {w : World} {kb R : Nat} {rv : Value} {rm : List Int} {n : Int} (hs : StrAt w kb #[rv, .int .i64 n] 82) (hr : w.ownsRow 0 5 1 rv R (by8 rm)) (hne : rv.ownBlock ≠ some kb) {A : Option Addr} {L c : Nat} {xs : List Int} (hb : TSl w A L c xs) (hA : L = 0 ∨ ∀ b o, A = some ⟨b, o, none⟩ → b ≠ kb ∧ rv.ownBlock ≠ some b) (hL : L ≤ 100000) (hR : R ≤ 1000000) :
    Calls Tryd.prog 37 #[.pointer (some ⟨kb, 0, none⟩), .slice A L c] w fun e w' => ∃ g R1 cap, e = .returned (.slice (some ⟨g, 0, none⟩) L cap) ∧ 2 * L + 70 ≤ R1 ∧ R1 ≤ 1000000 ∧ DP w (kb :: rv.ownBlock.toList) kb g R1 cap (lendL xs R1) (L : Int) A L c xs w' := by
  have hxl := hb.1
  obtain ⟨S, hS⟩ : ∃ S, S = kb :: rv.ownBlock.toList := ⟨_, rfl⟩
  rw [← hS]
  have hkS : kb ∈ S := by rw [hS]; exact List.mem_cons_self ..
  have s0 : w.cell? ⟨kb, 0, none⟩ = some rv := by rw [hs.cell 0]; rfl
  have f0 := hs.frozen 0
  have w2 := c2 L hL
  have w70 := c70 L hL
  have w512 := c512 L hL
  have hrl : rm.length = R := by have := hr.1; rw [by8_length] at this; omega
  obtain ⟨Ar, cr, hrv, hcr, _, hform⟩ := own_C (k := .u8) hr
  by_cases hm : R < 2 * L + 70
  · have b1 : ((R : Int) < 2 * (L : Int) + 70) = True := eq_true (by omega)
    obtain ⟨N, hN⟩ : ∃ N, N = 2 * L + 512 := ⟨_, rfl⟩
    have HST := Lib.hid hs
    have HBS := Lib.hid hb
    have HAA := Lib.hid hA
    have HKS := Lib.hid hkS
    have HNN := Lib.hid hN
    rw [hrv] at s0
    have HRV := Lib.hid hrv
    clear hs hb hA hform hrl hr hxl hkS hS hne hrv hm hN
    go_enter Tryd.func37, Tryd.ntmps37
    go_wp2_with (refine wp_make rfl _ _ 22 5 (.int .u8 0) 1 1 rfl Tryd.underlying22 info5c N rfl rfl (by have := HNN.out; omega) (by have := HNN.out; omega) (by have := HNN.out; omega) (by have := HNN.out; simp only [maxLen]; omega) ?_; intro w1 hr1 hk1; rw [made8'] at hr1; have st1 := HST.out.keeps hk1 (by simp); have c0 : w1.cell? ⟨kb, 0, none⟩ = some rv := (by rw [st1.cell 0]; rfl); rw [HRV.out] at c0; have f01 := st1.frozen 0; clear s0 f0; have D := Lib.hid (lend_new (S := S) HST.out HBS.out HAA.out HKS.out hr1 hk1))
    generalize w.heap.size = g at D ⊢
    have hr1 : (zs N).length = N := zs_length N
    have hlr : 2 * L + 70 ≤ N := by have := HNN.out; omega
    have hr2 : N ≤ 1000000 := by have := HNN.out; omega
    have D0 := Lib.hid (show DP w S kb g N N (mks 0 (zs N)) n A L c xs _ from by rw [mks_zero]; exact D.out)
    have HR1 := Lib.hid hr1
    have HLR := Lib.hid hlr
    have hR1 : N ≤ 1000000 := hr2
    clear D
    go_loopg [5] N (fun q iv W => ∃ i : Nat, iv = .int .i64 (i : Int) ∧ i ≤ N ∧ N - i ≤ q ∧ Hid (DP w S kb g N N (mks i (zs N)) n A L c xs W))
    case atStart => exact ⟨0, rfl, Nat.zero_le _, Nat.le_refl _, D0⟩
    case round =>
      obtain ⟨i, rfl, hi, hq, D⟩ := hrel
      clear D0
      have c0 := D.out.cell0
      by_cases hiR : i < N
      · have b1 : ((i : Int) < (N : Int)) = True := eq_true (by omega)
        have HIR := Lib.hid hiR
        have hset : (mks i (zs N)).set i (mkI i) = mks (i + 1) (zs N) := mks_set i (zs N) (by rw [HR1.out]; exact hiR)
        have HSET := Lib.hid hset
        clear hset
        have HMK := Lib.hid (show ∀ W, Calls Tryd.prog 79 #[.int .i64 (i : Int)] W fun e w' => e = .returned (.int .u8 (mkI i)) ∧ Keeps [] W w' from fun W => mark_calls i (by omega) W)
        go_wp2
        have D1 := Lib.hid (D.out.blank (drew_keepsC _))
        clear c0
        refine wp_region_held_drew (S := fun W => W.cell? ⟨kb, 0, none⟩ = some (.slice (some ⟨g, 0, none⟩) N N)) (by kernel_rfl) (D1.out.cell0) (fun hHeld => ?_)
        refine wpAnyH_take (i := 0) (oi := { dst := some 33, op := Op.move (Operand.tmp 0), type := 80, pos := "again.go:25", after := #[], guard := none }) (v := ?_) rfl (by kernel_rfl) (by kernel_rfl) (by kernel_rfl) (fun _ _ _ h => h) (Or.inl ⟨by kernel_rfl, ?_⟩) (by assumption) ?_
        rotate_left
        · (intro w9 hSw; clear hSw; go_simp; try with_reducible rfl)
        try simp only [Act.put, List.setIfInBounds_toArray, List.set_cons_zero, List.set_cons_succ]
        refine wpAnyH_take (i := 1) (oi := { dst := some 34, op := Op.nilCheck (Operand.tmp 33), type := 0, pos := "again.go:25", after := #[{ on := 0, ground := Ground.data }], guard := none }) (v := ?_) rfl (by kernel_rfl) (by kernel_rfl) (by kernel_rfl) (fun _ _ _ h => h) (Or.inl ⟨by kernel_rfl, ?_⟩) (by assumption) ?_
        rotate_left
        · (intro w9 hSw; clear hSw; go_simp; try with_reducible rfl)
        try simp only [Act.put, List.setIfInBounds_toArray, List.set_cons_zero, List.set_cons_succ]
        refine wpAnyH_take (i := 2) (oi := { dst := some 35, op := Op.fieldAddr 82 (Operand.tmp 34) 0, type := 0, pos := "again.go:25", after := #[{ on := 1, ground := Ground.data }], guard := none }) (v := ?_) rfl (by kernel_rfl) (by kernel_rfl) (by kernel_rfl) (fun _ _ _ h => h) (Or.inl ⟨by kernel_rfl, ?_⟩) (by assumption) ?_
        rotate_left
        · (intro w9 hSw; clear hSw; go_simp; try with_reducible rfl)
        try simp only [Act.put, List.setIfInBounds_toArray, List.set_cons_zero, List.set_cons_succ]
        refine wpAnyH_take (i := 3) (oi := { dst := some 36, op := Op.load 22 (Operand.tmp 35), type := 22, pos := "again.go:25", after := #[{ on := 2, ground := Ground.data }], guard := none }) (v := ?_) rfl (by kernel_rfl) (by kernel_rfl) (by kernel_rfl) (fun _ _ _ h => h) (Or.inl ⟨by kernel_rfl, ?_⟩) (by assumption) ?_
        rotate_left
        · (intro w9 hSw; (try dsimp only at hSw); go_simp; try with_reducible rfl)
        try simp only [Act.put, List.setIfInBounds_toArray, List.set_cons_zero, List.set_cons_succ]
        refine wpAnyH_take (i := 4) (oi := { dst := some 37, op := Op.move (Operand.tmp 5), type := 3, pos := "again.go:25", after := #[], guard := none }) (v := ?_) rfl (by kernel_rfl) (by kernel_rfl) (by kernel_rfl) (fun _ _ _ h => h) (Or.inl ⟨by kernel_rfl, ?_⟩) (by assumption) ?_
        rotate_left
        · (intro w9 hSw; clear hSw; go_simp; try with_reducible rfl)
        try simp only [Act.put, List.setIfInBounds_toArray, List.set_cons_zero, List.set_cons_succ]
        refine wpAnyH_take (i := 5) (oi := { dst := some 38, op := Op.move (Operand.tmp 5), type := 3, pos := "again.go:25", after := #[], guard := none }) (v := ?_) rfl (by kernel_rfl) (by kernel_rfl) (by kernel_rfl) (fun _ _ _ h => h) (Or.inl ⟨by kernel_rfl, ?_⟩) (by assumption) ?_
        rotate_left
        · (intro w9 hSw; clear hSw; go_simp; try with_reducible rfl)
        try simp only [Act.put, List.setIfInBounds_toArray, List.set_cons_zero, List.set_cons_succ]
        refine wpAnyH_ready (rs := [6]) (by kernel_rfl) (by simp) ?_
        refine AllReadyH.cons (o := { dst := some 39, op := Op.call { callee := Callee.value (Operand.func 79), args := #[Operand.tmp 38], argTypes := #[3] }, type := 5, pos := "again.go:25", after := #[{ on := 5, ground := Ground.data }], guard := none }) rfl (fun K hK => ?_) AllReadyH.nil
        go_simp
        refine (HMK.out _).mono ?_
        rintro e w2 ⟨rfl, k9⟩
        have D2 := Lib.hid (D1.out.blank k9)
        clear k9
        have ci := D2.out.at_ i HIR.out
        have fi := D2.out.row.frozen i
        refine hK.out _ _ (D2.out.cell0) (fun hHeld6 => ?_)
        clear hK K hHeld
        try simp only [Act.put, List.setIfInBounds_toArray, List.set_cons_zero, List.set_cons_succ]
        refine wpAnyH_take (i := 7) (oi := { dst := some 40, op := Op.indexAddr 22 (Operand.tmp 36) (Operand.tmp 37), type := 0, pos := "again.go:25", after := #[{ on := 3, ground := Ground.data }, { on := 4, ground := Ground.data }, { on := 0, ground := Ground.phase }, { on := 1, ground := Ground.phase }, { on := 2, ground := Ground.phase }, { on := 3, ground := Ground.phase }, { on := 4, ground := Ground.phase }, { on := 5, ground := Ground.phase }, { on := 6, ground := Ground.phase }], guard := none }) (v := ?_) rfl (by kernel_rfl) (by kernel_rfl) (by kernel_rfl) (fun _ _ _ h => h) (Or.inl ⟨by kernel_rfl, ?_⟩) (by assumption) ?_
        rotate_left
        · (intro w9 hSw; clear hSw; go_simp; try with_reducible rfl)
        try simp only [Act.put, List.setIfInBounds_toArray, List.set_cons_zero, List.set_cons_succ]
        refine wpAnyH_ready (rs := [8]) (by kernel_rfl) (by simp) ?_
        refine AllReadyH.cons (o := { dst := none, op := Op.store 5 (Operand.tmp 40) (Operand.tmp 39), type := 0, pos := "again.go:25", after := #[{ on := 7, ground := Ground.data }, { on := 6, ground := Ground.data }, { on := 6, ground := Ground.chain }, { on := 0, ground := Ground.phase }, { on := 1, ground := Ground.phase }, { on := 2, ground := Ground.phase }, { on := 3, ground := Ground.phase }, { on := 4, ground := Ground.phase }, { on := 5, ground := Ground.phase }, { on := 6, ground := Ground.phase }], guard := none }) rfl (fun K hK => ?_) AllReadyH.nil
        go_simp
        have D3 := Lib.hid (D2.out.set i (mkI i))
        rw [HSET.out] at D3
        refine hK.out _ _ (D3.out.cell0) (fun hHeld8 => ?_)
        clear hK K hHeld6
        try simp only [Act.put, List.setIfInBounds_toArray, List.set_cons_zero, List.set_cons_succ]
        refine wpAnyH_done (by kernel_rfl) ?_ _
        go_wp2
        go_roundg (N - (i + 1))
        case measure => omega
        case rel => exact ⟨i + 1, by go_num, by omega, by omega, D3⟩
      · have b1 : ((i : Int) < (N : Int)) = False := eq_false (by omega)
        have hie : N = i := by omega
        subst hie
        have D2 := Lib.hid (show DP w S kb g N N (mkL N) n A L c xs _ from by have := D.out; rw [mks_all' _ _ HR1.out] at this; exact this)
        clear D
        have HCP := Lib.hid (D2.out.src.C (by have := HLR.out; omega))
        have HRW := Lib.hid D2.out.row
        have D4 := Lib.hid (D2.out.copy (by have := HLR.out; omega))
        have hLi : ((L : Int) ≤ ( N : Int)) = True := eq_true (by have := HLR.out; have := D2.out.row.capLe.1; omega)
        have hLi2 : L ≤ N := by have := HLR.out; have := D2.out.row.capLe.1; omega
        go_wp2_with (refine wp_copy8 rfl (.tmp 44) (.tmp 45) 22 22 5 rfl Tryd.underlying22 info5s rfl rfl HCP.out HRW.out (by omega) ?_; generalize hW7 : World.setCells _ _ _ _ = w7 at D4 ⊢; clear hW7 c0 D2 HCP HRW; have c0 := D4.out.cell0; have c1 := D4.out.cell1; have f1 := D4.out.st.frozen 1; have D5 := Lib.hid (D4.out.setN (L : Int)); clear D4)
        have c9 := D5.out.cell0
        go_wp2
        go_ret
        exact ⟨g, _, _, rfl, HLR.out, by omega, D5.out⟩
  · have b1 : ((R : Int) < 2 * (L : Int) + 70) = False := eq_false (by omega)
    obtain ⟨g, rfl, hrow⟩ : ∃ g, Ar = some ⟨g, 0, none⟩ ∧ RowAt w g 5 1 R cr (by8 rm) := by
      rcases hform with ⟨_, h0, _⟩ | h1
      · omega
      · exact h1
    have D : Hid (DP w S kb g R cr rm n A L c xs w) := Lib.hid ⟨by rw [← hrv]; exact hs, hrow, fun e => hne (by rw [hrv, e]; rfl), .inl (by rw [hS, hrv]; simp [Value.ownBlock]), hkS, Keeps.refl _ _, hb, hA.imp id (fun f b o e => ⟨(f b o e).1, fun e2 => (f b o e).2 (by rw [hrv, e2]; rfl)⟩)⟩
    rw [hrv] at s0
    have hlr : 2 * L + 70 ≤ R := by omega
    have hr2 : R ≤ 1000000 := hR
    have hr1 := hrl
    clear hs hb hA hrl hr hxl hkS hS hrow f0 hrv hne
    go_enter Tryd.func37, Tryd.ntmps37
    go_wp2
    clear s0
    have D0 := Lib.hid (show DP w S kb g R cr (mks 0 rm) n A L c xs _ from by rw [mks_zero]; exact D.out)
    have HR1 := Lib.hid hr1
    have HLR := Lib.hid hlr
    have hR1 : R ≤ 1000000 := hr2
    clear D
    go_loopg [5] R (fun q iv W => ∃ i : Nat, iv = .int .i64 (i : Int) ∧ i ≤ R ∧ R - i ≤ q ∧ Hid (DP w S kb g R cr (mks i rm) n A L c xs W))
    case atStart => exact ⟨0, rfl, Nat.zero_le _, Nat.le_refl _, D0⟩
    case round =>
      obtain ⟨i, rfl, hi, hq, D⟩ := hrel
      clear D0
      have c0 := D.out.cell0
      by_cases hiR : i < R
      · have b1 : ((i : Int) < (R : Int)) = True := eq_true (by omega)
        have HIR := Lib.hid hiR
        have hset : (mks i rm).set i (mkI i) = mks (i + 1) rm := mks_set i rm (by rw [HR1.out]; exact hiR)
        have HSET := Lib.hid hset
        clear hset
        have HMK := Lib.hid (show ∀ W, Calls Tryd.prog 79 #[.int .i64 (i : Int)] W fun e w' => e = .returned (.int .u8 (mkI i)) ∧ Keeps [] W w' from fun W => mark_calls i (by omega) W)
        go_wp2
        have D1 := Lib.hid (D.out.blank (drew_keepsC _))
        clear c0
        refine wp_region_held_drew (S := fun W => W.cell? ⟨kb, 0, none⟩ = some (.slice (some ⟨g, 0, none⟩) R cr)) (by kernel_rfl) (D1.out.cell0) (fun hHeld => ?_)
        refine wpAnyH_take (i := 0) (oi := { dst := some 33, op := Op.move (Operand.tmp 0), type := 80, pos := "again.go:25", after := #[], guard := none }) (v := ?_) rfl (by kernel_rfl) (by kernel_rfl) (by kernel_rfl) (fun _ _ _ h => h) (Or.inl ⟨by kernel_rfl, ?_⟩) (by assumption) ?_
        rotate_left
        · (intro w9 hSw; clear hSw; go_simp; try with_reducible rfl)
        try simp only [Act.put, List.setIfInBounds_toArray, List.set_cons_zero, List.set_cons_succ]
        refine wpAnyH_take (i := 1) (oi := { dst := some 34, op := Op.nilCheck (Operand.tmp 33), type := 0, pos := "again.go:25", after := #[{ on := 0, ground := Ground.data }], guard := none }) (v := ?_) rfl (by kernel_rfl) (by kernel_rfl) (by kernel_rfl) (fun _ _ _ h => h) (Or.inl ⟨by kernel_rfl, ?_⟩) (by assumption) ?_
        rotate_left
        · (intro w9 hSw; clear hSw; go_simp; try with_reducible rfl)
        try simp only [Act.put, List.setIfInBounds_toArray, List.set_cons_zero, List.set_cons_succ]
        refine wpAnyH_take (i := 2) (oi := { dst := some 35, op := Op.fieldAddr 82 (Operand.tmp 34) 0, type := 0, pos := "again.go:25", after := #[{ on := 1, ground := Ground.data }], guard := none }) (v := ?_) rfl (by kernel_rfl) (by kernel_rfl) (by kernel_rfl) (fun _ _ _ h => h) (Or.inl ⟨by kernel_rfl, ?_⟩) (by assumption) ?_
        rotate_left
        · (intro w9 hSw; clear hSw; go_simp; try with_reducible rfl)
        try simp only [Act.put, List.setIfInBounds_toArray, List.set_cons_zero, List.set_cons_succ]
        refine wpAnyH_take (i := 3) (oi := { dst := some 36, op := Op.load 22 (Operand.tmp 35), type := 22, pos := "again.go:25", after := #[{ on := 2, ground := Ground.data }], guard := none }) (v := ?_) rfl (by kernel_rfl) (by kernel_rfl) (by kernel_rfl) (fun _ _ _ h => h) (Or.inl ⟨by kernel_rfl, ?_⟩) (by assumption) ?_
        rotate_left
        · (intro w9 hSw; (try dsimp only at hSw); go_simp; try with_reducible rfl)
        try simp only [Act.put, List.setIfInBounds_toArray, List.set_cons_zero, List.set_cons_succ]
        refine wpAnyH_take (i := 4) (oi := { dst := some 37, op := Op.move (Operand.tmp 5), type := 3, pos := "again.go:25", after := #[], guard := none }) (v := ?_) rfl (by kernel_rfl) (by kernel_rfl) (by kernel_rfl) (fun _ _ _ h => h) (Or.inl ⟨by kernel_rfl, ?_⟩) (by assumption) ?_
        rotate_left
        · (intro w9 hSw; clear hSw; go_simp; try with_reducible rfl)
        try simp only [Act.put, List.setIfInBounds_toArray, List.set_cons_zero, List.set_cons_succ]
        refine wpAnyH_take (i := 5) (oi := { dst := some 38, op := Op.move (Operand.tmp 5), type := 3, pos := "again.go:25", after := #[], guard := none }) (v := ?_) rfl (by kernel_rfl) (by kernel_rfl) (by kernel_rfl) (fun _ _ _ h => h) (Or.inl ⟨by kernel_rfl, ?_⟩) (by assumption) ?_
        rotate_left
        · (intro w9 hSw; clear hSw; go_simp; try with_reducible rfl)
        try simp only [Act.put, List.setIfInBounds_toArray, List.set_cons_zero, List.set_cons_succ]
        refine wpAnyH_ready (rs := [6]) (by kernel_rfl) (by simp) ?_
        refine AllReadyH.cons (o := { dst := some 39, op := Op.call { callee := Callee.value (Operand.func 79), args := #[Operand.tmp 38], argTypes := #[3] }, type := 5, pos := "again.go:25", after := #[{ on := 5, ground := Ground.data }], guard := none }) rfl (fun K hK => ?_) AllReadyH.nil
        go_simp
        refine (HMK.out _).mono ?_
        rintro e w2 ⟨rfl, k9⟩
        have D2 := Lib.hid (D1.out.blank k9)
        clear k9
        have ci := D2.out.at_ i HIR.out
        have fi := D2.out.row.frozen i
        refine hK.out _ _ (D2.out.cell0) (fun hHeld6 => ?_)
        clear hK K hHeld
        try simp only [Act.put, List.setIfInBounds_toArray, List.set_cons_zero, List.set_cons_succ]
        refine wpAnyH_take (i := 7) (oi := { dst := some 40, op := Op.indexAddr 22 (Operand.tmp 36) (Operand.tmp 37), type := 0, pos := "again.go:25", after := #[{ on := 3, ground := Ground.data }, { on := 4, ground := Ground.data }, { on := 0, ground := Ground.phase }, { on := 1, ground := Ground.phase }, { on := 2, ground := Ground.phase }, { on := 3, ground := Ground.phase }, { on := 4, ground := Ground.phase }, { on := 5, ground := Ground.phase }, { on := 6, ground := Ground.phase }], guard := none }) (v := ?_) rfl (by kernel_rfl) (by kernel_rfl) (by kernel_rfl) (fun _ _ _ h => h) (Or.inl ⟨by kernel_rfl, ?_⟩) (by assumption) ?_
        rotate_left
        · (intro w9 hSw; clear hSw; go_simp; try with_reducible rfl)
        try simp only [Act.put, List.setIfInBounds_toArray, List.set_cons_zero, List.set_cons_succ]
        refine wpAnyH_ready (rs := [8]) (by kernel_rfl) (by simp) ?_
        refine AllReadyH.cons (o := { dst := none, op := Op.store 5 (Operand.tmp 40) (Operand.tmp 39), type := 0, pos := "again.go:25", after := #[{ on := 7, ground := Ground.data }, { on := 6, ground := Ground.data }, { on := 6, ground := Ground.chain }, { on := 0, ground := Ground.phase }, { on := 1, ground := Ground.phase }, { on := 2, ground := Ground.phase }, { on := 3, ground := Ground.phase }, { on := 4, ground := Ground.phase }, { on := 5, ground := Ground.phase }, { on := 6, ground := Ground.phase }], guard := none }) rfl (fun K hK => ?_) AllReadyH.nil
        go_simp
        have D3 := Lib.hid (D2.out.set i (mkI i))
        rw [HSET.out] at D3
        refine hK.out _ _ (D3.out.cell0) (fun hHeld8 => ?_)
        clear hK K hHeld6
        try simp only [Act.put, List.setIfInBounds_toArray, List.set_cons_zero, List.set_cons_succ]
        refine wpAnyH_done (by kernel_rfl) ?_ _
        go_wp2
        go_roundg (R - (i + 1))
        case measure => omega
        case rel => exact ⟨i + 1, by go_num, by omega, by omega, D3⟩
      · have b1 : ((i : Int) < (R : Int)) = False := eq_false (by omega)
        have hie : R = i := by omega
        subst hie
        have D2 := Lib.hid (show DP w S kb g R cr (mkL R) n A L c xs _ from by have := D.out; rw [mks_all' _ _ HR1.out] at this; exact this)
        clear D
        have HCP := Lib.hid (D2.out.src.C (by have := HLR.out; omega))
        have HRW := Lib.hid D2.out.row
        have D4 := Lib.hid (D2.out.copy (by have := HLR.out; omega))
        have hLi : ((L : Int) ≤ ( cr : Int)) = True := eq_true (by have := HLR.out; have := D2.out.row.capLe.1; omega)
        have hLi2 : L ≤ cr := by have := HLR.out; have := D2.out.row.capLe.1; omega
        go_wp2_with (refine wp_copy8 rfl (.tmp 44) (.tmp 45) 22 22 5 rfl Tryd.underlying22 info5s rfl rfl HCP.out HRW.out (by omega) ?_; generalize hW7 : World.setCells _ _ _ _ = w7 at D4 ⊢; clear hW7 c0 D2 HCP HRW; have c0 := D4.out.cell0; have c1 := D4.out.cell1; have f1 := D4.out.st.frozen 1; have D5 := Lib.hid (D4.out.setN (L : Int)); clear D4)
        have c9 := D5.out.cell0
        go_wp2
        go_ret
        exact ⟨g, _, _, rfl, HLR.out, by omega, D5.out⟩
end Go.Proofs.YtgcpcgcfpjolnaaDoor.G
-- (*kilnlaw1.Desk).Back, Wipe.
namespace Go.Proofs.YtgcpcgcfpjolnaaDoor.G
open Go.RowKit Go.Proofs.YtgcpcgcfpjolnaaDoorW.PrintWords Go.Proofs.YtgcpcgcfpjolnaaDoorW.PrintLast Go.Proofs.YtgcpcgcfpjolnaaDoorW.PrintMore
set_option linter.unusedVariables false
set_option linter.unusedSimpArgs false
set_option maxRecDepth 10000
theorem lendL_length (xs : List Int) (R : Nat) (h : xs.length ≤ R) : (lendL xs R).length = R := by
  unfold lendL; rw [putAt_length _ _ _ (by rw [mkL_length]; omega), mkL_length]
theorem lendL_eq (xs : List Int) (R : Nat) (h : xs.length ≤ R) : lendL xs R = xs ++ (mkL R).drop xs.length := by
  unfold lendL putAt
  simp
theorem lendL_take (xs : List Int) (R : Nat) (h : xs.length ≤ R) : (lendL xs R).take xs.length = xs := by
  rw [lendL_eq xs R h]; simp
theorem lendL_at (xs : List Int) (R i : Nat) (h : xs.length ≤ i) (hi : i < R) : (lendL xs R).getD i 0 = mkI i := by
  rw [lendL_eq xs R (by omega), List.getD_eq_getElem?_getD, List.getElem?_append_right h, List.getElem?_drop, show xs.length + (i - xs.length) = i by omega]
  unfold mkL
  rw [List.getElem?_map, List.getElem?_range hi]
  rfl
theorem same80 {w : World} {A0 A1 : Option Addr} {c0 c1 n : Nat} {l : List Int} (h0 : Kd.C (Kd.int .u8) w A0 n l) (hc0 : n ≤ c0) (h1 : Kd.C (Kd.int .u8) w A1 n l) (hc1 : n ≤ c1) :
    Calls Tryd.prog 80 #[.slice A0 n c0, .slice A1 n c1] w fun e w' => e = .returned (.bool true) ∧ Keeps [] w w' := by
  have hn : l.length = n := h0.1
  subst hn
  refine (kilnlaw1_same.calls A0 c0 l A1 c1 l true w h0 hc0 h1 hc1 (by simp [kilnlaw1_same.f])).mono ?_
  rintro e w' ⟨rfl, hd⟩
  exact ⟨rfl, drawn0_keeps hd⟩
set_option maxHeartbeats 4000000 in
theorem back_calls {w0 w : World} {S : List Nat} {kb g R cap : Nat} {A : Option Addr} {L c : Nat} {xs : List Int} (h : DP w0 S kb g R cap (lendL xs R) (L : Int) A L c xs w) (hLR : L ≤ R) (hR : R ≤ 1000000) :
    Calls Tryd.prog 38 #[.pointer (some ⟨kb, 0, none⟩), .slice A L c] w fun e w' => e = .returned (.bool true) ∧ Keeps [] w w' := by
  have hxl := h.src.1
  have HD := Lib.hid (show ∀ W, Keeps [] w W → W.cell? ⟨kb, 0, none⟩ = some (.slice (some ⟨g, 0, none⟩) R cap) ∧ W.cell? ⟨kb, 1, none⟩ = some (.int .i64 (L : Int)) from fun W hk => ⟨(h.blank hk).cell0, (h.blank hk).cell1⟩)
  have HSM := Lib.hid (show ∀ W, Keeps [] w W → Calls Tryd.prog 80 #[.slice (some ⟨g, 0, none⟩) L cap, .slice A L c] W fun e w' => e = .returned (.bool true) ∧ Keeps [] W w' from fun W hk => by
    have h1 := h.blank hk
    have h2 := C_of_range (range_take (row_range8 h1.row) L) (by rw [List.length_take, lendL_length _ _ (by omega)]; omega)
    rw [show ((lendL xs R).take L) = xs by rw [← hxl]; exact lendL_take xs R (by omega), hxl] at h2
    exact same80 h2 (by have := h.row.capLe.1; omega) (h1.src.C (by omega)) h.src.2.1)
  have HAT := Lib.hid (show ∀ W i, Keeps [] w W → L ≤ i → i < R → W.cell? ⟨g, i, none⟩ = some (.int .u8 (mkI i)) from fun W i hk h1 h2 => by
    rw [(h.blank hk).at_ i h2, lendL_at xs R i (by omega) h2])
  have HMK := Lib.hid (show ∀ W (i : Nat), i < R → Calls Tryd.prog 79 #[.int .i64 (i : Int)] W fun e w' => e = .returned (.int .u8 (mkI i)) ∧ Keeps [] W w' from fun W i hi => mark_calls i (by omega) W)
  have hLc : L ≤ cap := by have := h.row.capLe.1; omega
  have hLc2 : ((L : Int) ≤ (cap : Int)) = True := eq_true (by omega)
  have K0 := Lib.hid (drew_keepsC w)
  clear h hxl
  go_enter Tryd.func38, Tryd.ntmps38
  go_wp2
  refine wp_region_held_drew (S := fun W => W.cell? ⟨kb, 0, none⟩ = some (.slice (some ⟨g, 0, none⟩) R cap) ∧ W.cell? ⟨kb, 1, none⟩ = some (.int .i64 (L : Int))) (by kernel_rfl) (HD.out _ K0.out) (fun hHeld => ?_)
  refine wpAnyH_take (i := 0) (oi := { dst := some 6, op := Op.move (Operand.tmp 0), type := 80, pos := "again.go:34", after := #[], guard := none }) (v := ?_) rfl (by kernel_rfl) (by kernel_rfl) (by kernel_rfl) (fun _ _ _ h => h) (Or.inl ⟨by kernel_rfl, ?_⟩) (by assumption) ?_
  rotate_left
  · (intro w9 hSw; clear hSw; go_simp; try with_reducible rfl)
  try simp only [Act.put, List.setIfInBounds_toArray, List.set_cons_zero, List.set_cons_succ]
  refine wpAnyH_take (i := 1) (oi := { dst := some 7, op := Op.nilCheck (Operand.tmp 6), type := 0, pos := "again.go:34", after := #[{ on := 0, ground := Ground.data }], guard := none }) (v := ?_) rfl (by kernel_rfl) (by kernel_rfl) (by kernel_rfl) (fun _ _ _ h => h) (Or.inl ⟨by kernel_rfl, ?_⟩) (by assumption) ?_
  rotate_left
  · (intro w9 hSw; clear hSw; go_simp; try with_reducible rfl)
  try simp only [Act.put, List.setIfInBounds_toArray, List.set_cons_zero, List.set_cons_succ]
  refine wpAnyH_take (i := 2) (oi := { dst := some 8, op := Op.fieldAddr 82 (Operand.tmp 7) 1, type := 0, pos := "again.go:34", after := #[{ on := 1, ground := Ground.data }], guard := none }) (v := ?_) rfl (by kernel_rfl) (by kernel_rfl) (by kernel_rfl) (fun _ _ _ h => h) (Or.inl ⟨by kernel_rfl, ?_⟩) (by assumption) ?_
  rotate_left
  · (intro w9 hSw; clear hSw; go_simp; try with_reducible rfl)
  try simp only [Act.put, List.setIfInBounds_toArray, List.set_cons_zero, List.set_cons_succ]
  refine wpAnyH_take (i := 3) (oi := { dst := some 9, op := Op.load 3 (Operand.tmp 8), type := 3, pos := "again.go:34", after := #[{ on := 2, ground := Ground.data }], guard := none }) (v := ?_) rfl (by kernel_rfl) (by kernel_rfl) (by kernel_rfl) (fun _ _ _ h => h) (Or.inl ⟨by kernel_rfl, ?_⟩) (by assumption) ?_
  rotate_left
  · (intro w9 hSw; obtain ⟨s0, s1⟩ := hSw; (try dsimp only at hSw); go_simp; try with_reducible rfl)
  try simp only [Act.put, List.setIfInBounds_toArray, List.set_cons_zero, List.set_cons_succ]
  refine wpAnyH_take (i := 4) (oi := { dst := some 10, op := Op.move (Operand.tmp 1), type := 22, pos := "again.go:34", after := #[], guard := none }) (v := ?_) rfl (by kernel_rfl) (by kernel_rfl) (by kernel_rfl) (fun _ _ _ h => h) (Or.inl ⟨by kernel_rfl, ?_⟩) (by assumption) ?_
  rotate_left
  · (intro w9 hSw; clear hSw; go_simp; try with_reducible rfl)
  try simp only [Act.put, List.setIfInBounds_toArray, List.set_cons_zero, List.set_cons_succ]
  refine wpAnyH_take (i := 5) (oi := { dst := some 11, op := Op.call { callee := Callee.builtin Builtin.len, args := #[Operand.tmp 10], argTypes := #[22] }, type := 3, pos := "again.go:34", after := #[{ on := 4, ground := Ground.data }], guard := none }) (v := ?_) rfl (by kernel_rfl) (by kernel_rfl) (by kernel_rfl) (fun _ _ _ h => h) (Or.inl ⟨by kernel_rfl, ?_⟩) (by assumption) ?_
  rotate_left
  · (intro w9 hSw; clear hSw; go_simp; try with_reducible rfl)
  try simp only [Act.put, List.setIfInBounds_toArray, List.set_cons_zero, List.set_cons_succ]
  refine wpAnyH_take (i := 6) (oi := { dst := some 12, op := Op.binOp BinOp.neq 3 (Operand.tmp 9) (Operand.tmp 11) 3, type := 4, pos := "again.go:34", after := #[{ on := 3, ground := Ground.data }, { on := 5, ground := Ground.data }], guard := none }) (v := ?_) rfl (by kernel_rfl) (by kernel_rfl) (by kernel_rfl) (fun _ _ _ h => h) (Or.inl ⟨by kernel_rfl, ?_⟩) (by assumption) ?_
  rotate_left
  · (intro w9 hSw; clear hSw; go_simp; try with_reducible rfl)
  try simp only [Act.put, List.setIfInBounds_toArray, List.set_cons_zero, List.set_cons_succ]
  refine wpAnyH_take (i := 7) (oi := { dst := some 13, op := Op.move (Operand.tmp 12), type := 4, pos := "again.go:34", after := #[{ on := 6, ground := Ground.data }], guard := none }) (v := ?_) rfl (by kernel_rfl) (by kernel_rfl) (by kernel_rfl) (fun _ _ _ h => h) (Or.inl ⟨by kernel_rfl, ?_⟩) (by assumption) ?_
  rotate_left
  · (intro w9 hSw; clear hSw; go_simp; try with_reducible rfl)
  try simp only [Act.put, List.setIfInBounds_toArray, List.set_cons_zero, List.set_cons_succ]
  refine wpAnyH_take (i := 8) (oi := { dst := some 14, op := Op.move (Operand.tmp 0), type := 80, pos := "again.go:34", after := #[{ on := 7, ground := Ground.guard }], guard := some (7, false) }) (v := ?_) rfl (by kernel_rfl) (by kernel_rfl) (by kernel_rfl) (fun _ _ _ h => h) (Or.inl ⟨by kernel_rfl, ?_⟩) (by assumption) ?_
  rotate_left
  · (intro w9 hSw; clear hSw; go_simp; try with_reducible rfl)
  try simp only [Act.put, List.setIfInBounds_toArray, List.set_cons_zero, List.set_cons_succ]
  refine wpAnyH_take (i := 9) (oi := { dst := some 15, op := Op.nilCheck (Operand.tmp 14), type := 0, pos := "again.go:34", after := #[{ on := 8, ground := Ground.data }, { on := 7, ground := Ground.guard }], guard := some (7, false) }) (v := ?_) rfl (by kernel_rfl) (by kernel_rfl) (by kernel_rfl) (fun _ _ _ h => h) (Or.inl ⟨by kernel_rfl, ?_⟩) (by assumption) ?_
  rotate_left
  · (intro w9 hSw; clear hSw; go_simp; try with_reducible rfl)
  try simp only [Act.put, List.setIfInBounds_toArray, List.set_cons_zero, List.set_cons_succ]
  refine wpAnyH_take (i := 10) (oi := { dst := some 16, op := Op.fieldAddr 82 (Operand.tmp 15) 0, type := 0, pos := "again.go:34", after := #[{ on := 9, ground := Ground.data }, { on := 7, ground := Ground.guard }], guard := some (7, false) }) (v := ?_) rfl (by kernel_rfl) (by kernel_rfl) (by kernel_rfl) (fun _ _ _ h => h) (Or.inl ⟨by kernel_rfl, ?_⟩) (by assumption) ?_
  rotate_left
  · (intro w9 hSw; clear hSw; go_simp; try with_reducible rfl)
  try simp only [Act.put, List.setIfInBounds_toArray, List.set_cons_zero, List.set_cons_succ]
  refine wpAnyH_take (i := 11) (oi := { dst := some 17, op := Op.load 22 (Operand.tmp 16), type := 22, pos := "again.go:34", after := #[{ on := 10, ground := Ground.data }, { on := 7, ground := Ground.guard }], guard := some (7, false) }) (v := ?_) rfl (by kernel_rfl) (by kernel_rfl) (by kernel_rfl) (fun _ _ _ h => h) (Or.inl ⟨by kernel_rfl, ?_⟩) (by assumption) ?_
  rotate_left
  · (intro w9 hSw; obtain ⟨s0, s1⟩ := hSw; (try dsimp only at hSw); go_simp; try with_reducible rfl)
  try simp only [Act.put, List.setIfInBounds_toArray, List.set_cons_zero, List.set_cons_succ]
  refine wpAnyH_take (i := 12) (oi := { dst := some 18, op := Op.move (Operand.tmp 0), type := 80, pos := "again.go:34", after := #[{ on := 7, ground := Ground.guard }], guard := some (7, false) }) (v := ?_) rfl (by kernel_rfl) (by kernel_rfl) (by kernel_rfl) (fun _ _ _ h => h) (Or.inl ⟨by kernel_rfl, ?_⟩) (by assumption) ?_
  rotate_left
  · (intro w9 hSw; clear hSw; go_simp; try with_reducible rfl)
  try simp only [Act.put, List.setIfInBounds_toArray, List.set_cons_zero, List.set_cons_succ]
  refine wpAnyH_take (i := 13) (oi := { dst := some 19, op := Op.nilCheck (Operand.tmp 18), type := 0, pos := "again.go:34", after := #[{ on := 12, ground := Ground.data }, { on := 7, ground := Ground.guard }], guard := some (7, false) }) (v := ?_) rfl (by kernel_rfl) (by kernel_rfl) (by kernel_rfl) (fun _ _ _ h => h) (Or.inl ⟨by kernel_rfl, ?_⟩) (by assumption) ?_
  rotate_left
  · (intro w9 hSw; clear hSw; go_simp; try with_reducible rfl)
  try simp only [Act.put, List.setIfInBounds_toArray, List.set_cons_zero, List.set_cons_succ]
  refine wpAnyH_take (i := 14) (oi := { dst := some 20, op := Op.fieldAddr 82 (Operand.tmp 19) 1, type := 0, pos := "again.go:34", after := #[{ on := 13, ground := Ground.data }, { on := 7, ground := Ground.guard }], guard := some (7, false) }) (v := ?_) rfl (by kernel_rfl) (by kernel_rfl) (by kernel_rfl) (fun _ _ _ h => h) (Or.inl ⟨by kernel_rfl, ?_⟩) (by assumption) ?_
  rotate_left
  · (intro w9 hSw; clear hSw; go_simp; try with_reducible rfl)
  try simp only [Act.put, List.setIfInBounds_toArray, List.set_cons_zero, List.set_cons_succ]
  refine wpAnyH_take (i := 15) (oi := { dst := some 21, op := Op.load 3 (Operand.tmp 20), type := 3, pos := "again.go:34", after := #[{ on := 14, ground := Ground.data }, { on := 7, ground := Ground.guard }], guard := some (7, false) }) (v := ?_) rfl (by kernel_rfl) (by kernel_rfl) (by kernel_rfl) (fun _ _ _ h => h) (Or.inl ⟨by kernel_rfl, ?_⟩) (by assumption) ?_
  rotate_left
  · (intro w9 hSw; obtain ⟨s0, s1⟩ := hSw; (try dsimp only at hSw); go_simp; try with_reducible rfl)
  try simp only [Act.put, List.setIfInBounds_toArray, List.set_cons_zero, List.set_cons_succ]
  refine wpAnyH_take (i := 16) (oi := { dst := some 22, op := Op.slice 22 (Operand.tmp 17) none (some (Operand.tmp 21)) none, type := 22, pos := "again.go:34", after := #[{ on := 11, ground := Ground.data }, { on := 15, ground := Ground.data }, { on := 7, ground := Ground.guard }], guard := some (7, false) }) (v := ?_) rfl (by kernel_rfl) (by kernel_rfl) (by kernel_rfl) (fun _ _ _ h => h) (Or.inl ⟨by kernel_rfl, ?_⟩) (by assumption) ?_
  rotate_left
  · (intro w9 hSw; clear hSw; go_simp; try with_reducible rfl)
  try simp only [Act.put, List.setIfInBounds_toArray, List.set_cons_zero, List.set_cons_succ]
  refine wpAnyH_take (i := 17) (oi := { dst := some 23, op := Op.move (Operand.tmp 1), type := 22, pos := "again.go:34", after := #[{ on := 7, ground := Ground.guard }], guard := some (7, false) }) (v := ?_) rfl (by kernel_rfl) (by kernel_rfl) (by kernel_rfl) (fun _ _ _ h => h) (Or.inl ⟨by kernel_rfl, ?_⟩) (by assumption) ?_
  rotate_left
  · (intro w9 hSw; clear hSw; go_simp; try with_reducible rfl)
  try simp only [Act.put, List.setIfInBounds_toArray, List.set_cons_zero, List.set_cons_succ]
  refine wpAnyH_ready (rs := [18]) (by kernel_rfl) (by simp) ?_
  refine AllReadyH.cons (o := { dst := some 24, op := Op.call { callee := Callee.value (Operand.func 80), args := #[Operand.tmp 22, Operand.tmp 23], argTypes := #[22, 22] }, type := 4, pos := "again.go:34", after := #[{ on := 16, ground := Ground.data }, { on := 17, ground := Ground.data }, { on := 7, ground := Ground.chain }, { on := 7, ground := Ground.guard }], guard := some (7, false) }) rfl (fun K hK => ?_) AllReadyH.nil
  go_simp
  refine (HSM.out _ K0.out).mono ?_
  rintro e w2 ⟨rfl, k9⟩
  have K1 := Lib.hid (K0.out.trans' k9)
  clear k9
  refine hK.out _ _ (HD.out _ K1.out) (fun hHeld18 => ?_)
  clear hK K hHeld
  try simp only [Act.put, List.setIfInBounds_toArray, List.set_cons_zero, List.set_cons_succ]
  refine wpAnyH_take (i := 19) (oi := { dst := some 25, op := Op.unOp UnOp.not 4 (Operand.tmp 24), type := 4, pos := "again.go:34", after := #[{ on := 18, ground := Ground.data }, { on := 7, ground := Ground.guard }], guard := some (7, false) }) (v := ?_) rfl (by kernel_rfl) (by kernel_rfl) (by kernel_rfl) (fun _ _ _ h => h) (Or.inl ⟨by kernel_rfl, ?_⟩) (by assumption) ?_
  rotate_left
  · (intro w9 hSw; clear hSw; go_simp; try with_reducible rfl)
  try simp only [Act.put, List.setIfInBounds_toArray, List.set_cons_zero, List.set_cons_succ]
  refine wpAnyH_take (i := 20) (oi := { dst := some 26, op := Op.pick (Operand.tmp 13) (Operand.const (Value.bool true)) (Operand.tmp 25), type := 4, pos := "again.go:34", after := #[{ on := 7, ground := Ground.data }, { on := 19, ground := Ground.data }], guard := none }) (v := ?_) rfl (by kernel_rfl) (by kernel_rfl) (by kernel_rfl) (fun _ _ _ h => h) (Or.inl ⟨by kernel_rfl, ?_⟩) (by assumption) ?_
  rotate_left
  · (intro w9 hSw; clear hSw; go_simp; try with_reducible rfl)
  try simp only [Act.put, List.setIfInBounds_toArray, List.set_cons_zero, List.set_cons_succ]
  refine wpAnyH_done (by kernel_rfl) ?_ _
  have c1 := (HD.out _ K1.out).2
  go_wp2
  go_loopg [5] R (fun q iv W => ∃ i : Nat, iv = .int .i64 (i : Int) ∧ L ≤ i ∧ i ≤ R ∧ R - i ≤ q ∧ Hid (Keeps [] w W))
  case atStart => exact ⟨L, rfl, Nat.le_refl _, hLR, by omega, K1⟩
  case round =>
    obtain ⟨i, rfl, hi0, hi, hq, K⟩ := hrel
    clear K1 c1 K0
    have c0 := (HD.out _ K.out).1
    by_cases hiR : i < R
    · have b1 : ((i : Int) < (R : Int)) = True := eq_true (by omega)
      have HIR := Lib.hid (And.intro hi0 hiR)
      go_wp2
      have K2 := Lib.hid (K.out.drew)
      clear c0
      refine wp_region_held_drew (S := fun W => W.cell? ⟨kb, 0, none⟩ = some (.slice (some ⟨g, 0, none⟩) R cap) ∧ W.cell? ⟨g, i, none⟩ = some (.int .u8 (mkI i))) (by kernel_rfl) (⟨(HD.out _ K2.out).1, HAT.out _ i K2.out HIR.out.1 HIR.out.2⟩) (fun hHeld => ?_)
      refine wpAnyH_take (i := 0) (oi := { dst := some 40, op := Op.move (Operand.tmp 0), type := 80, pos := "again.go:38", after := #[], guard := none }) (v := ?_) rfl (by kernel_rfl) (by kernel_rfl) (by kernel_rfl) (fun _ _ _ h => h) (Or.inl ⟨by kernel_rfl, ?_⟩) (by assumption) ?_
      rotate_left
      · (intro w9 hSw; clear hSw; go_simp; try with_reducible rfl)
      try simp only [Act.put, List.setIfInBounds_toArray, List.set_cons_zero, List.set_cons_succ]
      refine wpAnyH_take (i := 1) (oi := { dst := some 41, op := Op.nilCheck (Operand.tmp 40), type := 0, pos := "again.go:38", after := #[{ on := 0, ground := Ground.data }], guard := none }) (v := ?_) rfl (by kernel_rfl) (by kernel_rfl) (by kernel_rfl) (fun _ _ _ h => h) (Or.inl ⟨by kernel_rfl, ?_⟩) (by assumption) ?_
      rotate_left
      · (intro w9 hSw; clear hSw; go_simp; try with_reducible rfl)
      try simp only [Act.put, List.setIfInBounds_toArray, List.set_cons_zero, List.set_cons_succ]
      refine wpAnyH_take (i := 2) (oi := { dst := some 42, op := Op.fieldAddr 82 (Operand.tmp 41) 0, type := 0, pos := "again.go:38", after := #[{ on := 1, ground := Ground.data }], guard := none }) (v := ?_) rfl (by kernel_rfl) (by kernel_rfl) (by kernel_rfl) (fun _ _ _ h => h) (Or.inl ⟨by kernel_rfl, ?_⟩) (by assumption) ?_
      rotate_left
      · (intro w9 hSw; clear hSw; go_simp; try with_reducible rfl)
      try simp only [Act.put, List.setIfInBounds_toArray, List.set_cons_zero, List.set_cons_succ]
      refine wpAnyH_take (i := 3) (oi := { dst := some 43, op := Op.load 22 (Operand.tmp 42), type := 22, pos := "again.go:38", after := #[{ on := 2, ground := Ground.data }], guard := none }) (v := ?_) rfl (by kernel_rfl) (by kernel_rfl) (by kernel_rfl) (fun _ _ _ h => h) (Or.inl ⟨by kernel_rfl, ?_⟩) (by assumption) ?_
      rotate_left
      · (intro w9 hSw; obtain ⟨s0, s1⟩ := hSw; (try dsimp only at hSw); go_simp; try with_reducible rfl)
      try simp only [Act.put, List.setIfInBounds_toArray, List.set_cons_zero, List.set_cons_succ]
      refine wpAnyH_take (i := 4) (oi := { dst := some 44, op := Op.move (Operand.tmp 5), type := 3, pos := "again.go:38", after := #[], guard := none }) (v := ?_) rfl (by kernel_rfl) (by kernel_rfl) (by kernel_rfl) (fun _ _ _ h => h) (Or.inl ⟨by kernel_rfl, ?_⟩) (by assumption) ?_
      rotate_left
      · (intro w9 hSw; clear hSw; go_simp; try with_reducible rfl)
      try simp only [Act.put, List.setIfInBounds_toArray, List.set_cons_zero, List.set_cons_succ]
      refine wpAnyH_take (i := 5) (oi := { dst := some 45, op := Op.indexAddr 22 (Operand.tmp 43) (Operand.tmp 44), type := 0, pos := "again.go:38", after := #[{ on := 3, ground := Ground.data }, { on := 4, ground := Ground.data }], guard := none }) (v := ?_) rfl (by kernel_rfl) (by kernel_rfl) (by kernel_rfl) (fun _ _ _ h => h) (Or.inl ⟨by kernel_rfl, ?_⟩) (by assumption) ?_
      rotate_left
      · (intro w9 hSw; clear hSw; go_simp; try with_reducible rfl)
      try simp only [Act.put, List.setIfInBounds_toArray, List.set_cons_zero, List.set_cons_succ]
      refine wpAnyH_take (i := 6) (oi := { dst := some 46, op := Op.load 5 (Operand.tmp 45), type := 5, pos := "again.go:38", after := #[{ on := 5, ground := Ground.data }], guard := none }) (v := ?_) rfl (by kernel_rfl) (by kernel_rfl) (by kernel_rfl) (fun _ _ _ h => h) (Or.inl ⟨by kernel_rfl, ?_⟩) (by assumption) ?_
      rotate_left
      · (intro w9 hSw; obtain ⟨s0, s1⟩ := hSw; (try dsimp only at hSw); go_simp; try with_reducible rfl)
      try simp only [Act.put, List.setIfInBounds_toArray, List.set_cons_zero, List.set_cons_succ]
      refine wpAnyH_take (i := 7) (oi := { dst := some 47, op := Op.move (Operand.tmp 5), type := 3, pos := "again.go:38", after := #[], guard := none }) (v := ?_) rfl (by kernel_rfl) (by kernel_rfl) (by kernel_rfl) (fun _ _ _ h => h) (Or.inl ⟨by kernel_rfl, ?_⟩) (by assumption) ?_
      rotate_left
      · (intro w9 hSw; clear hSw; go_simp; try with_reducible rfl)
      try simp only [Act.put, List.setIfInBounds_toArray, List.set_cons_zero, List.set_cons_succ]
      refine wpAnyH_ready (rs := [8]) (by kernel_rfl) (by simp) ?_
      refine AllReadyH.cons (o := { dst := some 48, op := Op.call { callee := Callee.value (Operand.func 79), args := #[Operand.tmp 47], argTypes := #[3] }, type := 5, pos := "again.go:38", after := #[{ on := 7, ground := Ground.data }], guard := none }) rfl (fun K hK => ?_) AllReadyH.nil
      go_simp
      refine (HMK.out _ i HIR.out.2).mono ?_
      rintro e w2 ⟨rfl, k9⟩
      have K3 := Lib.hid (K2.out.trans' k9)
      clear k9
      refine hK.out _ _ (⟨(HD.out _ K3.out).1, HAT.out _ i K3.out HIR.out.1 HIR.out.2⟩) (fun hHeld8 => ?_)
      clear hK K hHeld
      try simp only [Act.put, List.setIfInBounds_toArray, List.set_cons_zero, List.set_cons_succ]
      refine wpAnyH_take (i := 9) (oi := { dst := some 49, op := Op.binOp BinOp.neq 5 (Operand.tmp 46) (Operand.tmp 48) 5, type := 4, pos := "again.go:38", after := #[{ on := 6, ground := Ground.data }, { on := 8, ground := Ground.data }], guard := none }) (v := ?_) rfl (by kernel_rfl) (by kernel_rfl) (by kernel_rfl) (fun _ _ _ h => h) (Or.inl ⟨by kernel_rfl, ?_⟩) (by assumption) ?_
      rotate_left
      · (intro w9 hSw; clear hSw; go_simp; try with_reducible rfl)
      try simp only [Act.put, List.setIfInBounds_toArray, List.set_cons_zero, List.set_cons_succ]
      refine wpAnyH_done (by kernel_rfl) ?_ _
      go_wp2
      go_roundg (R - (i + 1))
      case measure => omega
      case rel => exact ⟨i + 1, by go_num, by omega, by omega, by omega, K3⟩
    · have b1 : ((i : Int) < (R : Int)) = False := eq_false (by omega)
      go_wp2
      go_ret
      exact ⟨rfl, K.out⟩
theorem DP.xor (w0 : World) (S : List Nat) {kb g R cap : Nat} {rm : List Int} {n : Int} {A : Option Addr} {L c : Nat} {xs : List Int} {W : World} (h : DP w0 S kb g R cap rm n A L c xs W) (i : Nat) (x : Int) : ∃ rm', DP w0 S kb g R cap rm' n A L c xs (W.setCell ⟨g, i, none⟩ (.int .u8 x)) := ⟨_, h.set i x⟩
set_option maxHeartbeats 4000000 in
theorem wipe_calls {w0 w : World} {S : List Nat} {kb g R cap : Nat} {rm : List Int} {A : Option Addr} {L c N : Nat} {xs : List Int} (h : DP w0 S kb g R cap rm (N : Int) A L c xs w) (hLR : N ≤ R) (hR : R ≤ 1000000) :
    Calls Tryd.prog 39 #[.pointer (some ⟨kb, 0, none⟩)] w fun e w' => e = .returned (.tuple #[]) ∧ ∃ rm', DP w0 S kb g R cap rm' (N : Int) A L c xs w' := by
  have D0 := Lib.hid (show ∃ rm', DP w0 S kb g R cap rm' (N : Int) A L c xs w from ⟨rm, h⟩)
  clear h
  go_enter Tryd.func39, Tryd.ntmps39
  go_wp2
  go_loopg [2] N (fun q iv W => ∃ i : Nat, iv = .int .i64 (i : Int) ∧ i ≤ N ∧ N - i ≤ q ∧ Hid (∃ rm', DP w0 S kb g R cap rm' (N : Int) A L c xs W))
  case atStart => exact ⟨0, rfl, Nat.zero_le _, Nat.le_refl _, D0⟩
  case round =>
    obtain ⟨i, rfl, hi, hq, D⟩ := hrel
    clear D0
    obtain ⟨rm1, d⟩ := D.out
    have D1 := Lib.hid (d.blank (drew_keepsC _))
    have c1 := d.cell1
    by_cases hiL : i < N
    · have b1 : ((i : Int) < (N : Int)) = True := eq_true (by omega)
      have b2 : ((i : Int) < (R : Int)) = True := eq_true (by omega)
      have HIR := Lib.hid (show i < R by omega)
      have HDC := Lib.hid (And.intro D1.out.cell0 (D1.out.at_ i HIR.out))
      have fi := D1.out.row.frozen i
      have D2 := Lib.hid (D1.out.xor w0 S i (bits .xor .u8 (rm1.getD i 0) 255))
      obtain ⟨y, hy⟩ : ∃ y, y = rm1.getD i 0 := ⟨_, rfl⟩
      rw [← hy] at HDC D2
      have ci := HDC.out.2
      clear d D D1 hy
      go_wp2
      clear c1
      refine wp_region_held_drew (S := fun W => W.cell? ⟨kb, 0, none⟩ = some (.slice (some ⟨g, 0, none⟩) R cap) ∧ (W.cell? ⟨g, i, none⟩ = some (.int .u8 y) ∨ True)) (by kernel_rfl) (⟨HDC.out.1, .inr trivial⟩) (fun hHeld => ?_)
      refine wpAnyH_take (i := 0) (oi := { dst := some 11, op := Op.move (Operand.tmp 0), type := 80, pos := "again.go:48", after := #[], guard := none }) (v := ?_) rfl (by kernel_rfl) (by kernel_rfl) (by kernel_rfl) (fun _ _ _ h => h) (Or.inl ⟨by kernel_rfl, ?_⟩) (by assumption) ?_
      rotate_left
      · (intro w9 hSw; clear hSw; go_simp; try with_reducible rfl)
      try simp only [Act.put, List.setIfInBounds_toArray, List.set_cons_zero, List.set_cons_succ]
      refine wpAnyH_take (i := 1) (oi := { dst := some 12, op := Op.nilCheck (Operand.tmp 11), type := 0, pos := "again.go:48", after := #[{ on := 0, ground := Ground.data }], guard := none }) (v := ?_) rfl (by kernel_rfl) (by kernel_rfl) (by kernel_rfl) (fun _ _ _ h => h) (Or.inl ⟨by kernel_rfl, ?_⟩) (by assumption) ?_
      rotate_left
      · (intro w9 hSw; clear hSw; go_simp; try with_reducible rfl)
      try simp only [Act.put, List.setIfInBounds_toArray, List.set_cons_zero, List.set_cons_succ]
      refine wpAnyH_take (i := 2) (oi := { dst := some 13, op := Op.fieldAddr 82 (Operand.tmp 12) 0, type := 0, pos := "again.go:48", after := #[{ on := 1, ground := Ground.data }], guard := none }) (v := ?_) rfl (by kernel_rfl) (by kernel_rfl) (by kernel_rfl) (fun _ _ _ h => h) (Or.inl ⟨by kernel_rfl, ?_⟩) (by assumption) ?_
      rotate_left
      · (intro w9 hSw; clear hSw; go_simp; try with_reducible rfl)
      try simp only [Act.put, List.setIfInBounds_toArray, List.set_cons_zero, List.set_cons_succ]
      refine wpAnyH_take (i := 3) (oi := { dst := some 14, op := Op.load 22 (Operand.tmp 13), type := 22, pos := "again.go:48", after := #[{ on := 2, ground := Ground.data }], guard := none }) (v := ?_) rfl (by kernel_rfl) (by kernel_rfl) (by kernel_rfl) (fun _ _ _ h => h) (Or.inl ⟨by kernel_rfl, ?_⟩) (by assumption) ?_
      rotate_left
      · (intro w9 hSw; obtain ⟨s0, s1⟩ := hSw; (try dsimp only at hSw); go_simp; try with_reducible rfl)
      try simp only [Act.put, List.setIfInBounds_toArray, List.set_cons_zero, List.set_cons_succ]
      refine wpAnyH_take (i := 4) (oi := { dst := some 15, op := Op.move (Operand.tmp 2), type := 3, pos := "again.go:48", after := #[], guard := none }) (v := ?_) rfl (by kernel_rfl) (by kernel_rfl) (by kernel_rfl) (fun _ _ _ h => h) (Or.inl ⟨by kernel_rfl, ?_⟩) (by assumption) ?_
      rotate_left
      · (intro w9 hSw; clear hSw; go_simp; try with_reducible rfl)
      try simp only [Act.put, List.setIfInBounds_toArray, List.set_cons_zero, List.set_cons_succ]
      refine wpAnyH_take (i := 5) (oi := { dst := some 16, op := Op.move (Operand.tmp 0), type := 80, pos := "again.go:48", after := #[], guard := none }) (v := ?_) rfl (by kernel_rfl) (by kernel_rfl) (by kernel_rfl) (fun _ _ _ h => h) (Or.inl ⟨by kernel_rfl, ?_⟩) (by assumption) ?_
      rotate_left
      · (intro w9 hSw; clear hSw; go_simp; try with_reducible rfl)
      try simp only [Act.put, List.setIfInBounds_toArray, List.set_cons_zero, List.set_cons_succ]
      refine wpAnyH_take (i := 6) (oi := { dst := some 17, op := Op.nilCheck (Operand.tmp 16), type := 0, pos := "again.go:48", after := #[{ on := 5, ground := Ground.data }], guard := none }) (v := ?_) rfl (by kernel_rfl) (by kernel_rfl) (by kernel_rfl) (fun _ _ _ h => h) (Or.inl ⟨by kernel_rfl, ?_⟩) (by assumption) ?_
      rotate_left
      · (intro w9 hSw; clear hSw; go_simp; try with_reducible rfl)
      try simp only [Act.put, List.setIfInBounds_toArray, List.set_cons_zero, List.set_cons_succ]
      refine wpAnyH_take (i := 7) (oi := { dst := some 18, op := Op.fieldAddr 82 (Operand.tmp 17) 0, type := 0, pos := "again.go:48", after := #[{ on := 6, ground := Ground.data }], guard := none }) (v := ?_) rfl (by kernel_rfl) (by kernel_rfl) (by kernel_rfl) (fun _ _ _ h => h) (Or.inl ⟨by kernel_rfl, ?_⟩) (by assumption) ?_
      rotate_left
      · (intro w9 hSw; clear hSw; go_simp; try with_reducible rfl)
      try simp only [Act.put, List.setIfInBounds_toArray, List.set_cons_zero, List.set_cons_succ]
      refine wpAnyH_take (i := 8) (oi := { dst := some 19, op := Op.load 22 (Operand.tmp 18), type := 22, pos := "again.go:48", after := #[{ on := 7, ground := Ground.data }], guard := none }) (v := ?_) rfl (by kernel_rfl) (by kernel_rfl) (by kernel_rfl) (fun _ _ _ h => h) (Or.inl ⟨by kernel_rfl, ?_⟩) (by assumption) ?_
      rotate_left
      · (intro w9 hSw; obtain ⟨s0, s1⟩ := hSw; (try dsimp only at hSw); go_simp; try with_reducible rfl)
      try simp only [Act.put, List.setIfInBounds_toArray, List.set_cons_zero, List.set_cons_succ]
      refine wpAnyH_take (i := 9) (oi := { dst := some 20, op := Op.move (Operand.tmp 2), type := 3, pos := "again.go:48", after := #[], guard := none }) (v := ?_) rfl (by kernel_rfl) (by kernel_rfl) (by kernel_rfl) (fun _ _ _ h => h) (Or.inl ⟨by kernel_rfl, ?_⟩) (by assumption) ?_
      rotate_left
      · (intro w9 hSw; clear hSw; go_simp; try with_reducible rfl)
      try simp only [Act.put, List.setIfInBounds_toArray, List.set_cons_zero, List.set_cons_succ]
      refine wpAnyH_take (i := 10) (oi := { dst := some 21, op := Op.indexAddr 22 (Operand.tmp 19) (Operand.tmp 20), type := 0, pos := "again.go:48", after := #[{ on := 8, ground := Ground.data }, { on := 9, ground := Ground.data }], guard := none }) (v := ?_) rfl (by kernel_rfl) (by kernel_rfl) (by kernel_rfl) (fun _ _ _ h => h) (Or.inl ⟨by kernel_rfl, ?_⟩) (by assumption) ?_
      rotate_left
      · (intro w9 hSw; clear hSw; go_simp; try with_reducible rfl)
      try simp only [Act.put, List.setIfInBounds_toArray, List.set_cons_zero, List.set_cons_succ]
      refine wpAnyH_ready (rs := [11]) (by kernel_rfl) (by simp) ?_
      refine AllReadyH.cons (o := { dst := some 22, op := Op.load 5 (Operand.tmp 21), type := 5, pos := "again.go:48", after := #[{ on := 10, ground := Ground.data }], guard := none }) rfl (fun K hK => ?_) AllReadyH.nil
      go_simp
      refine hK.out _ _ (⟨HDC.out.1, .inr trivial⟩) (fun hHeld11 => ?_)
      clear hK K hHeld
      try simp only [Act.put, List.setIfInBounds_toArray, List.set_cons_zero, List.set_cons_succ]
      refine wpAnyH_take (i := 12) (oi := { dst := some 23, op := Op.binOp BinOp.xor 5 (Operand.tmp 22) (Operand.const (Value.int IntKind.u8 255)) 5, type := 5, pos := "again.go:48", after := #[{ on := 11, ground := Ground.data }], guard := none }) (v := ?_) rfl (by kernel_rfl) (by kernel_rfl) (by kernel_rfl) (fun _ _ _ h => h) (Or.inl ⟨by kernel_rfl, ?_⟩) (by assumption) ?_
      rotate_left
      · (intro w9 hSw; clear hSw; go_simp; try with_reducible rfl)
      try simp only [Act.put, List.setIfInBounds_toArray, List.set_cons_zero, List.set_cons_succ]
      refine wpAnyH_take (i := 13) (oi := { dst := some 24, op := Op.indexAddr 22 (Operand.tmp 14) (Operand.tmp 15), type := 0, pos := "again.go:48", after := #[{ on := 3, ground := Ground.data }, { on := 4, ground := Ground.data }, { on := 0, ground := Ground.phase }, { on := 1, ground := Ground.phase }, { on := 2, ground := Ground.phase }, { on := 3, ground := Ground.phase }, { on := 4, ground := Ground.phase }, { on := 5, ground := Ground.phase }, { on := 6, ground := Ground.phase }, { on := 7, ground := Ground.phase }, { on := 8, ground := Ground.phase }, { on := 9, ground := Ground.phase }, { on := 10, ground := Ground.phase }, { on := 11, ground := Ground.phase }, { on := 12, ground := Ground.phase }], guard := none }) (v := ?_) rfl (by kernel_rfl) (by kernel_rfl) (by kernel_rfl) (fun _ _ _ h => h) (Or.inl ⟨by kernel_rfl, ?_⟩) (by assumption) ?_
      rotate_left
      · (intro w9 hSw; clear hSw; go_simp; try with_reducible rfl)
      try simp only [Act.put, List.setIfInBounds_toArray, List.set_cons_zero, List.set_cons_succ]
      refine wpAnyH_ready (rs := [14]) (by kernel_rfl) (by simp) ?_
      refine AllReadyH.cons (o := { dst := none, op := Op.store 5 (Operand.tmp 24) (Operand.tmp 23), type := 0, pos := "again.go:48", after := #[{ on := 13, ground := Ground.data }, { on := 12, ground := Ground.data }, { on := 0, ground := Ground.phase }, { on := 1, ground := Ground.phase }, { on := 2, ground := Ground.phase }, { on := 3, ground := Ground.phase }, { on := 4, ground := Ground.phase }, { on := 5, ground := Ground.phase }, { on := 6, ground := Ground.phase }, { on := 7, ground := Ground.phase }, { on := 8, ground := Ground.phase }, { on := 9, ground := Ground.phase }, { on := 10, ground := Ground.phase }, { on := 11, ground := Ground.phase }, { on := 12, ground := Ground.phase }], guard := none }) rfl (fun K hK => ?_) AllReadyH.nil
      go_simp
      refine hK.out _ _ (⟨by obtain ⟨r9, d9⟩ := D2.out; exact d9.cell0, .inr trivial⟩) (fun hHeld14 => ?_)
      clear hK K hHeld11
      try simp only [Act.put, List.setIfInBounds_toArray, List.set_cons_zero, List.set_cons_succ]
      refine wpAnyH_done (by kernel_rfl) ?_ _
      go_wp2
      go_roundg (N - (i + 1))
      case measure => omega
      case rel => exact ⟨i + 1, by go_num, by omega, by omega, D2⟩
    · have b1 : ((i : Int) < (N : Int)) = False := eq_false (by omega)
      go_wp2
      go_end0
      exact ⟨rfl, D.out⟩
end Go.Proofs.YtgcpcgcfpjolnaaDoor.G
-- ChainAgain: the desk among the things that lie there.
namespace Go.Proofs.YtgcpcgcfpjolnaaDoor.G
open Go.RowKit Go.Proofs.YtgcpcgcfpjolnaaDoorW.PrintWords Go.Proofs.YtgcpcgcfpjolnaaDoorW.PrintLast Go.Proofs.YtgcpcgcfpjolnaaDoorW.PrintMore
set_option linter.unusedVariables false
set_option linter.unusedSimpArgs false
set_option maxRecDepth 10000
def deskG (kb : Nat) (rv : Value) (R : Nat) (rm : List Int) (n : Int) : List Thing := [strT kb #[rv, .int .i64 n] 82, rowT rv 5 1 R (by8 rm)]
def roomV (g R cap : Nat) : Value := .slice (some ⟨g, 0, none⟩) R cap
theorem desk_fps (kb : Nat) (rv : Value) (R : Nat) (rm : List Int) (n : Int) : fps (deskG kb rv R rm n) = kb :: rv.ownBlock.toList := by simp [deskG, fps, strT, rowT]
theorem desk_facts {w : World} {kb R : Nat} {rv : Value} {rm : List Int} {n : Int} (h : Has 3 w (deskG kb rv R rm n)) : StrAt w kb #[rv, .int .i64 n] 82 ∧ w.ownsRow 0 5 1 rv R (by8 rm) ∧ rv.ownBlock ≠ some kb := by
  refine ⟨h.get 0 rfl, h.get 1 rfl, fun e => ?_⟩
  have := h.apart
  rw [desk_fps, e] at this
  simp at this
theorem dp_moves {w w' : World} {kb R g R1 cap : Nat} {rv : Value} {rm rm1 : List Int} {n n1 : Int} {A : Option Addr} {L c : Nat} {xs : List Int} (h : Has 3 w (deskG kb rv R rm n)) (d : DP w (kb :: rv.ownBlock.toList) kb g R1 cap rm1 n1 A L c xs w') :
    Moves (deskG kb rv R rm n) (deskG kb (roomV g R1 cap) R1 rm1 n1) w w' := by
  have h3 := h.le
  have hge := h.ge
  rw [desk_fps] at hge
  have hg : 3 ≤ g := by
    rcases d.gS with h1 | h1
    · exact hge g h1
    · omega
  refine ⟨⟨fun t ht => ?_, ?_, fun k hk => ?_, Nat.le_trans h3 d.keeps.size⟩, by rw [desk_fps]; exact d.keeps, fun k hk => ?_⟩
  · have : t = strT kb #[roomV g R1 cap, .int .i64 n1] 82 ∨ t = rowT (roomV g R1 cap) 5 1 R1 (by8 rm1) := by simpa [deskG] using ht
    rcases this with rfl | rfl
    · exact d.st
    · exact d.row
  · rw [desk_fps]
    have := d.ne
    simp [roomV, Value.ownBlock]; omega
  · rw [desk_fps] at hk
    have : k = kb ∨ k = g := by simpa [roomV, Value.ownBlock] using hk
    rcases this with rfl | rfl
    · exact hge _ (List.mem_cons_self ..)
    · exact hg
  · rw [desk_fps] at hk ⊢
    have : k = kb ∨ k = g := by simpa [roomV, Value.ownBlock] using hk
    rcases this with rfl | rfl
    · exact .inl (List.mem_cons_self ..)
    · exact d.gS
/-- a desk as it stands -/
theorem dp_of {w : World} {kb R g cap : Nat} {rm : List Int} {n : Int} {A : Option Addr} {L c : Nat} {xs : List Int} (h : Has 3 w (deskG kb (roomV g R cap) R rm n)) (hb : TSl w A L c xs) (hA : L = 0 ∨ ∀ b o, A = some ⟨b, o, none⟩ → b ≠ kb ∧ b ≠ g) : DP w [kb, g] kb g R cap rm n A L c xs w := by
  obtain ⟨h1, h2, h3⟩ := desk_facts h
  exact ⟨h1, h2, fun e => h3 (by rw [e]; rfl), .inl (by simp), by simp, Keeps.refl _ _, hb, hA⟩
theorem dp_moves2 {w w' : World} {kb R g cap : Nat} {rm rm1 : List Int} {n n1 : Int} {A : Option Addr} {L c : Nat} {xs : List Int} (h : Has 3 w (deskG kb (roomV g R cap) R rm n)) (d : DP w [kb, g] kb g R cap rm1 n1 A L c xs w') :
    Moves (deskG kb (roomV g R cap) R rm n) (deskG kb (roomV g R cap) R rm1 n1) w w' := dp_moves h (by simpa [roomV, Value.ownBlock] using d)
/-- the desk's calls, among other things -/
theorem lend_act {M0 : List Thing} {W0 W : World} {G : List (List Thing)} (m : Moves M0 G.flatten W0 W) (i : Nat) {kb R : Nat} {rv : Value} {rm : List Int} {n : Int} (hi : G[i]? = some (deskG kb rv R rm n)) {A : Option Addr} {L c : Nat} {xs : List Int} (hb : TSl W A L c xs)
    (hA : L = 0 ∨ ∀ b o, A = some ⟨b, o, none⟩ → b ∉ fps (deskG kb rv R rm n)) (hL : L ≤ 100000) (hR : R ≤ 1000000) :
    Calls Tryd.prog 37 #[.pointer (some ⟨kb, 0, none⟩), .slice A L c] W fun e w' => ∃ g R1 cap, e = .returned (.slice (some ⟨g, 0, none⟩) L cap) ∧ 2 * L + 70 ≤ R1 ∧ R1 ≤ 1000000 ∧ TSl w' A L c xs ∧ Moves M0 (G.set i (deskG kb (roomV g R1 cap) R1 (lendL xs R1) (L : Int))).flatten W0 w' := by
  have h := m.get i hi
  obtain ⟨h1, h2, h3⟩ := desk_facts h
  refine (lend_calls h1 h2 h3 hb (hA.imp id (fun f b o e => ?_)) hL hR).mono ?_
  · have := f b o e
    rw [desk_fps] at this
    simp at this
    exact ⟨this.1, fun e9 => this.2 e9⟩
  · rintro e w' ⟨g, R1, cap, rfl, q1, q2, d⟩
    exact ⟨g, R1, cap, rfl, q1, q2, d.src, m.upd i hi (dp_moves h d)⟩
theorem back_act {M0 : List Thing} {W0 W : World} {G : List (List Thing)} (m : Moves M0 G.flatten W0 W) (i : Nat) {kb g R cap L : Nat} {xs : List Int} (hi : G[i]? = some (deskG kb (roomV g R cap) R (lendL xs R) (L : Int))) {A : Option Addr} {c : Nat} (hb : TSl W A L c xs)
    (hA : L = 0 ∨ ∀ b o, A = some ⟨b, o, none⟩ → b ≠ kb ∧ b ≠ g) (hL : L ≤ R) (hR : R ≤ 1000000) :
    Calls Tryd.prog 38 #[.pointer (some ⟨kb, 0, none⟩), .slice A L c] W fun e w' => e = .returned (.bool true) ∧ Keeps [] W w' :=
  back_calls (dp_of (m.get i hi) hb hA) hL hR
theorem wipe_act {M0 : List Thing} {W0 W : World} {G : List (List Thing)} (m : Moves M0 G.flatten W0 W) (i : Nat) {kb g R cap L : Nat} {rm : List Int} (hi : G[i]? = some (deskG kb (roomV g R cap) R rm (L : Int))) (hL : L ≤ R) (hR : R ≤ 1000000) :
    Calls Tryd.prog 39 #[.pointer (some ⟨kb, 0, none⟩)] W fun e w' => e = .returned (.tuple #[]) ∧ ∃ rm', Moves M0 (G.set i (deskG kb (roomV g R cap) R rm' (L : Int))).flatten W0 w' := by
  have h := m.get i hi
  refine (wipe_calls (A := none) (L := 0) (c := 0) (xs := []) (dp_of h ⟨rfl, Nat.le_refl _, .inl rfl⟩ (.inl rfl)) hL hR).mono ?_
  rintro e w' ⟨rfl, rm', d⟩
  exact ⟨rfl, rm', m.upd i hi (dp_moves2 h d)⟩
end Go.Proofs.YtgcpcgcfpjolnaaDoor.G
-- ChainAgain: what lies there.
namespace Go.Proofs.YtgcpcgcfpjolnaaDoor.G
open Go.RowKit Go.Proofs.YtgcpcgcfpjolnaaDoorW.PrintWords Go.Proofs.YtgcpcgcfpjolnaaDoorW.PrintLast Go.Proofs.YtgcpcgcfpjolnaaDoorW.PrintMore
set_option linter.unusedVariables false
set_option linter.unusedSimpArgs false
set_option maxRecDepth 10000
structure AX where
  W0 : World
  db : Nat
  sb : Nat
  sg : Nat
  scap : Nat
  kb : Nat
/-- a chain: its sectors, its bytes -/
structure AC where
  N : List Int
  bs : List Int
/-- a text that was handed in -/
structure AT where
  A : Option Addr
  c : Nat
  bs : List Int
def spa (x : AX) (is : List Bool) : SI := ⟨x.sb, x.sg, x.scap, 3, 400, is⟩
def arefV (c : AC) : List Value := refC (shaF c.bs) (c.N.getD 0 0) (c.bs.length : Int)
def arefsV (cs : List AC) : List Value := cs.flatMap arefV
def atV (t : AT) : Value := .slice t.A t.bs.length t.c
/-- the refs, the texts -/
structure AV where
  rv : Value
  rl : List AC
  tv : Value
  tl : List AT
def GA (x : AX) (d : DK) (is : List Bool) (D : List Thing) (u : AV) : List (List Thing) :=
  [DL d, [spT (spa x is)], D, [rowT u.rv 52 34 u.rl.length (arefsV u.rl)], [rowT u.tv 22 1 u.tl.length (u.tl.map atV)]]
structure AOk (x : AX) : Prop where
  tab : TabW x.W0
  sha : ShaW x.W0
  half : HalfW x.W0
  w3 : 3 ≤ x.W0.heap.size
structure ADs (x : AX) (d : DK) (is : List Bool) (q : Nat) : Prop where
  ok : DOk d
  db : d.db = x.db
  len : d.last.length = 400
  il : is.length = 397
  fr : 397 ≤ (trues is).length + 5 * q
/-- a chain whose first j sectors are written, of whose numbers none is free -/
structure ACh (d : DK) (is : List Bool) (c : AC) (j : Nat) : Prop where
  nm : Nm d 3 c.N c.bs
  wrote : Wrote d c.N c.bs j
  gone : ∀ n ∈ c.N, ∀ m ∈ trues is, n ≠ 3 + (m : Int)
  le : c.bs.length ≤ 2000
  jl : j ≤ c.N.length
theorem nSec_2000 (L : Nat) (h : L ≤ 2000) : 1 ≤ nSec L ∧ nSec L ≤ 5 := by unfold nSec; omega
theorem ACh.short {d : DK} {is : List Bool} {c : AC} {j : Nat} (h : ACh d is c j) : 1 ≤ c.N.length ∧ c.N.length ≤ 5 := by
  have := nSec_2000 _ h.le
  rw [h.nm.len]; exact this
theorem ACh.wr {d d' : DK} {is : List Bool} {c : AC} {j : Nat} (h : ACh d is c j) {k : Int} {s : List Int} (hk : k ∉ c.N) (hw : Wr d d' k s) : ACh d' is c j :=
  ⟨h.nm.wr hw, h.wrote.other h.jl hk hw, h.gone, h.le, h.jl⟩
theorem ACh.wn {d d' : DK} {is : List Bool} {c : AC} {j : Nat} (h : ACh d is c j) {M ms : List Int} {q : Nat} (hd : ∀ n ∈ c.N, n ∉ M) (hw : Wn d d' M ms q) : ACh d' is c j :=
  ⟨⟨h.nm.len, h.nm.le, h.nm.nd, h.nm.hp, h.nm.lo, by rw [hw.last]; exact h.nm.hi⟩, fun i hi => by rw [hw.other _ (hd _ (getD_mem (by have := h.jl; omega)))]; exact h.wrote i hi, h.gone, h.le, h.jl⟩
theorem ACh.rd {d : DK} {is : List Bool} {c : AC} {j : Nat} (h : ACh d is c j) (n : Nat) : ACh (rdN d n) is c j := ⟨h.nm.rdN n, h.wrote.rd n, h.gone, h.le, h.jl⟩
theorem ACh.rdUp {d : DK} {is : List Bool} {c : AC} {j : Nat} (h : ACh d is c j) : ACh (rdUp d) is c j := ⟨⟨h.nm.len, h.nm.le, h.nm.nd, h.nm.hp, h.nm.lo, h.nm.hi⟩, h.wrote, h.gone, h.le, h.jl⟩
theorem ACh.less {d : DK} {is is' : List Bool} {c : AC} {j : Nat} (h : ACh d is c j) (hs : ∀ m ∈ trues is', m ∈ trues is) : ACh d is' c j := ⟨h.nm, h.wrote, fun n hn m hm => h.gone n hn m (hs m hm), h.le, h.jl⟩
theorem ADs.other {x : AX} {d d' : DK} {is : List Bool} {q : Nat} (h : ADs x d is q) (ok : DOk d') (hdb : d'.db = d.db) (hl : d'.last = d.last) : ADs x d' is q := ⟨ok, hdb.trans h.db, by rw [hl]; exact h.len, h.il, h.fr⟩
/-- the space tells numbers -/
theorem ADs.take {x : AX} {d : DK} {is : List Bool} {q : Nat} (h : ADs x d is q) (L : Nat) (hL : L ≤ 2000) (hq : q ≤ 30) :
    takeAllOk is (nSec L : Int) = true ∧ Outs 3 400 (nSec L) (takeAllOut 3 is (nSec L : Int)) ∧ ADs x d (takeAllS is (nSec L : Int)) (q + 1) ∧
      (∀ n ∈ takeAllOut 3 is (nSec L : Int), ∀ m ∈ trues (takeAllS is (nSec L : Int)), n ≠ 3 + (m : Int)) ∧ (∀ m ∈ trues (takeAllS is (nSec L : Int)), m ∈ trues is) ∧
      (∀ n ∈ takeAllOut 3 is (nSec L : Int), ∃ m ∈ trues is, n = 3 + (m : Int)) := by
  have hk := nSec_2000 _ hL
  generalize nSec L = k at hk
  have hfr := h.fr
  have hil := h.il
  have o1 : takeAllOk is (k : Int) = true := by simp [takeAllOk]; omega
  have e1 : takeAllS is (k : Int) = clear is ((trues is).take k) := by unfold takeAllS; rw [if_pos o1]; rfl
  have e2 : trues (takeAllS is (k : Int)) = (trues is).drop k := by rw [e1, trues_clear_take]
  have e3 : takeAllOut 3 is (k : Int) = nums 3 ((trues is).take k) := by unfold takeAllOut; rw [if_pos o1]; rfl
  refine ⟨o1, outs_of (by rw [hil]) (by decide) o1, ⟨h.ok, h.db, h.len, by rw [e1, clear_length]; exact hil, by rw [e2, List.length_drop]; omega⟩, ?_, ?_, ?_⟩
  · intro n hn m hm he
    rw [e3] at hn
    rw [e2] at hm
    obtain ⟨m1, hm1, rfl⟩ := List.mem_map.1 hn
    have : m1 = m := by omega
    subst this
    have hd := trues_nodup is
    rw [← List.take_append_drop k (trues is)] at hd
    exact (List.nodup_append.1 hd).2.2 m1 hm1 m1 hm rfl
  · intro m hm
    rw [e2] at hm
    exact List.mem_of_mem_drop hm
  · intro n hn
    rw [e3] at hn
    obtain ⟨m1, hm1, rfl⟩ := List.mem_map.1 hn
    exact ⟨m1, List.mem_of_mem_take hm1, rfl⟩
/-- the desk: free; lent -/
def KF (x : AX) (D : List Thing) : Prop := ∃ rv R rm n, D = deskG x.kb rv R rm n ∧ R ≤ 1000000
def KT (x : AX) (g R cap L : Nat) (xs : List Int) (D : List Thing) : Prop := D = deskG x.kb (roomV g R cap) R (lendL xs R) (L : Int) ∧ 2 * L + 70 ≤ R ∧ R ≤ 1000000
theorem KT.free {x : AX} {g R cap L : Nat} {xs : List Int} {D : List Thing} (h : KT x g R cap L xs D) : KF x D := ⟨_, _, _, _, h.1, h.2.2⟩
def AS (x : AX) (u : AV) (K : List Thing → Prop) (cs : List (AC × Nat)) (F : List (List Thing)) (q t : Nat) (W : World) : Prop :=
  ∃ d is D, ADs x d is q ∧ K D ∧ (d.rd ≤ (t : Int) ∧ d.wr ≤ (t : Int)) ∧ (∀ p ∈ cs, ACh d is p.1 p.2) ∧ Moves [] (F ++ GA x d is D u).flatten x.W0 W
section
variable {x : AX} {u : AV} {K : List Thing → Prop} {cs : List (AC × Nat)} {F : List (List Thing)} {q t : Nat} {W W' : World}
theorem AS.old (h : AS x u K cs F q t W) : Keeps [] x.W0 W := by
  obtain ⟨d, is, D, _, _, _, _, m⟩ := h
  exact m.old
theorem AS.blank (h : AS x u K cs F q t W) (hk : Keeps [] W W') : AS x u K cs F q t W' := by
  obtain ⟨d, is, D, h1, h2, h3, h4, m⟩ := h
  exact ⟨d, is, D, h1, h2, h3, h4, m.blank hk⟩
theorem AS.mono {t' : Nat} (h : AS x u K cs F q t W) (ht : t ≤ t') : AS x u K cs F q t' W := by
  obtain ⟨d, is, D, h1, h2, h3, h4, m⟩ := h
  exact ⟨d, is, D, h1, h2, ⟨by omega, by omega⟩, h4, m⟩
theorem AS.kmono {K' : List Thing → Prop} (h : AS x u K cs F q t W) (hk : ∀ D, K D → K' D) : AS x u K' cs F q t W := by
  obtain ⟨d, is, D, h1, h2, h3, h4, m⟩ := h
  exact ⟨d, is, D, h1, hk _ h2, h3, h4, m⟩
theorem AS.shed {N : List Thing} (h : AS x u K cs (N :: F) q t W) : AS x u K cs F q t W := by
  obtain ⟨d, is, D, h1, h2, h3, h4, m⟩ := h
  exact ⟨d, is, D, h1, h2, h3, h4, m.shed⟩
theorem AS.cmono {cs' : List (AC × Nat)} (h : AS x u K cs F q t W) (hc : ∀ p ∈ cs', p ∈ cs) : AS x u K cs' F q t W := by
  obtain ⟨d, is, D, h1, h2, h3, h4, m⟩ := h
  exact ⟨d, is, D, h1, h2, h3, fun p hp => h4 p (hc p hp), m⟩
theorem AS.ch (h : AS x u K cs F q t W) : ∀ p ∈ cs, (1 ≤ p.1.N.length ∧ p.1.N.length ≤ 5) ∧ p.1.bs.length ≤ 2000 := by
  obtain ⟨d, is, D, h1, h2, h3, h4, m⟩ := h
  exact fun p hp => ⟨(h4 p hp).short, (h4 p hp).le⟩
/-- the groups behind F -/
theorem ga_at (d : DK) (is : List Bool) (D : List Thing) (F : List (List Thing)) (i : Nat) : (F ++ GA x d is D u)[F.length + i]? = (GA x d is D u)[i]? := by
  rw [List.getElem?_append_right (by omega), Nat.add_sub_cancel_left]
theorem ga_set (d : DK) (is : List Bool) (D D' : List Thing) (F : List (List Thing)) : (F ++ GA x d is D u).set (F.length + 2) D' = F ++ GA x d is D' u := by
  rw [List.set_append_right _ _ (by omega), Nat.add_sub_cancel_left]; rfl
theorem mem_flat_fps {G : List (List Thing)} (i : Nat) {M : List Thing} (hi : G[i]? = some M) {k : Nat} (hk : k ∈ fps M) : k ∈ fps G.flatten := by
  obtain ⟨t, ht, hkt⟩ := List.mem_flatMap.1 hk
  exact mem_fps (List.mem_flatten.2 ⟨M, List.mem_of_getElem? hi, ht⟩) hkt
/-- Lend of a text of the caller -/
theorem as_lend (hx : AOk x) (h : AS x u (KF x) cs F q t W) {A : Option Addr} {L c : Nat} {xs : List Int} (hb : TSl x.W0 A L c xs) (hL : L ≤ 100000) :
    Calls Tryd.prog 37 #[.pointer (some ⟨x.kb, 0, none⟩), .slice A L c] W fun e w' => ∃ g R cap, e = .returned (.slice (some ⟨g, 0, none⟩) L cap) ∧ L ≤ cap ∧ AS x u (KT x g R cap L xs) cs F q t w' := by
  obtain ⟨d, is, D, h1, ⟨rv, R, rm, n, rfl, hR⟩, h3, h4, m⟩ := h
  refine (lend_act m (F.length + 2) (by rw [ga_at]; rfl) (hb.keeps m.old (.inr (fun _ _ _ => by simp))) (hb.lt.imp id (fun f b o e hm => ?_)) hL hR).mono ?_
  · have h9 := m.news b (mem_flat_fps (F.length + 2) (by rw [ga_at]; rfl) hm)
    have := f _ e
    simp only at this
    omega
  · rintro e w' ⟨g, R1, cap, rfl, q1, q2, _, m'⟩
    rw [ga_set] at m'
    have hr : RowAt w' g 5 1 R1 cap (by8 (lendL xs R1)) := (m'.get (F.length + 2) (by rw [ga_at]; rfl)).get 1 rfl
    exact ⟨g, R1, cap, rfl, by have := hr.capLe.1; omega, d, is, _, h1, ⟨rfl, q1, q2⟩, h3, h4, m'⟩
end
end Go.Proofs.YtgcpcgcfpjolnaaDoor.G
-- ChainAgain: the calls.
namespace Go.Proofs.YtgcpcgcfpjolnaaDoor.G
open Go.RowKit Go.Proofs.YtgcpcgcfpjolnaaDoorW.PrintWords Go.Proofs.YtgcpcgcfpjolnaaDoorW.PrintLast Go.Proofs.YtgcpcgcfpjolnaaDoorW.PrintMore
set_option linter.unusedVariables false
set_option linter.unusedSimpArgs false
set_option maxRecDepth 10000
/-- a writer under way -/
structure AW where
  wb : Nat
  c : AC
  nv : Value
  bv : Value
def awG (x : AX) (v : AW) (j : Nat) : List Thing := WLs x.db (WJ v.wb v.c.N v.c.bs v.nv v.bv j)
/-- a row that was handed out, at the front -/
def rowG (g L c : Nat) (xs : List Int) : List Thing := [rowT (.slice (some ⟨g, 0, none⟩) L c) 5 1 L (by8 xs)]
theorem groups_apart {W0 W : World} {G : List (List Thing)} (m : Moves [] G.flatten W0 W) (i j : Nat) (hij : i < j) {M N : List Thing} (hi : G[i]? = some M) (hj : G[j]? = some N) : ∀ k ∈ fps M, k ∉ fps N := (m.get2 i j hij hi hj).apart2
section
variable {x : AX} {u : AV} {K : List Thing → Prop} {cs : List (AC × Nat)} {F : List (List Thing)} {q t : Nat} {W W' : World}
theorem row_bsl {W : World} {g L c : Nat} {xs : List Int} (h : W.ownsRow 0 5 1 (.slice (some ⟨g, 0, none⟩) L c) L (by8 xs)) : BSl W (some ⟨g, 0, none⟩) L c xs := by
  have hr : RowAt W g 5 1 L c (by8 xs) := h
  have hl : xs.length = L := by have := hr.1; rw [by8_length] at this; omega
  exact ⟨hl, hr.capLe.1, .inr ⟨g, 0, rfl, row_range8 hr, hl, hr.lt⟩⟩
theorem as_row {g0 L c : Nat} {xs : List Int} (h : AS x u K cs (rowG g0 L c xs :: F) q t W) : BSl W (some ⟨g0, 0, none⟩) L c xs := by
  obtain ⟨d, is, D, h1, h2, h3, h4, m⟩ := h
  exact row_bsl ((m.get 0 rfl).get 0 rfl)
/-- Lend of a row that was handed out -/
theorem as_lendX {g0 L c : Nat} {xs : List Int} (h : AS x u (KF x) cs [rowG g0 L c xs] q t W) (hL : L ≤ 100000) :
    Calls Tryd.prog 37 #[.pointer (some ⟨x.kb, 0, none⟩), .slice (some ⟨g0, 0, none⟩) L c] W fun e w' => ∃ g R cap, e = .returned (.slice (some ⟨g, 0, none⟩) L cap) ∧ L ≤ cap ∧ AS x u (KT x g R cap L xs) cs [rowG g0 L c xs] q t w' := by
  have hB := as_row h
  obtain ⟨d, is, D, h1, ⟨rv, R, rm, n, rfl, hR⟩, h3, h4, m⟩ := h
  refine (lend_act m 3 rfl (TSl.of hB) (.inr (fun b o e hm => ?_)) hL hR).mono ?_
  · cases e
    exact groups_apart m 0 3 (by decide) rfl rfl g0 (by simp [rowG, fps, rowT, Value.ownBlock]) hm
  · rintro e w' ⟨g, R1, cap, rfl, q1, q2, _, m'⟩
    have hr : RowAt w' g 5 1 R1 cap (by8 (lendL xs R1)) := (m'.get 3 rfl).get 1 rfl
    exact ⟨g, R1, cap, rfl, by have := hr.capLe.1; omega, d, is, _, h1, ⟨rfl, q1, q2⟩, h3, h4, m'⟩
theorem as_back {g R cap L c : Nat} {A : Option Addr} {xs : List Int} (h : AS x u (KT x g R cap L xs) cs F q t W) (hb : TSl x.W0 A L c xs) :
    Calls Tryd.prog 38 #[.pointer (some ⟨x.kb, 0, none⟩), .slice A L c] W fun e w' => e = .returned (.bool true) ∧ AS x u (KT x g R cap L xs) cs F q t w' := by
  obtain ⟨d, is, D, h1, ⟨rfl, hR1, hR2⟩, h3, h4, m⟩ := h
  refine (back_act m (F.length + 2) (by rw [ga_at]; rfl) (hb.keeps m.old (.inr (fun _ _ _ => by simp))) (hb.lt.imp id (fun f b o e => ?_)) (by omega) hR2).mono ?_
  · have hlt := f _ e
    have h9 : ∀ k ∈ fps (deskG x.kb (roomV g R cap) R (lendL xs R) (L : Int)), x.W0.heap.size ≤ k := fun k hk => m.news k (mem_flat_fps (F.length + 2) (by rw [ga_at]; rfl) hk)
    rw [desk_fps] at h9
    have e1 := h9 x.kb (List.mem_cons_self ..)
    have e2 := h9 g (by simp [roomV, Value.ownBlock])
    simp only at hlt
    omega
  · rintro e w' ⟨rfl, k9⟩
    exact ⟨rfl, d, is, _, h1, ⟨rfl, hR1, hR2⟩, h3, h4, m.blank k9⟩
theorem as_backX {g R cap g0 L c : Nat} {xs : List Int} (h : AS x u (KT x g R cap L xs) cs [rowG g0 L c xs] q t W) :
    Calls Tryd.prog 38 #[.pointer (some ⟨x.kb, 0, none⟩), .slice (some ⟨g0, 0, none⟩) L c] W fun e w' => e = .returned (.bool true) ∧ AS x u (KT x g R cap L xs) cs [rowG g0 L c xs] q t w' := by
  have hB := as_row h
  obtain ⟨d, is, D, h1, ⟨rfl, hR1, hR2⟩, h3, h4, m⟩ := h
  refine (back_act m 3 rfl (TSl.of hB) (.inr (fun b o e => ?_)) (by omega) hR2).mono ?_
  · cases e
    have h9 := groups_apart m 0 3 (by decide) rfl rfl g0 (by simp [rowG, fps, rowT, Value.ownBlock])
    rw [desk_fps] at h9
    simp [roomV, Value.ownBlock] at h9
    exact h9
  · rintro e w' ⟨rfl, k9⟩
    exact ⟨rfl, d, is, _, h1, ⟨rfl, hR1, hR2⟩, h3, h4, m.blank k9⟩
theorem as_wipe {g R cap L : Nat} {xs : List Int} (h : AS x u (KT x g R cap L xs) cs F q t W) :
    Calls Tryd.prog 39 #[.pointer (some ⟨x.kb, 0, none⟩)] W fun e w' => e = .returned (.tuple #[]) ∧ AS x u (KF x) cs F q t w' := by
  obtain ⟨d, is, D, h1, ⟨rfl, hR1, hR2⟩, h3, h4, m⟩ := h
  refine (wipe_act m (F.length + 2) (by rw [ga_at]; rfl) (by omega) hR2).mono ?_
  rintro e w' ⟨rfl, rm', m'⟩
  rw [ga_set] at m'
  exact ⟨rfl, d, is, _, h1, ⟨_, _, _, _, rfl, hR2⟩, h3, h4, m'⟩
/-- what is lent -/
theorem lent_bsl {g R cap L : Nat} {xs : List Int} (hxl : xs.length = L) (h : AS x u (KT x g R cap L xs) cs F q t W) : BSl W (some ⟨g, 0, none⟩) L cap xs := by
  obtain ⟨d, is, D, h1, ⟨rfl, hR1, hR2⟩, h3, h4, m⟩ := h
  have hr : RowAt W g 5 1 R cap (by8 (lendL xs R)) := (m.get (F.length + 2) (by rw [ga_at]; rfl)).get 1 rfl
  have h1 := range_take (row_range8 hr) L
  rw [← hxl, lendL_take xs R (by omega)] at h1
  exact ⟨hxl, by have := hr.capLe.1; omega, .inr ⟨g, 0, rfl, h1, hxl, hr.lt⟩⟩
/-- NewWriter of what is lent -/
theorem as_newW (hx : AOk x) {g R cap L : Nat} {xs : List Int} (hxl : xs.length = L) (hL : L ≤ 2000) (h : AS x u (KT x g R cap L xs) cs [] q t W) (hq : q ≤ 30) :
    Calls Tryd.prog 16 #[.pointer (some ⟨x.db, 0, none⟩), .pointer (some ⟨x.sb, 0, none⟩), .slice (some ⟨g, 0, none⟩) L cap] W fun e w' => ∃ v : AW, e = .returned (.tuple #[.pointer (some ⟨v.wb, 0, none⟩), .int .i64 0]) ∧ v.c.bs = xs ∧ (∀ p ∈ cs, ∀ n ∈ v.c.N, n ∉ p.1.N) ∧ AS x u (KT x g R cap L xs) ((v.c, 0) :: cs) [awG x v 0] (q + 1) t w' := by
  have hB := lent_bsl hxl h
  obtain ⟨d, is, D, h1, ⟨rfl, hR1, hR2⟩, h3, h4, m⟩ := h
  obtain ⟨o1, o2, o3, o4, o5, o6⟩ := h1.take L hL hq
  have hk := nSec_2000 _ hL
  have hg := getD_mem (N := takeAllOut 3 is (nSec L : Int)) (j := 0) (by rw [o2.len]; omega)
  have hg1 := getD_mem (N := takeAllOut 3 is (nSec L : Int)) (j := nSec L - 1) (by rw [o2.len]; omega)
  have hap := groups_apart m 1 2 (by decide) rfl rfl
  rw [← h1.db]
  refine (newWriter_calls (s := spa x is) (m.get2 0 1 (by decide) rfl rfl) (some ⟨g, 0, none⟩) L cap xs hB (fun b o e => ?_) (by omega) (hx.tab.keeps m.old (by simp)) (hx.sha.keeps m.old (by simp)) o1 _ rfl (by have := o2.lo _ hg; simp only [spa]; omega) (by rw [h1.len]; exact o2.hi _ hg1)).mono ?_
  · cases e
    have hm : g ∈ fps (deskG x.kb (roomV g R cap) R (lendL xs R) (L : Int)) := by rw [desk_fps]; simp [roomV, Value.ownBlock]
    refine ⟨fun e1 => hap (spa x is).b (by simp [fps, spT]) (e1 ▸ hm), fun e1 => hap (spa x is).g (by simp [fps, spT]) (e1 ▸ hm)⟩
  · rintro e w' ⟨y, rfl, x1, x2, x3, x4, x5, x6, m'⟩
    have ex : y = WJ y.wb (takeAllOut 3 is (nSec L : Int)) xs y.nv y.bv 0 := by
      obtain ⟨wb, h9, fi, len, nv, nss, done, bv, bs⟩ := y
      simp only at x1 x2 x3 x4 x5 x6
      subst x1 x2 x3 x4 x5 x6
      rfl
    rw [ex] at m'
    have m2 := m.updNew 1 rfl m'
    refine ⟨⟨y.wb, ⟨takeAllOut 3 is (nSec L : Int), xs⟩, y.nv, y.bv⟩, rfl, rfl, ?_, d, _, _, o3, ⟨rfl, hR1, hR2⟩, h3, ?_, ?_⟩
    · intro p hp n hn hn'
      obtain ⟨m1, hm1, e1⟩ := o6 n hn
      exact (h4 p hp).gone n hn' m1 hm1 e1
    · intro p hp
      rcases List.mem_cons.1 hp with rfl | hp
      · exact ⟨⟨by rw [o2.len, hxl], by simp only; omega, o2.nodup, by decide, o2.lo, fun n hn => by rw [h1.len]; exact o2.hi n hn⟩, fun i hi => absurd hi (by omega), o4, by simp only; omega, Nat.zero_le _⟩
      · exact (h4 p hp).less o5
    · rw [h1.db] at m2
      exact m2
theorem as_wstep (hx : AOk x) {v : AW} {j : Nat} (h : AS x u K ((v.c, j) :: cs) [awG x v j] q t W) (hj : j < v.c.N.length) (hap : ∀ p ∈ cs, ∀ n ∈ v.c.N, n ∉ p.1.N) (ht : t < 536870912) :
    Calls Tryd.prog 19 #[.pointer (some ⟨v.wb, 0, none⟩)] W fun e w' => e = .returned (.tuple #[.bool (decide (j + 1 = v.c.N.length)), .int .i64 0]) ∧ AS x u K ((v.c, j + 1) :: cs) [awG x v (j + 1)] q (t + 1) w' := by
  obtain ⟨d, is, D, h1, h2, h3, h4, m⟩ := h
  have hc := h4 _ (List.mem_cons_self ..)
  have m1 : Moves [] ([DL d] ++ (awG x v j :: [[spT (spa x is)], D, [rowT u.rv 52 34 u.rl.length (arefsV u.rl)], [rowT u.tv 22 1 u.tl.length (u.tl.map atV)]])).flatten x.W0 W := m.permG (List.Perm.swap _ _ _)
  refine (wstep_act m1 0 1 (by decide) rfl rfl h1.db h1.ok hc.nm hj (by omega) hx.half).mono ?_
  rintro e w' ⟨rfl, d', hw, m'⟩
  refine ⟨rfl, d', is, D, h1.other hw.ok hw.db hw.last, h2, ⟨by rw [hw.rd]; omega, by rw [hw.wr]; omega⟩, ?_, m'.permG (List.Perm.swap _ _ _)⟩
  intro p hp
  rcases List.mem_cons.1 hp with rfl | hp
  · exact ⟨hc.nm.wr hw, hc.wrote.step hc.nm.nd hj hw, hc.gone, hc.le, hj⟩
  · exact (h4 p (List.mem_cons_of_mem _ hp)).wr (hap p hp _ (getD_mem hj)) hw
theorem as_wref {v : AW} {j : Nat} (h : AS x u K cs (awG x v j :: F) q t W) :
    Calls Tryd.prog 20 #[.pointer (some ⟨v.wb, 0, none⟩)] W fun e w' => e = .returned (.agg (arefV v.c).toArray) ∧ AS x u K cs (awG x v j :: F) q t w' := by
  obtain ⟨d, is, D, h1, h2, h3, h4, m⟩ := h
  refine (wref_act m 0 rfl).mono ?_
  rintro e w' ⟨rfl, hk⟩
  exact ⟨rfl, d, is, D, h1, h2, h3, h4, m.blank hk⟩
end
end Go.Proofs.YtgcpcgcfpjolnaaDoor.G
-- ChainAgain: more calls; a valid sector, a spoilt one.
namespace Go.Proofs.YtgcpcgcfpjolnaaDoor.G
open Go.RowKit Go.Proofs.YtgcpcgcfpjolnaaDoorW.PrintWords Go.Proofs.YtgcpcgcfpjolnaaDoorW.PrintLast Go.Proofs.YtgcpcgcfpjolnaaDoorW.PrintMore
set_option linter.unusedVariables false
set_option linter.unusedSimpArgs false
set_option maxRecDepth 10000
section
variable {x : AX} {u : AV} {K : List Thing → Prop} {cs : List (AC × Nat)} {F : List (List Thing)} {q t : Nat} {W W' : World}
theorem ga_set01 (d d' : DK) (is is' : List Bool) (D : List Thing) (F : List (List Thing)) : ((F ++ GA x d is D u).set F.length (DL d')).set (F.length + 1) [spT (spa x is')] = F ++ GA x d' is' D u := by
  rw [List.set_append_right _ _ (Nat.le_refl _), Nat.sub_self, List.set_append_right _ _ (by omega), Nat.add_sub_cancel_left]; rfl
theorem ga_set0 (d d' : DK) (is : List Bool) (D : List Thing) (F : List (List Thing)) : (F ++ GA x d is D u).set F.length (DL d') = F ++ GA x d' is D u := by
  rw [List.set_append_right _ _ (Nat.le_refl _), Nat.sub_self]; rfl
theorem ga_at0 (d : DK) (is : List Bool) (D : List Thing) (F : List (List Thing)) : (F ++ GA x d is D u)[F.length]? = some (DL d) := by
  have := ga_at (x := x) (u := u) d is D F 0
  rwa [Nat.add_zero] at this
/-- Put of what is lent -/
theorem as_put (hx : AOk x) {g R cap L : Nat} {xs : List Int} (hxl : xs.length = L) (hL : L ≤ 2000) (h : AS x u (KT x g R cap L xs) cs F q t W) (hq : q ≤ 30) (ht : t < 536000000) :
    Calls Tryd.prog 21 #[.pointer (some ⟨x.db, 0, none⟩), .pointer (some ⟨x.sb, 0, none⟩), .slice (some ⟨g, 0, none⟩) L cap] W fun e w' => ∃ (c : AC) (v : Value), e = .returned (.tuple #[.agg (arefV c).toArray, v, .int .i64 0]) ∧ c.bs = xs ∧ AS x u (KT x g R cap L xs) ((c, c.N.length) :: cs) F (q + 1) (t + 5) w' := by
  have hB := lent_bsl hxl h
  obtain ⟨d, is, D, h1, ⟨rfl, hR1, hR2⟩, h3, h4, m⟩ := h
  obtain ⟨o1, o2, o3, o4, o5, o6⟩ := h1.take L hL hq
  have hk := nSec_2000 _ hL
  have hg := getD_mem (N := takeAllOut 3 is (nSec L : Int)) (j := 0) (by rw [o2.len]; omega)
  have hg1 := getD_mem (N := takeAllOut 3 is (nSec L : Int)) (j := nSec L - 1) (by rw [o2.len]; omega)
  have e1 : (F ++ GA x d is (deskG x.kb (roomV g R cap) R (lendL xs R) (L : Int)) u)[F.length + 1]? = some [spT (spa x is)] := by rw [ga_at]; rfl
  have e2 : (F ++ GA x d is (deskG x.kb (roomV g R cap) R (lendL xs R) (L : Int)) u)[F.length + 2]? = some (deskG x.kb (roomV g R cap) R (lendL xs R) (L : Int)) := by rw [ga_at]; rfl
  have hap := groups_apart m (F.length + 1) (F.length + 2) (by omega) e1 e2
  rw [← h1.db]
  refine (put_calls (s := spa x is) (m.get2 F.length (F.length + 1) (by omega) (ga_at0 ..) e1) h1.ok (some ⟨g, 0, none⟩) L cap xs hB (fun b o e => ?_) (by omega) (hx.tab.keeps m.old (by simp)) (hx.sha.keeps m.old (by simp)) (hx.half.keeps m.old (by simp)) o1 _ rfl (by have := o2.lo _ hg; simp only [spa]; omega) (by rw [h1.len]; exact o2.hi _ hg1) (by omega)).mono ?_
  · cases e
    have hm : g ∈ fps (deskG x.kb (roomV g R cap) R (lendL xs R) (L : Int)) := by rw [desk_fps]; simp [roomV, Value.ownBlock]
    refine ⟨fun e1 => hap (spa x is).b (by simp [fps, spT]) (e1 ▸ hm), fun e1 => hap (spa x is).g (by simp [fps, spT]) (e1 ▸ hm)⟩
  · rintro e w' ⟨v, d', rfl, hn, m'⟩
    have hlen : (takeAllOut 3 is (nSec L : Int)).length ≤ 5 := by rw [o2.len]; omega
    have m2 := (m.upd2New F.length (F.length + 1) (by omega) (ga_at0 ..) e1 m').shed
    rw [show ({ spa x is with is := takeAllS (spa x is).is (nSec L : Int) } : SI) = spa x (takeAllS is (nSec L : Int)) from rfl, ga_set01] at m2
    refine ⟨⟨takeAllOut 3 is (nSec L : Int), xs⟩, v, rfl, rfl, d', _, _, o3.other hn.ok hn.db hn.last, ⟨rfl, hR1, hR2⟩, ⟨by rw [hn.rd]; omega, by rw [hn.wr]; simp only [spa]; omega⟩, ?_, m2⟩
    intro p hp
    rcases List.mem_cons.1 hp with rfl | hp
    · exact ⟨⟨by rw [o2.len, hxl], by simp only; omega, o2.nodup, by decide, o2.lo, fun n hn2 => by rw [hn.last, h1.len]; exact o2.hi n hn2⟩, hn.wrote, o4, by simp only; omega, Nat.le_refl _⟩
    · refine ((h4 p hp).less o5).wn ?_ hn
      intro n hn1 hn2
      obtain ⟨m1, hm1, e1⟩ := o6 n hn2
      exact (h4 p hp).gone n hn1 m1 hm1 e1
theorem as_get (hx : AOk x) {c : AC} (h : AS x u K cs F q t W) (hc : (c, c.N.length) ∈ cs) (ht : t < 536000000) :
    Calls Tryd.prog 22 #[.pointer (some ⟨x.db, 0, none⟩), .int .i64 3, .agg (arefV c).toArray] W fun e w' => ∃ A cp, e = .returned (.tuple #[.slice A c.bs.length cp, .int .i64 0, .int .i64 0]) ∧ c.bs.length ≤ cp ∧ AS x u K cs ([rowT (.slice A c.bs.length cp) 5 1 c.bs.length (by8 c.bs)] :: F) q (t + 5) w' := by
  obtain ⟨d, is, D, h1, h2, h3, h4, m⟩ := h
  have hcc := h4 _ hc
  have hs := hcc.short
  simp only at hs
  rw [← h1.db]
  refine (get_act m F.length (ga_at0 ..) h1.ok hcc.nm hcc.wrote (by omega) hx.half hx.sha).mono ?_
  rintro e w' ⟨A, cp, rfl, hcp, m'⟩
  rw [ga_set0] at m'
  exact ⟨A, cp, rfl, hcp, rdN d c.N.length, is, D, h1.other (ok_rdN h1.ok _) rfl rfl, h2, ⟨by show d.rd + (c.N.length : Int) ≤ _; omega, by show d.wr ≤ _; omega⟩, fun p hp => (h4 p hp).rd _, m'⟩
theorem as_same {A A1 : Option Addr} {cp c1 : Nat} {bs : List Int} (h : AS x u K cs ([rowT (.slice A bs.length cp) 5 1 bs.length (by8 bs)] :: F) q t W) (hcp : bs.length ≤ cp) (hb : TSl x.W0 A1 bs.length c1 bs) (hle : bs.length ≤ 1073741824) :
    Calls Tryd.prog 24 #[.slice A bs.length cp, .slice A1 bs.length c1] W fun e w' => e = .returned (.bool true) ∧ AS x u K cs F q t w' := by
  have hk := h.old
  obtain ⟨d, is, D, h1, h2, h3, h4, m⟩ := h
  obtain ⟨A', c', e9, _, hC, _⟩ := own_C (k := .u8) ((m.get 0 rfl).get 0 rfl)
  cases e9
  refine (same_yes hC hcp ((hb.keeps hk (.inr (by simp))).C (by omega)) hb.2.1).mono ?_
  rintro e w' ⟨rfl, k9⟩
  exact ⟨rfl, d, is, D, h1, h2, h3, h4, (m.blank k9).shed⟩
/-- the first sector of a chain -/
def sec0 (c : AC) : List Int := secB (shaF c.bs) 0 (nextI c.N 0) (pieceB c.bs 0)
theorem sec0_length (c : AC) : (sec0 c).length = 512 := secB_length _ _ _ _ (by rw [shaF_length]; decide) (by rw [pieceB_length]; omega)
theorem as_read (hx : AOk x) {c : AC} (h : AS x u K cs F q t W) (hc : (c, c.N.length) ∈ cs) (ht : t < 536000000) :
    Calls Tryd.prog 40 #[.pointer (some ⟨x.db, 0, none⟩), .int .i64 (c.N.getD 0 0)] W fun e w' => ∃ g cp, e = .returned (.tuple #[.slice (some ⟨g, 0, none⟩) 512 cp, .int .i64 0]) ∧ 512 ≤ cp ∧ AS x u K cs (rowG g 512 cp (sec0 c) :: F) q (t + 1) w' := by
  obtain ⟨d, is, D, h1, h2, h3, h4, m⟩ := h
  have hcc := h4 _ hc
  have hs := hcc.short
  simp only at hs
  have hm := getD_mem (show 0 < c.N.length by omega)
  have h0 := hcc.nm.lo _ hm
  have h9 := hcc.nm.hi _ hm
  have e0 : d.cur (c.N.getD 0 0) = sec0 c := hcc.wrote 0 (by simp only; omega)
  rw [← h1.db]
  refine (read_calls (m.get F.length (ga_at0 ..)) h1.ok _ (by omega) h9 (by omega)).mono ?_
  rintro e w' ⟨v, rfl, hv, hf, m'⟩
  rw [e0, sec0_length] at hv
  obtain ⟨g, cp, rfl, hr⟩ := own_some hv (by decide)
  have hge : W.heap.size ≤ g := hf g rfl
  have h3' := m.has.le
  have hN : Has 3 w' (rowG g 512 cp (sec0 c)) := rowH hv (fun k hk => by have := hf k hk; omega) (by have := m'.has.le; omega)
  have hlt := (m.get F.length (ga_at0 ..)).lt
  have m2 := m.updNew F.length (ga_at0 ..) (m'.add hN (fun k hk => by
    have hkg : k = g := by simpa [rowG, fps, rowT, Value.ownBlock] using hk
    subst hkg
    exact ⟨hge, fun hm9 => by have := hlt k hm9; omega⟩))
  have m3 : Moves [] (rowG g 512 cp (sec0 c) :: (F ++ GA x (rdUp d) is D u)).flatten x.W0 w' := by
    rw [show ({ d with rd := d.rd + 1 } : DK) = rdUp d from rfl, ga_set0] at m2
    exact m2
  exact ⟨g, cp, rfl, hr.capLe.1, rdUp d, is, D, h1.other (ok_rdUp h1.ok) rfl rfl, h2, ⟨by show d.rd + 1 ≤ _; omega, by show d.wr ≤ _; omega⟩, fun p hp => (h4 p hp).rdUp, m3⟩
end
end Go.Proofs.YtgcpcgcfpjolnaaDoor.G
-- ChainAgain: a valid sector, a spoilt one; what the calls tell of them.
namespace Go.Proofs.YtgcpcgcfpjolnaaDoor.G
open Go.RowKit Go.Proofs.YtgcpcgcfpjolnaaDoorW.PrintWords Go.Proofs.YtgcpcgcfpjolnaaDoorW.PrintLast Go.Proofs.YtgcpcgcfpjolnaaDoorW.PrintMore
set_option linter.unusedVariables false
set_option linter.unusedSimpArgs false
set_option maxRecDepth 10000
theorem shaF_byt (xs : List Int) : Byt (shaF xs) := fun y hy => by
  unfold shaF keyF at hy
  obtain ⟨v, _, hv⟩ := List.mem_flatMap.1 hy
  unfold keyB at hv
  simp at hv
  rcases hv with rfl | rfl | rfl | rfl <;> omega
theorem bits_xor_u8_nat (a b : Nat) (ha : a < 256) (hb : b < 256) : bits .xor .u8 (a : Int) (b : Int) = ((a ^^^ b : Nat) : Int) := by
  have hx : a ^^^ b < 2 ^ 8 := Nat.xor_lt_two_pow (by omega) (by omega)
  have h1 : (BitVec.ofInt 8 (a : Int)).toNat = a := by
    rw [BitVec.ofInt_natCast, BitVec.toNat_ofNat]; exact Nat.mod_eq_of_lt (by omega)
  have h2 : (BitVec.ofInt 8 (b : Int)).toNat = b := by
    rw [BitVec.ofInt_natCast, BitVec.toNat_ofNat]; exact Nat.mod_eq_of_lt (by omega)
  show IntKind.u8.wrap ((BitVec.ofInt 8 (a : Int) ^^^ BitVec.ofInt 8 (b : Int)).toNat : Int) = _
  rw [BitVec.toNat_xor, h1, h2]
  show (_ : Int) % 256 = _
  omega
/-- a byte, one bit of it turned over -/
def x4 (v : Int) : Int := bits .xor .u8 v 4
theorem x4_facts (v : Int) (h : 0 ≤ v ∧ v < 256) : (0 ≤ x4 v ∧ x4 v < 256) ∧ x4 v ≠ v ∧ x4 (x4 v) = v := by
  obtain ⟨n, rfl⟩ := Int.eq_ofNat_of_zero_le h.1
  have hx : n ^^^ 4 < 2 ^ 8 := Nat.xor_lt_two_pow (by omega) (by decide)
  have e : x4 (n : Int) = ((n ^^^ 4 : Nat) : Int) := bits_xor_u8_nat n 4 (by omega) (by decide)
  have e2 : x4 ((n ^^^ 4 : Nat) : Int) = (((n ^^^ 4) ^^^ 4 : Nat) : Int) := bits_xor_u8_nat _ 4 (by omega) (by decide)
  refine ⟨by rw [e]; omega, fun e1 => ?_, by rw [e, e2, Nat.xor_assoc, Nat.xor_self, Nat.xor_zero]⟩
  rw [e] at e1
  have h1 : n ^^^ 4 = n ^^^ 0 := by rw [Nat.xor_zero]; exact Int.ofNat.inj e1
  exact absurd (xor_cancel_left _ _ _ h1) (by decide)
theorem secsI_nat (L : Nat) (h : L ≤ 1048576) : secsI (L : Int) = (nSec L : Int) := by
  unfold secsI nSec
  rw [if_neg (by omega), if_neg (by omega)]
  omega
structure Sec0 (c : AC) : Prop where
  byt : Byt (sec0 c)
  formed : formedB (sec0 c) (shaF c.bs) (c.bs.length : Int) 0 = true
  next : nextF (sec0 c) (shaF c.bs) (c.bs.length : Int) 0 = nextI c.N 0
  may : mayB (c.bs.length : Int) 0 (nextI c.N 0) = true
  lo : 0 ≤ nextI c.N 0
theorem sec0_ok {d : DK} {is : List Bool} {c : AC} {j : Nat} (h : ACh d is c j) (hl : d.last.length = 400) (hb : Byt c.bs) : Sec0 c := by
  have hs := h.short
  have hlen := h.nm.len
  have hle := h.le
  have hni : 0 ≤ nextI c.N 0 ∧ nextI c.N 0 < 65536 ∧ (c.N.length = 1 → nextI c.N 0 = 0) ∧ (c.N.length ≠ 1 → 1 ≤ nextI c.N 0) := by
    unfold nextI
    by_cases h1 : 0 + 1 < c.N.length
    · rw [if_pos h1]
      have hm := getD_mem h1
      have a := h.nm.lo _ hm
      have b := h.nm.hi _ hm
      omega
    · rw [if_neg h1]
      omega
  have hp : (pieceB c.bs 0).length = min 480 (c.bs.length - 480 * 0) := pieceB_length _ _
  have hf : formedB (sec0 c) (shaF c.bs) (c.bs.length : Int) 0 = true := formed_sec _ _ _ _ _ (by rw [shaF_length]; decide) (by rw [hp]; unfold sizeI; omega) (by rw [hp]; omega) (by decide) (by decide)
  have hbt : Byt (sec0 c) := byt_sec _ _ (shaF_byt _) ((hb.drop _).take _)
  have hsec := secsI_nat c.bs.length (by omega)
  refine ⟨hbt, hf, ?_, ?_, hni.1⟩
  · unfold nextF
    rw [if_pos ⟨sec0_length c, by decide, by rw [hsec]; omega, hf⟩]
    exact next_sec _ _ _ _ hni.1 (by omega)
  · unfold mayB
    rw [hsec]
    by_cases h1 : c.N.length = 1
    · rw [if_pos (by omega)]; exact decide_eq_true (hni.2.2.1 h1)
    · rw [if_neg (by omega)]; exact decide_eq_true ⟨hni.2.2.2 h1, hni.2.1⟩
theorem sound_sec0 {c : AC} (h : Sec0 c) : soundB (sec0 c) (shaF c.bs) (c.bs.length : Int) 0 (nextI c.N 0) = true := by
  rw [← soundB_next _ _ _ _ _ h.may, h.next]; exact decide_eq_true rfl
theorem sound_spoilt {c : AC} (h : Sec0 c) : soundB ((sec0 c).set 40 (x4 ((sec0 c).getD 40 0))) (shaF c.bs) (c.bs.length : Int) 0 (nextI c.N 0) = false := by
  have hl := sec0_length c
  have h0 : 0 ≤ (sec0 c).getD 40 0 ∧ (sec0 c).getD 40 0 < 256 := byt_getD h.byt 40
  obtain ⟨f1, f2, _⟩ := x4_facts _ h0
  have := formed_spoilt h.byt h.formed 40 (by decide) (x4 ((sec0 c).getD 40 0)) f1 f2 (shaF c.bs) (c.bs.length : Int) 0
  unfold soundB
  rw [this, Bool.false_and, Bool.and_false, Bool.and_false]
theorem spoilt_back (c : AC) (h : Byt (sec0 c)) : ((sec0 c).set 40 (x4 ((sec0 c).getD 40 0))).set 40 (x4 (((sec0 c).set 40 (x4 ((sec0 c).getD 40 0))).getD 40 0)) = sec0 c := by
  have hl := sec0_length c
  have h0 : 0 ≤ (sec0 c).getD 40 0 ∧ (sec0 c).getD 40 0 < 256 := byt_getD h 40
  have e : ((sec0 c).set 40 (x4 ((sec0 c).getD 40 0))).getD 40 0 = x4 ((sec0 c).getD 40 0) := by
    rw [List.getD_eq_getElem?_getD, List.getElem?_set_self (by omega)]; rfl
  rw [e, (x4_facts _ h0).2.2, List.set_set]
  refine List.ext_getElem (by simp) fun i h1 h2 => ?_
  by_cases hi : 40 = i
  · subst hi; rw [List.getElem_set_self, List.getD_eq_getElem?_getD, List.getElem?_eq_getElem h2]; rfl
  · rw [List.getElem_set_ne hi]
theorem byt_set {l : List Int} (h : Byt l) (i : Nat) (y : Int) (hy : 0 ≤ y ∧ y < 256) : Byt (l.set i y) := fun x hx => by
  rcases List.mem_or_eq_of_mem_set hx with h1 | rfl
  · exact h x h1
  · exact hy
end Go.Proofs.YtgcpcgcfpjolnaaDoor.G
-- ChainAgain: rows, and the last calls.
namespace Go.Proofs.YtgcpcgcfpjolnaaDoor.G
open Go.RowKit Go.Proofs.YtgcpcgcfpjolnaaDoorW.PrintWords Go.Proofs.YtgcpcgcfpjolnaaDoorW.PrintLast Go.Proofs.YtgcpcgcfpjolnaaDoorW.PrintMore
set_option linter.unusedVariables false
set_option linter.unusedSimpArgs false
set_option maxRecDepth 10000
theorem info52a : (Tryd.prog.info? 52).map (fun i => (i.zero, i.size, i.bytes)) = some (some (.agg z34.toArray), 34, 48) := by kernel_rfl
theorem info22a : (Tryd.prog.info? 22).map (fun i => (i.zero, i.size, i.bytes)) = some (some (.slice none 0 0), 1, 24) := by kernel_rfl
theorem size52a : (Tryd.prog.info? 52).map (·.size) = some 34 := by kernel_rfl
theorem arefV_length (c : AC) : (arefV c).length = 34 := refC_length _ _ _ (shaF_length _)
theorem arefsV_at (rl : List AC) (i : Nat) (c : AC) (hi : rl[i]? = some c) (j : Nat) (hj : j < 34) : (arefsV rl)[34 * i + j]? = (arefV c)[j]? := by
  induction rl generalizing i with
  | nil => simp at hi
  | cons a rl ih =>
    rw [show arefsV (a :: rl) = arefV a ++ arefsV rl by simp [arefsV]]
    cases i with
    | zero =>
      simp only [List.getElem?_cons_zero, Option.some.injEq] at hi
      subst hi
      rw [List.getElem?_append_left (by rw [arefV_length]; omega)]
      congr 1; omega
    | succ i =>
      rw [List.getElem?_append_right (by rw [arefV_length]; omega), arefV_length, show 34 * (i + 1) + j - 34 = 34 * i + j by omega]
      exact ih i (by simpa using hi)
theorem rowG_moves2 {G : List (List Thing)} {W0 W W1 : World} (m : Moves [] G.flatten W0 W) (i : Nat) {v v1 : Value} {e size n n1 : Nat} {xs ys : List Value} (hi : G[i]? = some [rowT v e size n xs]) (hown : W1.ownsRow 0 e size v1 n1 ys)
    (hk : Keeps v.ownBlock.toList W W1) (hf : ∀ k, v1.ownBlock = some k → v.ownBlock = some k ∨ W.heap.size ≤ k) : Moves [] (G.set i [rowT v1 e size n1 ys]).flatten W0 W1 :=
  m.upd i hi (Moves.at (m.get i hi) 0 (rowT v1 e size n1 ys) rfl hk hown (rowT_nodup ..) (fun k hk => (hf k (by simpa [rowT] using hk)).imp (by simp [rowT]) id))
section
variable {x : AX} {u : AV} {K : List Thing → Prop} {cs : List (AC × Nat)} {F : List (List Thing)} {q t : Nat} {W W1 : World}
theorem ga_set3 (d : DK) (is : List Bool) (D : List Thing) (F : List (List Thing)) (v : Value) (l : List AC) : (F ++ GA x d is D u).set (F.length + 3) [rowT v 52 34 l.length (arefsV l)] = F ++ GA x d is D { u with rv := v, rl := l } := by
  rw [List.set_append_right _ _ (by omega), Nat.add_sub_cancel_left]; rfl
theorem ga_set4 (d : DK) (is : List Bool) (D : List Thing) (F : List (List Thing)) (v : Value) (l : List AT) : (F ++ GA x d is D u).set (F.length + 4) [rowT v 22 1 l.length (l.map atV)] = F ++ GA x d is D { u with tv := v, tl := l } := by
  rw [List.set_append_right _ _ (by omega), Nat.add_sub_cancel_left]; rfl
theorem as_rowR (h : AS x u K cs F q t W) : W.ownsRow 0 52 34 u.rv u.rl.length (arefsV u.rl) := by
  obtain ⟨d, is, D, h1, h2, h3, h4, m⟩ := h
  exact (m.get (F.length + 3) (by rw [ga_at]; rfl)).get 0 rfl
theorem as_rowT (h : AS x u K cs F q t W) : W.ownsRow 0 22 1 u.tv u.tl.length (u.tl.map atV) := by
  obtain ⟨d, is, D, h1, h2, h3, h4, m⟩ := h
  exact (m.get (F.length + 4) (by rw [ga_at]; rfl)).get 0 rfl
theorem as_pushR {v1 : Value} {c1 c2 : AC} (h : AS x u K cs F q t W) (hown : W1.ownsRow 0 52 34 v1 (u.rl.length + 2) (arefsV u.rl ++ (arefV c1 ++ arefV c2))) (hk : Keeps u.rv.ownBlock.toList W W1) (hf : ∀ k, v1.ownBlock = some k → u.rv.ownBlock = some k ∨ W.heap.size ≤ k) :
    AS x { u with rv := v1, rl := u.rl ++ [c1, c2] } K cs F q t W1 := by
  obtain ⟨d, is, D, h1, h2, h3, h4, m⟩ := h
  have m' := rowG_moves2 m (F.length + 3) (by rw [ga_at]; rfl) hown hk hf
  refine ⟨d, is, D, h1, h2, h3, h4, ?_⟩
  have e1 : u.rl.length + 2 = (u.rl ++ [c1, c2]).length := by simp
  have e2 : arefsV u.rl ++ (arefV c1 ++ arefV c2) = arefsV (u.rl ++ [c1, c2]) := by simp [arefsV]
  rw [e1, e2, ga_set3] at m'
  exact m'
theorem as_pushT {v1 : Value} {t1 t2 : AT} (h : AS x u K cs F q t W) (hown : W1.ownsRow 0 22 1 v1 (u.tl.length + 2) (u.tl.map atV ++ [atV t1, atV t2])) (hk : Keeps u.tv.ownBlock.toList W W1) (hf : ∀ k, v1.ownBlock = some k → u.tv.ownBlock = some k ∨ W.heap.size ≤ k) :
    AS x { u with tv := v1, tl := u.tl ++ [t1, t2] } K cs F q t W1 := by
  obtain ⟨d, is, D, h1, h2, h3, h4, m⟩ := h
  have m' := rowG_moves2 m (F.length + 4) (by rw [ga_at]; rfl) hown hk hf
  refine ⟨d, is, D, h1, h2, h3, h4, ?_⟩
  have e1 : u.tl.length + 2 = (u.tl ++ [t1, t2]).length := by simp
  have e2 : u.tl.map atV ++ [atV t1, atV t2] = (u.tl ++ [t1, t2]).map atV := by simp
  rw [e1, e2, ga_set4] at m'
  exact m'
/-- the refs' and the texts' cells -/
theorem as_refs (h : AS x u K cs F q t W) (hn : 1 ≤ u.rl.length) : ∃ g c, u.rv = .slice (some ⟨g, 0, none⟩) u.rl.length c ∧ u.rl.length ≤ c := by
  obtain ⟨g, c, e, hr⟩ := own_some (as_rowR h) hn
  exact ⟨g, c, e, hr.capLe.1⟩
theorem as_refAt {g c n : Nat} (h : AS x u K cs F q t W) (he : u.rv = .slice (some ⟨g, 0, none⟩) n c) {i : Nat} {a : AC} (hi : u.rl[i]? = some a) : W.rangeAt g (34 * i) (arefV a) := by
  intro j v hj
  have hj' : j < 34 := by
    have := (List.getElem?_eq_some_iff.1 hj).1
    rwa [arefV_length] at this
  have hlt := (List.getElem?_eq_some_iff.1 hi).1
  have hs := as_rowR h
  obtain ⟨g', c', e', hr⟩ := own_some hs (by omega)
  rw [he] at e'
  cases e'
  have h9 := hr.cell (34 * i + j) (by omega)
  rw [arefsV_at _ _ _ hi _ hj', hj] at h9
  exact h9
theorem as_refFirst {g c n : Nat} (h : AS x u K cs F q t W) (he : u.rv = .slice (some ⟨g, 0, none⟩) n c) {i : Nat} {a : AC} (hi : u.rl[i]? = some a) : W.cell? ⟨g, 34 * i + 32, none⟩ = some (.int .i64 (a.N.getD 0 0)) :=
  as_refAt h he hi 32 _ (by simp [arefV, refC, by8_length, shaF_length])
theorem as_texts (h : AS x u K cs F q t W) (hn : 1 ≤ u.tl.length) : ∃ g c, u.tv = .slice (some ⟨g, 0, none⟩) u.tl.length c ∧ u.tl.length ≤ c := by
  obtain ⟨g, c, e, hr⟩ := own_some (as_rowT h) hn
  exact ⟨g, c, e, hr.capLe.1⟩
theorem as_textAt {g c n : Nat} (h : AS x u K cs F q t W) (he : u.tv = .slice (some ⟨g, 0, none⟩) n c) {i : Nat} {a : AT} (hi : u.tl[i]? = some a) : W.cell? ⟨g, i, none⟩ = some (atV a) := by
  have hlt := (List.getElem?_eq_some_iff.1 hi).1
  obtain ⟨g', c', e', hr⟩ := own_some (as_rowT h) (by omega)
  rw [he] at e'
  cases e'
  rw [hr.cell i (by omega), List.getElem?_map, hi]; rfl
theorem as_sec {a : AC} (hb : Byt a.bs) (h : AS x u K cs F q t W) (hc : (a, a.N.length) ∈ cs) : Sec0 a := by
  obtain ⟨d, is, D, h1, h2, h3, h4, m⟩ := h
  exact sec0_ok (h4 _ hc) h1.len hb
theorem as_next {g cp : Nat} {a : AC} (ha : Sec0 a) (hle : a.bs.length ≤ 2000) (h : AS x u K cs (rowG g 512 cp (sec0 a) :: F) q t W) :
    Calls Tryd.prog 41 #[.slice (some ⟨g, 0, none⟩) 512 cp, .agg (arefV a).toArray, .int .i64 0] W fun e w' => e = .returned (.int .i64 (nextI a.N 0)) ∧ AS x u K cs (rowG g 512 cp (sec0 a) :: F) q t w' := by
  refine (next_ref (as_row h) ha.byt (shaF_length _) (shaF_byt _) (by omega) (by omega)).mono ?_
  rintro e w' ⟨rfl, hk⟩
  exact ⟨by rw [ha.next], h.blank hk⟩
theorem as_sound (hx : AOk x) {g R cap : Nat} {a : AC} {ys : List Int} (hy : Byt ys) (hyl : ys.length = 512) (hle : a.bs.length ≤ 2000) (h : AS x u (KT x g R cap 512 ys) cs F q t W) :
    Calls Tryd.prog 35 #[.slice (some ⟨g, 0, none⟩) 512 cap, .agg (arefV a).toArray, .int .i64 0, .int .i64 (nextI a.N 0)] W fun e w' => e = .returned (.bool (soundB ys (shaF a.bs) (a.bs.length : Int) 0 (nextI a.N 0))) ∧ AS x u (KT x g R cap 512 ys) cs F q t w' := by
  have hB := lent_bsl hyl h
  obtain ⟨g', o', e', hr, _, _⟩ := hB.2.2.resolve_left (by rintro ⟨e9, _⟩; cases e9)
  cases e'
  refine (sound_calls hr hyl hB.2.1 hy (shaF_length _) (hx.half.keeps h.old (by simp)) (by omega) (by omega)).mono ?_
  rintro e w' ⟨rfl, hk⟩
  exact ⟨rfl, h.blank hk⟩
/-- a byte of the sector that was handed out is written over -/
theorem as_xor {g cp : Nat} {l : List Int} (h : AS x u K cs (rowG g 512 cp l :: F) q t W) (y : Int) : AS x u K cs (rowG g 512 cp (l.set 40 y) :: F) q t (W.setCell ⟨g, 40, none⟩ (.int .u8 y)) := by
  obtain ⟨d, is, D, h1, h2, h3, h4, m⟩ := h
  have hr : RowAt W g 5 1 512 cp (by8 l) := (m.get 0 rfl).get 0 rfl
  have m' := m.one 0 (t' := rowT (.slice (some ⟨g, 0, none⟩) 512 cp) 5 1 512 (by8 (l.set 40 y))) rfl ((Keeps.refl _ W).setCell (a := ⟨g, 40, none⟩) (by simp [rowT, Value.ownBlock]) (.int .u8 y)) (by
    have := hr.set 40 (.int .u8 y)
    rw [show (by8 l).set 40 (.int .u8 y) = by8 (l.set 40 y) by simp [by8, List.map_set]] at this
    exact this) rfl
  exact ⟨d, is, D, h1, h2, h3, h4, m'⟩
theorem as_cell40 {g cp : Nat} {l : List Int} (h : AS x u K cs (rowG g 512 cp l :: F) q t W) : W.cell? ⟨g, 40, none⟩ = some (.int .u8 (l.getD 40 0)) ∧ W.frozen? ⟨g, 40, none⟩ = false ∧ 512 ≤ cp := by
  obtain ⟨d, is, D, h1, h2, h3, h4, m⟩ := h
  have hr : RowAt W g 5 1 512 cp (by8 l) := (m.get 0 rfl).get 0 rfl
  have hl : l.length = 512 := by have := hr.1; rw [by8_length] at this; omega
  refine ⟨?_, hr.frozen 40, hr.capLe.1⟩
  rw [hr.cell 40 (by omega), by8_get, List.getElem?_eq_getElem (by omega)]
  simp [List.getD_eq_getElem?_getD, List.getElem?_eq_getElem (show 40 < l.length by omega)]
end
end Go.Proofs.YtgcpcgcfpjolnaaDoor.G
-- ChainAgain: the start; the rounds' states.
namespace Go.Proofs.YtgcpcgcfpjolnaaDoor.G
open Go.RowKit Go.Proofs.YtgcpcgcfpjolnaaDoorW.PrintWords Go.Proofs.YtgcpcgcfpjolnaaDoorW.PrintLast Go.Proofs.YtgcpcgcfpjolnaaDoorW.PrintMore
set_option linter.unusedVariables false
set_option linter.unusedSimpArgs false
set_option maxRecDepth 10000
theorem add_nil3 {M L : List Thing} {w0 w : World} (m : Moves M L w0 w) (e sz : Nat) : Moves M (rowT (.slice none 0 0) e sz 0 [] :: L) w0 w :=
  Moves.add (N := [rowT (.slice none 0 0) e sz 0 []]) m ⟨fun t ht => by rw [List.mem_singleton.1 ht]; exact World.ownsRow_nil _ _ _ _, by simp [fps, rowT, Value.ownBlock], by simp [fps, rowT, Value.ownBlock], m.has.le⟩ (by simp [fps, rowT, Value.ownBlock])
def UA0 : AV := ⟨.slice none 0 0, [], .slice none 0 0, []⟩
theorem perm_startA {α : Type} (D : List α) (s a n1 n2 n3 : α) : (n1 :: n2 :: n3 :: (a :: (D ++ [s]))).Perm (D ++ ([s] ++ ([a, n1] ++ ([n2] ++ ([n3] ++ []))))) := by
  classical
  rw [List.perm_iff_count]
  intro y
  simp only [List.count_append, List.count_cons, List.count_nil]
  omega
theorem as_start (x : AX) {W : World} {d : DK} (hd : Blank d 400) (hdb : d.db = x.db) (ek : x.kb = W.heap.size) (m : Moves [] [DL d, [spT (spa x (List.replicate (400 - 3) true))]].flatten x.W0 W) :
    AS x UA0 (KF x) [] [] 0 0 (W.alloc (.cells #[.slice none 0 0, .int .i64 0] 82)) := by
  have m1 := m.newStr #[.slice none 0 0, .int .i64 0] 82
  have m4 := add_nil3 (add_nil3 (add_nil3 m1 22 1) 52 34) 5 1
  have h5 : (List.replicate (400 - 3) true).length = 397 := by simp
  refine ⟨d, List.replicate (400 - 3) true, deskG x.kb (.slice none 0 0) 0 [] 0, ⟨hd.ok, hdb, by rw [hd.last]; simp, h5, by rw [trues_full]; simp⟩, ⟨_, _, _, _, rfl, by decide⟩, ⟨by rw [hd.rd]; decide, by rw [hd.wr]; decide⟩, fun p hp => (by cases hp), ?_⟩
  have q1 := m4.perm (List.Perm.refl _) (perm_startA (DL d) (spT (spa x (List.replicate (400 - 3) true))) _ _ _ _)
  rw [← ek] at q1
  exact q1
structure TKo (x : AX) (t : AT) : Prop where
  at_ : TSl x.W0 t.A t.bs.length t.c t.bs
  byt : Byt t.bs
  le : t.bs.length ≤ 2000
structure PAok (x : AX) (rl : List AC) (tl : List AT) (cs : List (AC × Nat)) (n : Nat) : Prop where
  rn : rl.length = n
  tn : tl.length = n
  cin : ∀ c ∈ rl, (c, c.N.length) ∈ cs
  bs : ∀ (k : Nat) (c : AC) (t : AT), rl[k]? = some c → tl[k]? = some t → t.bs = c.bs
  tok : ∀ t ∈ tl, TKo x t
theorem PAok.step {x : AX} {rl : List AC} {tl : List AT} {cs : List (AC × Nat)} {n : Nat} (h : PAok x rl tl cs n) {c1 c2 : AC} {t : AT} (ht : TKo x t) (e1 : c1.bs = t.bs) (e2 : c2.bs = t.bs) : PAok x (rl ++ [c1, c2]) (tl ++ [t, t]) ((c2, c2.N.length) :: (c1, c1.N.length) :: cs) (n + 2) := by
  refine ⟨by simp [h.rn], by simp [h.tn], fun c hc => ?_, fun k c s hk hs => ?_, fun s hs => ?_⟩
  · rcases List.mem_append.1 hc with hc | hc
    · exact List.mem_cons_of_mem _ (List.mem_cons_of_mem _ (h.cin c hc))
    · have : c = c1 ∨ c = c2 := by simpa using hc
      rcases this with rfl | rfl
      · exact List.mem_cons_of_mem _ (List.mem_cons_self ..)
      · exact List.mem_cons_self ..
  · rcases Nat.lt_or_ge k n with hkn | hkn
    · rw [List.getElem?_append_left (by rw [h.rn]; exact hkn)] at hk
      rw [List.getElem?_append_left (by rw [h.tn]; exact hkn)] at hs
      exact h.bs k c s hk hs
    · rw [List.getElem?_append_right (by rw [h.rn]; exact hkn), h.rn] at hk
      rw [List.getElem?_append_right (by rw [h.tn]; exact hkn), h.tn] at hs
      have h2 : k - n = 0 ∨ k - n = 1 := by
        have := (List.getElem?_eq_some_iff.1 hk).1
        simp at this
        omega
      rcases h2 with h3 | h3
      · rw [h3] at hk hs; cases hk; cases hs; exact e1.symm
      · rw [h3] at hk hs; cases hk; cases hs; exact e2.symm
  · rcases List.mem_append.1 hs with hs | hs
    · exact h.tok s hs
    · have : s = t := by simpa using hs
      rw [this]; exact ht
/-- ahead of the i-th round of the writers -/
def PA (x : AX) (i : Nat) (rv tv : Value) (W : World) : Prop :=
  ∃ rl tl cs, PAok x rl tl cs (2 * i) ∧ AS x ⟨rv, rl, tv, tl⟩ (KF x) cs [] (2 * i) (100 * i) W
/-- the lists that come in -/
structure LArg (W : World) (Ao : Option Addr) (n co : Nat) (ts : List AT) : Prop where
  len : ts.length = n
  cap : n ≤ co
  at_ : n = 0 ∨ ∃ g o, Ao = some ⟨g, o, none⟩ ∧ ∀ i t, ts[i]? = some t → W.cell? ⟨g, o + i, none⟩ = some (atV t)
  tx : ∀ t ∈ ts, TSl W t.A t.bs.length t.c t.bs ∧ Byt t.bs
def cutT (t : AT) : AT := ⟨t.A, t.c, t.bs.take 2000⟩
theorem cut_ok {x : AX} {t : AT} (h : TSl x.W0 t.A t.bs.length t.c t.bs) (hb : Byt t.bs) : TKo x (cutT t) := by
  refine ⟨⟨rfl, ?_, ?_⟩, hb.take 2000, by show (t.bs.take 2000).length ≤ 2000; rw [List.length_take]; omega⟩
  · have := h.2.1
    show (t.bs.take 2000).length ≤ t.c
    rw [List.length_take]; omega
  · rcases h.2.2 with h1 | ⟨g, o, h1, h2, h4⟩
    · exact .inl (by show (t.bs.take 2000).length = 0; rw [List.length_take]; omega)
    · exact .inr ⟨g, o, h1, range_take h2 2000, h4⟩
end Go.Proofs.YtgcpcgcfpjolnaaDoor.G
-- ChainAgain: a ref that lies by itself; two refs, two texts in a list.
namespace Go.Proofs.YtgcpcgcfpjolnaaDoor.G
open Go.RowKit Go.Proofs.YtgcpcgcfpjolnaaDoorW.PrintWords Go.Proofs.YtgcpcgcfpjolnaaDoorW.PrintLast Go.Proofs.YtgcpcgcfpjolnaaDoorW.PrintMore
set_option linter.unusedVariables false
set_option linter.unusedSimpArgs false
set_option maxRecDepth 10000
theorem z34_cellsA : (Value.agg z34.toArray).cells.size = 34 := by rfl
def locG (rb : Nat) (c : AC) : List Thing := [strT rb (arefV c).toArray 52]
section
variable {x : AX} {u : AV} {K : List Thing → Prop} {cs : List (AC × Nat)} {F : List (List Thing)} {q t : Nat} {W W1 : World}
theorem as_local {N : List Thing} (h : AS x u K cs [N] q t W) (c : AC) : AS x u K cs [N, locG W.heap.size c] q t ((W.alloc (.cells z34.toArray 52)).setCells W.heap.size 0 (arefV c)) := by
  obtain ⟨d, is, D, h1, h2, h3, h4, m⟩ := h
  have m1 := m.newStr z34.toArray 52
  have hs : StrAt (W.alloc (.cells z34.toArray 52)) W.heap.size z34.toArray 52 := StrAt.new W _ _
  have h9 := StrAt_setCells (arefV c) 0 _ _ hs (by simp [arefV_length, z34_length])
  rw [show (putAt z34.toArray.toList 0 (arefV c)).toArray = (arefV c).toArray from by
    unfold putAt
    simp [arefV_length, z34_length]] at h9
  have m2 := m1.one 0 (t' := strT W.heap.size (arefV c).toArray 52) rfl (keeps_setCells (S := (strT W.heap.size z34.toArray 52).fp) (g := W.heap.size) (by simp [strT]) (arefV c) 0 _ _ (Keeps.refl _ _)) h9 rfl
  exact ⟨d, is, D, h1, h2, h3, h4, m2.permG (List.Perm.swap _ _ _)⟩
theorem as_loc {N : List Thing} {rb : Nat} {c : AC} (h : AS x u K cs [N, locG rb c] q t W) : W.rangeAt rb 0 (arefV c) := by
  obtain ⟨d, is, D, h1, h2, h3, h4, m⟩ := h
  have := str_range ((m.get 1 rfl).get 0 rfl : StrAt W rb (arefV c).toArray 52)
  simpa using this
theorem loc_hash {W : World} {rb : Nat} {c : AC} (h : W.rangeAt rb 0 (arefV c)) : W.rangeAt rb 0 (by8 (shaF c.bs)) := fun i v hv => h i v (by simp only [arefV, refC]; rw [List.getElem?_append_left (List.getElem?_eq_some_iff.1 hv).1]; exact hv)
theorem loc_len {W : World} {rb : Nat} {c : AC} (h : W.rangeAt rb 0 (arefV c)) : W.cell? ⟨rb, 33, none⟩ = some (.int .i64 (c.bs.length : Int)) := by
  have := h 33 (.int .i64 (c.bs.length : Int)) (by simp [arefV, refC, by8_length, shaF_length])
  simpa using this
end
section
variable {x : AX} {u : AV} {K : List Thing → Prop} {cs : List (AC × Nat)} {F : List (List Thing)} {q t : Nat} {W W1 : World}
theorem as_rForm (h : AS x u K cs F q t W) : ∃ A c, u.rv = .slice A u.rl.length c := by
  rcases own_form (as_rowR h) with ⟨e, h0, _⟩ | ⟨g, c, e, _⟩
  · exact ⟨none, 0, by rw [e, h0]⟩
  · exact ⟨_, c, e⟩
theorem as_tForm (h : AS x u K cs F q t W) : ∃ A c, u.tv = .slice A u.tl.length c := by
  rcases own_form (as_rowT h) with ⟨e, h0, _⟩ | ⟨g, c, e, _⟩
  · exact ⟨none, 0, by rw [e, h0]⟩
  · exact ⟨_, c, e⟩
end
theorem put2 {L1 L2 base : List Value} (h1 : L1.length = 34) (h2 : L2.length = 34) (hb : base.length = 68) : putAt (putAt base 0 L1) 34 L2 = L1 ++ L2 := by
  unfold putAt
  simp [h1, h2, hb]
theorem step_slice2 {ops : Array Oper} {o : Oper} {a : Act} {K : Act → World → Prop} {Q : Exit → Act → World → Prop} {E : Prop} {W : World} (hgd : o.guard = none) (x y : Operand) (hop : o.op = .buildSlice 40 2 #[(0, x), (1, y)]) (L1 L2 : List Value) (h1 : L1.length = 34) (h2 : L2.length = 34)
    (hx : a.eval x = .agg L1.toArray) (hy : a.eval y = .agg L2.toArray) (h : K (a.put o.dst (.slice (some ⟨W.heap.size, 0, none⟩) 2 2)) (W.alloc (.cells (L1 ++ L2).toArray 52))) :
    if Region.wanted o (yielded ops a.tmps) = true then Oper.wp Tryd.prog o a W K Q else E := by
  have hw : Region.wanted o (yielded ops a.tmps) = true := by simp [Region.wanted, hgd]
  rw [if_pos hw]
  obtain ⟨i0, hi, hz0, hz1, hz2⟩ := info_parts info52a
  refine wp_buildSlice 40 52 2 _ hop (L1 ++ L2).toArray i0 (.agg z34.toArray) Tryd.underlying40 hi hz0 (by rw [hz1]; decide) (by rw [hz1]; decide) ?_ h
  rw [hz1]
  simp only [List.map_toArray, List.map_cons, List.map_nil]
  rw [hx, hy, fill_step _ _ 0 _ _ 0 34 rfl (by simpa [Value.cells] using h1) (by simp), fill_step _ _ 1 _ _ 34 34 rfl (by simpa [Value.cells] using h2) (by rw [List.size_toArray, putAt_length _ _ _ (by simp [Value.cells, h1])]; simp)]
  rw [show (Value.agg L1.toArray).cells.toList = L1 by simp [Value.cells], show (Value.agg L2.toArray).cells.toList = L2 by simp [Value.cells], List.toList_toArray, put2 h1 h2 (by simp)]
  rfl
theorem field52_0 (h : List Int) (hh : h.length = 32) (fi len : Int) (w : World) : (Instr.field 52 (.agg (refC h fi len).toArray) 0).run Tryd.prog w = .ok (.agg (by8 h).toArray) w := by
  obtain ⟨i2, hi2, hz21⟩ := Option.map_eq_some_iff.1 (show (Tryd.prog.info? 50).map (·.size) = some 32 by kernel_rfl)
  have hb : (by8 h).length = 32 := by rw [by8_length, hh]
  simp [Instr.field, run_underlying Tryd.underlying52, part, isAgg, sizeOf, typeInfo, asAgg, hi2, hz21, Result.andThen, run_underlying Tryd.underlying50]
  unfold refC
  rw [List.take_append_of_le_length (by omega), List.take_of_length_le (by omega)]
theorem exec_field0 {o : Oper} {a : Act} {w : World} (x : Operand) (ho : o.op = .field 52 x 0) (c : AC) (hx : a.eval x = .agg (arefV c).toArray) : (execOp a.eval o).run Tryd.prog w = .ok (.value (.agg (by8 (shaF c.bs)).toArray)) w := by
  unfold execOp
  simp only [ho, hx]
  rw [Sem.run_bind, show arefV c = refC (shaF c.bs) (c.N.getD 0 0) (c.bs.length : Int) from rfl, field52_0 _ (shaF_length _)]
  rfl
end Go.Proofs.YtgcpcgcfpjolnaaDoor.G
