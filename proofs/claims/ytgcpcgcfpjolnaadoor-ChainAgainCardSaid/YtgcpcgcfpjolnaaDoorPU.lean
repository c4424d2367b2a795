import Derived.Test.YtgcpcgcfpjolnaaDoorPT
-- ChainAgain: the walk.
namespace Go.Proofs.YtgcpcgcfpjolnaaDoor.G
open Go.RowKit Go.Proofs.YtgcpcgcfpjolnaaDoorW.PrintWords Go.Proofs.YtgcpcgcfpjolnaaDoorW.PrintLast Go.Proofs.YtgcpcgcfpjolnaaDoorW.PrintMore
set_option linter.unusedVariables false
set_option linter.unusedSimpArgs false
set_option maxRecDepth 10000
theorem exec_min {P : Program} {o : Oper} {a : Act} {w : World} (x y : Operand) (ho : o.op = .call { callee := .builtin .min, args := #[x, y], argTypes := #[3, 3] }) (p q : Int) (hx : a.eval x = .int .i64 p) (hy : a.eval y = .int .i64 q) : (execOp a.eval o).run P w = .ok (.value (.int .i64 (min p q))) w := by
  unfold execOp
  simp only [ho, resolve, invoke, builtin, Sem.run_bind, Sem.run_pure, Result.andThen_ok, List.map_toArray, List.map_cons, List.map_nil, hx, hy, run_min_int2]
  congr 3
  split <;> omega
set_option maxHeartbeats 16000000 in
theorem again_walk {W0 : World} (hw : 3 ≤ W0.heap.size) (Ao : Option Addr) (n co : Nat) (ts : List AT) (hl : LArg W0 Ao n co ts) (hTab : TabW W0) (hT : ShaW W0) (hH : HalfW W0) :
    Calls Tryd.prog 6 #[.slice Ao n co] W0 fun e w' => e = .returned (.bool true) ∧ Keeps [] W0 w' := by
  have M0 := Lib.hid (Moves.start hw)
  have HLA := Lib.hid hl
  have HTB := Lib.hid (And.intro hTab (And.intro hT hH))
  have HW3 := Lib.hid hw
  clear hl hTab hT hH hw
  go_enter Tryd.func6, Tryd.ntmps6
  go_wp2_with (first | (go_at_call 15; refine (num_calls _ _).mono ?_; rintro e w' ⟨rfl, rfl⟩) | (go_at_call 13; refine (disk_new M0.out 400 (by decide) (by decide)).mono ?_; rintro e w' ⟨d, rfl, hd, m1⟩; have M1 := Lib.hid m1; have BL := Lib.hid hd; clear m1 hd) | (go_at_call 14; refine (space_new M1.out 3 400 (by decide) (by decide)).mono ?_; rintro e w' ⟨b, g, cap, rfl, m2⟩; have M2 := Lib.hid (m2.permG (List.Perm.swap _ _ _)); clear m2 M1))
  obtain ⟨x, hx⟩ : ∃ x : AX, x = ⟨W0, d.db, b, g, cap, w'.heap.size⟩ := ⟨_, rfl⟩
  have HXO := Lib.hid (show AOk x from by rw [hx]; exact ⟨HTB.out.1, HTB.out.2.1, HTB.out.2.2, HW3.out⟩)
  have HW0 := Lib.hid (show x.W0 = W0 by rw [hx])
  have hdb : d.db = x.db := by rw [hx]
  have hsb : x.sb = b := by rw [hx]
  have hkb : x.kb = w'.heap.size := by rw [hx]
  have T0 := Lib.hid (as_start x BL.out hdb hkb (by rw [show x.W0 = W0 by rw [hx], show spa x (List.replicate (400 - 3) true) = ⟨b, g, cap, 3, 400, List.replicate (400 - 3) true⟩ by rw [hx]; rfl]; exact M2.out))
  have HLX := Lib.hid (show LArg x.W0 Ao n co ts from by rw [HW0.out]; exact HLA.out)
  rw [← hkb, ← hsb, hdb]
  generalize w'.alloc (.cells #[.slice none 0 0, .int .i64 0] 82) = WS at T0 ⊢
  clear hx hdb hsb hkb M2 BL M0 HTB HW3 HLA
  go_loopg [8, 9, 10] 12 (fun q rv tv iv W => ∃ i : Nat, iv = .int .i64 (i : Int) ∧ i ≤ 12 ∧ i ≤ n ∧ 12 - i ≤ q ∧ Hid (PA x i rv tv W))
  case atStart => exact ⟨0, rfl, by omega, by omega, by omega, Lib.hid ⟨[], [], [], ⟨rfl, rfl, fun c hc => (by cases hc), fun k c t hk => (by simp at hk), fun t ht => (by cases ht)⟩, T0.out⟩⟩
  case round =>
    obtain ⟨i, rfl, hi, hin, hq, T1⟩ := hrel
    clear T0
    by_cases hi2 : i < n ∧ i < 12
    · have b1 : ((i : Int) < (n : Int)) = True := eq_true (by omega)
      have b2 : ((i : Int) < 12) = True := eq_true (by omega)
      obtain ⟨rl, tl, cs, ok, t0⟩ := T1.out
      obtain ⟨t, ht⟩ : ∃ t, ts[i]? = some t := ⟨_, List.getElem?_eq_getElem (by have := HLX.out.len; omega)⟩
      obtain ⟨htb, hty⟩ := HLX.out.tx t (List.mem_of_getElem? ht)
      obtain ⟨ga, oa, hAo, hcell⟩ := HLX.out.at_.resolve_left (by omega)
      subst hAo
      have hct := hcell i t ht
      have HCT := Lib.hid (show ∀ W, Keeps [] x.W0 W → W.cell? ⟨ga, oa + i, none⟩ = some (.slice t.A t.bs.length t.c) from fun W hk => hk.cell hct (by simp))
      have TK := Lib.hid (cut_ok htb hty)
      have TA := Lib.hid t0
      have OK := Lib.hid ok
      have HCU := Lib.hid (show (cutT t).bs.length = min 2000 t.bs.length ∧ (cutT t).A = t.A ∧ (cutT t).c = t.c ∧ t.bs.length ≤ t.c from ⟨by show (t.bs.take 2000).length = _; rw [List.length_take], rfl, rfl, htb.2.1⟩)
      clear t0 ok T1 hcell hct htb hty ht
      obtain ⟨m, hm⟩ : ∃ m, m = (cutT t).bs.length := ⟨_, rfl⟩
      have hmc : m ≤ t.c := by have := HCU.out; omega
      have hm2 : m ≤ 2000 := by have := TK.out.le; omega
      have HMN := Lib.hid (show min (t.bs.length : Int) 2000 = (m : Int) from by have := HCU.out; omega)
      have HM := Lib.hid hm
      clear hm
      obtain ⟨tA, hA⟩ : ∃ a, a = t.A := ⟨_, rfl⟩
      obtain ⟨tc, hc⟩ : ∃ a, a = t.c := ⟨_, rfl⟩
      obtain ⟨tL, hL⟩ : ∃ a, a = t.bs.length := ⟨_, rfl⟩
      rw [← hc] at hmc
      rw [← hA, ← hc, ← hL] at HCT
      rw [← hL] at HMN
      have HTT := Lib.hid (And.intro hA (And.intro hc hL))
      have hmc' : ((m : Int) ≤ (tc : Int)) = True := eq_true (by omega)
      clear hA hc hL
      go_wp2
      refine wp_region_held_drew (S := fun W => W.cell? ⟨ga, oa + i, none⟩ = some (.slice tA tL tc)) (by kernel_rfl) (HCT.out _ (TA.out.old.drew)) (fun hHeld => ?_)
      refine wpAnyH_take (i := 0) (oi := { dst := some 62, op := Op.move (Operand.tmp 0), type := 33, pos := "again.go:25", after := #[], guard := none }) (v := ?_) rfl (by kernel_rfl) (by kernel_rfl) (by kernel_rfl) (fun _ _ _ h => h) (Or.inl ⟨by kernel_rfl, ?_⟩) (by assumption) ?_
      rotate_left
      · (intro w9 hSw; clear hSw; go_simp; try with_reducible rfl)
      try simp only [Act.put, List.setIfInBounds_toArray, List.set_cons_zero, List.set_cons_succ]
      refine wpAnyH_take (i := 1) (oi := { dst := some 63, op := Op.move (Operand.tmp 10), type := 3, pos := "again.go:25", after := #[], guard := none }) (v := ?_) rfl (by kernel_rfl) (by kernel_rfl) (by kernel_rfl) (fun _ _ _ h => h) (Or.inl ⟨by kernel_rfl, ?_⟩) (by assumption) ?_
      rotate_left
      · (intro w9 hSw; clear hSw; go_simp; try with_reducible rfl)
      try simp only [Act.put, List.setIfInBounds_toArray, List.set_cons_zero, List.set_cons_succ]
      refine wpAnyH_take (i := 2) (oi := { dst := some 64, op := Op.indexAddr 33 (Operand.tmp 62) (Operand.tmp 63), type := 0, pos := "again.go:25", after := #[{ on := 0, ground := Ground.data }, { on := 1, ground := Ground.data }], guard := none }) (v := ?_) rfl (by kernel_rfl) (by kernel_rfl) (by kernel_rfl) (fun _ _ _ h => h) (Or.inl ⟨by kernel_rfl, ?_⟩) (by assumption) ?_
      rotate_left
      · (intro w9 hSw; clear hSw; go_simp; try with_reducible rfl)
      try simp only [Act.put, List.setIfInBounds_toArray, List.set_cons_zero, List.set_cons_succ]
      refine wpAnyH_take (i := 3) (oi := { dst := some 65, op := Op.load 22 (Operand.tmp 64), type := 22, pos := "again.go:25", after := #[{ on := 2, ground := Ground.data }], guard := none }) (v := ?_) rfl (by kernel_rfl) (by kernel_rfl) (by kernel_rfl) (fun _ _ _ h => h) (Or.inl ⟨by kernel_rfl, ?_⟩) (by assumption) ?_
      rotate_left
      · (intro w9 hSw; (try dsimp only at hSw); go_simp; try with_reducible rfl)
      try simp only [Act.put, List.setIfInBounds_toArray, List.set_cons_zero, List.set_cons_succ]
      refine wpAnyH_take (i := 4) (oi := { dst := some 66, op := Op.move (Operand.tmp 0), type := 33, pos := "again.go:25", after := #[], guard := none }) (v := ?_) rfl (by kernel_rfl) (by kernel_rfl) (by kernel_rfl) (fun _ _ _ h => h) (Or.inl ⟨by kernel_rfl, ?_⟩) (by assumption) ?_
      rotate_left
      · (intro w9 hSw; clear hSw; go_simp; try with_reducible rfl)
      try simp only [Act.put, List.setIfInBounds_toArray, List.set_cons_zero, List.set_cons_succ]
      refine wpAnyH_take (i := 5) (oi := { dst := some 67, op := Op.move (Operand.tmp 10), type := 3, pos := "again.go:25", after := #[], guard := none }) (v := ?_) rfl (by kernel_rfl) (by kernel_rfl) (by kernel_rfl) (fun _ _ _ h => h) (Or.inl ⟨by kernel_rfl, ?_⟩) (by assumption) ?_
      rotate_left
      · (intro w9 hSw; clear hSw; go_simp; try with_reducible rfl)
      try simp only [Act.put, List.setIfInBounds_toArray, List.set_cons_zero, List.set_cons_succ]
      refine wpAnyH_take (i := 6) (oi := { dst := some 68, op := Op.indexAddr 33 (Operand.tmp 66) (Operand.tmp 67), type := 0, pos := "again.go:25", after := #[{ on := 4, ground := Ground.data }, { on := 5, ground := Ground.data }], guard := none }) (v := ?_) rfl (by kernel_rfl) (by kernel_rfl) (by kernel_rfl) (fun _ _ _ h => h) (Or.inl ⟨by kernel_rfl, ?_⟩) (by assumption) ?_
      rotate_left
      · (intro w9 hSw; clear hSw; go_simp; try with_reducible rfl)
      try simp only [Act.put, List.setIfInBounds_toArray, List.set_cons_zero, List.set_cons_succ]
      refine wpAnyH_take (i := 7) (oi := { dst := some 69, op := Op.load 22 (Operand.tmp 68), type := 22, pos := "again.go:25", after := #[{ on := 6, ground := Ground.data }], guard := none }) (v := ?_) rfl (by kernel_rfl) (by kernel_rfl) (by kernel_rfl) (fun _ _ _ h => h) (Or.inl ⟨by kernel_rfl, ?_⟩) (by assumption) ?_
      rotate_left
      · (intro w9 hSw; (try dsimp only at hSw); go_simp; try with_reducible rfl)
      try simp only [Act.put, List.setIfInBounds_toArray, List.set_cons_zero, List.set_cons_succ]
      refine wpAnyH_take (i := 8) (oi := { dst := some 70, op := Op.call { callee := Callee.builtin Builtin.len, args := #[Operand.tmp 69], argTypes := #[22] }, type := 3, pos := "again.go:25", after := #[{ on := 7, ground := Ground.data }], guard := none }) (v := ?_) rfl (by kernel_rfl) (by kernel_rfl) (by kernel_rfl) (fun _ _ _ h => h) (Or.inl ⟨by kernel_rfl, ?_⟩) (by assumption) ?_
      rotate_left
      · (intro w9 hSw; clear hSw; go_simp; try with_reducible rfl)
      try simp only [Act.put, List.setIfInBounds_toArray, List.set_cons_zero, List.set_cons_succ]
      refine wpAnyH_take (i := 9) (oi := { dst := some 71, op := Op.call { callee := Callee.builtin Builtin.min, args := #[Operand.tmp 70, Operand.const (Value.int IntKind.i64 2000)], argTypes := #[3, 3] }, type := 3, pos := "again.go:25", after := #[{ on := 8, ground := Ground.data }], guard := none }) (v := ?_) rfl (by kernel_rfl) (by kernel_rfl) (by kernel_rfl) (fun _ _ _ h => h) (Or.inl ⟨by kernel_rfl, ?_⟩) (by assumption) ?_
      rotate_left
      · (intro w9 hSw; refine (exec_min _ _ rfl (tL : Int) 2000 rfl rfl).trans ?_; rw [HMN.out])
      try simp only [Act.put, List.setIfInBounds_toArray, List.set_cons_zero, List.set_cons_succ]
      refine wpAnyH_take (i := 10) (oi := { dst := some 72, op := Op.slice 22 (Operand.tmp 65) none (some (Operand.tmp 71)) none, type := 22, pos := "again.go:25", after := #[{ on := 3, ground := Ground.data }, { on := 9, ground := Ground.data }], guard := none }) (v := ?_) rfl (by kernel_rfl) (by kernel_rfl) (by kernel_rfl) (fun _ _ _ h => h) (Or.inl ⟨by kernel_rfl, ?_⟩) (by assumption) ?_
      rotate_left
      · (intro w9 hSw; clear hSw; go_simp; try with_reducible rfl)
      try simp only [Act.put, List.setIfInBounds_toArray, List.set_cons_zero, List.set_cons_succ]
      refine wpAnyH_take (i := 11) (oi := { dst := some 11, op := Op.assign (Operand.tmp 72), type := 22, pos := "again.go:25", after := #[{ on := 10, ground := Ground.data }, { on := 0, ground := Ground.phase }, { on := 1, ground := Ground.phase }, { on := 2, ground := Ground.phase }, { on := 3, ground := Ground.phase }, { on := 4, ground := Ground.phase }, { on := 5, ground := Ground.phase }, { on := 6, ground := Ground.phase }, { on := 7, ground := Ground.phase }, { on := 8, ground := Ground.phase }, { on := 9, ground := Ground.phase }, { on := 10, ground := Ground.phase }], guard := none }) (v := ?_) rfl (by kernel_rfl) (by kernel_rfl) (by kernel_rfl) (fun _ _ _ h => h) (Or.inl ⟨by kernel_rfl, ?_⟩) (by assumption) ?_
      rotate_left
      · (intro w9 hSw; clear hSw; go_simp; try with_reducible rfl)
      try simp only [Act.put, List.setIfInBounds_toArray, List.set_cons_zero, List.set_cons_succ]
      refine wpAnyH_done (by kernel_rfl) ?_ _
      obtain ⟨bs, hbs⟩ : ∃ b, b = (cutT t).bs := ⟨_, rfl⟩
      have HBS := Lib.hid (show TSl x.W0 tA m tc bs from by have := TK.out.at_; rw [← HM.out, ← hbs, HCU.out.2.1, HCU.out.2.2.1, ← HTT.out.1, ← HTT.out.2.1] at this; exact this)
      have HBL := Lib.hid (show bs.length = m from HBS.out.1)
      have HBE := Lib.hid hbs
      have TA' := Lib.hid (TA.out.blank (drew_keepsC _))
      clear hbs TA
      rename Hid (AS _ _ _ _ _ _ _ _) => TA
      go_wp2_with (first | (go_at_call 37; refine (as_lend HXO.out TA.out HBS.out (by omega)).mono ?_; rintro e w2 ⟨g1, R1, cp1, rfl, hcp, t2⟩; have TB := Lib.hid t2; clear t2 TA hcp) | (go_at_call 16; refine (as_newW HXO.out HBL.out hm2 TB.out (by omega)).mono ?_; rintro e w3 ⟨v, rfl, hvb, hap, t3⟩; have HVB := Lib.hid hvb; have HAP := Lib.hid hap; have TC := Lib.hid t3; clear hvb hap t3 TB) | (go_at_call 15; refine (num_calls _ _).mono ?_; rintro e w4 ⟨rfl, rfl⟩) | (go_at_call 38; refine (as_back TC.out HBS.out).mono ?_; rintro e w4 ⟨rfl, t4⟩; have TD := Lib.hid t4; clear t4 TC) | (go_at_call 39; refine (as_wipe TD.out).mono ?_; rintro e w5 ⟨rfl, t5⟩; have TA := Lib.hid t5; clear t5 TD))
      have HCN := Lib.hid (TA.out.ch _ (List.mem_cons_self ..)).1
      go_loopg [14] 5 (fun q ov W => ∃ j, j ≤ v.c.N.length ∧ v.c.N.length - j ≤ q ∧ (∃ b, ov = .bool b ∧ Hid (b = decide (j = v.c.N.length))) ∧ Hid (AS x ⟨u8, rl, u9, tl⟩ (KF x) ((v.c, j) :: cs) [awG x v j] (2 * i + 1) (100 * i + j) W))
      case atStart => exact ⟨0, Nat.zero_le _, by have := HCN.out; simp only at this; omega, ⟨false, rfl, Lib.hid (decide_eq_false (by have := HCN.out; simp only at this; omega)).symm⟩, TA⟩
      case round =>
        clear TA
        obtain ⟨j, hj, hqj, ⟨bb, rfl, HB⟩, TC⟩ := hrel
        by_cases hjk : j < v.c.N.length
        · have hb : bb = false := HB.out.trans (decide_eq_false (by omega))
          subst hb
          have HJK := Lib.hid hjk
          clear hjk
          go_wp2_with (go_at_call 19; refine (as_wstep HXO.out TC.out HJK.out HAP.out (by have := HCN.out; simp only at this; omega)).mono ?_; rintro e w2 ⟨rfl, t2⟩; have TD := Lib.hid t2; clear t2)
          go_roundg (v.c.N.length - (j + 1))
          case measure => have := HJK.out; omega
          case rel => exact ⟨j + 1, HJK.out, by omega, ⟨_, rfl, Lib.hid rfl⟩, TD⟩
        · have hjN : j = v.c.N.length := by omega
          have hb : bb = true := HB.out.trans (decide_eq_true hjN)
          subst hb
          have TA := Lib.hid (show AS x ⟨u8, rl, u9, tl⟩ (KF x) ((v.c, v.c.N.length) :: cs) [awG x v v.c.N.length] (2 * i + 1) (100 * i + 5) _ from by have t9 := TC.out; rw [hjN] at t9; exact t9.mono (by have := HCN.out; simp only at this; omega))
          clear TC HB hjN hj hqj hjk
          go_wp2_with (first | (go_at_call 37; refine (as_lend HXO.out TA.out HBS.out (by omega)).mono ?_; rintro e w2 ⟨g1, R1, cp1, rfl, hcp, t2⟩; have TB := Lib.hid t2; clear t2 TA hcp) | (go_at_call 21; refine (as_put HXO.out HBL.out hm2 TB.out (by omega) (by omega)).mono ?_; rintro e w5 ⟨c2, pv, rfl, hcb, t2⟩; have HC2 := Lib.hid hcb; have TC := Lib.hid t2; clear t2 TB hcb) | (refine wpList_store_mid rfl 52 (.tmp 15) (.tmp 111) rfl w5.heap.size 0 (arefV c2).toArray rfl rfl (StrAt_there (StrAt.new w5 z34.toArray 52) 0 (arefV c2).toArray.size (by simp [arefV_length, z34_length])) (by rw [size52a]; simp [arefV_length]) (all_oneCell_toArray (refC_one _ _ _)) ?_; have TD := Lib.hid (as_local TC.out c2); clear TC; show wpList _ _ _ _ _ ((w5.alloc (.cells z34.toArray 52)).setCells w5.heap.size 0 (arefV c2)); generalize HWW : World.setCells _ _ _ _ = w6 at TD ⊢; clear HWW; generalize w5.heap.size = rb at TD ⊢))
          have HLM := Lib.hid (show c2.bs.length = m from by rw [HC2.out]; exact HBL.out)
          have hEq : ∀ W : World, (Op.equalIn 10000 50 (.agg (by8 (shaF c2.bs)).toArray) (.agg (by8 (shaF v.c.bs)).toArray)).run Tryd.prog W = .ok true W := fun W => by
            rw [HVB.out, HC2.out]
            exact eq_bytes W 9998 50 5 32 _ Tryd.underlying50 Tryd.underlying5 info5s (shaF_length _)
          have HS50 := Lib.hid (show (Tryd.prog.info? 50).map (·.size) = some (by8 (shaF c2.bs)).length from by rw [by8_length, shaF_length]; exact size50n)
          have TE := Lib.hid (TD.out.blank (drew_keepsC _))
          clear TD
          refine wp_region_held_drew (S := fun W => W.rangeAt rb 0 (arefV c2)) (by kernel_rfl) (as_loc TE.out) (fun hHeld => ?_)
          refine wpAnyH_take (i := 0) (oi := { dst := some 114, op := Op.move (Operand.tmp 17), type := 24, pos := "again.go:35", after := #[], guard := none }) (v := ?_) rfl (by kernel_rfl) (by kernel_rfl) (by kernel_rfl) (fun _ _ _ h => h) (Or.inl ⟨by kernel_rfl, ?_⟩) (by assumption) ?_
          rotate_left
          · (intro w9 hSw; clear hSw; go_simp; try with_reducible rfl)
          try simp only [Act.put, List.setIfInBounds_toArray, List.set_cons_zero, List.set_cons_succ]
          refine wpAnyH_ready (rs := [1]) (by kernel_rfl) (by simp) ?_
          refine AllReadyH.cons (o := { dst := some 115, op := Op.call { callee := Callee.value (Operand.func 15), args := #[Operand.tmp 114], argTypes := #[24] }, type := 3, pos := "again.go:35", after := #[{ on := 0, ground := Ground.data }], guard := none }) rfl (fun K hK => ?_) AllReadyH.nil
          go_simp
          refine (num_calls _ _).mono ?_
          rintro e w7 ⟨rfl, rfl⟩
          refine hK.out _ _ (as_loc TE.out) (fun hHeld1 => ?_)
          clear hK K hHeld
          try simp only [Act.put, List.setIfInBounds_toArray, List.set_cons_zero, List.set_cons_succ]
          refine wpAnyH_take (i := 2) (oi := { dst := some 116, op := Op.binOp BinOp.neq 3 (Operand.tmp 115) (Operand.const (Value.int IntKind.i64 0)) 3, type := 4, pos := "again.go:35", after := #[{ on := 1, ground := Ground.data }], guard := none }) (v := ?_) rfl (by kernel_rfl) (by kernel_rfl) (by kernel_rfl) (fun _ _ _ h => h) (Or.inl ⟨by kernel_rfl, ?_⟩) (by assumption) ?_
          rotate_left
          · (intro w9 hSw; clear hSw; go_simp; try with_reducible rfl)
          try simp only [Act.put, List.setIfInBounds_toArray, List.set_cons_zero, List.set_cons_succ]
          refine wpAnyH_take (i := 3) (oi := { dst := some 117, op := Op.move (Operand.tmp 116), type := 4, pos := "again.go:35", after := #[{ on := 2, ground := Ground.data }, { on := 1, ground := Ground.chain }], guard := none }) (v := ?_) rfl (by kernel_rfl) (by kernel_rfl) (by kernel_rfl) (fun _ _ _ h => h) (Or.inl ⟨by kernel_rfl, ?_⟩) (by assumption) ?_
          rotate_left
          · (intro w9 hSw; clear hSw; go_simp; try with_reducible rfl)
          try simp only [Act.put, List.setIfInBounds_toArray, List.set_cons_zero, List.set_cons_succ]
          refine wpAnyH_take (i := 4) (oi := { dst := some 118, op := Op.move (Operand.tmp 7), type := 80, pos := "again.go:35", after := #[{ on := 3, ground := Ground.guard }], guard := some (3, false) }) (v := ?_) rfl (by kernel_rfl) (by kernel_rfl) (by kernel_rfl) (fun _ _ _ h => h) (Or.inl ⟨by kernel_rfl, ?_⟩) (by assumption) ?_
          rotate_left
          · (intro w9 hSw; clear hSw; go_simp; try with_reducible rfl)
          try simp only [Act.put, List.setIfInBounds_toArray, List.set_cons_zero, List.set_cons_succ]
          refine wpAnyH_take (i := 5) (oi := { dst := some 119, op := Op.move (Operand.tmp 11), type := 22, pos := "again.go:35", after := #[{ on := 3, ground := Ground.guard }], guard := some (3, false) }) (v := ?_) rfl (by kernel_rfl) (by kernel_rfl) (by kernel_rfl) (fun _ _ _ h => h) (Or.inl ⟨by kernel_rfl, ?_⟩) (by assumption) ?_
          rotate_left
          · (intro w9 hSw; clear hSw; go_simp; try with_reducible rfl)
          try simp only [Act.put, List.setIfInBounds_toArray, List.set_cons_zero, List.set_cons_succ]
          refine wpAnyH_ready (rs := [6]) (by kernel_rfl) (by simp) ?_
          refine AllReadyH.cons (o := { dst := some 120, op := Op.call { callee := Callee.value (Operand.func 38), args := #[Operand.tmp 118, Operand.tmp 119], argTypes := #[80, 22] }, type := 4, pos := "again.go:35", after := #[{ on := 4, ground := Ground.data }, { on := 5, ground := Ground.data }, { on := 3, ground := Ground.chain }, { on := 3, ground := Ground.guard }], guard := some (3, false) }) rfl (fun K hK => ?_) AllReadyH.nil
          go_simp
          refine (as_back TE.out HBS.out).mono ?_
          rintro e w7 ⟨rfl, t7⟩
          have TF := Lib.hid t7
          clear t7
          refine hK.out _ _ (as_loc TF.out) (fun hHeld6 => ?_)
          clear hK K hHeld1
          try simp only [Act.put, List.setIfInBounds_toArray, List.set_cons_zero, List.set_cons_succ]
          refine wpAnyH_take (i := 7) (oi := { dst := some 121, op := Op.unOp UnOp.not 4 (Operand.tmp 120), type := 4, pos := "again.go:35", after := #[{ on := 6, ground := Ground.data }, { on := 3, ground := Ground.guard }], guard := some (3, false) }) (v := ?_) rfl (by kernel_rfl) (by kernel_rfl) (by kernel_rfl) (fun _ _ _ h => h) (Or.inl ⟨by kernel_rfl, ?_⟩) (by assumption) ?_
          rotate_left
          · (intro w9 hSw; clear hSw; go_simp; try with_reducible rfl)
          try simp only [Act.put, List.setIfInBounds_toArray, List.set_cons_zero, List.set_cons_succ]
          refine wpAnyH_take (i := 8) (oi := { dst := some 122, op := Op.pick (Operand.tmp 117) (Operand.const (Value.bool true)) (Operand.tmp 121), type := 4, pos := "again.go:35", after := #[{ on := 3, ground := Ground.data }, { on := 7, ground := Ground.data }], guard := none }) (v := ?_) rfl (by kernel_rfl) (by kernel_rfl) (by kernel_rfl) (fun _ _ _ h => h) (Or.inl ⟨by kernel_rfl, ?_⟩) (by assumption) ?_
          rotate_left
          · (intro w9 hSw; clear hSw; go_simp; try with_reducible rfl)
          try simp only [Act.put, List.setIfInBounds_toArray, List.set_cons_zero, List.set_cons_succ]
          refine wpAnyH_take (i := 9) (oi := { dst := some 123, op := Op.move (Operand.tmp 122), type := 4, pos := "again.go:35", after := #[{ on := 8, ground := Ground.data }, { on := 6, ground := Ground.chain }], guard := none }) (v := ?_) rfl (by kernel_rfl) (by kernel_rfl) (by kernel_rfl) (fun _ _ _ h => h) (Or.inl ⟨by kernel_rfl, ?_⟩) (by assumption) ?_
          rotate_left
          · (intro w9 hSw; clear hSw; go_simp; try with_reducible rfl)
          try simp only [Act.put, List.setIfInBounds_toArray, List.set_cons_zero, List.set_cons_succ]
          refine wpAnyH_take (i := 10) (oi := { dst := some 124, op := Op.fieldAddr 52 (Operand.tmp 15) 0, type := 0, pos := "again.go:35", after := #[{ on := 9, ground := Ground.guard }], guard := some (9, false) }) (v := ?_) rfl (by kernel_rfl) (by kernel_rfl) (by kernel_rfl) (fun _ _ _ h => h) (Or.inl ⟨by kernel_rfl, ?_⟩) (by assumption) ?_
          rotate_left
          · (intro w9 hSw; clear hSw; go_simp; try with_reducible rfl)
          try simp only [Act.put, List.setIfInBounds_toArray, List.set_cons_zero, List.set_cons_succ]
          refine wpAnyH_take (i := 11) (oi := { dst := some 125, op := Op.load 50 (Operand.tmp 124), type := 50, pos := "again.go:35", after := #[{ on := 10, ground := Ground.data }, { on := 9, ground := Ground.guard }], guard := some (9, false) }) (v := ?_) rfl (by kernel_rfl) (by kernel_rfl) (by kernel_rfl) (fun _ _ _ h => h) (Or.inl ⟨by kernel_rfl, ?_⟩) (by assumption) ?_
          rotate_left
          · (intro w9 hSw; refine exec_load_mid 50 (.tmp 124) ?_ rb 0 ?_ (by8 (shaF c2.bs)) _ (loc_hash hSw) Tryd.underlying50 rfl HS50.out <;> rfl)
          try simp only [Act.put, List.setIfInBounds_toArray, List.set_cons_zero, List.set_cons_succ]
          refine wpAnyH_take (i := 12) (oi := { dst := some 126, op := Op.move (Operand.tmp 12), type := 43, pos := "again.go:35", after := #[{ on := 9, ground := Ground.guard }], guard := some (9, false) }) (v := ?_) rfl (by kernel_rfl) (by kernel_rfl) (by kernel_rfl) (fun _ _ _ h => h) (Or.inl ⟨by kernel_rfl, ?_⟩) (by assumption) ?_
          rotate_left
          · (intro w9 hSw; clear hSw; go_simp; try with_reducible rfl)
          try simp only [Act.put, List.setIfInBounds_toArray, List.set_cons_zero, List.set_cons_succ]
          refine wpAnyH_ready (rs := [13]) (by kernel_rfl) (by simp) ?_
          refine AllReadyH.cons (o := { dst := some 127, op := Op.call { callee := Callee.value (Operand.func 20), args := #[Operand.tmp 126], argTypes := #[43] }, type := 52, pos := "again.go:35", after := #[{ on := 12, ground := Ground.data }, { on := 9, ground := Ground.chain }, { on := 9, ground := Ground.guard }], guard := some (9, false) }) rfl (fun K hK => ?_) AllReadyH.nil
          go_simp
          refine (as_wref TF.out).mono ?_
          rintro e w8 ⟨rfl, t8⟩
          have TG := Lib.hid t8
          clear t8
          refine hK.out _ _ (as_loc TG.out) (fun hHeld13 => ?_)
          clear hK K hHeld6
          try simp only [Act.put, List.setIfInBounds_toArray, List.set_cons_zero, List.set_cons_succ]
          refine wpAnyH_take (i := 14) (oi := { dst := some 128, op := Op.field 52 (Operand.tmp 127) 0, type := 50, pos := "again.go:35", after := #[{ on := 13, ground := Ground.data }, { on := 9, ground := Ground.guard }], guard := some (9, false) }) (v := ?_) rfl (by kernel_rfl) (by kernel_rfl) (by kernel_rfl) (fun _ _ _ h => h) (Or.inl ⟨by kernel_rfl, ?_⟩) (by assumption) ?_
          rotate_left
          · (intro w9 hSw; refine (exec_field0 (.tmp 127) ?_ v.c ?_).trans ?_ <;> rfl)
          try simp only [Act.put, List.setIfInBounds_toArray, List.set_cons_zero, List.set_cons_succ]
          refine wpAnyH_take (i := 15) (oi := { dst := some 129, op := Op.binOp BinOp.neq 50 (Operand.tmp 125) (Operand.tmp 128) 50, type := 4, pos := "again.go:35", after := #[{ on := 11, ground := Ground.data }, { on := 14, ground := Ground.data }, { on := 9, ground := Ground.guard }], guard := some (9, false) }) (v := ?_) rfl (by kernel_rfl) (by kernel_rfl) (by kernel_rfl) (fun _ _ _ h => h) (Or.inl ⟨by kernel_rfl, ?_⟩) (by assumption) ?_
          rotate_left
          · (intro w9 hSw; clear hSw; go_simp; try with_reducible rfl)
          try simp only [Act.put, List.setIfInBounds_toArray, List.set_cons_zero, List.set_cons_succ]
          refine wpAnyH_take (i := 16) (oi := { dst := some 130, op := Op.pick (Operand.tmp 123) (Operand.const (Value.bool true)) (Operand.tmp 129), type := 4, pos := "again.go:35", after := #[{ on := 9, ground := Ground.data }, { on := 15, ground := Ground.data }], guard := none }) (v := ?_) rfl (by kernel_rfl) (by kernel_rfl) (by kernel_rfl) (fun _ _ _ h => h) (Or.inl ⟨by kernel_rfl, ?_⟩) (by assumption) ?_
          rotate_left
          · (intro w9 hSw; clear hSw; go_simp; try with_reducible rfl)
          try simp only [Act.put, List.setIfInBounds_toArray, List.set_cons_zero, List.set_cons_succ]
          refine wpAnyH_take (i := 17) (oi := { dst := some 131, op := Op.move (Operand.tmp 130), type := 4, pos := "again.go:35", after := #[{ on := 16, ground := Ground.data }, { on := 13, ground := Ground.chain }], guard := none }) (v := ?_) rfl (by kernel_rfl) (by kernel_rfl) (by kernel_rfl) (fun _ _ _ h => h) (Or.inl ⟨by kernel_rfl, ?_⟩) (by assumption) ?_
          rotate_left
          · (intro w9 hSw; clear hSw; go_simp; try with_reducible rfl)
          try simp only [Act.put, List.setIfInBounds_toArray, List.set_cons_zero, List.set_cons_succ]
          refine wpAnyH_take (i := 18) (oi := { dst := some 132, op := Op.fieldAddr 52 (Operand.tmp 15) 2, type := 0, pos := "again.go:35", after := #[{ on := 17, ground := Ground.guard }], guard := some (17, false) }) (v := ?_) rfl (by kernel_rfl) (by kernel_rfl) (by kernel_rfl) (fun _ _ _ h => h) (Or.inl ⟨by kernel_rfl, ?_⟩) (by assumption) ?_
          rotate_left
          · (intro w9 hSw; clear hSw; go_simp; try with_reducible rfl)
          try simp only [Act.put, List.setIfInBounds_toArray, List.set_cons_zero, List.set_cons_succ]
          refine wpAnyH_take (i := 19) (oi := { dst := some 133, op := Op.load 3 (Operand.tmp 132), type := 3, pos := "again.go:35", after := #[{ on := 18, ground := Ground.data }, { on := 17, ground := Ground.guard }], guard := some (17, false) }) (v := ?_) rfl (by kernel_rfl) (by kernel_rfl) (by kernel_rfl) (fun _ _ _ h => h) (Or.inl ⟨by kernel_rfl, ?_⟩) (by assumption) ?_
          rotate_left
          · (intro w9 hSw; have s33 := loc_len hSw; rw [HLM.out] at s33; (try dsimp only at hSw); go_simp; try with_reducible rfl)
          try simp only [Act.put, List.setIfInBounds_toArray, List.set_cons_zero, List.set_cons_succ]
          refine wpAnyH_take (i := 20) (oi := { dst := some 134, op := Op.move (Operand.tmp 11), type := 22, pos := "again.go:35", after := #[{ on := 17, ground := Ground.guard }], guard := some (17, false) }) (v := ?_) rfl (by kernel_rfl) (by kernel_rfl) (by kernel_rfl) (fun _ _ _ h => h) (Or.inl ⟨by kernel_rfl, ?_⟩) (by assumption) ?_
          rotate_left
          · (intro w9 hSw; clear hSw; go_simp; try with_reducible rfl)
          try simp only [Act.put, List.setIfInBounds_toArray, List.set_cons_zero, List.set_cons_succ]
          refine wpAnyH_take (i := 21) (oi := { dst := some 135, op := Op.call { callee := Callee.builtin Builtin.len, args := #[Operand.tmp 134], argTypes := #[22] }, type := 3, pos := "again.go:35", after := #[{ on := 20, ground := Ground.data }, { on := 17, ground := Ground.guard }], guard := some (17, false) }) (v := ?_) rfl (by kernel_rfl) (by kernel_rfl) (by kernel_rfl) (fun _ _ _ h => h) (Or.inl ⟨by kernel_rfl, ?_⟩) (by assumption) ?_
          rotate_left
          · (intro w9 hSw; clear hSw; go_simp; try with_reducible rfl)
          try simp only [Act.put, List.setIfInBounds_toArray, List.set_cons_zero, List.set_cons_succ]
          refine wpAnyH_take (i := 22) (oi := { dst := some 136, op := Op.binOp BinOp.neq 3 (Operand.tmp 133) (Operand.tmp 135) 3, type := 4, pos := "again.go:35", after := #[{ on := 19, ground := Ground.data }, { on := 21, ground := Ground.data }, { on := 17, ground := Ground.guard }], guard := some (17, false) }) (v := ?_) rfl (by kernel_rfl) (by kernel_rfl) (by kernel_rfl) (fun _ _ _ h => h) (Or.inl ⟨by kernel_rfl, ?_⟩) (by assumption) ?_
          rotate_left
          · (intro w9 hSw; clear hSw; go_simp; try with_reducible rfl)
          try simp only [Act.put, List.setIfInBounds_toArray, List.set_cons_zero, List.set_cons_succ]
          refine wpAnyH_take (i := 23) (oi := { dst := some 137, op := Op.pick (Operand.tmp 131) (Operand.const (Value.bool true)) (Operand.tmp 136), type := 4, pos := "again.go:35", after := #[{ on := 17, ground := Ground.data }, { on := 22, ground := Ground.data }], guard := none }) (v := ?_) rfl (by kernel_rfl) (by kernel_rfl) (by kernel_rfl) (fun _ _ _ h => h) (Or.inl ⟨by kernel_rfl, ?_⟩) (by assumption) ?_
          rotate_left
          · (intro w9 hSw; clear hSw; go_simp; try with_reducible rfl)
          try simp only [Act.put, List.setIfInBounds_toArray, List.set_cons_zero, List.set_cons_succ]
          refine wpAnyH_done (by kernel_rfl) ?_ _
          go_wp2_with (go_at_call 39; refine (as_wipe TG.out).mono ?_; rintro e w9 ⟨rfl, t9⟩; have TH := Lib.hid t9; clear t9)
          have TI := Lib.hid (TH.out.blank (drew_keepsC _))
          clear TH TG TF TE hEq
          refine wp_region_held_drew (S := fun W => W.rangeAt rb 0 (arefV c2)) (by kernel_rfl) (as_loc TI.out) (fun hHeld => ?_)
          refine wpAnyH_take (i := 0) (oi := { dst := some 140, op := Op.move (Operand.tmp 8), type := 40, pos := "again.go:39", after := #[], guard := none }) (v := ?_) rfl (by kernel_rfl) (by kernel_rfl) (by kernel_rfl) (fun _ _ _ h => h) (Or.inl ⟨by kernel_rfl, ?_⟩) (by assumption) ?_
          rotate_left
          · (intro w9 hSw; clear hSw; go_simp; try with_reducible rfl)
          try simp only [Act.put, List.setIfInBounds_toArray, List.set_cons_zero, List.set_cons_succ]
          refine wpAnyH_take (i := 1) (oi := { dst := some 141, op := Op.move (Operand.tmp 12), type := 43, pos := "again.go:39", after := #[], guard := none }) (v := ?_) rfl (by kernel_rfl) (by kernel_rfl) (by kernel_rfl) (fun _ _ _ h => h) (Or.inl ⟨by kernel_rfl, ?_⟩) (by assumption) ?_
          rotate_left
          · (intro w9 hSw; clear hSw; go_simp; try with_reducible rfl)
          try simp only [Act.put, List.setIfInBounds_toArray, List.set_cons_zero, List.set_cons_succ]
          refine wpAnyH_take (i := 3) (oi := { dst := some 143, op := Op.load 52 (Operand.tmp 15), type := 52, pos := "again.go:39", after := #[], guard := none }) (v := ?_) rfl (by kernel_rfl) (by kernel_rfl) (by kernel_rfl) (fun _ _ _ h => h) (Or.inl ⟨by kernel_rfl, ?_⟩) (by assumption) ?_
          rotate_left
          · (intro w9 hSw; refine exec_load_mid 52 (.tmp 15) ?_ rb 0 ?_ (arefV c2) _ hSw Tryd.underlying52 rfl (by rw [size52a, arefV_length]) <;> rfl)
          try simp only [Act.put, List.setIfInBounds_toArray, List.set_cons_zero, List.set_cons_succ]
          refine wpAnyH_ready (rs := [2]) (by kernel_rfl) (by simp) ?_
          refine AllReadyH.cons (o := { dst := some 142, op := Op.call { callee := Callee.value (Operand.func 20), args := #[Operand.tmp 141], argTypes := #[43] }, type := 52, pos := "again.go:39", after := #[{ on := 1, ground := Ground.data }], guard := none }) rfl (fun K hK => ?_) AllReadyH.nil
          go_simp
          refine (as_wref TI.out).mono ?_
          rintro e w10 ⟨rfl, t9⟩
          have TJ := Lib.hid t9
          clear t9
          refine hK.out _ _ (as_loc TJ.out) (fun hHeld2 => ?_)
          clear hK K hHeld
          try simp only [Act.put, List.setIfInBounds_toArray, List.set_cons_zero, List.set_cons_succ]
          refine wpAnyH_ready (rs := [4]) (by kernel_rfl) (by simp) ?_
          refine AllReadyH.cons (o := { dst := some 144, op := Op.buildSlice 40 2 #[(0, Operand.tmp 142), (1, Operand.tmp 143)], type := 40, pos := "again.go:39", after := #[{ on := 2, ground := Ground.data }, { on := 3, ground := Ground.data }], guard := none }) rfl (fun K hK => ?_) AllReadyH.nil
          refine step_slice2 rfl (.tmp 142) (.tmp 143) rfl (arefV v.c) (arefV c2) (arefV_length _) (arefV_length _) rfl rfl ?_
          have TL := Lib.hid (TJ.out.blank ((Keeps.refl [] _).alloc (.cells (arefV v.c ++ arefV c2).toArray 52)))
          refine hK.out _ _ (as_loc TL.out) (fun hHeld4 => ?_)
          clear hK K hHeld2
          try simp only [Act.put, List.setIfInBounds_toArray, List.set_cons_zero, List.set_cons_succ]
          refine wpAnyH_ready (rs := [5]) (by kernel_rfl) (by simp) ?_
          refine AllReadyH.cons (o := { dst := some 145, op := Op.call { callee := Callee.builtin Builtin.append, args := #[Operand.tmp 140, Operand.tmp 144], argTypes := #[40, 40] }, type := 40, pos := "again.go:39", after := #[{ on := 0, ground := Ground.data }, { on := 4, ground := Ground.data }, { on := 2, ground := Ground.chain }], guard := none }) rfl (fun K hK => ?_) AllReadyH.nil
          refine step_append rfl (.tmp 140) (.tmp 144) 40 52 (.agg z34.toArray) 34 48 rfl Tryd.underlying40 info52a z34_cellsA (by decide) (by decide) u8 rl.length (arefsV rl) w10.heap.size 2 2 (arefV v.c ++ arefV c2) rfl rfl (by have := RowAt.lit w10 (arefV v.c ++ arefV c2).toArray 52 34 2 (by rw [List.size_toArray, List.length_append, arefV_length, arefV_length]) (by decide); exact this) (fun y hy => (List.mem_append.1 hy).elim (refC_one _ _ _ _) (refC_one _ _ _ _)) (as_rowR TL.out) (by have := OK.out.rn; omega) ?_
          intro v9 w11 g1 g2 g3 _
          have TM := Lib.hid (as_pushR TL.out g1 g2 g3)
          clear g1 g2 g3
          refine hK.out _ _ (as_loc TM.out) (fun hHeld5 => ?_)
          clear hK K hHeld4
          try simp only [Act.put, List.setIfInBounds_toArray, List.set_cons_zero, List.set_cons_succ]
          refine wpAnyH_take (i := 6) (oi := { dst := some 8, op := Op.assign (Operand.tmp 145), type := 40, pos := "again.go:39", after := #[{ on := 5, ground := Ground.data }, { on := 5, ground := Ground.chain }, { on := 0, ground := Ground.phase }, { on := 1, ground := Ground.phase }, { on := 2, ground := Ground.phase }, { on := 3, ground := Ground.phase }, { on := 4, ground := Ground.phase }, { on := 5, ground := Ground.phase }], guard := none }) (v := ?_) rfl (by kernel_rfl) (by kernel_rfl) (by kernel_rfl) (fun _ _ _ h => h) (Or.inl ⟨by kernel_rfl, ?_⟩) (by assumption) ?_
          rotate_left
          · (intro w9 hSw; clear hSw; go_simp; try with_reducible rfl)
          try simp only [Act.put, List.setIfInBounds_toArray, List.set_cons_zero, List.set_cons_succ]
          refine wpAnyH_done (by kernel_rfl) ?_ _
          have HAV := Lib.hid (show atV (cutT t) = .slice tA m tc from by unfold atV; rw [← HM.out, HCU.out.2.1, HCU.out.2.2.1, ← HTT.out.1, ← HTT.out.2.1])
          go_wp2_with (refine wp_append rfl _ _ 33 22 (.slice none 0 0) 1 24 rfl Tryd.underlying33 info22a rfl (by decide) (by decide) u9 tl.length (tl.map atV) w11.heap.size 2 2 [.slice tA m tc, .slice tA m tc] rfl rfl (RowAt.lit w11 #[.slice tA m tc, .slice tA m tc] 22 1 2 rfl (by decide)) (by intro y hy; simp at hy; subst hy; rfl) (as_rowT (TM.out.blank ((Keeps.refl [] _).alloc _))) (by have := OK.out.tn; omega) ?_; intro v12 w12 g1 g2 g3 _; rw [← HAV.out] at g1; have TN := Lib.hid (as_pushT (TM.out.blank ((Keeps.refl [] _).alloc _)) g1 g2 g3); clear g1 g2 g3)
          go_roundg (12 - (i + 1))
          case measure => omega
          case rel => exact ⟨i + 1, by go_num, by omega, by omega, by omega, Lib.hid ⟨_, _, _, OK.out.step TK.out (HVB.out.trans HBE.out) (HC2.out.trans HBE.out), TN.out.shed.shed.mono (by omega)⟩⟩
    · obtain ⟨rl, tl, cs, ok, t0⟩ := T1.out
      have OK := Lib.hid ok
      obtain ⟨Ar, rc, hrv⟩ := as_rForm t0
      obtain ⟨At, tc, htv⟩ := as_tForm t0
      simp only at hrv htv
      rw [ok.rn] at hrv
      rw [ok.tn] at htv
      subst hrv
      subst htv
      have TA := Lib.hid t0
      obtain ⟨K, hK⟩ : ∃ K, K = 2 * i := ⟨_, rfl⟩
      rw [← hK] at TA OK ⊢
      have HK := Lib.hid (show K = 2 * i ∧ i ≤ 12 from ⟨hK, hi⟩)
      have hsp : (((i : Int) < (n : Int)) = True ∧ ((i : Int) < 12) = False) ∨ ((i : Int) < (n : Int)) = False := by
        by_cases h9 : i < n
        · exact .inl ⟨eq_true (by omega), eq_false (by omega)⟩
        · exact .inr (eq_false (by omega))
      have HSZ := Lib.hid (show ∀ c : AC, (Tryd.prog.info? 52).map (·.size) = some (arefV c).length from fun c => by rw [size52a, arefV_length])
      clear T1 t0 ok hK hi2 hi hin hq
      rcases hsp with ⟨b1, b2⟩ | b1
      all_goals
        go_wp2
        go_loopg [18] 24 (fun q iv W => ∃ k : Nat, iv = .int .i64 (k : Int) ∧ k ≤ K ∧ K - k ≤ q ∧ Hid (AS x ⟨.slice Ar K rc, rl, .slice At K tc, tl⟩ (KF x) cs [] K (100 * i + 10 * k) W))
        case atStart => exact ⟨0, rfl, Nat.zero_le _, by have := HK.out; omega, TA⟩
        case round =>
          clear TA
          obtain ⟨k, rfl, hk, hq, T8⟩ := hrel
          by_cases hkK : k < K
          · as_aux_lemma =>
            have b9 : ((k : Int) < (K : Int)) = True := eq_true (by omega)
            obtain ⟨c, hc⟩ : ∃ c, rl[k]? = some c := ⟨_, List.getElem?_eq_getElem (by have := OK.out.rn; omega)⟩
            obtain ⟨t, ht⟩ : ∃ t, tl[k]? = some t := ⟨_, List.getElem?_eq_getElem (by have := OK.out.tn; omega)⟩
            have hbs := OK.out.bs k c t hc ht
            have htk := OK.out.tok t (List.mem_of_getElem? ht)
            have HCM := Lib.hid (OK.out.cin c (List.mem_of_getElem? hc))
            obtain ⟨rg, rc', e1, _⟩ := as_refs T8.out (by simp only; have := OK.out.rn; omega)
            obtain ⟨tg, tc', e2, _⟩ := as_texts T8.out (by simp only; have := OK.out.tn; omega)
            have e3 : Ar = some ⟨rg, 0, none⟩ := by injection e1
            have e4 : At = some ⟨tg, 0, none⟩ := by injection e2
            clear e1 e2
            subst e3
            subst e4
            obtain ⟨tA, hA⟩ : ∃ a, a = t.A := ⟨_, rfl⟩
            obtain ⟨tk, htc⟩ : ∃ a, a = t.c := ⟨_, rfl⟩
            have HTX := Lib.hid (show ∀ F t9 W, AS x ⟨.slice (some ⟨rg, 0, none⟩) K rc, rl, .slice (some ⟨tg, 0, none⟩) K tc, tl⟩ (KF x) cs F K t9 W → W.cell? ⟨tg, k, none⟩ = some (.slice tA c.bs.length tk) from fun F t9 W h9 => by
              have := as_textAt h9 rfl ht
              rw [this, atV, hbs, hA, htc])
            have HBT := Lib.hid (show TSl x.W0 tA c.bs.length tk c.bs from by rw [hA, htc, ← hbs]; exact htk.at_)
            have HS0 := Lib.hid (as_sec (a := c) (by rw [← hbs]; exact htk.byt) T8.out HCM.out)
            have HCL := Lib.hid (show c.bs.length ≤ 2000 from by rw [← hbs]; exact htk.le)
            have HC := Lib.hid hc
            have nlo : (nextI c.N 0 < 0) = False := eq_false (by have := HS0.out.lo; omega)
            have HKK := Lib.hid (show k < K ∧ K ≤ 24 from ⟨hkK, by have := HK.out; omega⟩)
            have HI12 := Lib.hid (show i ≤ 12 from HK.out.2)
            clear hbs htk ht hA htc hc
            have hK24 : K ≤ 24 := HKK.out.2
            have hi12 : i ≤ 12 := HI12.out
            go_wp2_with (first | (refine wpList_load_mid rfl 52 (.tmp 161) rfl rg (k * 34) rfl (arefV c) _ (by rw [Nat.mul_comm]; exact as_refAt T8.out rfl HC.out) Tryd.underlying52 rfl (HSZ.out c) ?_) | (refine wpList_load_mid rfl 52 (.tmp 192) rfl rg (k * 34) rfl (arefV c) _ (by rw [Nat.mul_comm]; exact as_refAt TD.out rfl HC.out) Tryd.underlying52 rfl (HSZ.out c) ?_) | (go_at_call 22; refine (as_get HXO.out T8.out HCM.out (by omega)).mono ?_; rintro e w5 ⟨A, cp, rfl, hcp, t5⟩; have TB := Lib.hid t5; have HCP := Lib.hid hcp; have hct := HTX.out _ _ _ TB.out; clear t5 T8 hcp) | (go_at_call 15; refine (num_calls _ _).mono ?_; rintro e w6 ⟨rfl, rfl⟩) | (go_at_call 24; refine (as_same TB.out HCP.out HBT.out (by have := HCL.out; omega)).mono ?_; rintro e w6 ⟨rfl, t6⟩; have TC := Lib.hid t6; have hrf := (by have := as_refFirst t6 rfl HC.out; rw [Nat.mul_comm] at this; exact this); clear t6 TB hct) | (go_at_call 40; refine (as_read HXO.out TC.out HCM.out (by omega)).mono ?_; rintro e w7 ⟨g2, cp2, rfl, hcp2, t7⟩; have TD := Lib.hid t7; clear t7 TC hrf hcp2) | (go_at_call 41; refine (as_next HS0.out HCL.out TD.out).mono ?_; rintro e w8 ⟨rfl, t8⟩; have TE := Lib.hid t8; clear t8 TD))
            go_loopg [25] 3 (fun q iv W => ∃ e : Nat, iv = .int .i64 (e : Int) ∧ e ≤ 3 ∧ 3 - e ≤ q ∧ Hid (AS x ⟨.slice (some ⟨rg, 0, none⟩) K rc, rl, .slice (some ⟨tg, 0, none⟩) K tc, tl⟩ (KF x) cs [rowG g2 512 cp2 (if e = 2 then ((sec0 c).set 40 (x4 ((sec0 c).getD 40 0))) else sec0 c)] K (100 * i + 10 * k + 6) W))
            case atStart => exact ⟨0, rfl, by decide, by decide, Lib.hid (by rw [if_neg (by decide)]; exact TE.out)⟩
            case round =>
              clear TE
              obtain ⟨e, rfl, he, hq3, TE⟩ := hrel
              have he4 : e = 0 ∨ e = 1 ∨ e = 2 ∨ e = 3 := by omega
              rcases he4 with rfl | rfl | rfl | rfl
              · as_aux_lemma =>
                have TA : Hid (AS x ⟨.slice (some ⟨rg, 0, none⟩) K rc, rl, .slice (some ⟨tg, 0, none⟩) K tc, tl⟩ (KF x) cs [rowG g2 512 cp2 (sec0 c)] K (100 * i + 10 * k + 6) _) := Lib.hid (by have := TE.out; rw [if_neg (by decide)] at this; exact this)
                clear TE
                go_wp2
                have TC := Lib.hid (TA.out.blank (drew_keepsC _))
                clear TA
                refine wp_region_held_drew (S := fun W => W.rangeAt rg (k * 34) (arefV c)) (by kernel_rfl) ((by rw [Nat.mul_comm]; exact as_refAt TC.out rfl HC.out)) (fun hHeld => ?_)
                refine wpAnyH_take (i := 0) (oi := { dst := some 209, op := Op.move (Operand.tmp 7), type := 80, pos := "again.go:56", after := #[], guard := none }) (v := ?_) rfl (by kernel_rfl) (by kernel_rfl) (by kernel_rfl) (fun _ _ _ h => h) (Or.inl ⟨by kernel_rfl, ?_⟩) (by assumption) ?_
                rotate_left
                · (intro w9 hSw; clear hSw; go_simp; try with_reducible rfl)
                try simp only [Act.put, List.setIfInBounds_toArray, List.set_cons_zero, List.set_cons_succ]
                refine wpAnyH_take (i := 1) (oi := { dst := some 210, op := Op.move (Operand.tmp 22), type := 22, pos := "again.go:56", after := #[], guard := none }) (v := ?_) rfl (by kernel_rfl) (by kernel_rfl) (by kernel_rfl) (fun _ _ _ h => h) (Or.inl ⟨by kernel_rfl, ?_⟩) (by assumption) ?_
                rotate_left
                · (intro w9 hSw; clear hSw; go_simp; try with_reducible rfl)
                try simp only [Act.put, List.setIfInBounds_toArray, List.set_cons_zero, List.set_cons_succ]
                refine wpAnyH_take (i := 3) (oi := { dst := some 212, op := Op.move (Operand.tmp 8), type := 40, pos := "again.go:56", after := #[], guard := none }) (v := ?_) rfl (by kernel_rfl) (by kernel_rfl) (by kernel_rfl) (fun _ _ _ h => h) (Or.inl ⟨by kernel_rfl, ?_⟩) (by assumption) ?_
                rotate_left
                · (intro w9 hSw; clear hSw; go_simp; try with_reducible rfl)
                try simp only [Act.put, List.setIfInBounds_toArray, List.set_cons_zero, List.set_cons_succ]
                refine wpAnyH_take (i := 4) (oi := { dst := some 213, op := Op.move (Operand.tmp 18), type := 3, pos := "again.go:56", after := #[], guard := none }) (v := ?_) rfl (by kernel_rfl) (by kernel_rfl) (by kernel_rfl) (fun _ _ _ h => h) (Or.inl ⟨by kernel_rfl, ?_⟩) (by assumption) ?_
                rotate_left
                · (intro w9 hSw; clear hSw; go_simp; try with_reducible rfl)
                try simp only [Act.put, List.setIfInBounds_toArray, List.set_cons_zero, List.set_cons_succ]
                refine wpAnyH_take (i := 5) (oi := { dst := some 214, op := Op.indexAddr 40 (Operand.tmp 212) (Operand.tmp 213), type := 0, pos := "again.go:56", after := #[{ on := 3, ground := Ground.data }, { on := 4, ground := Ground.data }], guard := none }) (v := ?_) rfl (by kernel_rfl) (by kernel_rfl) (by kernel_rfl) (fun _ _ _ h => h) (Or.inl ⟨by kernel_rfl, ?_⟩) (by assumption) ?_
                rotate_left
                · (intro w9 hSw; clear hSw; go_simp; try with_reducible rfl)
                try simp only [Act.put, List.setIfInBounds_toArray, List.set_cons_zero, List.set_cons_succ]
                refine wpAnyH_take (i := 6) (oi := { dst := some 215, op := Op.load 52 (Operand.tmp 214), type := 52, pos := "again.go:56", after := #[{ on := 5, ground := Ground.data }], guard := none }) (v := ?_) rfl (by kernel_rfl) (by kernel_rfl) (by kernel_rfl) (fun _ _ _ h => h) (Or.inl ⟨by kernel_rfl, ?_⟩) (by assumption) ?_
                rotate_left
                · (intro w9 hSw; refine exec_load_mid 52 (.tmp 214) ?_ rg (k * 34) ?_ (arefV c) _ hSw Tryd.underlying52 rfl (HSZ.out c) <;> rfl)
                try simp only [Act.put, List.setIfInBounds_toArray, List.set_cons_zero, List.set_cons_succ]
                refine wpAnyH_take (i := 7) (oi := { dst := some 216, op := Op.move (Operand.tmp 24), type := 3, pos := "again.go:56", after := #[], guard := none }) (v := ?_) rfl (by kernel_rfl) (by kernel_rfl) (by kernel_rfl) (fun _ _ _ h => h) (Or.inl ⟨by kernel_rfl, ?_⟩) (by assumption) ?_
                rotate_left
                · (intro w9 hSw; clear hSw; go_simp; try with_reducible rfl)
                try simp only [Act.put, List.setIfInBounds_toArray, List.set_cons_zero, List.set_cons_succ]
                refine wpAnyH_take (i := 9) (oi := { dst := some 218, op := Op.move (Operand.tmp 25), type := 3, pos := "again.go:56", after := #[], guard := none }) (v := ?_) rfl (by kernel_rfl) (by kernel_rfl) (by kernel_rfl) (fun _ _ _ h => h) (Or.inl ⟨by kernel_rfl, ?_⟩) (by assumption) ?_
                rotate_left
                · (intro w9 hSw; clear hSw; go_simp; try with_reducible rfl)
                try simp only [Act.put, List.setIfInBounds_toArray, List.set_cons_zero, List.set_cons_succ]
                refine wpAnyH_take (i := 10) (oi := { dst := some 219, op := Op.binOp BinOp.neq 3 (Operand.tmp 218) (Operand.const (Value.int IntKind.i64 1)) 3, type := 4, pos := "again.go:56", after := #[{ on := 9, ground := Ground.data }], guard := none }) (v := ?_) rfl (by kernel_rfl) (by kernel_rfl) (by kernel_rfl) (fun _ _ _ h => h) (Or.inl ⟨by kernel_rfl, ?_⟩) (by assumption) ?_
                rotate_left
                · (intro w9 hSw; clear hSw; go_simp; try with_reducible rfl)
                try simp only [Act.put, List.setIfInBounds_toArray, List.set_cons_zero, List.set_cons_succ]
                refine wpAnyH_ready (rs := [2]) (by kernel_rfl) (by simp) ?_
                refine AllReadyH.cons (o := { dst := some 211, op := Op.call { callee := Callee.value (Operand.func 37), args := #[Operand.tmp 209, Operand.tmp 210], argTypes := #[80, 22] }, type := 22, pos := "again.go:56", after := #[{ on := 0, ground := Ground.data }, { on := 1, ground := Ground.data }], guard := none }) rfl (fun K hK => ?_) AllReadyH.nil
                go_simp
                refine (as_lendX TC.out (by decide)).mono ?_
                rintro e2 w7 ⟨g3, R3, cp3, rfl, hcp3, t7⟩
                have TD := Lib.hid t7
                clear t7
                refine hK.out _ _ ((by rw [Nat.mul_comm]; exact as_refAt TD.out rfl HC.out)) (fun hHeld2 => ?_)
                clear hK K hHeld
                try simp only [Act.put, List.setIfInBounds_toArray, List.set_cons_zero, List.set_cons_succ]
                refine wpAnyH_ready (rs := [8]) (by kernel_rfl) (by simp) ?_
                refine AllReadyH.cons (o := { dst := some 217, op := Op.call { callee := Callee.value (Operand.func 35), args := #[Operand.tmp 211, Operand.tmp 215, Operand.const (Value.int IntKind.i64 0), Operand.tmp 216], argTypes := #[22, 52, 3, 3] }, type := 4, pos := "again.go:56", after := #[{ on := 2, ground := Ground.data }, { on := 6, ground := Ground.data }, { on := 7, ground := Ground.data }, { on := 2, ground := Ground.chain }], guard := none }) rfl (fun K hK => ?_) AllReadyH.nil
                go_simp
                refine (as_sound HXO.out HS0.out.byt (sec0_length c) HCL.out TD.out).mono ?_
                rw [sound_sec0 HS0.out]
                rintro e2 w8 ⟨rfl, t8⟩
                have TF := Lib.hid t8
                clear t8
                refine hK.out _ _ ((by rw [Nat.mul_comm]; exact as_refAt TF.out rfl HC.out)) (fun hHeld8 => ?_)
                clear hK K hHeld2
                try simp only [Act.put, List.setIfInBounds_toArray, List.set_cons_zero, List.set_cons_succ]
                refine wpAnyH_take (i := 11) (oi := { dst := some 220, op := Op.binOp BinOp.neq 4 (Operand.tmp 217) (Operand.tmp 219) 4, type := 4, pos := "again.go:56", after := #[{ on := 8, ground := Ground.data }, { on := 10, ground := Ground.data }], guard := none }) (v := ?_) rfl (by kernel_rfl) (by kernel_rfl) (by kernel_rfl) (fun _ _ _ h => h) (Or.inl ⟨by kernel_rfl, ?_⟩) (by assumption) ?_
                rotate_left
                · (intro w9 hSw; clear hSw; go_simp; try with_reducible rfl)
                try simp only [Act.put, List.setIfInBounds_toArray, List.set_cons_zero, List.set_cons_succ]
                refine wpAnyH_take (i := 12) (oi := { dst := some 221, op := Op.move (Operand.tmp 220), type := 4, pos := "again.go:56", after := #[{ on := 11, ground := Ground.data }, { on := 8, ground := Ground.chain }], guard := none }) (v := ?_) rfl (by kernel_rfl) (by kernel_rfl) (by kernel_rfl) (fun _ _ _ h => h) (Or.inl ⟨by kernel_rfl, ?_⟩) (by assumption) ?_
                rotate_left
                · (intro w9 hSw; clear hSw; go_simp; try with_reducible rfl)
                try simp only [Act.put, List.setIfInBounds_toArray, List.set_cons_zero, List.set_cons_succ]
                refine wpAnyH_take (i := 13) (oi := { dst := some 222, op := Op.move (Operand.tmp 7), type := 80, pos := "again.go:56", after := #[{ on := 12, ground := Ground.guard }], guard := some (12, false) }) (v := ?_) rfl (by kernel_rfl) (by kernel_rfl) (by kernel_rfl) (fun _ _ _ h => h) (Or.inl ⟨by kernel_rfl, ?_⟩) (by assumption) ?_
                rotate_left
                · (intro w9 hSw; clear hSw; go_simp; try with_reducible rfl)
                try simp only [Act.put, List.setIfInBounds_toArray, List.set_cons_zero, List.set_cons_succ]
                refine wpAnyH_take (i := 14) (oi := { dst := some 223, op := Op.move (Operand.tmp 22), type := 22, pos := "again.go:56", after := #[{ on := 12, ground := Ground.guard }], guard := some (12, false) }) (v := ?_) rfl (by kernel_rfl) (by kernel_rfl) (by kernel_rfl) (fun _ _ _ h => h) (Or.inl ⟨by kernel_rfl, ?_⟩) (by assumption) ?_
                rotate_left
                · (intro w9 hSw; clear hSw; go_simp; try with_reducible rfl)
                try simp only [Act.put, List.setIfInBounds_toArray, List.set_cons_zero, List.set_cons_succ]
                refine wpAnyH_ready (rs := [15]) (by kernel_rfl) (by simp) ?_
                refine AllReadyH.cons (o := { dst := some 224, op := Op.call { callee := Callee.value (Operand.func 38), args := #[Operand.tmp 222, Operand.tmp 223], argTypes := #[80, 22] }, type := 4, pos := "again.go:56", after := #[{ on := 13, ground := Ground.data }, { on := 14, ground := Ground.data }, { on := 12, ground := Ground.chain }, { on := 12, ground := Ground.guard }], guard := some (12, false) }) rfl (fun K hK => ?_) AllReadyH.nil
                go_simp
                refine (as_backX TF.out).mono ?_
                rintro e2 w9 ⟨rfl, t9⟩
                have TG := Lib.hid t9
                clear t9
                refine hK.out _ _ ((by rw [Nat.mul_comm]; exact as_refAt TG.out rfl HC.out)) (fun hHeld15 => ?_)
                clear hK K hHeld8
                try simp only [Act.put, List.setIfInBounds_toArray, List.set_cons_zero, List.set_cons_succ]
                refine wpAnyH_take (i := 16) (oi := { dst := some 225, op := Op.unOp UnOp.not 4 (Operand.tmp 224), type := 4, pos := "again.go:56", after := #[{ on := 15, ground := Ground.data }, { on := 12, ground := Ground.guard }], guard := some (12, false) }) (v := ?_) rfl (by kernel_rfl) (by kernel_rfl) (by kernel_rfl) (fun _ _ _ h => h) (Or.inl ⟨by kernel_rfl, ?_⟩) (by assumption) ?_
                rotate_left
                · (intro w9 hSw; clear hSw; go_simp; try with_reducible rfl)
                try simp only [Act.put, List.setIfInBounds_toArray, List.set_cons_zero, List.set_cons_succ]
                refine wpAnyH_take (i := 17) (oi := { dst := some 226, op := Op.pick (Operand.tmp 221) (Operand.const (Value.bool true)) (Operand.tmp 225), type := 4, pos := "again.go:56", after := #[{ on := 12, ground := Ground.data }, { on := 16, ground := Ground.data }], guard := none }) (v := ?_) rfl (by kernel_rfl) (by kernel_rfl) (by kernel_rfl) (fun _ _ _ h => h) (Or.inl ⟨by kernel_rfl, ?_⟩) (by assumption) ?_
                rotate_left
                · (intro w9 hSw; clear hSw; go_simp; try with_reducible rfl)
                try simp only [Act.put, List.setIfInBounds_toArray, List.set_cons_zero, List.set_cons_succ]
                refine wpAnyH_done (by kernel_rfl) ?_ _
                go_wp2_with (go_at_call 39; refine (as_wipe TG.out).mono ?_; rintro e2 w10 ⟨rfl, t9⟩; have TH := Lib.hid t9; clear t9)
                go_roundg (3 - (0 + 1))
                case measure => omega
                case rel => exact ⟨1, by go_num, by decide, by decide, Lib.hid (by rw [if_neg (by decide)]; exact TH.out)⟩
              · as_aux_lemma =>
                have TA : Hid (AS x ⟨.slice (some ⟨rg, 0, none⟩) K rc, rl, .slice (some ⟨tg, 0, none⟩) K tc, tl⟩ (KF x) cs [rowG g2 512 cp2 (sec0 c)] K (100 * i + 10 * k + 6) _) := Lib.hid (by have := TE.out; rw [if_neg (by decide)] at this; exact this)
                clear TE
                obtain ⟨k40, f40, h512⟩ := as_cell40 TA.out
                have TB := Lib.hid (as_xor TA.out (x4 ((sec0 c).getD 40 0)))
                have eX : bits .xor .u8 ((sec0 c).getD 40 0) 4 = x4 ((sec0 c).getD 40 0) := rfl
                obtain ⟨y2, hy2⟩ : ∃ y, y = x4 ((sec0 c).getD 40 0) := ⟨_, rfl⟩
                have eX2 : bits .xor .u8 ((sec0 c).getD 40 0) 4 = y2 := by rw [hy2]; rfl
                have TB2 : Hid (AS x ⟨.slice (some ⟨rg, 0, none⟩) K rc, rl, .slice (some ⟨tg, 0, none⟩) K tc, tl⟩ (KF x) cs [rowG g2 512 cp2 ((sec0 c).set 40 (x4 ((sec0 c).getD 40 0)))] K (100 * i + 10 * k + 6) (World.setCell _ ⟨g2, 40, none⟩ (.int .u8 y2))) := Lib.hid (by have := TB.out; rw [hy2]; exact this)
                clear TB eX
                rename Hid (AS _ _ _ _ _ _ _ (World.setCell _ _ _)) => TB
                clear hy2
                generalize (sec0 c).getD 40 0 = y1 at k40 eX2
                clear TA
                go_wp2
                rename Hid (AS _ _ _ _ _ _ _ _) => TA
                have TC := Lib.hid (TA.out.blank (drew_keepsC _))
                clear TA
                refine wp_region_held_drew (S := fun W => W.rangeAt rg (k * 34) (arefV c)) (by kernel_rfl) ((by rw [Nat.mul_comm]; exact as_refAt TC.out rfl HC.out)) (fun hHeld => ?_)
                refine wpAnyH_take (i := 0) (oi := { dst := some 209, op := Op.move (Operand.tmp 7), type := 80, pos := "again.go:56", after := #[], guard := none }) (v := ?_) rfl (by kernel_rfl) (by kernel_rfl) (by kernel_rfl) (fun _ _ _ h => h) (Or.inl ⟨by kernel_rfl, ?_⟩) (by assumption) ?_
                rotate_left
                · (intro w9 hSw; clear hSw; go_simp; try with_reducible rfl)
                try simp only [Act.put, List.setIfInBounds_toArray, List.set_cons_zero, List.set_cons_succ]
                refine wpAnyH_take (i := 1) (oi := { dst := some 210, op := Op.move (Operand.tmp 22), type := 22, pos := "again.go:56", after := #[], guard := none }) (v := ?_) rfl (by kernel_rfl) (by kernel_rfl) (by kernel_rfl) (fun _ _ _ h => h) (Or.inl ⟨by kernel_rfl, ?_⟩) (by assumption) ?_
                rotate_left
                · (intro w9 hSw; clear hSw; go_simp; try with_reducible rfl)
                try simp only [Act.put, List.setIfInBounds_toArray, List.set_cons_zero, List.set_cons_succ]
                refine wpAnyH_take (i := 3) (oi := { dst := some 212, op := Op.move (Operand.tmp 8), type := 40, pos := "again.go:56", after := #[], guard := none }) (v := ?_) rfl (by kernel_rfl) (by kernel_rfl) (by kernel_rfl) (fun _ _ _ h => h) (Or.inl ⟨by kernel_rfl, ?_⟩) (by assumption) ?_
                rotate_left
                · (intro w9 hSw; clear hSw; go_simp; try with_reducible rfl)
                try simp only [Act.put, List.setIfInBounds_toArray, List.set_cons_zero, List.set_cons_succ]
                refine wpAnyH_take (i := 4) (oi := { dst := some 213, op := Op.move (Operand.tmp 18), type := 3, pos := "again.go:56", after := #[], guard := none }) (v := ?_) rfl (by kernel_rfl) (by kernel_rfl) (by kernel_rfl) (fun _ _ _ h => h) (Or.inl ⟨by kernel_rfl, ?_⟩) (by assumption) ?_
                rotate_left
                · (intro w9 hSw; clear hSw; go_simp; try with_reducible rfl)
                try simp only [Act.put, List.setIfInBounds_toArray, List.set_cons_zero, List.set_cons_succ]
                refine wpAnyH_take (i := 5) (oi := { dst := some 214, op := Op.indexAddr 40 (Operand.tmp 212) (Operand.tmp 213), type := 0, pos := "again.go:56", after := #[{ on := 3, ground := Ground.data }, { on := 4, ground := Ground.data }], guard := none }) (v := ?_) rfl (by kernel_rfl) (by kernel_rfl) (by kernel_rfl) (fun _ _ _ h => h) (Or.inl ⟨by kernel_rfl, ?_⟩) (by assumption) ?_
                rotate_left
                · (intro w9 hSw; clear hSw; go_simp; try with_reducible rfl)
                try simp only [Act.put, List.setIfInBounds_toArray, List.set_cons_zero, List.set_cons_succ]
                refine wpAnyH_take (i := 6) (oi := { dst := some 215, op := Op.load 52 (Operand.tmp 214), type := 52, pos := "again.go:56", after := #[{ on := 5, ground := Ground.data }], guard := none }) (v := ?_) rfl (by kernel_rfl) (by kernel_rfl) (by kernel_rfl) (fun _ _ _ h => h) (Or.inl ⟨by kernel_rfl, ?_⟩) (by assumption) ?_
                rotate_left
                · (intro w9 hSw; refine exec_load_mid 52 (.tmp 214) ?_ rg (k * 34) ?_ (arefV c) _ hSw Tryd.underlying52 rfl (HSZ.out c) <;> rfl)
                try simp only [Act.put, List.setIfInBounds_toArray, List.set_cons_zero, List.set_cons_succ]
                refine wpAnyH_take (i := 7) (oi := { dst := some 216, op := Op.move (Operand.tmp 24), type := 3, pos := "again.go:56", after := #[], guard := none }) (v := ?_) rfl (by kernel_rfl) (by kernel_rfl) (by kernel_rfl) (fun _ _ _ h => h) (Or.inl ⟨by kernel_rfl, ?_⟩) (by assumption) ?_
                rotate_left
                · (intro w9 hSw; clear hSw; go_simp; try with_reducible rfl)
                try simp only [Act.put, List.setIfInBounds_toArray, List.set_cons_zero, List.set_cons_succ]
                refine wpAnyH_take (i := 9) (oi := { dst := some 218, op := Op.move (Operand.tmp 25), type := 3, pos := "again.go:56", after := #[], guard := none }) (v := ?_) rfl (by kernel_rfl) (by kernel_rfl) (by kernel_rfl) (fun _ _ _ h => h) (Or.inl ⟨by kernel_rfl, ?_⟩) (by assumption) ?_
                rotate_left
                · (intro w9 hSw; clear hSw; go_simp; try with_reducible rfl)
                try simp only [Act.put, List.setIfInBounds_toArray, List.set_cons_zero, List.set_cons_succ]
                refine wpAnyH_take (i := 10) (oi := { dst := some 219, op := Op.binOp BinOp.neq 3 (Operand.tmp 218) (Operand.const (Value.int IntKind.i64 1)) 3, type := 4, pos := "again.go:56", after := #[{ on := 9, ground := Ground.data }], guard := none }) (v := ?_) rfl (by kernel_rfl) (by kernel_rfl) (by kernel_rfl) (fun _ _ _ h => h) (Or.inl ⟨by kernel_rfl, ?_⟩) (by assumption) ?_
                rotate_left
                · (intro w9 hSw; clear hSw; go_simp; try with_reducible rfl)
                try simp only [Act.put, List.setIfInBounds_toArray, List.set_cons_zero, List.set_cons_succ]
                refine wpAnyH_ready (rs := [2]) (by kernel_rfl) (by simp) ?_
                refine AllReadyH.cons (o := { dst := some 211, op := Op.call { callee := Callee.value (Operand.func 37), args := #[Operand.tmp 209, Operand.tmp 210], argTypes := #[80, 22] }, type := 22, pos := "again.go:56", after := #[{ on := 0, ground := Ground.data }, { on := 1, ground := Ground.data }], guard := none }) rfl (fun K hK => ?_) AllReadyH.nil
                go_simp
                refine (as_lendX TC.out (by decide)).mono ?_
                rintro e2 w7 ⟨g3, R3, cp3, rfl, hcp3, t7⟩
                have TD := Lib.hid t7
                clear t7
                refine hK.out _ _ ((by rw [Nat.mul_comm]; exact as_refAt TD.out rfl HC.out)) (fun hHeld2 => ?_)
                clear hK K hHeld
                try simp only [Act.put, List.setIfInBounds_toArray, List.set_cons_zero, List.set_cons_succ]
                refine wpAnyH_ready (rs := [8]) (by kernel_rfl) (by simp) ?_
                refine AllReadyH.cons (o := { dst := some 217, op := Op.call { callee := Callee.value (Operand.func 35), args := #[Operand.tmp 211, Operand.tmp 215, Operand.const (Value.int IntKind.i64 0), Operand.tmp 216], argTypes := #[22, 52, 3, 3] }, type := 4, pos := "again.go:56", after := #[{ on := 2, ground := Ground.data }, { on := 6, ground := Ground.data }, { on := 7, ground := Ground.data }, { on := 2, ground := Ground.chain }], guard := none }) rfl (fun K hK => ?_) AllReadyH.nil
                go_simp
                refine (as_sound HXO.out (byt_set HS0.out.byt 40 _ (x4_facts _ (byt_getD HS0.out.byt 40)).1) (by rw [List.length_set, sec0_length]) HCL.out TD.out).mono ?_
                rw [sound_spoilt HS0.out]
                rintro e2 w8 ⟨rfl, t8⟩
                have TF := Lib.hid t8
                clear t8
                refine hK.out _ _ ((by rw [Nat.mul_comm]; exact as_refAt TF.out rfl HC.out)) (fun hHeld8 => ?_)
                clear hK K hHeld2
                try simp only [Act.put, List.setIfInBounds_toArray, List.set_cons_zero, List.set_cons_succ]
                refine wpAnyH_take (i := 11) (oi := { dst := some 220, op := Op.binOp BinOp.neq 4 (Operand.tmp 217) (Operand.tmp 219) 4, type := 4, pos := "again.go:56", after := #[{ on := 8, ground := Ground.data }, { on := 10, ground := Ground.data }], guard := none }) (v := ?_) rfl (by kernel_rfl) (by kernel_rfl) (by kernel_rfl) (fun _ _ _ h => h) (Or.inl ⟨by kernel_rfl, ?_⟩) (by assumption) ?_
                rotate_left
                · (intro w9 hSw; clear hSw; go_simp; try with_reducible rfl)
                try simp only [Act.put, List.setIfInBounds_toArray, List.set_cons_zero, List.set_cons_succ]
                refine wpAnyH_take (i := 12) (oi := { dst := some 221, op := Op.move (Operand.tmp 220), type := 4, pos := "again.go:56", after := #[{ on := 11, ground := Ground.data }, { on := 8, ground := Ground.chain }], guard := none }) (v := ?_) rfl (by kernel_rfl) (by kernel_rfl) (by kernel_rfl) (fun _ _ _ h => h) (Or.inl ⟨by kernel_rfl, ?_⟩) (by assumption) ?_
                rotate_left
                · (intro w9 hSw; clear hSw; go_simp; try with_reducible rfl)
                try simp only [Act.put, List.setIfInBounds_toArray, List.set_cons_zero, List.set_cons_succ]
                refine wpAnyH_take (i := 13) (oi := { dst := some 222, op := Op.move (Operand.tmp 7), type := 80, pos := "again.go:56", after := #[{ on := 12, ground := Ground.guard }], guard := some (12, false) }) (v := ?_) rfl (by kernel_rfl) (by kernel_rfl) (by kernel_rfl) (fun _ _ _ h => h) (Or.inl ⟨by kernel_rfl, ?_⟩) (by assumption) ?_
                rotate_left
                · (intro w9 hSw; clear hSw; go_simp; try with_reducible rfl)
                try simp only [Act.put, List.setIfInBounds_toArray, List.set_cons_zero, List.set_cons_succ]
                refine wpAnyH_take (i := 14) (oi := { dst := some 223, op := Op.move (Operand.tmp 22), type := 22, pos := "again.go:56", after := #[{ on := 12, ground := Ground.guard }], guard := some (12, false) }) (v := ?_) rfl (by kernel_rfl) (by kernel_rfl) (by kernel_rfl) (fun _ _ _ h => h) (Or.inl ⟨by kernel_rfl, ?_⟩) (by assumption) ?_
                rotate_left
                · (intro w9 hSw; clear hSw; go_simp; try with_reducible rfl)
                try simp only [Act.put, List.setIfInBounds_toArray, List.set_cons_zero, List.set_cons_succ]
                refine wpAnyH_ready (rs := [15]) (by kernel_rfl) (by simp) ?_
                refine AllReadyH.cons (o := { dst := some 224, op := Op.call { callee := Callee.value (Operand.func 38), args := #[Operand.tmp 222, Operand.tmp 223], argTypes := #[80, 22] }, type := 4, pos := "again.go:56", after := #[{ on := 13, ground := Ground.data }, { on := 14, ground := Ground.data }, { on := 12, ground := Ground.chain }, { on := 12, ground := Ground.guard }], guard := some (12, false) }) rfl (fun K hK => ?_) AllReadyH.nil
                go_simp
                refine (as_backX TF.out).mono ?_
                rintro e2 w9 ⟨rfl, t9⟩
                have TG := Lib.hid t9
                clear t9
                refine hK.out _ _ ((by rw [Nat.mul_comm]; exact as_refAt TG.out rfl HC.out)) (fun hHeld15 => ?_)
                clear hK K hHeld8
                try simp only [Act.put, List.setIfInBounds_toArray, List.set_cons_zero, List.set_cons_succ]
                refine wpAnyH_take (i := 16) (oi := { dst := some 225, op := Op.unOp UnOp.not 4 (Operand.tmp 224), type := 4, pos := "again.go:56", after := #[{ on := 15, ground := Ground.data }, { on := 12, ground := Ground.guard }], guard := some (12, false) }) (v := ?_) rfl (by kernel_rfl) (by kernel_rfl) (by kernel_rfl) (fun _ _ _ h => h) (Or.inl ⟨by kernel_rfl, ?_⟩) (by assumption) ?_
                rotate_left
                · (intro w9 hSw; clear hSw; go_simp; try with_reducible rfl)
                try simp only [Act.put, List.setIfInBounds_toArray, List.set_cons_zero, List.set_cons_succ]
                refine wpAnyH_take (i := 17) (oi := { dst := some 226, op := Op.pick (Operand.tmp 221) (Operand.const (Value.bool true)) (Operand.tmp 225), type := 4, pos := "again.go:56", after := #[{ on := 12, ground := Ground.data }, { on := 16, ground := Ground.data }], guard := none }) (v := ?_) rfl (by kernel_rfl) (by kernel_rfl) (by kernel_rfl) (fun _ _ _ h => h) (Or.inl ⟨by kernel_rfl, ?_⟩) (by assumption) ?_
                rotate_left
                · (intro w9 hSw; clear hSw; go_simp; try with_reducible rfl)
                try simp only [Act.put, List.setIfInBounds_toArray, List.set_cons_zero, List.set_cons_succ]
                refine wpAnyH_done (by kernel_rfl) ?_ _
                go_wp2_with (go_at_call 39; refine (as_wipe TG.out).mono ?_; rintro e2 w10 ⟨rfl, t9⟩; have TH := Lib.hid t9; clear t9)
                go_roundg (3 - (1 + 1))
                case measure => omega
                case rel => exact ⟨2, by go_num, by decide, by decide, Lib.hid (by rw [if_pos rfl]; exact TH.out)⟩
              · as_aux_lemma =>
                have TA : Hid (AS x ⟨.slice (some ⟨rg, 0, none⟩) K rc, rl, .slice (some ⟨tg, 0, none⟩) K tc, tl⟩ (KF x) cs [rowG g2 512 cp2 ((sec0 c).set 40 (x4 ((sec0 c).getD 40 0)))] K (100 * i + 10 * k + 6) _) := Lib.hid (by have := TE.out; rw [if_pos rfl] at this; exact this)
                clear TE
                obtain ⟨k40, f40, h512⟩ := as_cell40 TA.out
                have TB := Lib.hid (as_xor TA.out (x4 (((sec0 c).set 40 (x4 ((sec0 c).getD 40 0))).getD 40 0)))
                rw [spoilt_back c HS0.out.byt] at TB
                have eX : bits .xor .u8 (((sec0 c).set 40 (x4 ((sec0 c).getD 40 0))).getD 40 0) 4 = x4 (((sec0 c).set 40 (x4 ((sec0 c).getD 40 0))).getD 40 0) := rfl
                generalize x4 (((sec0 c).set 40 (x4 ((sec0 c).getD 40 0))).getD 40 0) = y2 at TB eX
                generalize ((sec0 c).set 40 (x4 ((sec0 c).getD 40 0))).getD 40 0 = y1 at k40 eX
                clear TA
                go_wp2
                rename Hid (AS _ _ _ _ _ _ _ _) => TA
                have TC := Lib.hid (TA.out.blank (drew_keepsC _))
                clear TA
                refine wp_region_held_drew (S := fun W => W.rangeAt rg (k * 34) (arefV c)) (by kernel_rfl) ((by rw [Nat.mul_comm]; exact as_refAt TC.out rfl HC.out)) (fun hHeld => ?_)
                refine wpAnyH_take (i := 0) (oi := { dst := some 209, op := Op.move (Operand.tmp 7), type := 80, pos := "again.go:56", after := #[], guard := none }) (v := ?_) rfl (by kernel_rfl) (by kernel_rfl) (by kernel_rfl) (fun _ _ _ h => h) (Or.inl ⟨by kernel_rfl, ?_⟩) (by assumption) ?_
                rotate_left
                · (intro w9 hSw; clear hSw; go_simp; try with_reducible rfl)
                try simp only [Act.put, List.setIfInBounds_toArray, List.set_cons_zero, List.set_cons_succ]
                refine wpAnyH_take (i := 1) (oi := { dst := some 210, op := Op.move (Operand.tmp 22), type := 22, pos := "again.go:56", after := #[], guard := none }) (v := ?_) rfl (by kernel_rfl) (by kernel_rfl) (by kernel_rfl) (fun _ _ _ h => h) (Or.inl ⟨by kernel_rfl, ?_⟩) (by assumption) ?_
                rotate_left
                · (intro w9 hSw; clear hSw; go_simp; try with_reducible rfl)
                try simp only [Act.put, List.setIfInBounds_toArray, List.set_cons_zero, List.set_cons_succ]
                refine wpAnyH_take (i := 3) (oi := { dst := some 212, op := Op.move (Operand.tmp 8), type := 40, pos := "again.go:56", after := #[], guard := none }) (v := ?_) rfl (by kernel_rfl) (by kernel_rfl) (by kernel_rfl) (fun _ _ _ h => h) (Or.inl ⟨by kernel_rfl, ?_⟩) (by assumption) ?_
                rotate_left
                · (intro w9 hSw; clear hSw; go_simp; try with_reducible rfl)
                try simp only [Act.put, List.setIfInBounds_toArray, List.set_cons_zero, List.set_cons_succ]
                refine wpAnyH_take (i := 4) (oi := { dst := some 213, op := Op.move (Operand.tmp 18), type := 3, pos := "again.go:56", after := #[], guard := none }) (v := ?_) rfl (by kernel_rfl) (by kernel_rfl) (by kernel_rfl) (fun _ _ _ h => h) (Or.inl ⟨by kernel_rfl, ?_⟩) (by assumption) ?_
                rotate_left
                · (intro w9 hSw; clear hSw; go_simp; try with_reducible rfl)
                try simp only [Act.put, List.setIfInBounds_toArray, List.set_cons_zero, List.set_cons_succ]
                refine wpAnyH_take (i := 5) (oi := { dst := some 214, op := Op.indexAddr 40 (Operand.tmp 212) (Operand.tmp 213), type := 0, pos := "again.go:56", after := #[{ on := 3, ground := Ground.data }, { on := 4, ground := Ground.data }], guard := none }) (v := ?_) rfl (by kernel_rfl) (by kernel_rfl) (by kernel_rfl) (fun _ _ _ h => h) (Or.inl ⟨by kernel_rfl, ?_⟩) (by assumption) ?_
                rotate_left
                · (intro w9 hSw; clear hSw; go_simp; try with_reducible rfl)
                try simp only [Act.put, List.setIfInBounds_toArray, List.set_cons_zero, List.set_cons_succ]
                refine wpAnyH_take (i := 6) (oi := { dst := some 215, op := Op.load 52 (Operand.tmp 214), type := 52, pos := "again.go:56", after := #[{ on := 5, ground := Ground.data }], guard := none }) (v := ?_) rfl (by kernel_rfl) (by kernel_rfl) (by kernel_rfl) (fun _ _ _ h => h) (Or.inl ⟨by kernel_rfl, ?_⟩) (by assumption) ?_
                rotate_left
                · (intro w9 hSw; refine exec_load_mid 52 (.tmp 214) ?_ rg (k * 34) ?_ (arefV c) _ hSw Tryd.underlying52 rfl (HSZ.out c) <;> rfl)
                try simp only [Act.put, List.setIfInBounds_toArray, List.set_cons_zero, List.set_cons_succ]
                refine wpAnyH_take (i := 7) (oi := { dst := some 216, op := Op.move (Operand.tmp 24), type := 3, pos := "again.go:56", after := #[], guard := none }) (v := ?_) rfl (by kernel_rfl) (by kernel_rfl) (by kernel_rfl) (fun _ _ _ h => h) (Or.inl ⟨by kernel_rfl, ?_⟩) (by assumption) ?_
                rotate_left
                · (intro w9 hSw; clear hSw; go_simp; try with_reducible rfl)
                try simp only [Act.put, List.setIfInBounds_toArray, List.set_cons_zero, List.set_cons_succ]
                refine wpAnyH_take (i := 9) (oi := { dst := some 218, op := Op.move (Operand.tmp 25), type := 3, pos := "again.go:56", after := #[], guard := none }) (v := ?_) rfl (by kernel_rfl) (by kernel_rfl) (by kernel_rfl) (fun _ _ _ h => h) (Or.inl ⟨by kernel_rfl, ?_⟩) (by assumption) ?_
                rotate_left
                · (intro w9 hSw; clear hSw; go_simp; try with_reducible rfl)
                try simp only [Act.put, List.setIfInBounds_toArray, List.set_cons_zero, List.set_cons_succ]
                refine wpAnyH_take (i := 10) (oi := { dst := some 219, op := Op.binOp BinOp.neq 3 (Operand.tmp 218) (Operand.const (Value.int IntKind.i64 1)) 3, type := 4, pos := "again.go:56", after := #[{ on := 9, ground := Ground.data }], guard := none }) (v := ?_) rfl (by kernel_rfl) (by kernel_rfl) (by kernel_rfl) (fun _ _ _ h => h) (Or.inl ⟨by kernel_rfl, ?_⟩) (by assumption) ?_
                rotate_left
                · (intro w9 hSw; clear hSw; go_simp; try with_reducible rfl)
                try simp only [Act.put, List.setIfInBounds_toArray, List.set_cons_zero, List.set_cons_succ]
                refine wpAnyH_ready (rs := [2]) (by kernel_rfl) (by simp) ?_
                refine AllReadyH.cons (o := { dst := some 211, op := Op.call { callee := Callee.value (Operand.func 37), args := #[Operand.tmp 209, Operand.tmp 210], argTypes := #[80, 22] }, type := 22, pos := "again.go:56", after := #[{ on := 0, ground := Ground.data }, { on := 1, ground := Ground.data }], guard := none }) rfl (fun K hK => ?_) AllReadyH.nil
                go_simp
                refine (as_lendX TC.out (by decide)).mono ?_
                rintro e2 w7 ⟨g3, R3, cp3, rfl, hcp3, t7⟩
                have TD := Lib.hid t7
                clear t7
                refine hK.out _ _ ((by rw [Nat.mul_comm]; exact as_refAt TD.out rfl HC.out)) (fun hHeld2 => ?_)
                clear hK K hHeld
                try simp only [Act.put, List.setIfInBounds_toArray, List.set_cons_zero, List.set_cons_succ]
                refine wpAnyH_ready (rs := [8]) (by kernel_rfl) (by simp) ?_
                refine AllReadyH.cons (o := { dst := some 217, op := Op.call { callee := Callee.value (Operand.func 35), args := #[Operand.tmp 211, Operand.tmp 215, Operand.const (Value.int IntKind.i64 0), Operand.tmp 216], argTypes := #[22, 52, 3, 3] }, type := 4, pos := "again.go:56", after := #[{ on := 2, ground := Ground.data }, { on := 6, ground := Ground.data }, { on := 7, ground := Ground.data }, { on := 2, ground := Ground.chain }], guard := none }) rfl (fun K hK => ?_) AllReadyH.nil
                go_simp
                refine (as_sound HXO.out HS0.out.byt (sec0_length c) HCL.out TD.out).mono ?_
                rw [sound_sec0 HS0.out]
                rintro e2 w8 ⟨rfl, t8⟩
                have TF := Lib.hid t8
                clear t8
                refine hK.out _ _ ((by rw [Nat.mul_comm]; exact as_refAt TF.out rfl HC.out)) (fun hHeld8 => ?_)
                clear hK K hHeld2
                try simp only [Act.put, List.setIfInBounds_toArray, List.set_cons_zero, List.set_cons_succ]
                refine wpAnyH_take (i := 11) (oi := { dst := some 220, op := Op.binOp BinOp.neq 4 (Operand.tmp 217) (Operand.tmp 219) 4, type := 4, pos := "again.go:56", after := #[{ on := 8, ground := Ground.data }, { on := 10, ground := Ground.data }], guard := none }) (v := ?_) rfl (by kernel_rfl) (by kernel_rfl) (by kernel_rfl) (fun _ _ _ h => h) (Or.inl ⟨by kernel_rfl, ?_⟩) (by assumption) ?_
                rotate_left
                · (intro w9 hSw; clear hSw; go_simp; try with_reducible rfl)
                try simp only [Act.put, List.setIfInBounds_toArray, List.set_cons_zero, List.set_cons_succ]
                refine wpAnyH_take (i := 12) (oi := { dst := some 221, op := Op.move (Operand.tmp 220), type := 4, pos := "again.go:56", after := #[{ on := 11, ground := Ground.data }, { on := 8, ground := Ground.chain }], guard := none }) (v := ?_) rfl (by kernel_rfl) (by kernel_rfl) (by kernel_rfl) (fun _ _ _ h => h) (Or.inl ⟨by kernel_rfl, ?_⟩) (by assumption) ?_
                rotate_left
                · (intro w9 hSw; clear hSw; go_simp; try with_reducible rfl)
                try simp only [Act.put, List.setIfInBounds_toArray, List.set_cons_zero, List.set_cons_succ]
                refine wpAnyH_take (i := 13) (oi := { dst := some 222, op := Op.move (Operand.tmp 7), type := 80, pos := "again.go:56", after := #[{ on := 12, ground := Ground.guard }], guard := some (12, false) }) (v := ?_) rfl (by kernel_rfl) (by kernel_rfl) (by kernel_rfl) (fun _ _ _ h => h) (Or.inl ⟨by kernel_rfl, ?_⟩) (by assumption) ?_
                rotate_left
                · (intro w9 hSw; clear hSw; go_simp; try with_reducible rfl)
                try simp only [Act.put, List.setIfInBounds_toArray, List.set_cons_zero, List.set_cons_succ]
                refine wpAnyH_take (i := 14) (oi := { dst := some 223, op := Op.move (Operand.tmp 22), type := 22, pos := "again.go:56", after := #[{ on := 12, ground := Ground.guard }], guard := some (12, false) }) (v := ?_) rfl (by kernel_rfl) (by kernel_rfl) (by kernel_rfl) (fun _ _ _ h => h) (Or.inl ⟨by kernel_rfl, ?_⟩) (by assumption) ?_
                rotate_left
                · (intro w9 hSw; clear hSw; go_simp; try with_reducible rfl)
                try simp only [Act.put, List.setIfInBounds_toArray, List.set_cons_zero, List.set_cons_succ]
                refine wpAnyH_ready (rs := [15]) (by kernel_rfl) (by simp) ?_
                refine AllReadyH.cons (o := { dst := some 224, op := Op.call { callee := Callee.value (Operand.func 38), args := #[Operand.tmp 222, Operand.tmp 223], argTypes := #[80, 22] }, type := 4, pos := "again.go:56", after := #[{ on := 13, ground := Ground.data }, { on := 14, ground := Ground.data }, { on := 12, ground := Ground.chain }, { on := 12, ground := Ground.guard }], guard := some (12, false) }) rfl (fun K hK => ?_) AllReadyH.nil
                go_simp
                refine (as_backX TF.out).mono ?_
                rintro e2 w9 ⟨rfl, t9⟩
                have TG := Lib.hid t9
                clear t9
                refine hK.out _ _ ((by rw [Nat.mul_comm]; exact as_refAt TG.out rfl HC.out)) (fun hHeld15 => ?_)
                clear hK K hHeld8
                try simp only [Act.put, List.setIfInBounds_toArray, List.set_cons_zero, List.set_cons_succ]
                refine wpAnyH_take (i := 16) (oi := { dst := some 225, op := Op.unOp UnOp.not 4 (Operand.tmp 224), type := 4, pos := "again.go:56", after := #[{ on := 15, ground := Ground.data }, { on := 12, ground := Ground.guard }], guard := some (12, false) }) (v := ?_) rfl (by kernel_rfl) (by kernel_rfl) (by kernel_rfl) (fun _ _ _ h => h) (Or.inl ⟨by kernel_rfl, ?_⟩) (by assumption) ?_
                rotate_left
                · (intro w9 hSw; clear hSw; go_simp; try with_reducible rfl)
                try simp only [Act.put, List.setIfInBounds_toArray, List.set_cons_zero, List.set_cons_succ]
                refine wpAnyH_take (i := 17) (oi := { dst := some 226, op := Op.pick (Operand.tmp 221) (Operand.const (Value.bool true)) (Operand.tmp 225), type := 4, pos := "again.go:56", after := #[{ on := 12, ground := Ground.data }, { on := 16, ground := Ground.data }], guard := none }) (v := ?_) rfl (by kernel_rfl) (by kernel_rfl) (by kernel_rfl) (fun _ _ _ h => h) (Or.inl ⟨by kernel_rfl, ?_⟩) (by assumption) ?_
                rotate_left
                · (intro w9 hSw; clear hSw; go_simp; try with_reducible rfl)
                try simp only [Act.put, List.setIfInBounds_toArray, List.set_cons_zero, List.set_cons_succ]
                refine wpAnyH_done (by kernel_rfl) ?_ _
                go_wp2_with (go_at_call 39; refine (as_wipe TG.out).mono ?_; rintro e2 w10 ⟨rfl, t9⟩; have TH := Lib.hid t9; clear t9)
                go_roundg (3 - (2 + 1))
                case measure => omega
                case rel => exact ⟨3, by go_num, by decide, by decide, Lib.hid (by rw [if_neg (by decide)]; exact TH.out)⟩
              · have TA := Lib.hid (show AS x ⟨.slice (some ⟨rg, 0, none⟩) K rc, rl, .slice (some ⟨tg, 0, none⟩) K tc, tl⟩ (KF x) cs [rowG g2 512 cp2 (sec0 c)] K (100 * i + 10 * k + 6) _ from by have := TE.out; rw [if_neg (by decide)] at this; exact this)
                clear TE
                go_wp2
                go_roundg (K - (k + 1))
                case measure => have := HKK.out; omega
                case rel => exact ⟨k + 1, by go_num, HKK.out.1, by have := HKK.out; omega, Lib.hid (TA.out.shed.mono (by omega))⟩
          · have b9 : ((k : Int) < (K : Int)) = False := eq_false (by omega)
            have HST := Lib.hid (show ∀ W, Keeps [] x.W0 W → Calls Tryd.prog 30 #[] W fun e w' => e = .returned (.bool true) ∧ Keeps [] W w' from fun W hk9 => started_calls (Nat.le_trans HXO.out.w3 hk9.size) (HXO.out.tab.keeps hk9 (by simp)) (HXO.out.sha.keeps hk9 (by simp)) (HXO.out.half.keeps hk9 (by simp)))
            go_wp2_with (go_at_call 30; refine (HST.out _ T8.out.old).mono ?_; rintro e w5 ⟨rfl, k5⟩; have K5 := Lib.hid (T8.out.old.trans' k5); clear k5)
            go_ret
            exact ⟨rfl, by rw [← HW0.out]; exact K5.out⟩
end Go.Proofs.YtgcpcgcfpjolnaaDoor.G
