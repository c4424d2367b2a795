import Derived.Test.YtgcpcgcfpjolnaaDoorPL
-- ChainLent: the walk.
namespace Go.Proofs.YtgcpcgcfpjolnaaDoor.G
open Go.RowKit Go.Proofs.YtgcpcgcfpjolnaaDoorW.PrintWords Go.Proofs.YtgcpcgcfpjolnaaDoorW.PrintLast Go.Proofs.YtgcpcgcfpjolnaaDoorW.PrintMore
set_option linter.unusedVariables false
set_option linter.unusedSimpArgs false
set_option maxRecDepth 10000
theorem lent_long {W0 : World} (A1 A2 : Option Addr) (L1 c1 L2 c2 : Nat) (h : 20000 < L1 ∨ 20000 < L2) :
    Calls Tryd.prog 3 #[.slice A1 L1 c1, .slice A2 L2 c2] W0 fun e w' => e = .returned (.bool true) ∧ Keeps [] W0 w' := by
  by_cases h1 : 20000 < L1
  · have b1 : decide (20000 < (L1 : Int)) = true := by simp; omega
    clear h
    go_enter Tryd.func3, Tryd.ntmps3
    go_wp2
    go_ret
    exact ⟨rfl, Keeps.refl _ _⟩
  · have b1 : decide (20000 < (L1 : Int)) = false := by simp; omega
    have b2 : decide (20000 < (L2 : Int)) = true := by simp; omega
    clear h
    go_enter Tryd.func3, Tryd.ntmps3
    go_wp2
    go_ret
    exact ⟨rfl, Keeps.refl _ _⟩
set_option maxHeartbeats 16000000 in
theorem lent_walk {W0 : World} (hw : 3 ≤ W0.heap.size) (A1 : Option Addr) (c1 : Nat) (xs1 : List Int) (A2 : Option Addr) (c2 : Nat) (xs2 : List Int) (hb1 : BSl W0 A1 xs1.length c1 xs1) (hb2 : BSl W0 A2 xs2.length c2 xs2)
    (hL1 : xs1.length ≤ 20000) (hL2 : xs2.length ≤ 20000) (hTab : TabW W0) (hT : ShaW W0) (hH : HalfW W0) :
    Calls Tryd.prog 3 #[.slice A1 xs1.length c1, .slice A2 xs2.length c2] W0 fun e w' => e = .returned (.bool true) ∧ Keeps [] W0 w' := by
  have b1 : decide (20000 < (xs1.length : Int)) = false := by simp; omega
  have b2 : decide (20000 < (xs2.length : Int)) = false := by simp; omega
  have M0 := Lib.hid (Moves.start hw)
  have HB1 := Lib.hid hb1
  have HB2 := Lib.hid hb2
  have HL12 := Lib.hid (And.intro hL1 hL2)
  have HTB := Lib.hid (And.intro hTab (And.intro hT hH))
  have HW3 := Lib.hid hw
  clear hb1 hb2 hL1 hL2 hTab hT hH hw
  go_enter Tryd.func3, Tryd.ntmps3
  go_wp2_with (first | (go_at_call 15; refine (num_calls _ _).mono ?_; rintro e w' ⟨rfl, rfl⟩) | (go_at_call 13; refine (disk_new M0.out 250 (by decide) (by decide)).mono ?_; rintro e w' ⟨d, rfl, hd, m1⟩; have M1 := Lib.hid m1; have BL := Lib.hid hd; clear m1 hd) | (go_at_call 14; refine (space_new M1.out 5 250 (by decide) (by decide)).mono ?_; rintro e w' ⟨b, g, cap, rfl, m2⟩; have M2 := Lib.hid (m2.permG (List.Perm.swap _ _ _)); clear m2 M1))
  have EBD := Lib.hid (show ∀ i, BSl W0 (if i = 0 then A1 else A2) (if i = 0 then xs1 else xs2).length (if i = 0 then c1 else c2) (if i = 0 then xs1 else xs2) from fun i => by
    by_cases h : i = 0
    · rw [if_pos h, if_pos h, if_pos h]; exact HB1.out
    · rw [if_neg h, if_neg h, if_neg h]; exact HB2.out)
  obtain ⟨x, hx⟩ : ∃ x : LX, x = ⟨W0, d.db, b, g, cap, w'.heap.size + 1, w'.heap.size + 1 + 1, w'.heap.size, fun i => if i = 0 then A1 else A2, fun i => if i = 0 then c1 else c2, fun i => if i = 0 then xs1 else xs2⟩ := ⟨_, rfl⟩
  have HXO := Lib.hid (show XOk x from by
    rw [hx]
    refine ⟨HTB.out.1, HTB.out.2.1, HTB.out.2.2, HW3.out, EBD.out, fun i => ?_⟩
    by_cases h : i = 0
    · simp only [h, if_true]; exact HL12.out.1
    · simp only [h, if_false]; exact HL12.out.2)
  have hdb : d.db = x.db := by rw [hx]
  have htb : x.tb = w'.heap.size := by rw [hx]
  have hkb : x.kb = w'.heap.size + 1 := by rw [hx]
  have hmb : x.mb = w'.heap.size + 1 + 1 := by rw [hx]
  have ht0 : x.txt 0 = .slice A1 xs1.length c1 := by rw [hx]; rfl
  have ht1 : x.txt 1 = .slice A2 xs2.length c2 := by rw [hx]; rfl
  have hsb : x.sb = b := by rw [hx]
  have T0 := Lib.hid (ls_start x BL.out hdb htb hkb hmb (by rw [show x.W0 = W0 by rw [hx], show spx x (List.replicate (250 - 5) true) = ⟨b, g, cap, 5, 250, List.replicate (250 - 5) true⟩ by rw [hx]; rfl]; exact M2.out))
  have HW0 := Lib.hid (show x.W0 = W0 by rw [hx])
  rw [ht0, ht1] at T0
  rw [← hmb, ← hkb, ← htb, ← hsb, hdb]
  generalize ((w'.alloc (.cells #[.slice A1 xs1.length c1, .slice A2 xs2.length c2] 31)).alloc (.cells #[.slice none 0 0, .slice none 0 0] 35)).alloc (.cells #[.slice none 0 0, .slice none 0 0, .int .i64 0] 39) = WS at T0 ⊢
  clear hx hdb htb hkb hmb ht0 ht1 hsb M2 BL M0 EBD HB1 HB2 HTB HW3 HL12
  go_loopg [12, 14, 15] 2 (fun q rv wv iv W => ∃ i : Nat, iv = .int .i64 (i : Int) ∧ i ≤ 2 ∧ 2 - i ≤ q ∧ Hid (P1 x i rv wv W))
  case atStart => exact ⟨0, rfl, by omega, by omega, Lib.hid ⟨[], rfl, by simp, T0.out⟩⟩
  case round =>
    obtain ⟨i, rfl, hi, hq, T1⟩ := hrel
    by_cases hi2 : i < 2
    · as_aux_lemma =>
      have hi2' : (i : Int) < 2 := by omega
      obtain ⟨cs, hcs, htx, t2⟩ := T1.out
      have hct := ls_txt t2 i hi2
      have TA := Lib.hid t2
      have HTX := Lib.hid htx
      have HQ2 := Lib.hid (show 2 * i ≤ 3 by omega)
      clear t2 htx T1
      go_wp2_with (first | (go_at_call 15; refine (num_calls _ _).mono ?_; rintro e w2 ⟨rfl, rfl⟩) | (go_at_call 16; refine (ls_newW HXO.out TA.out HQ2.out i).mono ?_; rintro e w2 ⟨c, rfl, hcb, hap, t2⟩; have HCN := Lib.hid (t2.ch _ (List.mem_cons_self ..)).1; have HCB := Lib.hid hcb; have HAP := Lib.hid hap; have TA' := Lib.hid t2; clear t2 TA hcb hap; rename Hid (LS _ _ _ _ _ _ _ _ _) => TA) | (go_at_call 18; refine (ls_nums TA.out).mono ?_; rintro e w2 ⟨A, cp, rfl, hcp, t2⟩; have TB := Lib.hid t2; clear t2 TA hcp) | (go_at_call 17; refine (ls_keepI HXO.out TB.out (by omega) (by have := HCN.out; omega)).mono ?_; rintro e w2 ⟨rfl, t2⟩; have TA := Lib.hid t2; clear t2 TB))
      go_loopg [18] 42 (fun q ov W => ∃ j, j ≤ c.N.length ∧ c.N.length - j ≤ q ∧ (∃ b, ov = .bool b ∧ Hid (b = decide (j = c.N.length))) ∧ Hid (LS x ⟨u12, cs, u14, cs, .slice none 0 0, []⟩ (KL x (10 * i + 1 + 1)) ((c, j) :: fullC cs) [] [] (2 * i + 1) (1000 * i + j) W))
      case atStart => exact ⟨0, Nat.zero_le _, by have := HCN.out; omega, ⟨false, rfl, Lib.hid (decide_eq_false (by have := HCN.out; omega)).symm⟩, TA⟩
      case round =>
        clear TA
        obtain ⟨j, hj, hqj, ⟨bb, rfl, HB⟩, TC⟩ := hrel
        by_cases hjk : j < c.N.length
        · have hb : bb = false := HB.out.trans (decide_eq_false (by omega))
          subst hb
          have HJK := Lib.hid hjk
          clear hjk
          go_wp2_with (go_at_call 19; refine (ls_wstep HXO.out TC.out HJK.out HAP.out (by have := HCN.out; omega)).mono ?_; rintro e w2 ⟨rfl, t2⟩; have TD := Lib.hid t2; clear t2)
          go_roundg (c.N.length - (j + 1))
          case measure => have := HJK.out; omega
          case rel => exact ⟨j + 1, HJK.out, by omega, ⟨_, rfl, Lib.hid rfl⟩, TD⟩
        · have hjN : j = c.N.length := by omega
          have hb : bb = true := HB.out.trans (decide_eq_true hjN)
          subst hb
          have TA := Lib.hid (show LS x ⟨u12, cs, u14, cs, .slice none 0 0, []⟩ (KL x (10 * i + 1 + 1)) ((c, c.N.length) :: fullC cs) [] [] (2 * i + 1) (1000 * i + 42) _ from by have t9 := TC.out; rw [hjN] at t9; exact t9.mono (by have := HCN.out; omega))
          clear TC HB hjN hj hqj hjk
          go_wp2_with (first | (go_at_call 15; refine (num_calls _ _).mono ?_; rintro e w2 ⟨rfl, rfl⟩) | (go_at_call 18; refine (ls_nums TA.out).mono ?_; rintro e w2 ⟨A, cp, rfl, hcp, t2⟩; have TB := Lib.hid t2; clear t2 TA hcp) | (go_at_call 17; refine (ls_keepI HXO.out TB.out (by omega) (by have := HCN.out; omega)).mono ?_; rintro e w2 ⟨rfl, t2⟩; have TA := Lib.hid t2; clear t2 TB) | (go_at_call 20; refine (ls_wref TA.out).mono ?_; rintro e w2 ⟨rfl, t2⟩; have TA' := Lib.hid t2; clear t2 TA; rename Hid (LS _ _ _ _ _ _ _ _ _) => TA) | (refine wp_push rfl _ _ 42 43 (.pointer none) 1 8 rfl Tryd.underlying42 info43 rfl (by omega) (by omega) u14 cs.length (wptrs cs) #[.pointer (some ⟨c.wb, 0, none⟩)] rfl rfl (by simp) rfl (by simp [Value.oneCell']) (ls_rowW TA.out) (by omega) ?_; intro v1 w3 hown hk hf; have TA' := Lib.hid (ls_pushW TA.out hown hk hf); clear TA hown hk hf; rename Hid (LS _ _ _ _ _ _ _ _ _) => TA) | (refine wp_slice40 rfl (.tmp 130) rfl (refV c) (refV_length c) rfl ?_) | (refine wp_push rfl _ _ 40 52 (.agg z34.toArray) 34 48 rfl Tryd.underlying40 info52c z34_cells (by omega) (by omega) u12 cs.length (refsV cs) (refV c).toArray rfl rfl rfl (by simp [refV_length]) (by simpa using refV_one c) (ls_rowR TA.out) (by omega) ?_; intro v1 w3 hown hk hf; have TA' := Lib.hid (ls_pushR TA.out hown hk hf); clear TA hown hk hf; rename Hid (LS _ _ _ _ _ _ _ _ _) => TA; have hct2 := ls_txt TA.out i hi2) | (go_at_call 21; refine (ls_put HXO.out TA.out (by omega) i (by omega)).mono ?_; rintro e w5 ⟨L, vl, ll, rfl, hL34, hL1, hl42, t2⟩; have TB := Lib.hid t2; have HL42 := Lib.hid hl42; have HL34 := Lib.hid hL34; have HLO := Lib.hid hL1; clear t2 TA hct2 hl42 hL34 hL1) | (refine wpList_store_mid rfl 52 (.tmp 19) (.tmp 140) rfl w5.heap.size 0 L.toArray rfl rfl (StrAt_there (StrAt.new w5 z34.toArray 52) 0 L.toArray.size (by simp [HL34.out, z34_length])) (size52c HL34.out) (all_oneCell_toArray HLO.out) ?_; have TB' := Lib.hid (TB.out.blank (blank52 w5 L)); clear TB; rename Hid (LS _ _ _ _ _ _ _ _ _) => TB) | (go_at_call 17; refine (ls_keepI HXO.out TB.out (by omega) (by have := HL42.out; omega)).mono ?_; rintro e w2 ⟨rfl, t2⟩; have TA := Lib.hid t2; clear t2 TB))
          go_roundg (2 - (i + 1))
          case measure => omega
          case rel => exact ⟨i + 1, by go_num, by omega, by omega, Lib.hid (p1_step cs c hcs HTX.out HCB.out TA.out)⟩
    · have hie : i = 2 := by omega
      subst hie
      clear hi hq hi2
      obtain ⟨cs, hcs, htx, t2⟩ := T1.out
      have HRF := ls_refs t2 (by simp only; omega)
      obtain ⟨rg, rc, e9, hrc, _⟩ := HRF
      simp only at e9
      rw [hcs] at e9 hrc
      subst e9
      obtain ⟨c0, h0⟩ : ∃ c0, cs[0]? = some c0 := ⟨_, List.getElem?_eq_getElem (by omega)⟩
      obtain ⟨c1', h1⟩ : ∃ c1', cs[1]? = some c1' := ⟨_, List.getElem?_eq_getElem (by omega)⟩
      have T2 := Lib.hid t2
      have HCS := Lib.hid hcs
      have HTX := Lib.hid htx
      have H01 := Lib.hid (And.intro h0 h1)
      clear t2 hcs htx h0 h1 T1
      go_wp2_with fail
      have T3 := Lib.hid (ls_str T2.out wayC 62)
      obtain ⟨wb, hwb⟩ : ∃ n, n = wr.heap.size := ⟨_, rfl⟩
      change Hid (LS _ _ _ _ _ _ _ _ (wr.alloc (.cells #[.int .i64 0, .int .i64 0, .int .i64 1, .int .i64 1, .int .i64 0, .int .i64 1] 62))) at T3
      rw [← hwb] at T3 ⊢
      generalize (wr.alloc (.cells #[.int .i64 0, .int .i64 0, .int .i64 1, .int .i64 1, .int .i64 0, .int .i64 1] 62)) = WT at T3 ⊢
      clear hwb T2
      go_loopg [13, 23] 6 (fun q pv iv W => ∃ i : Nat, iv = .int .i64 (i : Int) ∧ i ≤ 6 ∧ 6 - i ≤ q ∧ Hid (P2 x wb rg rc u14 cs i pv W))
      case atStart => exact ⟨0, rfl, by omega, by omega, Lib.hid ⟨[], rfl, by simp, T3.out⟩⟩
      case round =>
        clear T3
        obtain ⟨i, rfl, hi, hq, T4⟩ := hrel
        by_cases hi6 : i < 6
        · as_aux_lemma =>
          have hi6' : (i : Int) < 6 := by omega
          obtain ⟨pl, hpl, hrl, t4⟩ := T4.out
          obtain ⟨k, hk⟩ : ∃ k, k = wy i := ⟨_, rfl⟩
          have hk2 : k < 2 := by rw [hk]; exact wy_lt i
          obtain ⟨c, hc⟩ : ∃ c, cs[k]? = some c := ⟨_, List.getElem?_eq_getElem (by have := HCS.out; omega)⟩
          have HCM := Lib.hid (fullC_mem hc)
          have HCT := Lib.hid (HTX.out k c hc)
          have HK := Lib.hid hk
          have HC := Lib.hid hc
          have hwy : _root_.Go.World.cell? _ _ = _ := way_at (ls_strX t4 0 rfl) hi6
          rw [← hk] at hwy
          have TA := Lib.hid t4
          have HPL := Lib.hid hpl
          have HRL := Lib.hid hrl
          have HSZ := Lib.hid (size52v c)
          clear t4 hpl hrl hk hc T4
          have HK2 := Lib.hid hk2
          have HI6 := Lib.hid hi6
          have HQQ := Lib.hid hq
          clear hi hq
          go_wp2_with (first | (go_at_call 15; refine (num_calls _ _).mono ?_; rintro e w5 ⟨rfl, rfl⟩) | (refine wpList_load_mid rfl 52 (.tmp 160) rfl rg (k * 34) rfl (refV c) _ (by rw [Nat.mul_comm]; exact ls_refAt TA.out rfl HC.out) Tryd.underlying52 rfl HSZ.out ?_) | (go_at_call 22; refine (ls_get HXO.out TA.out HCM.out (by omega)).mono ?_; rintro e w5 ⟨A, cp, rfl, hcp, t5⟩; have TB := Lib.hid t5; have HCP := Lib.hid hcp; clear t5 TA hcp hwy; have hwy := way_at (ls_strX TB.out 0 rfl) HI6.out; rw [← HK.out] at hwy) | (refine wpList_load_mid rfl 52 (.tmp 172) rfl rg (k * 34) rfl (refV c) _ (by rw [Nat.mul_comm]; exact ls_refAt TB.out rfl HC.out) Tryd.underlying52 rfl HSZ.out ?_) | (go_at_call 23; refine (ls_newR HXO.out TB.out HCM.out).mono ?_; rintro e w5 ⟨r, rfl, hrc, t5⟩; have HRC := Lib.hid hrc; have TB' := Lib.hid t5; clear t5 TB hwy hrc; rename Hid (LS _ _ _ _ _ _ _ _ _) => TB; have hwy := way_at (ls_strX TB.out 1 rfl) HI6.out; rw [← HK.out] at hwy; have hct := ls_txt TB.out k HK2.out) | (go_at_call 24; refine (ls_same (i := k) HXO.out TB.out HCP.out HCT.out).mono ?_; rintro e w5 ⟨rfl, t5⟩; have TB' := Lib.hid t5; clear t5 TB; rename Hid (LS _ _ _ _ _ _ _ _ _) => TB) | (go_at_call 25; refine (ls_keepB HXO.out TB.out (by omega) (TB.out.ch _ HCM.out).2).mono ?_; rintro e w5 ⟨rfl, t5⟩; have TA := Lib.hid t5; clear t5 TB))
          go_loopg [29] 42 (fun q ov W => ∃ (j : Nat) (r' : RC), j ≤ c.N.length ∧ c.N.length - j ≤ q ∧ (∃ b, ov = .bool b ∧ Hid (b = decide (c.N.length ≤ j))) ∧ Hid (r'.rb = r.rb ∧ r'.c = c) ∧ Hid (LS x ⟨.slice (some ⟨rg, 0, none⟩) 2 rc, cs, u14, cs, u13, pl⟩ (KL x (20 + 200 * i + 1 + j)) (fullC cs) [] (rcG x.db r' j :: rdX x wb pl) 4 (2000 + 1000 * i + 42 + j) W))
          case atStart =>
            have hN := (TA.out.ch _ HCM.out).1
            exact ⟨0, r, Nat.zero_le _, by simp only at hN; omega, ⟨false, rfl, Lib.hid (decide_eq_false (by simp only at hN; omega)).symm⟩, Lib.hid ⟨rfl, HRC.out⟩, TA⟩
          case round =>
            have HCN := Lib.hid (show 1 ≤ c.N.length ∧ c.N.length ≤ 42 from (TA.out.ch _ HCM.out).1)
            clear TA
            obtain ⟨j, r', hj, hqj, ⟨bb, rfl, HB⟩, HR', TC⟩ := hrel
            by_cases hjk : j < c.N.length
            · have hb : bb = false := HB.out.trans (decide_eq_false (by omega))
              subst hb
              have HJK := Lib.hid hjk
              have st := ls_rstep HXO.out TC.out (by rw [HR'.out.2]; exact HCM.out) (by rw [HR'.out.2]; exact hjk) (by have := HCN.out; omega)
              rw [HR'.out.1, HR'.out.2] at st
              have ST := Lib.hid st
              clear hjk st
              go_wp2_with (first | (go_at_call 26; refine ST.out.mono ?_; rintro e w6 ⟨rfl, r2, hb2, hc2, t6⟩; have HR2 := Lib.hid (And.intro hb2 hc2); have TD := Lib.hid t6; clear t6 ST TC hb2 hc2) | (go_at_call 18; have nu := ls_rnums (i := 0) (n := j + 1) (r := r2) (j := j + 1) TD.out rfl (by rw [HR2.out.2]; exact HCM.out) (by rw [HR2.out.2, List.length_take]; exact Nat.min_eq_left HJK.out); rw [HR2.out.1, HR2.out.2] at nu; refine nu.mono ?_; rintro e w7 ⟨A7, cp7, rfl, hcp7, t7⟩; have TE' := Lib.hid t7; clear t7 TD nu hcp7) | (go_at_call 17; refine (ls_keepI HXO.out TE'.out (by have := HCN.out; have := HJK.out; omega) (by have := HCN.out; rw [List.length_take]; omega)).mono ?_; rintro e w8 ⟨rfl, t8⟩; have TF := Lib.hid t8; clear t8 TE'))
              go_roundg (c.N.length - (j + 1))
              case measure => have := HJK.out; omega
              case rel => exact ⟨j + 1, r2, HJK.out, by omega, ⟨_, rfl, Lib.hid rfl⟩, HR2, TF⟩
            · have hjN : j = c.N.length := by omega
              have hb : bb = true := HB.out.trans (decide_eq_true (by omega))
              subst hb
              have TA := Lib.hid (show LS x ⟨.slice (some ⟨rg, 0, none⟩) 2 rc, cs, u14, cs, u13, pl⟩ (KL x (20 + 200 * i + 43)) (fullC cs) [] (rcG x.db r' r'.c.N.length :: rdX x wb pl) 4 (2000 + 1000 * i + 84) _ from by have t9 := TC.out; rw [hjN, ← HR'.out.2] at t9; exact (t9.mono (by have := HCN.out; rw [HR'.out.2]; omega)).kmono (KL.mono (by have := HCN.out; rw [HR'.out.2]; omega)))
              have HRB := Lib.hid HR'.out.1
              have HRM := Lib.hid (show (r'.c, r'.c.N.length) ∈ fullC cs by rw [HR'.out.2]; exact HCM.out)
              have HRN := Lib.hid (show r'.c.N.length ≤ 42 from (TA.out.ch _ HRM.out).1.2)
              have HRL' := Lib.hid (TA.out.ch _ HRM.out).2
              clear TC HB hjN hj hqj hjk
              have HR3 := Lib.hid HR'.out.2
              clear HR' HRC HCN
              go_wp2_with (first | (go_at_call 18; have nu := ls_rnums (i := 0) (n := r'.c.N.length) (r := r') (j := r'.c.N.length) TA.out rfl HRM.out (by rw [List.length_take, Nat.min_self]); rw [HRB.out] at nu; refine nu.mono ?_; rintro e w7 ⟨A7, cp7, rfl, hcp7, t7⟩; have TB := Lib.hid t7; clear t7 TA nu hcp7) | (go_at_call 17; refine (ls_keepI HXO.out TB.out (by have := HI6.out; omega) (by have := HRN.out; rw [List.length_take]; omega)).mono ?_; rintro e w8 ⟨rfl, t8⟩; have TA := Lib.hid t8; clear t8 TB) | (go_at_call 27; have nu := ls_rbytes (i := 0) (r := r') TA.out rfl HRM.out; rw [HRB.out] at nu; refine nu.mono ?_; rintro e w7 ⟨A7, cp7, rfl, hcp7, t7⟩; have TB := Lib.hid t7; clear t7 TA nu hcp7) | (go_at_call 25; refine (ls_keepB HXO.out TB.out (by have := HI6.out; omega) HRL'.out).mono ?_; rintro e w8 ⟨rfl, t8⟩; have TA := Lib.hid t8; clear t8 TB) | (refine wp_push rfl _ _ 41 65 (.pointer none) 1 8 rfl Tryd.underlying41 info65 rfl (by omega) (by omega) u13 pl.length (rptrs pl) #[.pointer (some ⟨r.rb, 0, none⟩)] rfl rfl (by simp) rfl (by simp [Value.oneCell']) (ls_rowP TA.out) (by have := HPL.out; omega) ?_; intro v1 w9 hown hk9 hf9; have TA' := Lib.hid (ls_pushP (r := r') TA.out (by rw [HRB.out]; exact hown) hk9 hf9); clear TA hown hk9 hf9; rename Hid (LS _ _ _ _ _ _ _ _ _) => TA))
              go_roundg (6 - (i + 1))
              case measure => have := HI6.out; have := HQQ.out; omega
              case rel => exact ⟨i + 1, by go_num, by have := HI6.out; omega, by omega, Lib.hid (p2_step pl r' HPL.out HRL.out c (by rw [← HK.out]; exact HC.out) HR3.out TA.out (by omega) (by omega))⟩
        · have hie : i = 6 := by omega
          subst hie
          clear hi hq hi6
          obtain ⟨pl, hpl, hrl, t4⟩ := T4.out
          obtain ⟨pg, pc, e9, hpc, _⟩ := ls_ps t4 (by simp only; omega)
          obtain ⟨wg, wc, e8, hwc, _⟩ := ls_ws t4 (by have := HCS.out; simp only; omega)
          simp only at e9 e8
          rw [hpl] at e9 hpc
          rw [HCS.out] at e8 hwc
          subst e9
          subst e8
          have T5 := Lib.hid t4
          have HPL := Lib.hid hpl
          have HRL := Lib.hid hrl
          clear t4 hpl hrl T4
          go_wp2_with (first | (go_at_call 28; refine (ls_settleB HXO.out T5.out (by omega)).mono ?_; rintro e w5 ⟨rfl, t5⟩; have T6 := Lib.hid t5; clear t5 T5) | (go_at_call 29; refine (ls_settleI HXO.out T6.out (by omega)).mono ?_; rintro e w5 ⟨rfl, t5⟩; have T7 := Lib.hid t5; clear t5 T6))
          go_loopg [30] 6 (fun q iv W => ∃ i : Nat, iv = .int .i64 (i : Int) ∧ i ≤ 6 ∧ 6 - i ≤ q ∧ Hid (LS x ⟨.slice (some ⟨rg, 0, none⟩) 2 rc, cs, .slice (some ⟨wg, 0, none⟩) 2 wc, cs, .slice (some ⟨pg, 0, none⟩) 6 pc, pl⟩ KE (fullC cs) [] (rdX x wb pl) 4 (8000 + 100 * i) W))
          case atStart => exact ⟨0, rfl, by omega, by omega, T7⟩
          case round =>
            clear T7
            obtain ⟨i, rfl, hi, hq, T8⟩ := hrel
            by_cases hi6 : i < 6
            · as_aux_lemma =>
              have hi6' : (i : Int) < 6 := by omega
              obtain ⟨k, hk⟩ : ∃ k, k = wy i := ⟨_, rfl⟩
              have hk2 : k < 2 := by rw [hk]; exact wy_lt i
              obtain ⟨c, hc⟩ : ∃ c, cs[k]? = some c := ⟨_, List.getElem?_eq_getElem (by have := HCS.out; omega)⟩
              obtain ⟨r, hr⟩ : ∃ r, pl[i]? = some r := ⟨_, List.getElem?_eq_getElem (by have := HPL.out; omega)⟩
              have hrc : r.c = c := by
                have h9 := HRL.out i r hr
                rw [← hk, hc] at h9
                cases h9; rfl
              have HCM := Lib.hid (fullC_mem hc)
              have HCA := Lib.hid (fullC_at hc)
              have HCT := Lib.hid (HTX.out k c hc)
              have HK := Lib.hid hk
              have HC := Lib.hid hc
              have HR := Lib.hid hr
              have HRC := Lib.hid hrc
              have HXR := Lib.hid (rdX_at x wb pl i r hr)
              have HSZ := Lib.hid (size52v c)
              have HI6 := Lib.hid hi6
              have HQQ := Lib.hid hq
              obtain ⟨z, hz⟩ : ∃ z, z = c.N.getD 0 0 := ⟨_, rfl⟩
              have HZ := Lib.hid hz
              have HN := Lib.hid (show 1 ≤ c.N.length from (T8.out.ch _ HCM.out).1.1)
              have hN0 : (0 : Int) < (c.N.length : Int) := by have := HN.out; omega
              have hk2' : (k : Int) < 2 := by omega
              have hN0n : 0 < c.N.length := HN.out
              have HS := Lib.hid (show ∀ F t W, LS x ⟨.slice (some ⟨rg, 0, none⟩) 2 rc, cs, .slice (some ⟨wg, 0, none⟩) 2 wc, cs, .slice (some ⟨pg, 0, none⟩) 6 pc, pl⟩ KE (fullC cs) F (rdX x wb pl) 4 t W →
                  W.cell? ⟨wb, i, none⟩ = some (.int .i64 (k : Int)) ∧ W.cell? ⟨x.tb, k, none⟩ = some (x.txt k) ∧ W.cell? ⟨pg, i, none⟩ = some (.pointer (some ⟨r.rb, 0, none⟩)) ∧ W.cell? ⟨rg, k * 34 + 32, none⟩ = some (.int .i64 z) ∧ W.cell? ⟨wg, k, none⟩ = some (.pointer (some ⟨c.wb, 0, none⟩)) from fun F t W h => by
                refine ⟨?_, ls_txt h k hk2, ls_psAt h rfl hr, ?_, ls_wsAt h rfl hc⟩
                · have h9 := way_at (ls_strX h 0 rfl) hi6
                  rw [← hk] at h9
                  exact h9
                · have h9 := ls_refAt h rfl hc 32 _ (ref_first c)
                  rw [hz, Nat.mul_comm k 34]
                  exact h9)
              have hwy := (HS.out _ _ _ T8.out).1
              clear hi hq hk hc hr hrc hz
              go_wp2_with (first | (refine wpList_load_mid rfl 52 (.tmp 251) rfl rg (k * 34) rfl (refV c) _ (by rw [Nat.mul_comm]; exact ls_refAt T8.out rfl HC.out) Tryd.underlying52 rfl HSZ.out ?_) | (go_at_call 22; refine (ls_get HXO.out T8.out HCM.out (by have := HI6.out; omega)).mono ?_; rintro e w5 ⟨A, cp, rfl, hcp, t5⟩; have TB := Lib.hid t5; have HCP := Lib.hid hcp; clear t5 T8 hcp hwy))
              refine wp_region_held_drew (S := fun W => W.cell? ⟨wb, i, none⟩ = some (.int .i64 (k : Int)) ∧ W.cell? ⟨x.tb, k, none⟩ = some (x.txt k) ∧ W.cell? ⟨pg, i, none⟩ = some (.pointer (some ⟨r.rb, 0, none⟩)) ∧ W.cell? ⟨rg, k * 34 + 32, none⟩ = some (.int .i64 z) ∧ W.cell? ⟨wg, k, none⟩ = some (.pointer (some ⟨c.wb, 0, none⟩))) (by kernel_rfl) (HS.out _ _ _ (TB.out.blank ((Keeps.refl _ _).drew))) (fun hHeld => ?_)
              refine wpAnyH_take (i := 0) (oi := { dst := some 257, op := Op.move (Operand.tmp 33), type := 24, pos := "outright.go:247", after := #[], guard := none }) (v := ?_) rfl (by kernel_rfl) (by kernel_rfl) (by kernel_rfl) (fun _ _ _ h => h) (Or.inl ⟨by rfl, ?_⟩) (by assumption) ?_
              rotate_left
              · (intro w9 hSw; obtain ⟨s1, s2, s3, s4, s5⟩ := hSw; (try dsimp only at hSw); go_simp; try with_reducible rfl)
              try simp only [Act.put, List.setIfInBounds_toArray, List.set_cons_zero, List.set_cons_succ]
              refine wpAnyH_ready (rs := [1]) (by kernel_rfl) (by simp) ?_
              refine AllReadyH.cons (o := { dst := some 258, op := Op.call { callee := Callee.value (Operand.func 15), args := #[Operand.tmp 257], argTypes := #[24] }, type := 3, pos := "outright.go:247", after := #[{ on := 0, ground := Ground.data }], guard := none }) rfl (fun K hK => ?_) AllReadyH.nil
              go_simp
              refine (num_calls _ _).mono ?_
              rintro e w6 ⟨rfl, rfl⟩
              refine hK.out _ _ (HS.out _ _ _ (TB.out.blank ((Keeps.refl _ _).drew))) (fun hHeld1 => ?_)
              clear hK K hHeld
              try simp only [Act.put, List.setIfInBounds_toArray, List.set_cons_zero, List.set_cons_succ]
              refine wpAnyH_take (i := 2) (oi := { dst := some 259, op := Op.binOp BinOp.neq 3 (Operand.tmp 258) (Operand.const (Value.int IntKind.i64 0)) 3, type := 4, pos := "outright.go:247", after := #[{ on := 1, ground := Ground.data }], guard := none }) (v := ?_) rfl (by kernel_rfl) (by kernel_rfl) (by kernel_rfl) (fun _ _ _ h => h) (Or.inl ⟨by rfl, ?_⟩) (by assumption) ?_
              rotate_left
              · (intro w9 hSw; obtain ⟨s1, s2, s3, s4, s5⟩ := hSw; (try dsimp only at hSw); go_simp; try with_reducible rfl)
              try simp only [Act.put, List.setIfInBounds_toArray, List.set_cons_zero, List.set_cons_succ]
              refine wpAnyH_take (i := 3) (oi := { dst := some 260, op := Op.move (Operand.tmp 259), type := 4, pos := "outright.go:247", after := #[{ on := 2, ground := Ground.data }, { on := 1, ground := Ground.chain }], guard := none }) (v := ?_) rfl (by kernel_rfl) (by kernel_rfl) (by kernel_rfl) (fun _ _ _ h => h) (Or.inl ⟨by rfl, ?_⟩) (by assumption) ?_
              rotate_left
              · (intro w9 hSw; obtain ⟨s1, s2, s3, s4, s5⟩ := hSw; (try dsimp only at hSw); go_simp; try with_reducible rfl)
              try simp only [Act.put, List.setIfInBounds_toArray, List.set_cons_zero, List.set_cons_succ]
              refine wpAnyH_take (i := 4) (oi := { dst := some 261, op := Op.move (Operand.tmp 31), type := 22, pos := "outright.go:247", after := #[{ on := 3, ground := Ground.guard }], guard := some (3, false) }) (v := ?_) rfl (by kernel_rfl) (by kernel_rfl) (by kernel_rfl) (fun _ _ _ h => h) (Or.inl ⟨by rfl, ?_⟩) (by assumption) ?_
              rotate_left
              · (intro w9 hSw; obtain ⟨s1, s2, s3, s4, s5⟩ := hSw; (try dsimp only at hSw); go_simp; try with_reducible rfl)
              try simp only [Act.put, List.setIfInBounds_toArray, List.set_cons_zero, List.set_cons_succ]
              refine wpAnyH_take (i := 5) (oi := { dst := some 262, op := Op.move (Operand.tmp 30), type := 3, pos := "outright.go:247", after := #[{ on := 3, ground := Ground.guard }], guard := some (3, false) }) (v := ?_) rfl (by kernel_rfl) (by kernel_rfl) (by kernel_rfl) (fun _ _ _ h => h) (Or.inl ⟨by rfl, ?_⟩) (by assumption) ?_
              rotate_left
              · (intro w9 hSw; obtain ⟨s1, s2, s3, s4, s5⟩ := hSw; (try dsimp only at hSw); go_simp; try with_reducible rfl)
              try simp only [Act.put, List.setIfInBounds_toArray, List.set_cons_zero, List.set_cons_succ]
              refine wpAnyH_take (i := 6) (oi := { dst := some 263, op := Op.indexAddr 62 (Operand.tmp 22) (Operand.tmp 262), type := 0, pos := "outright.go:247", after := #[{ on := 5, ground := Ground.data }, { on := 3, ground := Ground.guard }], guard := some (3, false) }) (v := ?_) rfl (by kernel_rfl) (by kernel_rfl) (by kernel_rfl) (fun _ _ _ h => h) (Or.inl ⟨by rfl, ?_⟩) (by assumption) ?_
              rotate_left
              · (intro w9 hSw; obtain ⟨s1, s2, s3, s4, s5⟩ := hSw; (try dsimp only at hSw); go_simp; try with_reducible rfl)
              try simp only [Act.put, List.setIfInBounds_toArray, List.set_cons_zero, List.set_cons_succ]
              refine wpAnyH_take (i := 7) (oi := { dst := some 264, op := Op.load 3 (Operand.tmp 263), type := 3, pos := "outright.go:247", after := #[{ on := 6, ground := Ground.data }, { on := 3, ground := Ground.guard }], guard := some (3, false) }) (v := ?_) rfl (by kernel_rfl) (by kernel_rfl) (by kernel_rfl) (fun _ _ _ h => h) (Or.inl ⟨by rfl, ?_⟩) (by assumption) ?_
              rotate_left
              · (intro w9 hSw; obtain ⟨s1, s2, s3, s4, s5⟩ := hSw; (try dsimp only at hSw); go_simp; try with_reducible rfl)
              try simp only [Act.put, List.setIfInBounds_toArray, List.set_cons_zero, List.set_cons_succ]
              refine wpAnyH_take (i := 8) (oi := { dst := some 265, op := Op.indexAddr 31 (Operand.tmp 9) (Operand.tmp 264), type := 0, pos := "outright.go:247", after := #[{ on := 7, ground := Ground.data }, { on := 3, ground := Ground.guard }], guard := some (3, false) }) (v := ?_) rfl (by kernel_rfl) (by kernel_rfl) (by kernel_rfl) (fun _ _ _ h => h) (Or.inl ⟨by rfl, ?_⟩) (by assumption) ?_
              rotate_left
              · (intro w9 hSw; obtain ⟨s1, s2, s3, s4, s5⟩ := hSw; (try dsimp only at hSw); go_simp; try with_reducible rfl)
              try simp only [Act.put, List.setIfInBounds_toArray, List.set_cons_zero, List.set_cons_succ]
              refine wpAnyH_take (i := 9) (oi := { dst := some 266, op := Op.load 22 (Operand.tmp 265), type := 22, pos := "outright.go:247", after := #[{ on := 8, ground := Ground.data }, { on := 3, ground := Ground.guard }], guard := some (3, false) }) (v := ?_) rfl (by kernel_rfl) (by kernel_rfl) (by kernel_rfl) (fun _ _ _ h => h) (Or.inl ⟨by rfl, ?_⟩) (by assumption) ?_
              rotate_left
              · (intro w9 hSw; obtain ⟨s1, s2, s3, s4, s5⟩ := hSw; (try dsimp only at hSw); go_simp; try with_reducible rfl)
              try simp only [Act.put, List.setIfInBounds_toArray, List.set_cons_zero, List.set_cons_succ]
              refine wpAnyH_ready (rs := [10]) (by kernel_rfl) (by simp) ?_
              refine AllReadyH.cons (o := { dst := some 267, op := Op.call { callee := Callee.value (Operand.func 24), args := #[Operand.tmp 261, Operand.tmp 266], argTypes := #[22, 22] }, type := 4, pos := "outright.go:247", after := #[{ on := 4, ground := Ground.data }, { on := 9, ground := Ground.data }, { on := 3, ground := Ground.chain }, { on := 3, ground := Ground.guard }], guard := some (3, false) }) rfl (fun K hK => ?_) AllReadyH.nil
              go_simp
              refine (ls_same (i := k) HXO.out (TB.out.blank ((Keeps.refl _ _).drew)) HCP.out HCT.out).mono ?_
              rintro e w6 ⟨rfl, t6⟩
              have TC := Lib.hid t6.shed
              clear t6
              refine hK.out _ _ (HS.out _ _ _ TC.out) (fun hHeld10 => ?_)
              clear hK K hHeld1
              try simp only [Act.put, List.setIfInBounds_toArray, List.set_cons_zero, List.set_cons_succ]
              refine wpAnyH_take (i := 11) (oi := { dst := some 268, op := Op.unOp UnOp.not 4 (Operand.tmp 267), type := 4, pos := "outright.go:247", after := #[{ on := 10, ground := Ground.data }, { on := 3, ground := Ground.guard }], guard := some (3, false) }) (v := ?_) rfl (by kernel_rfl) (by kernel_rfl) (by kernel_rfl) (fun _ _ _ h => h) (Or.inl ⟨by rfl, ?_⟩) (by assumption) ?_
              rotate_left
              · (intro w9 hSw; obtain ⟨s1, s2, s3, s4, s5⟩ := hSw; (try dsimp only at hSw); go_simp; try with_reducible rfl)
              try simp only [Act.put, List.setIfInBounds_toArray, List.set_cons_zero, List.set_cons_succ]
              refine wpAnyH_take (i := 12) (oi := { dst := some 269, op := Op.pick (Operand.tmp 260) (Operand.const (Value.bool true)) (Operand.tmp 268), type := 4, pos := "outright.go:247", after := #[{ on := 3, ground := Ground.data }, { on := 11, ground := Ground.data }], guard := none }) (v := ?_) rfl (by kernel_rfl) (by kernel_rfl) (by kernel_rfl) (fun _ _ _ h => h) (Or.inl ⟨by rfl, ?_⟩) (by assumption) ?_
              rotate_left
              · (intro w9 hSw; obtain ⟨s1, s2, s3, s4, s5⟩ := hSw; (try dsimp only at hSw); go_simp; try with_reducible rfl)
              try simp only [Act.put, List.setIfInBounds_toArray, List.set_cons_zero, List.set_cons_succ]
              refine wpAnyH_take (i := 13) (oi := { dst := some 270, op := Op.move (Operand.tmp 269), type := 4, pos := "outright.go:247", after := #[{ on := 12, ground := Ground.data }, { on := 10, ground := Ground.chain }], guard := none }) (v := ?_) rfl (by kernel_rfl) (by kernel_rfl) (by kernel_rfl) (fun _ _ _ h => h) (Or.inl ⟨by rfl, ?_⟩) (by assumption) ?_
              rotate_left
              · (intro w9 hSw; obtain ⟨s1, s2, s3, s4, s5⟩ := hSw; (try dsimp only at hSw); go_simp; try with_reducible rfl)
              try simp only [Act.put, List.setIfInBounds_toArray, List.set_cons_zero, List.set_cons_succ]
              refine wpAnyH_take (i := 14) (oi := { dst := some 271, op := Op.move (Operand.tmp 13), type := 41, pos := "outright.go:247", after := #[{ on := 13, ground := Ground.guard }], guard := some (13, false) }) (v := ?_) rfl (by kernel_rfl) (by kernel_rfl) (by kernel_rfl) (fun _ _ _ h => h) (Or.inl ⟨by rfl, ?_⟩) (by assumption) ?_
              rotate_left
              · (intro w9 hSw; obtain ⟨s1, s2, s3, s4, s5⟩ := hSw; (try dsimp only at hSw); go_simp; try with_reducible rfl)
              try simp only [Act.put, List.setIfInBounds_toArray, List.set_cons_zero, List.set_cons_succ]
              refine wpAnyH_take (i := 15) (oi := { dst := some 272, op := Op.move (Operand.tmp 30), type := 3, pos := "outright.go:247", after := #[{ on := 13, ground := Ground.guard }], guard := some (13, false) }) (v := ?_) rfl (by kernel_rfl) (by kernel_rfl) (by kernel_rfl) (fun _ _ _ h => h) (Or.inl ⟨by rfl, ?_⟩) (by assumption) ?_
              rotate_left
              · (intro w9 hSw; obtain ⟨s1, s2, s3, s4, s5⟩ := hSw; (try dsimp only at hSw); go_simp; try with_reducible rfl)
              try simp only [Act.put, List.setIfInBounds_toArray, List.set_cons_zero, List.set_cons_succ]
              refine wpAnyH_take (i := 16) (oi := { dst := some 273, op := Op.indexAddr 41 (Operand.tmp 271) (Operand.tmp 272), type := 0, pos := "outright.go:247", after := #[{ on := 14, ground := Ground.data }, { on := 15, ground := Ground.data }, { on := 13, ground := Ground.guard }], guard := some (13, false) }) (v := ?_) rfl (by kernel_rfl) (by kernel_rfl) (by kernel_rfl) (fun _ _ _ h => h) (Or.inl ⟨by rfl, ?_⟩) (by assumption) ?_
              rotate_left
              · (intro w9 hSw; obtain ⟨s1, s2, s3, s4, s5⟩ := hSw; (try dsimp only at hSw); go_simp; try with_reducible rfl)
              try simp only [Act.put, List.setIfInBounds_toArray, List.set_cons_zero, List.set_cons_succ]
              refine wpAnyH_take (i := 17) (oi := { dst := some 274, op := Op.load 65 (Operand.tmp 273), type := 65, pos := "outright.go:247", after := #[{ on := 16, ground := Ground.data }, { on := 13, ground := Ground.guard }], guard := some (13, false) }) (v := ?_) rfl (by kernel_rfl) (by kernel_rfl) (by kernel_rfl) (fun _ _ _ h => h) (Or.inl ⟨by rfl, ?_⟩) (by assumption) ?_
              rotate_left
              · (intro w9 hSw; obtain ⟨s1, s2, s3, s4, s5⟩ := hSw; (try dsimp only at hSw); go_simp; try with_reducible rfl)
              try simp only [Act.put, List.setIfInBounds_toArray, List.set_cons_zero, List.set_cons_succ]
              refine wpAnyH_take (i := 19) (oi := { dst := some 276, op := Op.move (Operand.tmp 30), type := 3, pos := "outright.go:247", after := #[{ on := 13, ground := Ground.guard }], guard := some (13, false) }) (v := ?_) rfl (by kernel_rfl) (by kernel_rfl) (by kernel_rfl) (fun _ _ _ h => h) (Or.inl ⟨by rfl, ?_⟩) (by assumption) ?_
              rotate_left
              · (intro w9 hSw; obtain ⟨s1, s2, s3, s4, s5⟩ := hSw; (try dsimp only at hSw); go_simp; try with_reducible rfl)
              try simp only [Act.put, List.setIfInBounds_toArray, List.set_cons_zero, List.set_cons_succ]
              refine wpAnyH_take (i := 20) (oi := { dst := some 277, op := Op.indexAddr 62 (Operand.tmp 22) (Operand.tmp 276), type := 0, pos := "outright.go:247", after := #[{ on := 19, ground := Ground.data }, { on := 13, ground := Ground.guard }], guard := some (13, false) }) (v := ?_) rfl (by kernel_rfl) (by kernel_rfl) (by kernel_rfl) (fun _ _ _ h => h) (Or.inl ⟨by rfl, ?_⟩) (by assumption) ?_
              rotate_left
              · (intro w9 hSw; obtain ⟨s1, s2, s3, s4, s5⟩ := hSw; (try dsimp only at hSw); go_simp; try with_reducible rfl)
              try simp only [Act.put, List.setIfInBounds_toArray, List.set_cons_zero, List.set_cons_succ]
              refine wpAnyH_take (i := 21) (oi := { dst := some 278, op := Op.load 3 (Operand.tmp 277), type := 3, pos := "outright.go:247", after := #[{ on := 20, ground := Ground.data }, { on := 13, ground := Ground.guard }], guard := some (13, false) }) (v := ?_) rfl (by kernel_rfl) (by kernel_rfl) (by kernel_rfl) (fun _ _ _ h => h) (Or.inl ⟨by rfl, ?_⟩) (by assumption) ?_
              rotate_left
              · (intro w9 hSw; obtain ⟨s1, s2, s3, s4, s5⟩ := hSw; (try dsimp only at hSw); go_simp; try with_reducible rfl)
              try simp only [Act.put, List.setIfInBounds_toArray, List.set_cons_zero, List.set_cons_succ]
              refine wpAnyH_take (i := 22) (oi := { dst := some 279, op := Op.indexAddr 31 (Operand.tmp 9) (Operand.tmp 278), type := 0, pos := "outright.go:247", after := #[{ on := 21, ground := Ground.data }, { on := 13, ground := Ground.guard }], guard := some (13, false) }) (v := ?_) rfl (by kernel_rfl) (by kernel_rfl) (by kernel_rfl) (fun _ _ _ h => h) (Or.inl ⟨by rfl, ?_⟩) (by assumption) ?_
              rotate_left
              · (intro w9 hSw; obtain ⟨s1, s2, s3, s4, s5⟩ := hSw; (try dsimp only at hSw); go_simp; try with_reducible rfl)
              try simp only [Act.put, List.setIfInBounds_toArray, List.set_cons_zero, List.set_cons_succ]
              refine wpAnyH_take (i := 23) (oi := { dst := some 280, op := Op.load 22 (Operand.tmp 279), type := 22, pos := "outright.go:247", after := #[{ on := 22, ground := Ground.data }, { on := 13, ground := Ground.guard }], guard := some (13, false) }) (v := ?_) rfl (by kernel_rfl) (by kernel_rfl) (by kernel_rfl) (fun _ _ _ h => h) (Or.inl ⟨by rfl, ?_⟩) (by assumption) ?_
              rotate_left
              · (intro w9 hSw; obtain ⟨s1, s2, s3, s4, s5⟩ := hSw; (try dsimp only at hSw); go_simp; try with_reducible rfl)
              try simp only [Act.put, List.setIfInBounds_toArray, List.set_cons_zero, List.set_cons_succ]
              refine wpAnyH_ready (rs := [18]) (by kernel_rfl) (by simp) ?_
              refine AllReadyH.cons (o := { dst := some 275, op := Op.call { callee := Callee.value (Operand.func 27), args := #[Operand.tmp 274], argTypes := #[65] }, type := 22, pos := "outright.go:247", after := #[{ on := 17, ground := Ground.data }, { on := 13, ground := Ground.chain }, { on := 13, ground := Ground.guard }], guard := some (13, false) }) rfl (fun K hK => ?_) AllReadyH.nil
              go_simp
              refine (ls_rbytes (i := i + 1) TC.out HXR.out (by rw [HRC.out]; exact HCM.out)).mono ?_
              rintro e w7 ⟨A7, cp7, rfl, hcp7, t7⟩
              have TD := Lib.hid t7
              have HCP7 := Lib.hid hcp7
              clear t7 hcp7
              refine hK.out _ _ (HS.out _ _ _ TD.out) (fun hHeld18 => ?_)
              clear hK K hHeld10
              try simp only [Act.put, List.setIfInBounds_toArray, List.set_cons_zero, List.set_cons_succ]
              refine wpAnyH_ready (rs := [24]) (by kernel_rfl) (by simp) ?_
              refine AllReadyH.cons (o := { dst := some 281, op := Op.call { callee := Callee.value (Operand.func 24), args := #[Operand.tmp 275, Operand.tmp 280], argTypes := #[22, 22] }, type := 4, pos := "outright.go:247", after := #[{ on := 18, ground := Ground.data }, { on := 23, ground := Ground.data }, { on := 18, ground := Ground.chain }, { on := 13, ground := Ground.guard }], guard := some (13, false) }) rfl (fun K hK => ?_) AllReadyH.nil
              go_simp
              refine (ls_same (i := k) HXO.out TD.out HCP7.out (by rw [HRC.out]; exact HCT.out)).mono ?_
              rintro e w8 ⟨rfl, t8⟩
              have TE' := Lib.hid t8.shed
              clear t8
              refine hK.out _ _ (HS.out _ _ _ TE'.out) (fun hHeld24 => ?_)
              clear hK K hHeld18
              try simp only [Act.put, List.setIfInBounds_toArray, List.set_cons_zero, List.set_cons_succ]
              refine wpAnyH_take (i := 25) (oi := { dst := some 282, op := Op.unOp UnOp.not 4 (Operand.tmp 281), type := 4, pos := "outright.go:247", after := #[{ on := 24, ground := Ground.data }, { on := 13, ground := Ground.guard }], guard := some (13, false) }) (v := ?_) rfl (by kernel_rfl) (by kernel_rfl) (by kernel_rfl) (fun _ _ _ h => h) (Or.inl ⟨by rfl, ?_⟩) (by assumption) ?_
              rotate_left
              · (intro w9 hSw; obtain ⟨s1, s2, s3, s4, s5⟩ := hSw; (try dsimp only at hSw); go_simp; try with_reducible rfl)
              try simp only [Act.put, List.setIfInBounds_toArray, List.set_cons_zero, List.set_cons_succ]
              refine wpAnyH_take (i := 26) (oi := { dst := some 283, op := Op.pick (Operand.tmp 270) (Operand.const (Value.bool true)) (Operand.tmp 282), type := 4, pos := "outright.go:247", after := #[{ on := 13, ground := Ground.data }, { on := 25, ground := Ground.data }], guard := none }) (v := ?_) rfl (by kernel_rfl) (by kernel_rfl) (by kernel_rfl) (fun _ _ _ h => h) (Or.inl ⟨by rfl, ?_⟩) (by assumption) ?_
              rotate_left
              · (intro w9 hSw; obtain ⟨s1, s2, s3, s4, s5⟩ := hSw; (try dsimp only at hSw); go_simp; try with_reducible rfl)
              try simp only [Act.put, List.setIfInBounds_toArray, List.set_cons_zero, List.set_cons_succ]
              refine wpAnyH_take (i := 27) (oi := { dst := some 284, op := Op.move (Operand.tmp 283), type := 4, pos := "outright.go:247", after := #[{ on := 26, ground := Ground.data }, { on := 24, ground := Ground.chain }], guard := none }) (v := ?_) rfl (by kernel_rfl) (by kernel_rfl) (by kernel_rfl) (fun _ _ _ h => h) (Or.inl ⟨by rfl, ?_⟩) (by assumption) ?_
              rotate_left
              · (intro w9 hSw; obtain ⟨s1, s2, s3, s4, s5⟩ := hSw; (try dsimp only at hSw); go_simp; try with_reducible rfl)
              try simp only [Act.put, List.setIfInBounds_toArray, List.set_cons_zero, List.set_cons_succ]
              refine wpAnyH_take (i := 28) (oi := { dst := some 285, op := Op.move (Operand.tmp 13), type := 41, pos := "outright.go:247", after := #[{ on := 27, ground := Ground.guard }], guard := some (27, false) }) (v := ?_) rfl (by kernel_rfl) (by kernel_rfl) (by kernel_rfl) (fun _ _ _ h => h) (Or.inl ⟨by rfl, ?_⟩) (by assumption) ?_
              rotate_left
              · (intro w9 hSw; obtain ⟨s1, s2, s3, s4, s5⟩ := hSw; (try dsimp only at hSw); go_simp; try with_reducible rfl)
              try simp only [Act.put, List.setIfInBounds_toArray, List.set_cons_zero, List.set_cons_succ]
              refine wpAnyH_take (i := 29) (oi := { dst := some 286, op := Op.move (Operand.tmp 30), type := 3, pos := "outright.go:247", after := #[{ on := 27, ground := Ground.guard }], guard := some (27, false) }) (v := ?_) rfl (by kernel_rfl) (by kernel_rfl) (by kernel_rfl) (fun _ _ _ h => h) (Or.inl ⟨by rfl, ?_⟩) (by assumption) ?_
              rotate_left
              · (intro w9 hSw; obtain ⟨s1, s2, s3, s4, s5⟩ := hSw; (try dsimp only at hSw); go_simp; try with_reducible rfl)
              try simp only [Act.put, List.setIfInBounds_toArray, List.set_cons_zero, List.set_cons_succ]
              refine wpAnyH_take (i := 30) (oi := { dst := some 287, op := Op.indexAddr 41 (Operand.tmp 285) (Operand.tmp 286), type := 0, pos := "outright.go:247", after := #[{ on := 28, ground := Ground.data }, { on := 29, ground := Ground.data }, { on := 27, ground := Ground.guard }], guard := some (27, false) }) (v := ?_) rfl (by kernel_rfl) (by kernel_rfl) (by kernel_rfl) (fun _ _ _ h => h) (Or.inl ⟨by rfl, ?_⟩) (by assumption) ?_
              rotate_left
              · (intro w9 hSw; obtain ⟨s1, s2, s3, s4, s5⟩ := hSw; (try dsimp only at hSw); go_simp; try with_reducible rfl)
              try simp only [Act.put, List.setIfInBounds_toArray, List.set_cons_zero, List.set_cons_succ]
              refine wpAnyH_take (i := 31) (oi := { dst := some 288, op := Op.load 65 (Operand.tmp 287), type := 65, pos := "outright.go:247", after := #[{ on := 30, ground := Ground.data }, { on := 27, ground := Ground.guard }], guard := some (27, false) }) (v := ?_) rfl (by kernel_rfl) (by kernel_rfl) (by kernel_rfl) (fun _ _ _ h => h) (Or.inl ⟨by rfl, ?_⟩) (by assumption) ?_
              rotate_left
              · (intro w9 hSw; obtain ⟨s1, s2, s3, s4, s5⟩ := hSw; (try dsimp only at hSw); go_simp; try with_reducible rfl)
              try simp only [Act.put, List.setIfInBounds_toArray, List.set_cons_zero, List.set_cons_succ]
              refine wpAnyH_take (i := 32) (oi := { dst := some 289, op := Op.nilCheck (Operand.tmp 288), type := 0, pos := "outright.go:247", after := #[{ on := 31, ground := Ground.data }, { on := 27, ground := Ground.guard }], guard := some (27, false) }) (v := ?_) rfl (by kernel_rfl) (by kernel_rfl) (by kernel_rfl) (fun _ _ _ h => h) (Or.inl ⟨by rfl, ?_⟩) (by assumption) ?_
              rotate_left
              · (intro w9 hSw; obtain ⟨s1, s2, s3, s4, s5⟩ := hSw; (try dsimp only at hSw); go_simp; try with_reducible rfl)
              try simp only [Act.put, List.setIfInBounds_toArray, List.set_cons_zero, List.set_cons_succ]
              refine wpAnyH_take (i := 33) (oi := { dst := some 290, op := Op.fieldAddr 71 (Operand.tmp 289) 0, type := 0, pos := "outright.go:247", after := #[{ on := 32, ground := Ground.data }, { on := 27, ground := Ground.guard }], guard := some (27, false) }) (v := ?_) rfl (by kernel_rfl) (by kernel_rfl) (by kernel_rfl) (fun _ _ _ h => h) (Or.inl ⟨by rfl, ?_⟩) (by assumption) ?_
              rotate_left
              · (intro w9 hSw; obtain ⟨s1, s2, s3, s4, s5⟩ := hSw; (try dsimp only at hSw); go_simp; try with_reducible rfl)
              try simp only [Act.put, List.setIfInBounds_toArray, List.set_cons_zero, List.set_cons_succ]
              refine wpAnyH_take (i := 37) (oi := { dst := some 294, op := Op.move (Operand.tmp 12), type := 40, pos := "outright.go:247", after := #[{ on := 27, ground := Ground.guard }], guard := some (27, false) }) (v := ?_) rfl (by kernel_rfl) (by kernel_rfl) (by kernel_rfl) (fun _ _ _ h => h) (Or.inl ⟨by rfl, ?_⟩) (by assumption) ?_
              rotate_left
              · (intro w9 hSw; obtain ⟨s1, s2, s3, s4, s5⟩ := hSw; (try dsimp only at hSw); go_simp; try with_reducible rfl)
              try simp only [Act.put, List.setIfInBounds_toArray, List.set_cons_zero, List.set_cons_succ]
              refine wpAnyH_take (i := 38) (oi := { dst := some 295, op := Op.move (Operand.tmp 30), type := 3, pos := "outright.go:247", after := #[{ on := 27, ground := Ground.guard }], guard := some (27, false) }) (v := ?_) rfl (by kernel_rfl) (by kernel_rfl) (by kernel_rfl) (fun _ _ _ h => h) (Or.inl ⟨by rfl, ?_⟩) (by assumption) ?_
              rotate_left
              · (intro w9 hSw; obtain ⟨s1, s2, s3, s4, s5⟩ := hSw; (try dsimp only at hSw); go_simp; try with_reducible rfl)
              try simp only [Act.put, List.setIfInBounds_toArray, List.set_cons_zero, List.set_cons_succ]
              refine wpAnyH_take (i := 39) (oi := { dst := some 296, op := Op.indexAddr 62 (Operand.tmp 22) (Operand.tmp 295), type := 0, pos := "outright.go:247", after := #[{ on := 38, ground := Ground.data }, { on := 27, ground := Ground.guard }], guard := some (27, false) }) (v := ?_) rfl (by kernel_rfl) (by kernel_rfl) (by kernel_rfl) (fun _ _ _ h => h) (Or.inl ⟨by rfl, ?_⟩) (by assumption) ?_
              rotate_left
              · (intro w9 hSw; obtain ⟨s1, s2, s3, s4, s5⟩ := hSw; (try dsimp only at hSw); go_simp; try with_reducible rfl)
              try simp only [Act.put, List.setIfInBounds_toArray, List.set_cons_zero, List.set_cons_succ]
              refine wpAnyH_take (i := 40) (oi := { dst := some 297, op := Op.load 3 (Operand.tmp 296), type := 3, pos := "outright.go:247", after := #[{ on := 39, ground := Ground.data }, { on := 27, ground := Ground.guard }], guard := some (27, false) }) (v := ?_) rfl (by kernel_rfl) (by kernel_rfl) (by kernel_rfl) (fun _ _ _ h => h) (Or.inl ⟨by rfl, ?_⟩) (by assumption) ?_
              rotate_left
              · (intro w9 hSw; obtain ⟨s1, s2, s3, s4, s5⟩ := hSw; (try dsimp only at hSw); go_simp; try with_reducible rfl)
              try simp only [Act.put, List.setIfInBounds_toArray, List.set_cons_zero, List.set_cons_succ]
              refine wpAnyH_take (i := 41) (oi := { dst := some 298, op := Op.indexAddr 40 (Operand.tmp 294) (Operand.tmp 297), type := 0, pos := "outright.go:247", after := #[{ on := 37, ground := Ground.data }, { on := 40, ground := Ground.data }, { on := 27, ground := Ground.guard }], guard := some (27, false) }) (v := ?_) rfl (by kernel_rfl) (by kernel_rfl) (by kernel_rfl) (fun _ _ _ h => h) (Or.inl ⟨by rfl, ?_⟩) (by assumption) ?_
              rotate_left
              · (intro w9 hSw; obtain ⟨s1, s2, s3, s4, s5⟩ := hSw; (try dsimp only at hSw); go_simp; try with_reducible rfl)
              try simp only [Act.put, List.setIfInBounds_toArray, List.set_cons_zero, List.set_cons_succ]
              refine wpAnyH_take (i := 42) (oi := { dst := some 299, op := Op.fieldAddr 52 (Operand.tmp 298) 1, type := 0, pos := "outright.go:247", after := #[{ on := 41, ground := Ground.data }, { on := 27, ground := Ground.guard }], guard := some (27, false) }) (v := ?_) rfl (by kernel_rfl) (by kernel_rfl) (by kernel_rfl) (fun _ _ _ h => h) (Or.inl ⟨by rfl, ?_⟩) (by assumption) ?_
              rotate_left
              · (intro w9 hSw; obtain ⟨s1, s2, s3, s4, s5⟩ := hSw; (try dsimp only at hSw); go_simp; try with_reducible rfl)
              try simp only [Act.put, List.setIfInBounds_toArray, List.set_cons_zero, List.set_cons_succ]
              refine wpAnyH_take (i := 43) (oi := { dst := some 300, op := Op.load 3 (Operand.tmp 299), type := 3, pos := "outright.go:247", after := #[{ on := 42, ground := Ground.data }, { on := 27, ground := Ground.guard }], guard := some (27, false) }) (v := ?_) rfl (by kernel_rfl) (by kernel_rfl) (by kernel_rfl) (fun _ _ _ h => h) (Or.inl ⟨by rfl, ?_⟩) (by assumption) ?_
              rotate_left
              · (intro w9 hSw; obtain ⟨s1, s2, s3, s4, s5⟩ := hSw; (try dsimp only at hSw); go_simp; try with_reducible rfl)
              try simp only [Act.put, List.setIfInBounds_toArray, List.set_cons_zero, List.set_cons_succ]
              refine wpAnyH_ready (rs := [34]) (by kernel_rfl) (by simp) ?_
              refine AllReadyH.cons (o := { dst := some 291, op := Op.call { callee := Callee.value (Operand.func 18), args := #[Operand.tmp 290], argTypes := #[54] }, type := 47, pos := "outright.go:247", after := #[{ on := 33, ground := Ground.data }, { on := 27, ground := Ground.chain }, { on := 27, ground := Ground.guard }], guard := some (27, false) }) rfl (fun K hK => ?_) AllReadyH.nil
              go_simp
              refine (ls_rnum0 (i := i + 1) (c := c) TE'.out HXR.out HCM.out HRC.out).mono ?_
              rintro e w9 ⟨g9, cp9, rfl, hcp9, hn9, t9⟩
              rw [← HZ.out] at hn9
              have TF := Lib.hid t9
              clear t9 hcp9
              refine hK.out _ _ (HS.out _ _ _ TF.out) (fun hHeld34 => ?_)
              clear hK K hHeld24
              try simp only [Act.put, List.setIfInBounds_toArray, List.set_cons_zero, List.set_cons_succ]
              refine wpAnyH_take (i := 35) (oi := { dst := some 292, op := Op.indexAddr 47 (Operand.tmp 291) (Operand.const (Value.int IntKind.i64 0)), type := 0, pos := "outright.go:247", after := #[{ on := 34, ground := Ground.data }, { on := 27, ground := Ground.guard }], guard := some (27, false) }) (v := ?_) rfl (by kernel_rfl) (by kernel_rfl) (by kernel_rfl) (fun _ _ _ h => h) (Or.inl ⟨by rfl, ?_⟩) (by assumption) ?_
              rotate_left
              · (intro w9 hSw; obtain ⟨s1, s2, s3, s4, s5⟩ := hSw; (try dsimp only at hSw); go_simp; try with_reducible rfl)
              try simp only [Act.put, List.setIfInBounds_toArray, List.set_cons_zero, List.set_cons_succ]
              refine wpAnyH_ready (rs := [36]) (by kernel_rfl) (by simp) ?_
              refine AllReadyH.cons (o := { dst := some 293, op := Op.load 3 (Operand.tmp 292), type := 3, pos := "outright.go:247", after := #[{ on := 35, ground := Ground.data }, { on := 27, ground := Ground.guard }], guard := some (27, false) }) rfl (fun K hK => ?_) AllReadyH.nil
              go_simp
              refine hK.out _ _ (HS.out _ _ _ TF.out) (fun hHeld36 => ?_)
              clear hK K hHeld34
              try simp only [Act.put, List.setIfInBounds_toArray, List.set_cons_zero, List.set_cons_succ]
              refine wpAnyH_take (i := 44) (oi := { dst := some 301, op := Op.binOp BinOp.neq 3 (Operand.tmp 293) (Operand.tmp 300) 3, type := 4, pos := "outright.go:247", after := #[{ on := 36, ground := Ground.data }, { on := 43, ground := Ground.data }, { on := 27, ground := Ground.guard }], guard := some (27, false) }) (v := ?_) rfl (by kernel_rfl) (by kernel_rfl) (by kernel_rfl) (fun _ _ _ h => h) (Or.inl ⟨by rfl, ?_⟩) (by assumption) ?_
              rotate_left
              · (intro w9 hSw; obtain ⟨s1, s2, s3, s4, s5⟩ := hSw; (try dsimp only at hSw); go_simp; try with_reducible rfl)
              try simp only [Act.put, List.setIfInBounds_toArray, List.set_cons_zero, List.set_cons_succ]
              refine wpAnyH_take (i := 45) (oi := { dst := some 302, op := Op.pick (Operand.tmp 284) (Operand.const (Value.bool true)) (Operand.tmp 301), type := 4, pos := "outright.go:247", after := #[{ on := 27, ground := Ground.data }, { on := 44, ground := Ground.data }], guard := none }) (v := ?_) rfl (by kernel_rfl) (by kernel_rfl) (by kernel_rfl) (fun _ _ _ h => h) (Or.inl ⟨by rfl, ?_⟩) (by assumption) ?_
              rotate_left
              · (intro w9 hSw; obtain ⟨s1, s2, s3, s4, s5⟩ := hSw; (try dsimp only at hSw); go_simp; try with_reducible rfl)
              try simp only [Act.put, List.setIfInBounds_toArray, List.set_cons_zero, List.set_cons_succ]
              refine wpAnyH_take (i := 46) (oi := { dst := some 303, op := Op.move (Operand.tmp 302), type := 4, pos := "outright.go:247", after := #[{ on := 45, ground := Ground.data }, { on := 34, ground := Ground.chain }], guard := none }) (v := ?_) rfl (by kernel_rfl) (by kernel_rfl) (by kernel_rfl) (fun _ _ _ h => h) (Or.inl ⟨by rfl, ?_⟩) (by assumption) ?_
              rotate_left
              · (intro w9 hSw; obtain ⟨s1, s2, s3, s4, s5⟩ := hSw; (try dsimp only at hSw); go_simp; try with_reducible rfl)
              try simp only [Act.put, List.setIfInBounds_toArray, List.set_cons_zero, List.set_cons_succ]
              refine wpAnyH_take (i := 47) (oi := { dst := some 304, op := Op.move (Operand.tmp 14), type := 42, pos := "outright.go:247", after := #[{ on := 46, ground := Ground.guard }], guard := some (46, false) }) (v := ?_) rfl (by kernel_rfl) (by kernel_rfl) (by kernel_rfl) (fun _ _ _ h => h) (Or.inl ⟨by rfl, ?_⟩) (by assumption) ?_
              rotate_left
              · (intro w9 hSw; obtain ⟨s1, s2, s3, s4, s5⟩ := hSw; (try dsimp only at hSw); go_simp; try with_reducible rfl)
              try simp only [Act.put, List.setIfInBounds_toArray, List.set_cons_zero, List.set_cons_succ]
              refine wpAnyH_take (i := 48) (oi := { dst := some 305, op := Op.move (Operand.tmp 30), type := 3, pos := "outright.go:247", after := #[{ on := 46, ground := Ground.guard }], guard := some (46, false) }) (v := ?_) rfl (by kernel_rfl) (by kernel_rfl) (by kernel_rfl) (fun _ _ _ h => h) (Or.inl ⟨by rfl, ?_⟩) (by assumption) ?_
              rotate_left
              · (intro w9 hSw; obtain ⟨s1, s2, s3, s4, s5⟩ := hSw; (try dsimp only at hSw); go_simp; try with_reducible rfl)
              try simp only [Act.put, List.setIfInBounds_toArray, List.set_cons_zero, List.set_cons_succ]
              refine wpAnyH_take (i := 49) (oi := { dst := some 306, op := Op.indexAddr 62 (Operand.tmp 22) (Operand.tmp 305), type := 0, pos := "outright.go:247", after := #[{ on := 48, ground := Ground.data }, { on := 46, ground := Ground.guard }], guard := some (46, false) }) (v := ?_) rfl (by kernel_rfl) (by kernel_rfl) (by kernel_rfl) (fun _ _ _ h => h) (Or.inl ⟨by rfl, ?_⟩) (by assumption) ?_
              rotate_left
              · (intro w9 hSw; obtain ⟨s1, s2, s3, s4, s5⟩ := hSw; (try dsimp only at hSw); go_simp; try with_reducible rfl)
              try simp only [Act.put, List.setIfInBounds_toArray, List.set_cons_zero, List.set_cons_succ]
              refine wpAnyH_take (i := 50) (oi := { dst := some 307, op := Op.load 3 (Operand.tmp 306), type := 3, pos := "outright.go:247", after := #[{ on := 49, ground := Ground.data }, { on := 46, ground := Ground.guard }], guard := some (46, false) }) (v := ?_) rfl (by kernel_rfl) (by kernel_rfl) (by kernel_rfl) (fun _ _ _ h => h) (Or.inl ⟨by rfl, ?_⟩) (by assumption) ?_
              rotate_left
              · (intro w9 hSw; obtain ⟨s1, s2, s3, s4, s5⟩ := hSw; (try dsimp only at hSw); go_simp; try with_reducible rfl)
              try simp only [Act.put, List.setIfInBounds_toArray, List.set_cons_zero, List.set_cons_succ]
              refine wpAnyH_take (i := 51) (oi := { dst := some 308, op := Op.indexAddr 42 (Operand.tmp 304) (Operand.tmp 307), type := 0, pos := "outright.go:247", after := #[{ on := 47, ground := Ground.data }, { on := 50, ground := Ground.data }, { on := 46, ground := Ground.guard }], guard := some (46, false) }) (v := ?_) rfl (by kernel_rfl) (by kernel_rfl) (by kernel_rfl) (fun _ _ _ h => h) (Or.inl ⟨by rfl, ?_⟩) (by assumption) ?_
              rotate_left
              · (intro w9 hSw; obtain ⟨s1, s2, s3, s4, s5⟩ := hSw; (try dsimp only at hSw); go_simp; try with_reducible rfl)
              try simp only [Act.put, List.setIfInBounds_toArray, List.set_cons_zero, List.set_cons_succ]
              refine wpAnyH_take (i := 52) (oi := { dst := some 309, op := Op.load 43 (Operand.tmp 308), type := 43, pos := "outright.go:247", after := #[{ on := 51, ground := Ground.data }, { on := 46, ground := Ground.guard }], guard := some (46, false) }) (v := ?_) rfl (by kernel_rfl) (by kernel_rfl) (by kernel_rfl) (fun _ _ _ h => h) (Or.inl ⟨by rfl, ?_⟩) (by assumption) ?_
              rotate_left
              · (intro w9 hSw; obtain ⟨s1, s2, s3, s4, s5⟩ := hSw; (try dsimp only at hSw); go_simp; try with_reducible rfl)
              try simp only [Act.put, List.setIfInBounds_toArray, List.set_cons_zero, List.set_cons_succ]
              refine wpAnyH_take (i := 53) (oi := { dst := some 310, op := Op.nilCheck (Operand.tmp 309), type := 0, pos := "outright.go:247", after := #[{ on := 52, ground := Ground.data }, { on := 46, ground := Ground.guard }], guard := some (46, false) }) (v := ?_) rfl (by kernel_rfl) (by kernel_rfl) (by kernel_rfl) (fun _ _ _ h => h) (Or.inl ⟨by rfl, ?_⟩) (by assumption) ?_
              rotate_left
              · (intro w9 hSw; obtain ⟨s1, s2, s3, s4, s5⟩ := hSw; (try dsimp only at hSw); go_simp; try with_reducible rfl)
              try simp only [Act.put, List.setIfInBounds_toArray, List.set_cons_zero, List.set_cons_succ]
              refine wpAnyH_take (i := 54) (oi := { dst := some 311, op := Op.fieldAddr 56 (Operand.tmp 310) 0, type := 0, pos := "outright.go:247", after := #[{ on := 53, ground := Ground.data }, { on := 46, ground := Ground.guard }], guard := some (46, false) }) (v := ?_) rfl (by kernel_rfl) (by kernel_rfl) (by kernel_rfl) (fun _ _ _ h => h) (Or.inl ⟨by rfl, ?_⟩) (by assumption) ?_
              rotate_left
              · (intro w9 hSw; obtain ⟨s1, s2, s3, s4, s5⟩ := hSw; (try dsimp only at hSw); go_simp; try with_reducible rfl)
              try simp only [Act.put, List.setIfInBounds_toArray, List.set_cons_zero, List.set_cons_succ]
              refine wpAnyH_take (i := 58) (oi := { dst := some 315, op := Op.move (Operand.tmp 12), type := 40, pos := "outright.go:247", after := #[{ on := 46, ground := Ground.guard }], guard := some (46, false) }) (v := ?_) rfl (by kernel_rfl) (by kernel_rfl) (by kernel_rfl) (fun _ _ _ h => h) (Or.inl ⟨by rfl, ?_⟩) (by assumption) ?_
              rotate_left
              · (intro w9 hSw; obtain ⟨s1, s2, s3, s4, s5⟩ := hSw; (try dsimp only at hSw); go_simp; try with_reducible rfl)
              try simp only [Act.put, List.setIfInBounds_toArray, List.set_cons_zero, List.set_cons_succ]
              refine wpAnyH_take (i := 59) (oi := { dst := some 316, op := Op.move (Operand.tmp 30), type := 3, pos := "outright.go:247", after := #[{ on := 46, ground := Ground.guard }], guard := some (46, false) }) (v := ?_) rfl (by kernel_rfl) (by kernel_rfl) (by kernel_rfl) (fun _ _ _ h => h) (Or.inl ⟨by rfl, ?_⟩) (by assumption) ?_
              rotate_left
              · (intro w9 hSw; obtain ⟨s1, s2, s3, s4, s5⟩ := hSw; (try dsimp only at hSw); go_simp; try with_reducible rfl)
              try simp only [Act.put, List.setIfInBounds_toArray, List.set_cons_zero, List.set_cons_succ]
              refine wpAnyH_take (i := 60) (oi := { dst := some 317, op := Op.indexAddr 62 (Operand.tmp 22) (Operand.tmp 316), type := 0, pos := "outright.go:247", after := #[{ on := 59, ground := Ground.data }, { on := 46, ground := Ground.guard }], guard := some (46, false) }) (v := ?_) rfl (by kernel_rfl) (by kernel_rfl) (by kernel_rfl) (fun _ _ _ h => h) (Or.inl ⟨by rfl, ?_⟩) (by assumption) ?_
              rotate_left
              · (intro w9 hSw; obtain ⟨s1, s2, s3, s4, s5⟩ := hSw; (try dsimp only at hSw); go_simp; try with_reducible rfl)
              try simp only [Act.put, List.setIfInBounds_toArray, List.set_cons_zero, List.set_cons_succ]
              refine wpAnyH_take (i := 61) (oi := { dst := some 318, op := Op.load 3 (Operand.tmp 317), type := 3, pos := "outright.go:247", after := #[{ on := 60, ground := Ground.data }, { on := 46, ground := Ground.guard }], guard := some (46, false) }) (v := ?_) rfl (by kernel_rfl) (by kernel_rfl) (by kernel_rfl) (fun _ _ _ h => h) (Or.inl ⟨by rfl, ?_⟩) (by assumption) ?_
              rotate_left
              · (intro w9 hSw; obtain ⟨s1, s2, s3, s4, s5⟩ := hSw; (try dsimp only at hSw); go_simp; try with_reducible rfl)
              try simp only [Act.put, List.setIfInBounds_toArray, List.set_cons_zero, List.set_cons_succ]
              refine wpAnyH_take (i := 62) (oi := { dst := some 319, op := Op.indexAddr 40 (Operand.tmp 315) (Operand.tmp 318), type := 0, pos := "outright.go:247", after := #[{ on := 58, ground := Ground.data }, { on := 61, ground := Ground.data }, { on := 46, ground := Ground.guard }], guard := some (46, false) }) (v := ?_) rfl (by kernel_rfl) (by kernel_rfl) (by kernel_rfl) (fun _ _ _ h => h) (Or.inl ⟨by rfl, ?_⟩) (by assumption) ?_
              rotate_left
              · (intro w9 hSw; obtain ⟨s1, s2, s3, s4, s5⟩ := hSw; (try dsimp only at hSw); go_simp; try with_reducible rfl)
              try simp only [Act.put, List.setIfInBounds_toArray, List.set_cons_zero, List.set_cons_succ]
              refine wpAnyH_take (i := 63) (oi := { dst := some 320, op := Op.fieldAddr 52 (Operand.tmp 319) 1, type := 0, pos := "outright.go:247", after := #[{ on := 62, ground := Ground.data }, { on := 46, ground := Ground.guard }], guard := some (46, false) }) (v := ?_) rfl (by kernel_rfl) (by kernel_rfl) (by kernel_rfl) (fun _ _ _ h => h) (Or.inl ⟨by rfl, ?_⟩) (by assumption) ?_
              rotate_left
              · (intro w9 hSw; obtain ⟨s1, s2, s3, s4, s5⟩ := hSw; (try dsimp only at hSw); go_simp; try with_reducible rfl)
              try simp only [Act.put, List.setIfInBounds_toArray, List.set_cons_zero, List.set_cons_succ]
              refine wpAnyH_take (i := 64) (oi := { dst := some 321, op := Op.load 3 (Operand.tmp 320), type := 3, pos := "outright.go:247", after := #[{ on := 63, ground := Ground.data }, { on := 46, ground := Ground.guard }], guard := some (46, false) }) (v := ?_) rfl (by kernel_rfl) (by kernel_rfl) (by kernel_rfl) (fun _ _ _ h => h) (Or.inl ⟨by rfl, ?_⟩) (by assumption) ?_
              rotate_left
              · (intro w9 hSw; obtain ⟨s1, s2, s3, s4, s5⟩ := hSw; (try dsimp only at hSw); go_simp; try with_reducible rfl)
              try simp only [Act.put, List.setIfInBounds_toArray, List.set_cons_zero, List.set_cons_succ]
              refine wpAnyH_ready (rs := [55]) (by kernel_rfl) (by simp) ?_
              refine AllReadyH.cons (o := { dst := some 312, op := Op.call { callee := Callee.value (Operand.func 18), args := #[Operand.tmp 311], argTypes := #[54] }, type := 47, pos := "outright.go:247", after := #[{ on := 54, ground := Ground.data }, { on := 46, ground := Ground.chain }, { on := 46, ground := Ground.guard }], guard := some (46, false) }) rfl (fun K hK => ?_) AllReadyH.nil
              go_simp
              refine (ls_wnum0 TF.out HCA.out).mono ?_
              rintro e w10 ⟨g10, cp10, rfl, hcp10, hn10, t10⟩
              rw [← HZ.out] at hn10
              have TG' := Lib.hid t10
              clear t10 hcp10
              refine hK.out _ _ (HS.out _ _ _ TG'.out) (fun hHeld55 => ?_)
              clear hK K hHeld36
              try simp only [Act.put, List.setIfInBounds_toArray, List.set_cons_zero, List.set_cons_succ]
              refine wpAnyH_take (i := 56) (oi := { dst := some 313, op := Op.indexAddr 47 (Operand.tmp 312) (Operand.const (Value.int IntKind.i64 0)), type := 0, pos := "outright.go:247", after := #[{ on := 55, ground := Ground.data }, { on := 46, ground := Ground.guard }], guard := some (46, false) }) (v := ?_) rfl (by kernel_rfl) (by kernel_rfl) (by kernel_rfl) (fun _ _ _ h => h) (Or.inl ⟨by rfl, ?_⟩) (by assumption) ?_
              rotate_left
              · (intro w9 hSw; obtain ⟨s1, s2, s3, s4, s5⟩ := hSw; (try dsimp only at hSw); go_simp; try with_reducible rfl)
              try simp only [Act.put, List.setIfInBounds_toArray, List.set_cons_zero, List.set_cons_succ]
              refine wpAnyH_ready (rs := [57]) (by kernel_rfl) (by simp) ?_
              refine AllReadyH.cons (o := { dst := some 314, op := Op.load 3 (Operand.tmp 313), type := 3, pos := "outright.go:247", after := #[{ on := 56, ground := Ground.data }, { on := 46, ground := Ground.guard }], guard := some (46, false) }) rfl (fun K hK => ?_) AllReadyH.nil
              go_simp
              refine hK.out _ _ (HS.out _ _ _ TG'.out) (fun hHeld57 => ?_)
              clear hK K hHeld55
              try simp only [Act.put, List.setIfInBounds_toArray, List.set_cons_zero, List.set_cons_succ]
              refine wpAnyH_take (i := 65) (oi := { dst := some 322, op := Op.binOp BinOp.neq 3 (Operand.tmp 314) (Operand.tmp 321) 3, type := 4, pos := "outright.go:247", after := #[{ on := 57, ground := Ground.data }, { on := 64, ground := Ground.data }, { on := 46, ground := Ground.guard }], guard := some (46, false) }) (v := ?_) rfl (by kernel_rfl) (by kernel_rfl) (by kernel_rfl) (fun _ _ _ h => h) (Or.inl ⟨by rfl, ?_⟩) (by assumption) ?_
              rotate_left
              · (intro w9 hSw; obtain ⟨s1, s2, s3, s4, s5⟩ := hSw; (try dsimp only at hSw); go_simp; try with_reducible rfl)
              try simp only [Act.put, List.setIfInBounds_toArray, List.set_cons_zero, List.set_cons_succ]
              refine wpAnyH_take (i := 66) (oi := { dst := some 323, op := Op.pick (Operand.tmp 303) (Operand.const (Value.bool true)) (Operand.tmp 322), type := 4, pos := "outright.go:247", after := #[{ on := 46, ground := Ground.data }, { on := 65, ground := Ground.data }], guard := none }) (v := ?_) rfl (by kernel_rfl) (by kernel_rfl) (by kernel_rfl) (fun _ _ _ h => h) (Or.inl ⟨by rfl, ?_⟩) (by assumption) ?_
              rotate_left
              · (intro w9 hSw; obtain ⟨s1, s2, s3, s4, s5⟩ := hSw; (try dsimp only at hSw); go_simp; try with_reducible rfl)
              try simp only [Act.put, List.setIfInBounds_toArray, List.set_cons_zero, List.set_cons_succ]
              refine wpAnyH_done (by kernel_rfl) ?_ _
              go_wp2_with fail
              go_roundg (6 - (i + 1))
              case measure => have := HI6.out; have := HQQ.out; omega
              case rel => exact ⟨i + 1, by go_num, by have := HI6.out; omega, by omega, Lib.hid (TG'.out.mono (by omega))⟩
            · have hie : i = 6 := by omega
              subst hie
              clear hi hq hi6
              have HOL := Lib.hid T8.out.old
              have HST := Lib.hid (show ∀ W, Keeps [] x.W0 W → Calls Tryd.prog 30 #[] W fun e w' => e = .returned (.bool true) ∧ Keeps [] W w' from fun W hk => started_calls (by have := HXO.out.w3; have := hk.size; omega) (HXO.out.tab.keeps hk (by simp)) (HXO.out.sha.keeps hk (by simp)) (HXO.out.half.keeps hk (by simp)))
              go_wp2_with (go_at_call 30; refine (HST.out _ HOL.out).mono ?_; rintro e w9 ⟨rfl, k9⟩; have HOM := Lib.hid (HOL.out.trans' k9))
              go_ret
              exact ⟨rfl, by rw [← HW0.out]; exact HOM.out⟩
end Go.Proofs.YtgcpcgcfpjolnaaDoor.G
