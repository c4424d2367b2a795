-- Printed by wip/graft.py out of the translation, over the kit's print; contracts that it lacks are given by hand.
import Derived.Test.YtnmmapjcphefpaaGx0
import Derived.Test.YtnmmapjcphefpaaGx8
import Derived.Test.YtnmmapjcphefpaaBuilder
namespace Go.Proofs.Ytnmmapjcphefpaa.G
open Go.RowKit Go.Proofs.YtnmmapjcphefpaaW.PrintWords Go.Proofs.YtnmmapjcphefpaaW.PrintLast Go.Proofs.YtnmmapjcphefpaaW.PrintMore
attribute [local go_sem] max2_int min2_int max_two min_two max_three min_three max_four min_four   -- for this text's walks alone
set_option linter.unusedVariables false
set_option linter.unusedSimpArgs false

/-- GRAFT token_Print: function 21, by hand. -/
theorem graft_token_Print : True := trivial
def token_Print.l0 (kk : Nat) (l : List S27) : Nat → Int → Option Bool
  | 0, _ => none
  | k + 1, i => if i < (l.length : Int) then (if 0 ≤ i then (if (rd_T27 l i).f0 < 1 then (some false) else (if 7 < (rd_T27 l i).f0 then (some false) else (if (rd_T27 l i).f0 = 1 then ((token_wordy.f kk (rd_T27 l i).f1).bind fun t => (if t = true then (token_Print.l0 kk l k (wrap64 (i + 1))) else (some false))) else (token_Print.l0 kk l k (wrap64 (i + 1)))))) else none) else (some true)
/-- does a blank stand ahead of token i? -/
def token_Print.bl (l : List S27) (i : Int) : Option Bool :=
  if 0 < i then ((token_tight.f (rd_T27 l (i - 1)).f0).bind fun t => (if t = true then (some false) else ((token_tight.f (rd_T27 l i).f0).bind fun u => (some (!u))))) else (some false)
def token_Print.l1 (kk : Nat) (l : List S27) : Nat → Int → List UInt8 → Option (ByteArray × Int)
  | 0, _, _ => none
  | k + 1, i, acc => if i < (l.length : Int) then (if 0 ≤ i then ((token_Print.bl l i).bind fun b => ((token_shown.f kk (rd_T27 l i).f0 (rd_T27 l i).f1 (rd_T27 l i).f2 (rd_T27 l i).f3).bind fun s => (if s.size ≤ 100000000000 then (if 65536 < ((acc ++ (if b = true then [32] else []) ++ s.data.toList).length : Int) then (some (⟨#[]⟩, 2)) else (token_Print.l1 kk l k (wrap64 (i + 1)) (acc ++ (if b = true then [32] else []) ++ s.data.toList))) else none))) else none) else (some (⟨acc.toArray⟩, 0))
def token_Print.f (k : Nat) (l0 : List S27) : Option (ByteArray × Int) :=
  (token_Print.l0 k l0 k 0).bind fun ok => (if ok = true then (if 0 < (l0.length : Int) then (if (rd_T27 l0 ((l0.length : Int) - 1)).f0 = 7 then (token_Print.l1 k l0 k 0 []) else (some (⟨#[]⟩, 1))) else (token_Print.l1 k l0 k 0 [])) else (some (⟨#[]⟩, 1)))
theorem print_mono0 (l : List S27) : ∀ kk kk' k i, kk ≤ kk' → LeO (token_Print.l0 kk l k i) (token_Print.l0 kk' l (k + 1) i) := by
  intro kk kk' k
  induction k with
  | zero => intro i _ r h; simp [token_Print.l0] at h
  | succ k ih =>
    intro i hk
    rw [token_Print.l0, token_Print.l0]
    have hw : ∀ s, LeO (token_wordy.f kk s) (token_wordy.f kk' s) := fun s => by
      obtain ⟨d, rfl⟩ := Nat.exists_eq_add_of_le hk
      clear hk ih
      induction d with
      | zero => exact LeO.refl _
      | succ d ihd => exact ihd.trans (token_wordy.mono _ _)
    repeat' first | exact ih _ hk | exact hw _ | exact LeO.refl _ | refine LeO.ite ?_ ?_ | refine LeO.bind ?_ (fun _ => ?_)
theorem print_mono1 (l : List S27) : ∀ kk kk' k i acc, kk ≤ kk' → LeO (token_Print.l1 kk l k i acc) (token_Print.l1 kk' l (k + 1) i acc) := by
  intro kk kk' k
  induction k with
  | zero => intro i acc _ r h; simp [token_Print.l1] at h
  | succ k ih =>
    intro i acc hk
    rw [token_Print.l1, token_Print.l1]
    have hw : ∀ a b c d, LeO (token_shown.f kk a b c d) (token_shown.f kk' a b c d) := fun a b c d => by
      obtain ⟨n, rfl⟩ := Nat.exists_eq_add_of_le hk
      clear hk ih
      induction n with
      | zero => exact LeO.refl _
      | succ n ihd => exact ihd.trans (token_shown.mono _ _ _ _ _)
    repeat' first | exact ih _ _ hk | exact hw _ _ _ _ | exact LeO.refl _ | refine LeO.ite ?_ ?_ | refine LeO.bind ?_ (fun _ => ?_)
theorem token_Print.mono : ∀ a0 k, LeO (token_Print.f k a0) (token_Print.f (k + 1) a0) := by
  intro a0 k
  unfold token_Print.f
  refine LeO.bind (print_mono0 _ _ _ _ _ (Nat.le_succ k)) (fun _ => ?_)
  repeat' first | exact print_mono1 _ _ _ _ _ _ (Nat.le_succ k) | exact LeO.refl _ | refine LeO.ite ?_ ?_
theorem byteCells_snoc (l : List UInt8) (c : UInt8) : Lib.byteCells (l ++ [c]) = Lib.byteCells l ++ [.int .u8 c.toNat] := by simp [Lib.byteCells]
theorem byteCells_str (l : List UInt8) (s : ByteArray) : Lib.byteCells (l ++ s.data.toList) = Lib.byteCells l ++ Lib.strCells s := by simp [Lib.byteCells, Lib.strCells]
theorem tight_some (c : Int) : ∃ x, token_tight.f c = some x := by
  unfold token_tight.f
  repeat' split
  all_goals exact ⟨_, rfl⟩
def HasP (B : Nat) (w : World) (L : List Thing) (wr : World) : Prop := Has B wr L ∧ Below B w wr
theorem hp_dr {B : Nat} {w wr : World} {L : List Thing} {n : Nat} (h : HasP B w L wr) : HasP B w L (wr.drewN n) := ⟨h.1.keeps0 ((Keeps.refl [] wr).drewN n), h.2.trans (keeps_below ((Keeps.refl [] wr).drewN n) (by simp) h.1.le)⟩
theorem hp_new {B : Nat} {w wr w1 : World} {L : List Thing} (h : HasP B w L wr) (hb : Below wr.heap.size wr w1) : HasP B w L w1 := ⟨h.1.keeps0 (Keeps.of_below hb), h.2.trans (hb.mono h.1.le)⟩
theorem perm3 {α : Type} (c a b : α) : [c, a, b].Perm [a, b, c] := (List.Perm.swap _ _ _).trans (List.Perm.cons _ (List.Perm.swap _ _ _))
theorem below_dn {B : Nat} {w wr : World} {n : Nat} (h : Below B w wr) : Below B w (wr.drewN n) := ⟨h.os, h.tape, h.output, h.size, h.block⟩
def PrPost (r1 : ByteArray) (r2 : Int) (w : World) (e : Ending) (w' : World) : Prop := e = .returned (.tuple #[.string r1, .int .i64 r2]) ∧ Below w.heap.size w w'
set_option maxHeartbeats 32000000 in
set_option maxRecDepth 100000 in
theorem print_calls (k : Nat) (A0 : Option Addr) (c0 : Nat) (l0 : List S27) (r1 : ByteArray) (r2 : Int) (w : World) (hr0 : Kd.C k27 w A0 l0.length l0) (hc0 : l0.length ≤ c0) (h : token_Print.f k l0 = some (r1, r2)) :
    Calls Try.prog 21 #[.slice A0 l0.length c0] w (PrPost r1 r2 w) := by
  unfold token_Print.f at h
  cases ho : token_Print.l0 k l0 k 0 with
  | none => rw [ho] at h; cases h
  | some ok =>
    rw [ho] at h
    simp only [Option.bind_some] at h
    have HO := Lib.hid ho
    have HK := Lib.hid h
    have HR := Lib.hid hr0
    have HN := Lib.hid hr0.2.1
    have HB0 := Lib.hid (Below.refl w.heap.size w)
    clear ho h hr0 hc0
    go_enter Try.func21, Try.ntmps21
    go_wp2_with fail
    go_loopg [11] k (fun q s11 wr => ∃ i : Int, s11 = .int .i64 i ∧ Hid (token_Print.l0 k l0 q i = some ok) ∧ Hid (Below w.heap.size w wr))
    case atStart => exact ⟨0, rfl, HO, HB0⟩
    case round =>
      clear HO HB0
      obtain ⟨x, rfl, HA, HB⟩ := hrel
      cases gk with
      | zero => exact absurd HA.out (by simp [token_Print.l0])
      | succ k1 =>
        have hA := HA.out
        clear HA
        simp only [token_Print.l0] at hA
        by_cases c5 : x < (l0.length : Int)
        · rw [if_pos c5] at hA
          by_cases c6 : 0 ≤ x
          · rw [if_pos c6] at hA
            have hRW := Kd.C_below HR.out HB.out
            obtain ⟨ad, e9, hx0, hx1, hx2, hx3⟩ := at_T27 hRW x c6 c5
            cases e9
            have c5b0 : decide (x < (l0.length : Int)) = true := decide_eq_true c5
            have c6b0 : decide (0 ≤ x) = true := decide_eq_true c6
            have p6 := eq_true c6
            have q6 := eq_true c5
            have hHP := Lib.hid (HB.out.trans ((Below.refl wr.heap.size wr).alloc (Nat.le_refl _) (.cells #[.int .i64 (rd_T27 l0 x).f0, .string (rd_T27 l0 x).f1, .int .i64 (rd_T27 l0 x).f2, .int .i64 (rd_T27 l0 x).f3] 27) |>.mono HB.out.size))
            clear c5 c6 hRW
            generalize rd_T27 l0 x = t at *
            obtain ⟨t0, t1, t2, t3⟩ := t
            simp only at *
            by_cases d1 : t0 < 1
            · rw [if_pos d1] at hA
              have d1b : decide (t0 < 1) = true := decide_eq_true d1
              simp only [Option.some.injEq] at hA
              subst hA
              have hK := HK.out
              rw [if_neg (by simp)] at hK
              simp only [Option.some.injEq, Prod.mk.injEq] at hK
              obtain ⟨rfl, rfl⟩ := hK
              clear HK
              have HP := Lib.hid (show ∀ n, PrPost ⟨#[]⟩ 1 w (.returned (.tuple #[.string ⟨#[]⟩, .int .i64 1])) ((wr.alloc (.cells #[.int .i64 t0, .string t1, .int .i64 t2, .int .i64 t3] 27)).drewN n) from fun n => ⟨rfl, below_dn hHP.out⟩)
              clear d1
              go_wp2
              go_ret2
              exact HP.out 0
            · rw [if_neg d1] at hA
              have d1b : decide (t0 < 1) = false := decide_eq_false d1
              by_cases d2 : 7 < t0
              · rw [if_pos d2] at hA
                have d2b : decide (7 < t0) = true := decide_eq_true d2
                simp only [Option.some.injEq] at hA
                subst hA
                have hK := HK.out
                rw [if_neg (by simp)] at hK
                simp only [Option.some.injEq, Prod.mk.injEq] at hK
                obtain ⟨rfl, rfl⟩ := hK
                clear HK
                have HP := Lib.hid (show ∀ n, PrPost ⟨#[]⟩ 1 w (.returned (.tuple #[.string ⟨#[]⟩, .int .i64 1])) ((wr.alloc (.cells #[.int .i64 t0, .string t1, .int .i64 t2, .int .i64 t3] 27)).drewN n) from fun n => ⟨rfl, below_dn hHP.out⟩)
                clear d1 d2
                go_wp2
                go_ret2
                exact HP.out 0
              · rw [if_neg d2] at hA
                have d2b : decide (7 < t0) = false := decide_eq_false d2
                by_cases d3 : t0 = 1
                · rw [if_pos d3] at hA
                  have d3b : (t0 == 1) = true := by simpa using d3
                  clear d1 d2 d3
                  cases he : token_wordy.f k t1 with
                  | none => rw [he] at hA; cases hA
                  | some y =>
                    rw [he] at hA
                    simp only [Option.bind_some] at hA
                    have HE := Lib.hid he
                    have HA := Lib.hid hA
                    clear he hA
                    go_wp2_with fail
                    refine (token_wordy.calls k t1 y _ HE.out).mono ?_
                    rintro e w4 ⟨rfl, ⟨⟨m4, rfl⟩⟩⟩
                    have hA := HA.out
                    clear HA
                    cases y with
                    | true =>
                      rw [if_pos rfl] at hA
                      have HA := Lib.hid hA
                      clear hA
                      go_wp2
                      go_roundg k1
                      case measure => omega
                      case rel => exact ⟨_, rfl, HA, Lib.hid (below_dn hHP.out)⟩
                    | false =>
                      rw [if_neg (by simp)] at hA
                      simp only [Option.some.injEq] at hA
                      subst hA
                      have hK := HK.out
                      rw [if_neg (by simp)] at hK
                      simp only [Option.some.injEq, Prod.mk.injEq] at hK
                      obtain ⟨rfl, rfl⟩ := hK
                      clear HK
                      have HP := Lib.hid (show ∀ n, PrPost ⟨#[]⟩ 1 w (.returned (.tuple #[.string ⟨#[]⟩, .int .i64 1])) ((wr.alloc (.cells #[.int .i64 t0, .string t1, .int .i64 t2, .int .i64 t3] 27)).drewN n) from fun n => ⟨rfl, below_dn hHP.out⟩)
                      go_wp2
                      go_ret2
                      exact HP.out _
                · rw [if_neg d3] at hA
                  have d3b : (t0 == 1) = false := by simpa using d3
                  have HA := Lib.hid hA
                  clear d1 d2 d3 hA
                  go_wp2
                  go_roundg k1
                  case measure => omega
                  case rel => exact ⟨_, rfl, HA, Lib.hid hHP.out⟩
          · rw [if_neg c6] at hA
            cases hA
        · rw [if_neg c5] at hA
          have c5b0 : decide (x < (l0.length : Int)) = false := decide_eq_false c5
          clear c5
          simp only [Option.some.injEq] at hA
          subst hA
          have hK := HK.out
          rw [if_pos rfl] at hK
          clear HK
          by_cases c7 : 0 < (l0.length : Int)
          · rw [if_pos c7] at hK
            have hRW := Kd.C_below HR.out HB.out
            obtain ⟨ad, e9, hx0, hx1, hx2, hx3⟩ := at_T27 hRW ((l0.length : Int) - 1) (by omega) (by omega)
            cases e9
            have c7b0 : decide (0 < (l0.length : Int)) = true := decide_eq_true c7
            have c7b1 : decide (0 < l0.length) = true := decide_eq_true (by omega)
            have e1 : wrap64 ((l0.length : Int) - 1) = (l0.length : Int) - 1 := by have := HN.out; unfold wrap64; omega
            have p7 : (0 ≤ (l0.length : Int) - 1) = True := eq_true (by omega)
            have p8 : (1 ≤ (l0.length : Int)) = True := eq_true (by omega)
            have p9 : ((l0.length : Int) < 1) = False := eq_false (by omega)
            have q7 : ((l0.length : Int) - 1 < (l0.length : Int)) = True := eq_true (by omega)
            rw [show ((l0.length : Int) - 1).toNat = l0.length - 1 by omega] at hx0
            clear hx1 hx2 hx3 hRW c7
            by_cases c8 : (rd_T27 l0 ((l0.length : Int) - 1)).f0 = 7
            · rw [if_pos c8] at hK
              have c8b : ((rd_T27 l0 ((l0.length : Int) - 1)).f0 == 7) = true := by simpa using c8
              have c8c : ((rd_T27 l0 ((l0.length : Int) - 1)).f0 != 7) = false := by simpa using c8
              have HBX := HB
              clear c8
              go_wp2_with fail
              clear c8b c8c e1 p7 p8 p9 q7 hx0 c7b0 c7b1
              obtain ⟨HI0, hBI0⟩ := (Has.nil w.heap.size wr HBX.out.size).cons (t' := bdT wr.heap.size (.pointer none) (.slice none 0 0)) ((Keeps.refl [] _).alloc (.cells #[.pointer none, .slice none 0 0] 56)) (StrAt.new _ _ _) (strT_nodup ..) (fun k hk => by simp [bdT, strT] at hk; omega)
              obtain ⟨HI1, hBI1⟩ := HI0.cons (t' := bbT (.slice none 0 0) []) (Keeps.refl _ _) (World.ownsRow_nil _ _ _ _) (rowT_nodup ..) (fun k hk => by simp [bbT, rowT, Value.ownBlock] at hk)
              have HBw := Lib.hid (show HasP w.heap.size w [bdT wr.heap.size (.pointer none) (.slice none 0 0), bbT (.slice none 0 0) (Lib.byteCells [])] (wr.alloc (.cells #[.pointer none, .slice none 0 0] 56)) from ⟨HI1.perm (List.Perm.swap _ _ _), HBX.out.trans hBI0⟩)
              have HK := Lib.hid hK
              clear hK HI0 HI1 hBI0 hBI1
              generalize wr.heap.size = b at *
              go_loopg [50] k (fun q s50 wr => ∃ (i : Int) (acc : List UInt8) (p v : Value), s50 = .int .i64 i ∧ Hid (acc.length ≤ 65536) ∧ Hid (token_Print.l1 k l0 q i acc = some (r1, r2)) ∧ Hid (IsB b p) ∧ Hid (HasP w.heap.size w [bdT b p v, bbT v (Lib.byteCells acc)] wr))
              case atStart => exact ⟨0, [], _, _, rfl, Lib.hid (by simp), HK, Lib.hid (.inl rfl), HBw⟩
              case round =>
                clear HK HBw
                obtain ⟨x, acc, p, v, rfl, HC, HA, HI, HB⟩ := hrel
                cases gk with
                | zero => exact absurd HA.out (by simp [token_Print.l1])
                | succ k1 =>
                  have hA := HA.out
                  clear HA
                  simp only [token_Print.l1] at hA
                  by_cases c5 : x < (l0.length : Int)
                  · rw [if_pos c5] at hA
                    by_cases c6 : 0 ≤ x
                    · rw [if_pos c6] at hA
                      cases hbl : token_Print.bl l0 x with
                      | none => rw [hbl] at hA; cases hA
                      | some bl =>
                        rw [hbl] at hA
                        simp only [Option.bind_some] at hA
                        cases hsh : token_shown.f k (rd_T27 l0 x).f0 (rd_T27 l0 x).f1 (rd_T27 l0 x).f2 (rd_T27 l0 x).f3 with
                        | none => rw [hsh] at hA; cases hA
                        | some s =>
                          rw [hsh] at hA
                          simp only [Option.bind_some] at hA
                          by_cases c7 : s.size ≤ 100000000000
                          · rw [if_pos c7] at hA
                            have C7 := Lib.hid c7
                            have HA := Lib.hid hA
                            have HBL := Lib.hid hbl
                            have HSH := Lib.hid hsh
                            have hRW := Kd.C_below HR.out HB.out.2
                            obtain ⟨ad, e9, hx0, hx1, hx2, hx3⟩ := at_T27 hRW x c6 c5
                            cases e9
                            have C5 := Lib.hid c5
                            have HRW := Lib.hid hRW
                            have c5b0 : decide (x < (l0.length : Int)) = true := decide_eq_true c5
                            have c6b0 : decide (0 ≤ x) = true := decide_eq_true c6
                            have p6 := eq_true c6
                            have q6 := eq_true c5
                            clear hA hbl hsh c7 c5 hRW
                            generalize ht : rd_T27 l0 x = t at hx0 hx1 hx2 hx3
                            have HT := Lib.hid ht
                            clear ht
                            obtain ⟨t0, t1, t2, t3⟩ := t
                            simp only at hx0 hx1 hx2 hx3
                            rw [HT.out] at HSH
                            obtain ⟨HJ, hBJ⟩ := HB.out.1.cons (t' := strT wr.heap.size #[.int .i64 t0, .string t1, .int .i64 t2, .int .i64 t3] 27) ((Keeps.refl [] _).alloc (.cells #[.int .i64 t0, .string t1, .int .i64 t2, .int .i64 t3] 27)) (StrAt.new _ _ _) (strT_nodup ..) (fun k hk => by simp [strT] at hk; omega)
                            have HX := Lib.hid (show HasP w.heap.size w [bdT b p v, bbT v (Lib.byteCells acc), strT wr.heap.size #[.int .i64 t0, .string t1, .int .i64 t2, .int .i64 t3] 27] (wr.alloc (.cells #[.int .i64 t0, .string t1, .int .i64 t2, .int .i64 t3] 27)) from ⟨HJ.perm (perm3 _ _ _), HB.out.2.trans hBJ⟩)
                            clear HJ hBJ
                            by_cases c8 : 0 < x
                            · have c8b : decide (0 < x) = true := decide_eq_true c8
                              have e1 : wrap64 (x - 1) = x - 1 := by have := HN.out; have := C5.out; unfold wrap64; omega
                              obtain ⟨ad2, e9, hy0, hy1, hy2, hy3⟩ := at_T27 (Kd.C_below HRW.out ((Below.refl _ _).alloc (Nat.le_refl _) (.cells #[.int .i64 t0, .string t1, .int .i64 t2, .int .i64 t3] 27))) (x - 1) (by omega) (by have := C5.out; omega)
                              cases e9
                              have p7 : (0 ≤ x - 1) = True := eq_true (by omega)
                              rw [show (x - 1).toNat = x.toNat - 1 by omega] at hy0
                              have p8 : (1 ≤ x) = True := eq_true (by omega)
                              have q7 : (x - 1 < (l0.length : Int)) = True := eq_true (by have := C5.out; omega)
                              clear hy1 hy2 hy3 c6
                              have hbl := HBL.out
                              unfold token_Print.bl at hbl
                              rw [if_pos c8] at hbl
                              obtain ⟨y1, hy1⟩ := tight_some (rd_T27 l0 (x - 1)).f0
                              rw [hy1] at hbl
                              simp only [Option.bind_some] at hbl
                              have HY1 := Lib.hid hy1
                              have HBL := Lib.hid hbl
                              clear hbl hy1 c8
                              go_wp2_with fail
                              refine (token_tight.calls _ y1 _ HY1.out).mono ?_
                              rintro e w4 ⟨rfl, ⟨⟨m4, rfl⟩⟩⟩
                              have hbl := HBL.out
                              clear HBL
                              cases y1 with
                              | true =>
                                rw [if_pos rfl] at hbl
                                simp only [Option.some.injEq] at hbl
                                subst hbl
                                have hA := HA.out
                                rw [show (if (false : Bool) = true then [(32 : UInt8)] else []) = [] from rfl, List.append_nil] at hA
                                have HA := Lib.hid hA
                                have HIY := HI
                                clear hA
                                go_wp2_with fail
                                refine (token_shown.calls k t0 t1 t2 t3 s _ HSH.out).mono ?_
                                rintro e w7 ⟨rfl, hb7⟩
                                have HZ := Lib.hid (show HasP w.heap.size w [bdT b p v, bbT v (Lib.byteCells acc), strT wr.heap.size #[.int .i64 t0, .string t1, .int .i64 t2, .int .i64 t3] 27] w7 from by first | exact hp_new HX.out hb7 | exact hp_new (hp_dr HX.out) hb7 | exact hp_new (hp_dr (hp_dr HX.out)) hb7)
                                clear hb7
                                go_wp2_with fail
                                refine (writeString_calls HZ.out.1 HIY.out s (by rw [Lib.byteCells_length]; have := HC.out; have := C7.out; simp; omega)).mono ?_
                                rintro e w8 ⟨rfl, v8, H8, hb8⟩
                                rw [← byteCells_str] at H8
                                have HV := Lib.hid (show HasP w.heap.size w [bdT b (.pointer (some ⟨b, 0, none⟩)) v8, bbT v8 (Lib.byteCells (acc ++ s.data.toList))] w8 from ⟨(H8.perm (perm3 _ _ _).symm).tail, HZ.out.2.trans hb8⟩)
                                clear H8 hb8
                                go_wp2_with fail
                                refine (Try.Builder_Len w.heap.size b _ w8 (has_builder HV.out.1 (.inr rfl))).mono ?_
                                rw [Lib.byteCells_length]
                                rintro e w9 ⟨rfl, rfl⟩
                                have hA : (if 65536 < (((acc ++ s.data.toList)).length : Int) then (some ((⟨#[]⟩ : ByteArray), (2 : Int))) else (token_Print.l1 k l0 k1 (wrap64 (x + 1)) (acc ++ s.data.toList))) = some (r1, r2) := HA.out
                                clear HA
                                generalize hACC : (acc ++ s.data.toList) = acc9 at *
                                by_cases c9 : 65536 < (acc9.length : Int)
                                · rw [if_pos c9] at hA
                                  simp only [Option.some.injEq, Prod.mk.injEq] at hA
                                  obtain ⟨rfl, rfl⟩ := hA
                                  have c9b : decide (65536 < (acc9.length : Int)) = true := decide_eq_true c9
                                  have c9c : decide (65536 < acc9.length) = true := decide_eq_true (by omega)
                                  have HP := Lib.hid (show PrPost ⟨#[]⟩ 2 w (.returned (.tuple #[.string ⟨#[]⟩, .int .i64 2])) w9 from ⟨rfl, HV.out.2⟩)
                                  clear c9 hACC
                                  go_wp2
                                  go_ret2
                                  exact HP.out
                                · rw [if_neg c9] at hA
                                  have c9b : decide (65536 < (acc9.length : Int)) = false := decide_eq_false c9
                                  have c9c : decide (65536 < acc9.length) = false := decide_eq_false (by omega)
                                  have HA := Lib.hid hA
                                  have HL9 := Lib.hid (show acc9.length ≤ 65536 by omega)
                                  clear c9 hA hACC
                                  go_wp2
                                  go_roundg k1
                                  case measure => omega
                                  case rel => exact ⟨_, _, _, _, rfl, HL9, HA, Lib.hid (.inr rfl), HV⟩
                              | false =>
                                rw [if_neg (by simp)] at hbl
                                rw [HT.out] at hbl
                                obtain ⟨y2, hy2⟩ := tight_some t0
                                rw [hy2] at hbl
                                simp only [Option.bind_some, Option.some.injEq] at hbl
                                have HY2 := Lib.hid hy2
                                clear hy2
                                go_wp2_with fail
                                refine (token_tight.calls _ y2 _ HY2.out).mono ?_
                                rintro e w5 ⟨rfl, ⟨⟨m5, rfl⟩⟩⟩
                                cases y2 with
                                | true =>
                                  simp only [Bool.not_true] at hbl
                                  subst hbl
                                  have hA := HA.out
                                  rw [show (if (false : Bool) = true then [(32 : UInt8)] else []) = [] from rfl, List.append_nil] at hA
                                  have HA := Lib.hid hA
                                  have HIY := HI
                                  clear hA
                                  go_wp2_with fail
                                  refine (token_shown.calls k t0 t1 t2 t3 s _ HSH.out).mono ?_
                                  rintro e w7 ⟨rfl, hb7⟩
                                  have HZ := Lib.hid (show HasP w.heap.size w [bdT b p v, bbT v (Lib.byteCells acc), strT wr.heap.size #[.int .i64 t0, .string t1, .int .i64 t2, .int .i64 t3] 27] w7 from by first | exact hp_new HX.out hb7 | exact hp_new (hp_dr HX.out) hb7 | exact hp_new (hp_dr (hp_dr HX.out)) hb7)
                                  clear hb7
                                  go_wp2_with fail
                                  refine (writeString_calls HZ.out.1 HIY.out s (by rw [Lib.byteCells_length]; have := HC.out; have := C7.out; simp; omega)).mono ?_
                                  rintro e w8 ⟨rfl, v8, H8, hb8⟩
                                  rw [← byteCells_str] at H8
                                  have HV := Lib.hid (show HasP w.heap.size w [bdT b (.pointer (some ⟨b, 0, none⟩)) v8, bbT v8 (Lib.byteCells (acc ++ s.data.toList))] w8 from ⟨(H8.perm (perm3 _ _ _).symm).tail, HZ.out.2.trans hb8⟩)
                                  clear H8 hb8
                                  go_wp2_with fail
                                  refine (Try.Builder_Len w.heap.size b _ w8 (has_builder HV.out.1 (.inr rfl))).mono ?_
                                  rw [Lib.byteCells_length]
                                  rintro e w9 ⟨rfl, rfl⟩
                                  have hA : (if 65536 < (((acc ++ s.data.toList)).length : Int) then (some ((⟨#[]⟩ : ByteArray), (2 : Int))) else (token_Print.l1 k l0 k1 (wrap64 (x + 1)) (acc ++ s.data.toList))) = some (r1, r2) := HA.out
                                  clear HA
                                  generalize hACC : (acc ++ s.data.toList) = acc9 at *
                                  by_cases c9 : 65536 < (acc9.length : Int)
                                  · rw [if_pos c9] at hA
                                    simp only [Option.some.injEq, Prod.mk.injEq] at hA
                                    obtain ⟨rfl, rfl⟩ := hA
                                    have c9b : decide (65536 < (acc9.length : Int)) = true := decide_eq_true c9
                                    have c9c : decide (65536 < acc9.length) = true := decide_eq_true (by omega)
                                    have HP := Lib.hid (show PrPost ⟨#[]⟩ 2 w (.returned (.tuple #[.string ⟨#[]⟩, .int .i64 2])) w9 from ⟨rfl, HV.out.2⟩)
                                    clear c9 hACC
                                    go_wp2
                                    go_ret2
                                    exact HP.out
                                  · rw [if_neg c9] at hA
                                    have c9b : decide (65536 < (acc9.length : Int)) = false := decide_eq_false c9
                                    have c9c : decide (65536 < acc9.length) = false := decide_eq_false (by omega)
                                    have HA := Lib.hid hA
                                    have HL9 := Lib.hid (show acc9.length ≤ 65536 by omega)
                                    clear c9 hA hACC
                                    go_wp2
                                    go_roundg k1
                                    case measure => omega
                                    case rel => exact ⟨_, _, _, _, rfl, HL9, HA, Lib.hid (.inr rfl), HV⟩
                                | false =>
                                  simp only [Bool.not_false] at hbl
                                  subst hbl
                                  go_wp2_with fail
                                  refine (writeByte_calls (B := w.heap.size) (p := p) (v := v) (bs := Lib.byteCells acc) (L := [strT wr.heap.size #[.int .i64 t0, .string t1, .int .i64 t2, .int .i64 t3] 27]) (by first | exact (hp_dr HX.out).1 | exact (hp_dr (hp_dr HX.out)).1) HI.out 32 (by rw [Lib.byteCells_length]; have := HC.out; omega)).mono ?_
                                  rintro e w6 ⟨rfl, v6, H6, hb6⟩
                                  have HY := Lib.hid (show HasP w.heap.size w [bdT b (.pointer (some ⟨b, 0, none⟩)) v6, bbT v6 (Lib.byteCells (acc ++ [32])), strT wr.heap.size #[.int .i64 t0, .string t1, .int .i64 t2, .int .i64 t3] 27] w6 from ⟨by rw [byteCells_snoc]; exact H6, by first | exact (hp_dr HX.out).2.trans hb6 | exact (hp_dr (hp_dr HX.out)).2.trans hb6⟩)
                                  have z0 := (StrAt.cell (H6.get 2 rfl) 0).trans (show _ = some (.int .i64 t0) from rfl)
                                  have z1 := (StrAt.cell (H6.get 2 rfl) 1).trans (show _ = some (.string t1) from rfl)
                                  have z2 := (StrAt.cell (H6.get 2 rfl) 2).trans (show _ = some (.int .i64 t2) from rfl)
                                  have z3 := (StrAt.cell (H6.get 2 rfl) 3).trans (show _ = some (.int .i64 t3) from rfl)
                                  have HIY := Lib.hid (show IsB b (.pointer (some ⟨b, 0, none⟩)) from .inr rfl)
                                  clear H6 hb6
                                  go_wp2_with fail
                                  refine (token_shown.calls k t0 t1 t2 t3 s _ HSH.out).mono ?_
                                  rintro e w7 ⟨rfl, hb7⟩
                                  have HZ := Lib.hid (show HasP w.heap.size w [bdT b (.pointer (some ⟨b, 0, none⟩)) v6, bbT v6 (Lib.byteCells (acc ++ [32])), strT wr.heap.size #[.int .i64 t0, .string t1, .int .i64 t2, .int .i64 t3] 27] w7 from hp_new HY.out hb7)
                                  clear hb7
                                  go_wp2_with fail
                                  refine (writeString_calls HZ.out.1 HIY.out s (by rw [Lib.byteCells_length]; have := HC.out; have := C7.out; simp; omega)).mono ?_
                                  rintro e w8 ⟨rfl, v8, H8, hb8⟩
                                  rw [← byteCells_str] at H8
                                  have HV := Lib.hid (show HasP w.heap.size w [bdT b (.pointer (some ⟨b, 0, none⟩)) v8, bbT v8 (Lib.byteCells (acc ++ [32] ++ s.data.toList))] w8 from ⟨(H8.perm (perm3 _ _ _).symm).tail, HZ.out.2.trans hb8⟩)
                                  clear H8 hb8
                                  go_wp2_with fail
                                  refine (Try.Builder_Len w.heap.size b _ w8 (has_builder HV.out.1 (.inr rfl))).mono ?_
                                  rw [Lib.byteCells_length]
                                  rintro e w9 ⟨rfl, rfl⟩
                                  have hA : (if 65536 < (((acc ++ [32] ++ s.data.toList)).length : Int) then (some ((⟨#[]⟩ : ByteArray), (2 : Int))) else (token_Print.l1 k l0 k1 (wrap64 (x + 1)) (acc ++ [32] ++ s.data.toList))) = some (r1, r2) := HA.out
                                  clear HA
                                  generalize hACC : (acc ++ [32] ++ s.data.toList) = acc9 at *
                                  by_cases c9 : 65536 < (acc9.length : Int)
                                  · rw [if_pos c9] at hA
                                    simp only [Option.some.injEq, Prod.mk.injEq] at hA
                                    obtain ⟨rfl, rfl⟩ := hA
                                    have c9b : decide (65536 < (acc9.length : Int)) = true := decide_eq_true c9
                                    have c9c : decide (65536 < acc9.length) = true := decide_eq_true (by omega)
                                    have HP := Lib.hid (show PrPost ⟨#[]⟩ 2 w (.returned (.tuple #[.string ⟨#[]⟩, .int .i64 2])) w9 from ⟨rfl, HV.out.2⟩)
                                    clear c9 hACC
                                    go_wp2
                                    go_ret2
                                    exact HP.out
                                  · rw [if_neg c9] at hA
                                    have c9b : decide (65536 < (acc9.length : Int)) = false := decide_eq_false c9
                                    have c9c : decide (65536 < acc9.length) = false := decide_eq_false (by omega)
                                    have HA := Lib.hid hA
                                    have HL9 := Lib.hid (show acc9.length ≤ 65536 by omega)
                                    clear c9 hA hACC
                                    go_wp2
                                    go_roundg k1
                                    case measure => omega
                                    case rel => exact ⟨_, _, _, _, rfl, HL9, HA, Lib.hid (.inr rfl), HV⟩
                            · have c8b : decide (0 < x) = false := decide_eq_false c8
                              have hbl := HBL.out
                              unfold token_Print.bl at hbl
                              rw [if_neg c8] at hbl
                              simp only [Option.some.injEq] at hbl
                              subst hbl
                              clear HBL c6 c8
                              have hA := HA.out
                              rw [show (if (false : Bool) = true then [(32 : UInt8)] else []) = [] from rfl, List.append_nil] at hA
                              have HA := Lib.hid hA
                              have HIY := HI
                              clear hA
                              go_wp2_with fail
                              refine (token_shown.calls k t0 t1 t2 t3 s _ HSH.out).mono ?_
                              rintro e w7 ⟨rfl, hb7⟩
                              have HZ := Lib.hid (show HasP w.heap.size w [bdT b p v, bbT v (Lib.byteCells acc), strT wr.heap.size #[.int .i64 t0, .string t1, .int .i64 t2, .int .i64 t3] 27] w7 from by first | exact hp_new HX.out hb7 | exact hp_new (hp_dr HX.out) hb7 | exact hp_new (hp_dr (hp_dr HX.out)) hb7)
                              clear hb7
                              go_wp2_with fail
                              refine (writeString_calls HZ.out.1 HIY.out s (by rw [Lib.byteCells_length]; have := HC.out; have := C7.out; simp; omega)).mono ?_
                              rintro e w8 ⟨rfl, v8, H8, hb8⟩
                              rw [← byteCells_str] at H8
                              have HV := Lib.hid (show HasP w.heap.size w [bdT b (.pointer (some ⟨b, 0, none⟩)) v8, bbT v8 (Lib.byteCells (acc ++ s.data.toList))] w8 from ⟨(H8.perm (perm3 _ _ _).symm).tail, HZ.out.2.trans hb8⟩)
                              clear H8 hb8
                              go_wp2_with fail
                              refine (Try.Builder_Len w.heap.size b _ w8 (has_builder HV.out.1 (.inr rfl))).mono ?_
                              rw [Lib.byteCells_length]
                              rintro e w9 ⟨rfl, rfl⟩
                              have hA : (if 65536 < (((acc ++ s.data.toList)).length : Int) then (some ((⟨#[]⟩ : ByteArray), (2 : Int))) else (token_Print.l1 k l0 k1 (wrap64 (x + 1)) (acc ++ s.data.toList))) = some (r1, r2) := HA.out
                              clear HA
                              generalize hACC : (acc ++ s.data.toList) = acc9 at *
                              by_cases c9 : 65536 < (acc9.length : Int)
                              · rw [if_pos c9] at hA
                                simp only [Option.some.injEq, Prod.mk.injEq] at hA
                                obtain ⟨rfl, rfl⟩ := hA
                                have c9b : decide (65536 < (acc9.length : Int)) = true := decide_eq_true c9
                                have c9c : decide (65536 < acc9.length) = true := decide_eq_true (by omega)
                                have HP := Lib.hid (show PrPost ⟨#[]⟩ 2 w (.returned (.tuple #[.string ⟨#[]⟩, .int .i64 2])) w9 from ⟨rfl, HV.out.2⟩)
                                clear c9 hACC
                                go_wp2
                                go_ret2
                                exact HP.out
                              · rw [if_neg c9] at hA
                                have c9b : decide (65536 < (acc9.length : Int)) = false := decide_eq_false c9
                                have c9c : decide (65536 < acc9.length) = false := decide_eq_false (by omega)
                                have HA := Lib.hid hA
                                have HL9 := Lib.hid (show acc9.length ≤ 65536 by omega)
                                clear c9 hA hACC
                                go_wp2
                                go_roundg k1
                                case measure => omega
                                case rel => exact ⟨_, _, _, _, rfl, HL9, HA, Lib.hid (.inr rfl), HV⟩
                          · rw [if_neg c7] at hA
                            cases hA
                    · rw [if_neg c6] at hA
                      cases hA
                  · rw [if_neg c5] at hA
                    have c5b0 : decide (x < (l0.length : Int)) = false := decide_eq_false c5
                    clear c5
                    simp only [Option.some.injEq, Prod.mk.injEq] at hA
                    obtain ⟨rfl, rfl⟩ := hA
                    go_wp2_with fail
                    refine (Try.Builder_String_any w.heap.size b acc wr (has_builder HB.out.1 HI.out) HB.out.2.size).mono ?_
                    rintro e w5 ⟨rfl, hb5⟩
                    have HP := Lib.hid (show PrPost ⟨acc.toArray⟩ 0 w (.returned (.tuple #[.string ⟨acc.toArray⟩, .int .i64 0])) w5 from ⟨rfl, HB.out.2.trans hb5⟩)
                    clear hb5
                    go_wp2
                    go_ret2
                    exact HP.out
            · rw [if_neg c8] at hK
              have c8b : ((rd_T27 l0 ((l0.length : Int) - 1)).f0 == 7) = false := by simpa using c8
              have c8c : ((rd_T27 l0 ((l0.length : Int) - 1)).f0 != 7) = true := by simpa using c8
              simp only [Option.some.injEq, Prod.mk.injEq] at hK
              obtain ⟨rfl, rfl⟩ := hK
              have HP := Lib.hid (show PrPost ⟨#[]⟩ 1 w (.returned (.tuple #[.string ⟨#[]⟩, .int .i64 1])) wr from ⟨rfl, HB.out⟩)
              clear c8
              go_wp2
              go_ret2
              exact HP.out
          · rw [if_neg c7] at hK
            have c7b0 : decide (0 < (l0.length : Int)) = false := decide_eq_false c7
            have c7b1 : decide (0 < l0.length) = false := decide_eq_false (by omega)
            have HBX := HB
            clear c7
            go_wp2_with fail
            clear c7b0 c7b1
            obtain ⟨HI0, hBI0⟩ := (Has.nil w.heap.size wr HBX.out.size).cons (t' := bdT wr.heap.size (.pointer none) (.slice none 0 0)) ((Keeps.refl [] _).alloc (.cells #[.pointer none, .slice none 0 0] 56)) (StrAt.new _ _ _) (strT_nodup ..) (fun k hk => by simp [bdT, strT] at hk; omega)
            obtain ⟨HI1, hBI1⟩ := HI0.cons (t' := bbT (.slice none 0 0) []) (Keeps.refl _ _) (World.ownsRow_nil _ _ _ _) (rowT_nodup ..) (fun k hk => by simp [bbT, rowT, Value.ownBlock] at hk)
            have HBw := Lib.hid (show HasP w.heap.size w [bdT wr.heap.size (.pointer none) (.slice none 0 0), bbT (.slice none 0 0) (Lib.byteCells [])] (wr.alloc (.cells #[.pointer none, .slice none 0 0] 56)) from ⟨HI1.perm (List.Perm.swap _ _ _), HBX.out.trans hBI0⟩)
            have HK := Lib.hid hK
            clear hK HI0 HI1 hBI0 hBI1
            generalize wr.heap.size = b at *
            go_loopg [50] k (fun q s50 wr => ∃ (i : Int) (acc : List UInt8) (p v : Value), s50 = .int .i64 i ∧ Hid (acc.length ≤ 65536) ∧ Hid (token_Print.l1 k l0 q i acc = some (r1, r2)) ∧ Hid (IsB b p) ∧ Hid (HasP w.heap.size w [bdT b p v, bbT v (Lib.byteCells acc)] wr))
            case atStart => exact ⟨0, [], _, _, rfl, Lib.hid (by simp), HK, Lib.hid (.inl rfl), HBw⟩
            case round =>
              clear HK HBw
              obtain ⟨x, acc, p, v, rfl, HC, HA, HI, HB⟩ := hrel
              cases gk with
              | zero => exact absurd HA.out (by simp [token_Print.l1])
              | succ k1 =>
                have hA := HA.out
                clear HA
                simp only [token_Print.l1] at hA
                by_cases c5 : x < (l0.length : Int)
                · rw [if_pos c5] at hA
                  by_cases c6 : 0 ≤ x
                  · rw [if_pos c6] at hA
                    cases hbl : token_Print.bl l0 x with
                    | none => rw [hbl] at hA; cases hA
                    | some bl =>
                      rw [hbl] at hA
                      simp only [Option.bind_some] at hA
                      cases hsh : token_shown.f k (rd_T27 l0 x).f0 (rd_T27 l0 x).f1 (rd_T27 l0 x).f2 (rd_T27 l0 x).f3 with
                      | none => rw [hsh] at hA; cases hA
                      | some s =>
                        rw [hsh] at hA
                        simp only [Option.bind_some] at hA
                        by_cases c7 : s.size ≤ 100000000000
                        · rw [if_pos c7] at hA
                          have C7 := Lib.hid c7
                          have HA := Lib.hid hA
                          have HBL := Lib.hid hbl
                          have HSH := Lib.hid hsh
                          have hRW := Kd.C_below HR.out HB.out.2
                          obtain ⟨ad, e9, hx0, hx1, hx2, hx3⟩ := at_T27 hRW x c6 c5
                          cases e9
                          have C5 := Lib.hid c5
                          have HRW := Lib.hid hRW
                          have c5b0 : decide (x < (l0.length : Int)) = true := decide_eq_true c5
                          have c6b0 : decide (0 ≤ x) = true := decide_eq_true c6
                          have p6 := eq_true c6
                          have q6 := eq_true c5
                          clear hA hbl hsh c7 c5 hRW
                          generalize ht : rd_T27 l0 x = t at hx0 hx1 hx2 hx3
                          have HT := Lib.hid ht
                          clear ht
                          obtain ⟨t0, t1, t2, t3⟩ := t
                          simp only at hx0 hx1 hx2 hx3
                          rw [HT.out] at HSH
                          obtain ⟨HJ, hBJ⟩ := HB.out.1.cons (t' := strT wr.heap.size #[.int .i64 t0, .string t1, .int .i64 t2, .int .i64 t3] 27) ((Keeps.refl [] _).alloc (.cells #[.int .i64 t0, .string t1, .int .i64 t2, .int .i64 t3] 27)) (StrAt.new _ _ _) (strT_nodup ..) (fun k hk => by simp [strT] at hk; omega)
                          have HX := Lib.hid (show HasP w.heap.size w [bdT b p v, bbT v (Lib.byteCells acc), strT wr.heap.size #[.int .i64 t0, .string t1, .int .i64 t2, .int .i64 t3] 27] (wr.alloc (.cells #[.int .i64 t0, .string t1, .int .i64 t2, .int .i64 t3] 27)) from ⟨HJ.perm (perm3 _ _ _), HB.out.2.trans hBJ⟩)
                          clear HJ hBJ
                          by_cases c8 : 0 < x
                          · have c8b : decide (0 < x) = true := decide_eq_true c8
                            have e1 : wrap64 (x - 1) = x - 1 := by have := HN.out; have := C5.out; unfold wrap64; omega
                            obtain ⟨ad2, e9, hy0, hy1, hy2, hy3⟩ := at_T27 (Kd.C_below HRW.out ((Below.refl _ _).alloc (Nat.le_refl _) (.cells #[.int .i64 t0, .string t1, .int .i64 t2, .int .i64 t3] 27))) (x - 1) (by omega) (by have := C5.out; omega)
                            cases e9
                            have p7 : (0 ≤ x - 1) = True := eq_true (by omega)
                            rw [show (x - 1).toNat = x.toNat - 1 by omega] at hy0
                            have p8 : (1 ≤ x) = True := eq_true (by omega)
                            have q7 : (x - 1 < (l0.length : Int)) = True := eq_true (by have := C5.out; omega)
                            clear hy1 hy2 hy3 c6
                            have hbl := HBL.out
                            unfold token_Print.bl at hbl
                            rw [if_pos c8] at hbl
                            obtain ⟨y1, hy1⟩ := tight_some (rd_T27 l0 (x - 1)).f0
                            rw [hy1] at hbl
                            simp only [Option.bind_some] at hbl
                            have HY1 := Lib.hid hy1
                            have HBL := Lib.hid hbl
                            clear hbl hy1 c8
                            go_wp2_with fail
                            refine (token_tight.calls _ y1 _ HY1.out).mono ?_
                            rintro e w4 ⟨rfl, ⟨⟨m4, rfl⟩⟩⟩
                            have hbl := HBL.out
                            clear HBL
                            cases y1 with
                            | true =>
                              rw [if_pos rfl] at hbl
                              simp only [Option.some.injEq] at hbl
                              subst hbl
                              have hA := HA.out
                              rw [show (if (false : Bool) = true then [(32 : UInt8)] else []) = [] from rfl, List.append_nil] at hA
                              have HA := Lib.hid hA
                              have HIY := HI
                              clear hA
                              go_wp2_with fail
                              refine (token_shown.calls k t0 t1 t2 t3 s _ HSH.out).mono ?_
                              rintro e w7 ⟨rfl, hb7⟩
                              have HZ := Lib.hid (show HasP w.heap.size w [bdT b p v, bbT v (Lib.byteCells acc), strT wr.heap.size #[.int .i64 t0, .string t1, .int .i64 t2, .int .i64 t3] 27] w7 from by first | exact hp_new HX.out hb7 | exact hp_new (hp_dr HX.out) hb7 | exact hp_new (hp_dr (hp_dr HX.out)) hb7)
                              clear hb7
                              go_wp2_with fail
                              refine (writeString_calls HZ.out.1 HIY.out s (by rw [Lib.byteCells_length]; have := HC.out; have := C7.out; simp; omega)).mono ?_
                              rintro e w8 ⟨rfl, v8, H8, hb8⟩
                              rw [← byteCells_str] at H8
                              have HV := Lib.hid (show HasP w.heap.size w [bdT b (.pointer (some ⟨b, 0, none⟩)) v8, bbT v8 (Lib.byteCells (acc ++ s.data.toList))] w8 from ⟨(H8.perm (perm3 _ _ _).symm).tail, HZ.out.2.trans hb8⟩)
                              clear H8 hb8
                              go_wp2_with fail
                              refine (Try.Builder_Len w.heap.size b _ w8 (has_builder HV.out.1 (.inr rfl))).mono ?_
                              rw [Lib.byteCells_length]
                              rintro e w9 ⟨rfl, rfl⟩
                              have hA : (if 65536 < (((acc ++ s.data.toList)).length : Int) then (some ((⟨#[]⟩ : ByteArray), (2 : Int))) else (token_Print.l1 k l0 k1 (wrap64 (x + 1)) (acc ++ s.data.toList))) = some (r1, r2) := HA.out
                              clear HA
                              generalize hACC : (acc ++ s.data.toList) = acc9 at *
                              by_cases c9 : 65536 < (acc9.length : Int)
                              · rw [if_pos c9] at hA
                                simp only [Option.some.injEq, Prod.mk.injEq] at hA
                                obtain ⟨rfl, rfl⟩ := hA
                                have c9b : decide (65536 < (acc9.length : Int)) = true := decide_eq_true c9
                                have c9c : decide (65536 < acc9.length) = true := decide_eq_true (by omega)
                                have HP := Lib.hid (show PrPost ⟨#[]⟩ 2 w (.returned (.tuple #[.string ⟨#[]⟩, .int .i64 2])) w9 from ⟨rfl, HV.out.2⟩)
                                clear c9 hACC
                                go_wp2
                                go_ret2
                                exact HP.out
                              · rw [if_neg c9] at hA
                                have c9b : decide (65536 < (acc9.length : Int)) = false := decide_eq_false c9
                                have c9c : decide (65536 < acc9.length) = false := decide_eq_false (by omega)
                                have HA := Lib.hid hA
                                have HL9 := Lib.hid (show acc9.length ≤ 65536 by omega)
                                clear c9 hA hACC
                                go_wp2
                                go_roundg k1
                                case measure => omega
                                case rel => exact ⟨_, _, _, _, rfl, HL9, HA, Lib.hid (.inr rfl), HV⟩
                            | false =>
                              rw [if_neg (by simp)] at hbl
                              rw [HT.out] at hbl
                              obtain ⟨y2, hy2⟩ := tight_some t0
                              rw [hy2] at hbl
                              simp only [Option.bind_some, Option.some.injEq] at hbl
                              have HY2 := Lib.hid hy2
                              clear hy2
                              go_wp2_with fail
                              refine (token_tight.calls _ y2 _ HY2.out).mono ?_
                              rintro e w5 ⟨rfl, ⟨⟨m5, rfl⟩⟩⟩
                              cases y2 with
                              | true =>
                                simp only [Bool.not_true] at hbl
                                subst hbl
                                have hA := HA.out
                                rw [show (if (false : Bool) = true then [(32 : UInt8)] else []) = [] from rfl, List.append_nil] at hA
                                have HA := Lib.hid hA
                                have HIY := HI
                                clear hA
                                go_wp2_with fail
                                refine (token_shown.calls k t0 t1 t2 t3 s _ HSH.out).mono ?_
                                rintro e w7 ⟨rfl, hb7⟩
                                have HZ := Lib.hid (show HasP w.heap.size w [bdT b p v, bbT v (Lib.byteCells acc), strT wr.heap.size #[.int .i64 t0, .string t1, .int .i64 t2, .int .i64 t3] 27] w7 from by first | exact hp_new HX.out hb7 | exact hp_new (hp_dr HX.out) hb7 | exact hp_new (hp_dr (hp_dr HX.out)) hb7)
                                clear hb7
                                go_wp2_with fail
                                refine (writeString_calls HZ.out.1 HIY.out s (by rw [Lib.byteCells_length]; have := HC.out; have := C7.out; simp; omega)).mono ?_
                                rintro e w8 ⟨rfl, v8, H8, hb8⟩
                                rw [← byteCells_str] at H8
                                have HV := Lib.hid (show HasP w.heap.size w [bdT b (.pointer (some ⟨b, 0, none⟩)) v8, bbT v8 (Lib.byteCells (acc ++ s.data.toList))] w8 from ⟨(H8.perm (perm3 _ _ _).symm).tail, HZ.out.2.trans hb8⟩)
                                clear H8 hb8
                                go_wp2_with fail
                                refine (Try.Builder_Len w.heap.size b _ w8 (has_builder HV.out.1 (.inr rfl))).mono ?_
                                rw [Lib.byteCells_length]
                                rintro e w9 ⟨rfl, rfl⟩
                                have hA : (if 65536 < (((acc ++ s.data.toList)).length : Int) then (some ((⟨#[]⟩ : ByteArray), (2 : Int))) else (token_Print.l1 k l0 k1 (wrap64 (x + 1)) (acc ++ s.data.toList))) = some (r1, r2) := HA.out
                                clear HA
                                generalize hACC : (acc ++ s.data.toList) = acc9 at *
                                by_cases c9 : 65536 < (acc9.length : Int)
                                · rw [if_pos c9] at hA
                                  simp only [Option.some.injEq, Prod.mk.injEq] at hA
                                  obtain ⟨rfl, rfl⟩ := hA
                                  have c9b : decide (65536 < (acc9.length : Int)) = true := decide_eq_true c9
                                  have c9c : decide (65536 < acc9.length) = true := decide_eq_true (by omega)
                                  have HP := Lib.hid (show PrPost ⟨#[]⟩ 2 w (.returned (.tuple #[.string ⟨#[]⟩, .int .i64 2])) w9 from ⟨rfl, HV.out.2⟩)
                                  clear c9 hACC
                                  go_wp2
                                  go_ret2
                                  exact HP.out
                                · rw [if_neg c9] at hA
                                  have c9b : decide (65536 < (acc9.length : Int)) = false := decide_eq_false c9
                                  have c9c : decide (65536 < acc9.length) = false := decide_eq_false (by omega)
                                  have HA := Lib.hid hA
                                  have HL9 := Lib.hid (show acc9.length ≤ 65536 by omega)
                                  clear c9 hA hACC
                                  go_wp2
                                  go_roundg k1
                                  case measure => omega
                                  case rel => exact ⟨_, _, _, _, rfl, HL9, HA, Lib.hid (.inr rfl), HV⟩
                              | false =>
                                simp only [Bool.not_false] at hbl
                                subst hbl
                                go_wp2_with fail
                                refine (writeByte_calls (B := w.heap.size) (p := p) (v := v) (bs := Lib.byteCells acc) (L := [strT wr.heap.size #[.int .i64 t0, .string t1, .int .i64 t2, .int .i64 t3] 27]) (by first | exact (hp_dr HX.out).1 | exact (hp_dr (hp_dr HX.out)).1) HI.out 32 (by rw [Lib.byteCells_length]; have := HC.out; omega)).mono ?_
                                rintro e w6 ⟨rfl, v6, H6, hb6⟩
                                have HY := Lib.hid (show HasP w.heap.size w [bdT b (.pointer (some ⟨b, 0, none⟩)) v6, bbT v6 (Lib.byteCells (acc ++ [32])), strT wr.heap.size #[.int .i64 t0, .string t1, .int .i64 t2, .int .i64 t3] 27] w6 from ⟨by rw [byteCells_snoc]; exact H6, by first | exact (hp_dr HX.out).2.trans hb6 | exact (hp_dr (hp_dr HX.out)).2.trans hb6⟩)
                                have z0 := (StrAt.cell (H6.get 2 rfl) 0).trans (show _ = some (.int .i64 t0) from rfl)
                                have z1 := (StrAt.cell (H6.get 2 rfl) 1).trans (show _ = some (.string t1) from rfl)
                                have z2 := (StrAt.cell (H6.get 2 rfl) 2).trans (show _ = some (.int .i64 t2) from rfl)
                                have z3 := (StrAt.cell (H6.get 2 rfl) 3).trans (show _ = some (.int .i64 t3) from rfl)
                                have HIY := Lib.hid (show IsB b (.pointer (some ⟨b, 0, none⟩)) from .inr rfl)
                                clear H6 hb6
                                go_wp2_with fail
                                refine (token_shown.calls k t0 t1 t2 t3 s _ HSH.out).mono ?_
                                rintro e w7 ⟨rfl, hb7⟩
                                have HZ := Lib.hid (show HasP w.heap.size w [bdT b (.pointer (some ⟨b, 0, none⟩)) v6, bbT v6 (Lib.byteCells (acc ++ [32])), strT wr.heap.size #[.int .i64 t0, .string t1, .int .i64 t2, .int .i64 t3] 27] w7 from hp_new HY.out hb7)
                                clear hb7
                                go_wp2_with fail
                                refine (writeString_calls HZ.out.1 HIY.out s (by rw [Lib.byteCells_length]; have := HC.out; have := C7.out; simp; omega)).mono ?_
                                rintro e w8 ⟨rfl, v8, H8, hb8⟩
                                rw [← byteCells_str] at H8
                                have HV := Lib.hid (show HasP w.heap.size w [bdT b (.pointer (some ⟨b, 0, none⟩)) v8, bbT v8 (Lib.byteCells (acc ++ [32] ++ s.data.toList))] w8 from ⟨(H8.perm (perm3 _ _ _).symm).tail, HZ.out.2.trans hb8⟩)
                                clear H8 hb8
                                go_wp2_with fail
                                refine (Try.Builder_Len w.heap.size b _ w8 (has_builder HV.out.1 (.inr rfl))).mono ?_
                                rw [Lib.byteCells_length]
                                rintro e w9 ⟨rfl, rfl⟩
                                have hA : (if 65536 < (((acc ++ [32] ++ s.data.toList)).length : Int) then (some ((⟨#[]⟩ : ByteArray), (2 : Int))) else (token_Print.l1 k l0 k1 (wrap64 (x + 1)) (acc ++ [32] ++ s.data.toList))) = some (r1, r2) := HA.out
                                clear HA
                                generalize hACC : (acc ++ [32] ++ s.data.toList) = acc9 at *
                                by_cases c9 : 65536 < (acc9.length : Int)
                                · rw [if_pos c9] at hA
                                  simp only [Option.some.injEq, Prod.mk.injEq] at hA
                                  obtain ⟨rfl, rfl⟩ := hA
                                  have c9b : decide (65536 < (acc9.length : Int)) = true := decide_eq_true c9
                                  have c9c : decide (65536 < acc9.length) = true := decide_eq_true (by omega)
                                  have HP := Lib.hid (show PrPost ⟨#[]⟩ 2 w (.returned (.tuple #[.string ⟨#[]⟩, .int .i64 2])) w9 from ⟨rfl, HV.out.2⟩)
                                  clear c9 hACC
                                  go_wp2
                                  go_ret2
                                  exact HP.out
                                · rw [if_neg c9] at hA
                                  have c9b : decide (65536 < (acc9.length : Int)) = false := decide_eq_false c9
                                  have c9c : decide (65536 < acc9.length) = false := decide_eq_false (by omega)
                                  have HA := Lib.hid hA
                                  have HL9 := Lib.hid (show acc9.length ≤ 65536 by omega)
                                  clear c9 hA hACC
                                  go_wp2
                                  go_roundg k1
                                  case measure => omega
                                  case rel => exact ⟨_, _, _, _, rfl, HL9, HA, Lib.hid (.inr rfl), HV⟩
                          · have c8b : decide (0 < x) = false := decide_eq_false c8
                            have hbl := HBL.out
                            unfold token_Print.bl at hbl
                            rw [if_neg c8] at hbl
                            simp only [Option.some.injEq] at hbl
                            subst hbl
                            clear HBL c6 c8
                            have hA := HA.out
                            rw [show (if (false : Bool) = true then [(32 : UInt8)] else []) = [] from rfl, List.append_nil] at hA
                            have HA := Lib.hid hA
                            have HIY := HI
                            clear hA
                            go_wp2_with fail
                            refine (token_shown.calls k t0 t1 t2 t3 s _ HSH.out).mono ?_
                            rintro e w7 ⟨rfl, hb7⟩
                            have HZ := Lib.hid (show HasP w.heap.size w [bdT b p v, bbT v (Lib.byteCells acc), strT wr.heap.size #[.int .i64 t0, .string t1, .int .i64 t2, .int .i64 t3] 27] w7 from by first | exact hp_new HX.out hb7 | exact hp_new (hp_dr HX.out) hb7 | exact hp_new (hp_dr (hp_dr HX.out)) hb7)
                            clear hb7
                            go_wp2_with fail
                            refine (writeString_calls HZ.out.1 HIY.out s (by rw [Lib.byteCells_length]; have := HC.out; have := C7.out; simp; omega)).mono ?_
                            rintro e w8 ⟨rfl, v8, H8, hb8⟩
                            rw [← byteCells_str] at H8
                            have HV := Lib.hid (show HasP w.heap.size w [bdT b (.pointer (some ⟨b, 0, none⟩)) v8, bbT v8 (Lib.byteCells (acc ++ s.data.toList))] w8 from ⟨(H8.perm (perm3 _ _ _).symm).tail, HZ.out.2.trans hb8⟩)
                            clear H8 hb8
                            go_wp2_with fail
                            refine (Try.Builder_Len w.heap.size b _ w8 (has_builder HV.out.1 (.inr rfl))).mono ?_
                            rw [Lib.byteCells_length]
                            rintro e w9 ⟨rfl, rfl⟩
                            have hA : (if 65536 < (((acc ++ s.data.toList)).length : Int) then (some ((⟨#[]⟩ : ByteArray), (2 : Int))) else (token_Print.l1 k l0 k1 (wrap64 (x + 1)) (acc ++ s.data.toList))) = some (r1, r2) := HA.out
                            clear HA
                            generalize hACC : (acc ++ s.data.toList) = acc9 at *
                            by_cases c9 : 65536 < (acc9.length : Int)
                            · rw [if_pos c9] at hA
                              simp only [Option.some.injEq, Prod.mk.injEq] at hA
                              obtain ⟨rfl, rfl⟩ := hA
                              have c9b : decide (65536 < (acc9.length : Int)) = true := decide_eq_true c9
                              have c9c : decide (65536 < acc9.length) = true := decide_eq_true (by omega)
                              have HP := Lib.hid (show PrPost ⟨#[]⟩ 2 w (.returned (.tuple #[.string ⟨#[]⟩, .int .i64 2])) w9 from ⟨rfl, HV.out.2⟩)
                              clear c9 hACC
                              go_wp2
                              go_ret2
                              exact HP.out
                            · rw [if_neg c9] at hA
                              have c9b : decide (65536 < (acc9.length : Int)) = false := decide_eq_false c9
                              have c9c : decide (65536 < acc9.length) = false := decide_eq_false (by omega)
                              have HA := Lib.hid hA
                              have HL9 := Lib.hid (show acc9.length ≤ 65536 by omega)
                              clear c9 hA hACC
                              go_wp2
                              go_roundg k1
                              case measure => omega
                              case rel => exact ⟨_, _, _, _, rfl, HL9, HA, Lib.hid (.inr rfl), HV⟩
                        · rw [if_neg c7] at hA
                          cases hA
                  · rw [if_neg c6] at hA
                    cases hA
                · rw [if_neg c5] at hA
                  have c5b0 : decide (x < (l0.length : Int)) = false := decide_eq_false c5
                  clear c5
                  simp only [Option.some.injEq, Prod.mk.injEq] at hA
                  obtain ⟨rfl, rfl⟩ := hA
                  go_wp2_with fail
                  refine (Try.Builder_String_any w.heap.size b acc wr (has_builder HB.out.1 HI.out) HB.out.2.size).mono ?_
                  rintro e w5 ⟨rfl, hb5⟩
                  have HP := Lib.hid (show PrPost ⟨acc.toArray⟩ 0 w (.returned (.tuple #[.string ⟨acc.toArray⟩, .int .i64 0])) w5 from ⟨rfl, HB.out.2.trans hb5⟩)
                  clear hb5
                  go_wp2
                  go_ret2
                  exact HP.out
theorem token_Print.calls (k : Nat) (A0 : Option Addr) (c0 : Nat) (l0 : List S27) (r1 : ByteArray) (r2 : Int) (w : World) (hr0 : Kd.C k27 w A0 l0.length l0) (hc0 : l0.length ≤ c0) (h : token_Print.f k l0 = some (r1, r2)) :
    Calls Try.prog 21 #[.slice A0 l0.length c0] w fun e w' => e = .returned (.tuple #[.string r1, .int .i64 r2]) ∧ Below w.heap.size w w' := print_calls k A0 c0 l0 r1 r2 w hr0 hc0 h

end Go.Proofs.Ytnmmapjcphefpaa.G
