-- Printed by wip/graft.py out of the translation, over the kit's print; contracts that it lacks are given by hand.
import Derived.Test.YtlcnhhpleiamhaaDoorGx0
import Derived.Test.YtlcnhhpleiamhaaDoorGx2
import Derived.Test.YtlcnhhpleiamhaaDoorGx6
import Derived.Test.YtlcnhhpleiamhaaDoorKit3
namespace Go.Proofs.YtlcnhhpleiamhaaDoor.G
open Go.RowKit Go.Proofs.YtlcnhhpleiamhaaDoorW.PrintWords Go.Proofs.YtlcnhhpleiamhaaDoorW.PrintLast Go.Proofs.YtlcnhhpleiamhaaDoorW.PrintMore
attribute [local go_sem] max2_int min2_int max_two min_two max_three min_three max_four min_four   -- for this text's walks alone
set_option linter.unusedVariables false
set_option linter.unusedSimpArgs false

/-- GRAFT kilnlaw5_texts: function 19, by hand. -/
theorem graft_kilnlaw5_texts : True := trivial
def marks3 : List ByteArray := [⟨#[47, 47, 49]⟩, ⟨#[47, 47, 50]⟩, ⟨#[47, 47, 51]⟩]
def LaidPost (l0 : List ByteArray) (w : World) (e : Ending) (w' : World) : Prop :=
  ∃ A c, l0.length + 3 ≤ c ∧ e = .returned (.slice A l0.length c) ∧ Kd.R Kd.string 9 w' w.heap.size (fun _ => True) (.slice A (l0.length + 3) c) (l0 ++ marks3) ∧ Below w.heap.size w w'
def laidF (l0 : List ByteArray) : Option (List ByteArray) := if ([] : List ByteArray).length + l0.length < 8796093022208 then ((some (([] : List ByteArray) ++ l0 : List ByteArray)).bind fun y137 => ((some (([(⟨#[47, 47, 49]⟩ : ByteArray), (⟨#[47, 47, 50]⟩ : ByteArray), (⟨#[47, 47, 51]⟩ : ByteArray)] : List ByteArray) : List ByteArray)).bind fun y140 => (if y137.length + y140.length < 8796093022208 then ((some (y137 ++ y140 : List ByteArray)).bind fun y143 => (if 0 ≤ (l0.length : Int) then (if (l0.length : Int) ≤ (y143.length : Int) then (some (y143.take ((l0.length : Int) : Int).toNat)) else (none)) else (none))) else (none)))) else (none)
set_option maxHeartbeats 8000000 in
set_option maxRecDepth 100000 in
theorem laid_calls (A0 : Option Addr) (c0 : Nat) (l0 : List ByteArray) (r : List ByteArray) (w : World) (hr0 : Kd.C Kd.string w A0 l0.length l0) (hc0 : l0.length ≤ c0) (h : laidF l0 = some r) :
    Calls Tryd.prog 29 #[.slice A0 l0.length c0] w (LaidPost l0 w) := by
  have HR0 := Aside0.mk hr0
  have HC0 := Aside0.mk hc0
  clear hr0 hc0
  have HB := Aside0.mk (Below.refl w.heap.size w)
  have H : (if ([] : List ByteArray).length + l0.length < 8796093022208 then ((some (([] : List ByteArray) ++ l0 : List ByteArray)).bind fun y137 => ((some (([(⟨#[47, 47, 49]⟩ : ByteArray), (⟨#[47, 47, 50]⟩ : ByteArray), (⟨#[47, 47, 51]⟩ : ByteArray)] : List ByteArray) : List ByteArray)).bind fun y140 => (if y137.length + y140.length < 8796093022208 then ((some (y137 ++ y140 : List ByteArray)).bind fun y143 => (if 0 ≤ (l0.length : Int) then (if (l0.length : Int) ≤ (y143.length : Int) then (some (y143.take ((l0.length : Int) : Int).toNat)) else (none)) else (none))) else (none)))) else (none)) = some r := h
  clear h
  by_cases c2 : ([] : List ByteArray).length + l0.length < 8796093022208
  · rw [if_pos c2] at H
    have LMc2 := Aside0.mk c2
    clear c2
    obtain ⟨y137, hy137⟩ : ∃ y_ : List ByteArray, y_ = (([] : List ByteArray) ++ l0) := ⟨_, rfl⟩
    replace H : ((some (([(⟨#[47, 47, 49]⟩ : ByteArray), (⟨#[47, 47, 50]⟩ : ByteArray), (⟨#[47, 47, 51]⟩ : ByteArray)] : List ByteArray) : List ByteArray)).bind fun y140 => (if y137.length + y140.length < 8796093022208 then ((some (y137 ++ y140 : List ByteArray)).bind fun y143 => (if 0 ≤ (l0.length : Int) then (if (l0.length : Int) ≤ (y143.length : Int) then (some (y143.take ((l0.length : Int) : Int).toNat)) else (none)) else (none))) else (none))) = some r := by first | (rw [hy137]; with_reducible exact H) | (have H2_ := (Option.bind_some _ _).symm.trans H; rw [hy137]; with_reducible exact H2_) | (have H2_ := (Option.bind_some _ _).symm.trans H; with_reducible exact H2_) | with_reducible exact H | (rw [hy137]; exact H) | exact H
    have Ny137 := Aside0.mk hy137
    clear hy137
    obtain ⟨y140, hy140⟩ : ∃ y_ : List ByteArray, y_ = (([(⟨#[47, 47, 49]⟩ : ByteArray), (⟨#[47, 47, 50]⟩ : ByteArray), (⟨#[47, 47, 51]⟩ : ByteArray)] : List ByteArray)) := ⟨_, rfl⟩
    replace H : (if y137.length + y140.length < 8796093022208 then ((some (y137 ++ y140 : List ByteArray)).bind fun y143 => (if 0 ≤ (l0.length : Int) then (if (l0.length : Int) ≤ (y143.length : Int) then (some (y143.take ((l0.length : Int) : Int).toNat)) else (none)) else (none))) else (none)) = some r := by first | (rw [hy140]; with_reducible exact H) | (have H2_ := (Option.bind_some _ _).symm.trans H; rw [hy140]; with_reducible exact H2_) | (have H2_ := (Option.bind_some _ _).symm.trans H; with_reducible exact H2_) | with_reducible exact H | (rw [hy140]; exact H) | exact H
    have Ny140 := Aside0.mk hy140
    clear hy140
    by_cases c3 : y137.length + y140.length < 8796093022208
    · rw [if_pos c3] at H
      have LMc3 := Aside0.mk c3
      clear c3
      obtain ⟨y143, hy143⟩ : ∃ y_ : List ByteArray, y_ = (y137 ++ y140) := ⟨_, rfl⟩
      replace H : (if 0 ≤ (l0.length : Int) then (if (l0.length : Int) ≤ (y143.length : Int) then (some (y143.take ((l0.length : Int) : Int).toNat)) else (none)) else (none)) = some r := by first | (rw [hy143]; with_reducible exact H) | (have H2_ := (Option.bind_some _ _).symm.trans H; rw [hy143]; with_reducible exact H2_) | (have H2_ := (Option.bind_some _ _).symm.trans H; with_reducible exact H2_) | with_reducible exact H | (rw [hy143]; exact H) | exact H
      have Ny143 := Aside0.mk hy143
      clear hy143
      by_cases c4 : 0 ≤ (l0.length : Int)
      · rw [if_pos c4] at H
        have c4b0 := eq_true c4
        have c4b1 : decide (0 ≤ (l0.length : Int)) = true := decide_eq_true c4
        clear c4
        by_cases c5 : (l0.length : Int) ≤ (y143.length : Int)
        · rw [if_pos c5] at H
          have c5b0 := eq_true c5
          have c5b1 : decide ((l0.length : Int) ≤ (y143.length : Int)) = true := decide_eq_true c5
          clear c5
          obtain ⟨y146, hy146⟩ : ∃ y_ : List ByteArray, y_ = (y143.take ((l0.length : Int) : Int).toNat) := ⟨_, rfl⟩
          replace H : (some y146) = some r := by first | (rw [hy146]; with_reducible exact H) | (have H2_ := (Option.bind_some _ _).symm.trans H; rw [hy146]; with_reducible exact H2_) | (have H2_ := (Option.bind_some _ _).symm.trans H; with_reducible exact H2_) | with_reducible exact H | (rw [hy146]; exact H) | exact H
          have Ny146 := Aside0.mk hy146
          clear hy146
          obtain rfl := Option.some.inj H
          go_enter Tryd.func29, Tryd.ntmps29
          go_wp2_with (first | ((with_reducible refine gate_builtin (b := .append) (xs := #[.tmp 4, .tmp 5]) rfl ?_); at_builtin; refine Kd.R_append_rows Kd.string (w0 := w) w.heap.size rfl (.tmp 4) (.tmp 5) 25 9 (.string ⟨#[]⟩) 16 rfl Tryd.underlying25 info9 rfl (by decide) (by omega) (.slice none 0 0) ([] : List ByteArray) l0 _ _ _ (fun _ => True) (fun _ => False) rfl rfl ?aO ?aR (fun _ _ h => h) (fun _ h => h.elim) ?aF ?aB ?aS ?aL ?_; (case aR => repeat (first | exact HR0.out | (with_reducible refine Kd.C_alloc ?_ _) | (with_reducible refine Kd.C_drewN ?_ _) | (with_reducible refine Kd.C_drew ?_))); (case aB => exact (by repeat (first | (with_reducible first | exact HB.out | apply below_alloc | apply pw_below_drewN | apply below_drew1) | exact HB.out))); (case aF => exact (fun _ _ => trivial)); (case aO => exact ((Kd.R_nil _ _ _ _ (fun _ => True)))); (case aS => exact (below_size (by repeat (first | (with_reducible first | exact HB.out | apply below_alloc | apply pw_below_drewN | apply below_drew1) | exact HB.out)))); (case aL => have := LMc2.out; omega); intro v138 w6 ho hb hg hat; rw [← Ny137.out] at ho; have n0_ := Aside0.mk (hb); have n1_ := Aside0.mk (ho); clear HB; have HB := n0_; have HO139 := n1_; clear n0_ n1_; clear ho hb hg hat) | ((with_reducible refine gate_dst (N := 8) rfl ?_); refine Kd.R_lit Kd.string _ 9 ?hg (N := 8) ?hd (xs := ([(⟨#[47, 47, 49]⟩ : ByteArray), (⟨#[47, 47, 50]⟩ : ByteArray), (⟨#[47, 47, 51]⟩ : ByteArray)] : List ByteArray)) (inner := [.string (⟨#[47, 47, 49]⟩ : ByteArray), .string (⟨#[47, 47, 50]⟩ : ByteArray), .string (⟨#[47, 47, 51]⟩ : ByteArray)]) (ok := fun _ => True) (okp := fun _ => True) ?hr ?hp (fun _ hk => hk) trivial (Below.refl _ _) (Nat.le_refl _) (by simp) ?_; (case hd => rfl); (case hg => rfl); (case hr => first | (go_simp; done) | (go_simp; rfl)); (case hp => exact (Reps.one (show Kd.M Kd.string _ _ _ (⟨#[47, 47, 49]⟩ : ByteArray) [.string (⟨#[47, 47, 49]⟩ : ByteArray)] from rfl) (Reps.one (show Kd.M Kd.string _ _ _ (⟨#[47, 47, 50]⟩ : ByteArray) [.string (⟨#[47, 47, 50]⟩ : ByteArray)] from rfl) (Reps.one (show Kd.M Kd.string _ _ _ (⟨#[47, 47, 51]⟩ : ByteArray) [.string (⟨#[47, 47, 51]⟩ : ByteArray)] from rfl) (Reps.none _ _))))); intro v141 w7 ho8 hb hg_ hnew_; clear hg_ hnew_; (first | rw [← Ny140.out] at ho8 | (simp only [Int.reduceToNat] at ho8; rw [← Ny140.out] at ho8)); have n0_ := Aside0.mk (Kd.R_elder' (by (with_reducible repeat (first | apply Kd.R_alloc | apply Kd.R_drewN | apply Kd.R_drew)); exact HO139.out) (Kd.R_base ho8) hb); have n1_ := Aside0.mk (Kd.R_lower (Kd.R_new' ho8 (Kd.R_lt (by (with_reducible repeat (first | apply Kd.R_alloc | apply Kd.R_drewN | apply Kd.R_drew)); exact HO139.out))) (below_size (by repeat (first | (with_reducible first | exact HB.out | apply below_alloc | apply pw_below_drewN | apply below_drew1) | exact HB.out)))); have n2_ := Aside0.mk (below_step (by repeat (first | (with_reducible first | exact HB.out | apply below_alloc | apply pw_below_drewN | apply below_drew1) | exact HB.out)) hb); clear HO139; clear HB; have HO139 := n0_; have HO142 := n1_; have HB := n2_; clear n0_ n1_ n2_; clear hb ho8; obtain ⟨Ao10, co10, eo10⟩ := Kd.R_slice HO142.out; subst eo10) | ((with_reducible refine gate_builtin (b := .append) (xs := #[.tmp 7, .tmp 8]) rfl ?_); at_builtin; refine Kd.R_append_rows Kd.string (w0 := w) w.heap.size rfl (.tmp 7) (.tmp 8) 25 9 (.string ⟨#[]⟩) 16 rfl Tryd.underlying25 info9 rfl (by decide) (by omega) v138 y137 y140 _ _ _ (fun k_ => some k_ ≠ (.slice Ao10 y140.length co10 : Value).ownBlock) (fun _ => False) rfl rfl ?aO ?aR (fun _ _ h => h) (fun _ h => h.elim) ?aF ?aB ?aS ?aL ?_; (case aR => repeat (first | exact (Kd.R_reads' HO142.out).2.2 | (with_reducible refine Kd.C_alloc ?_ _) | (with_reducible refine Kd.C_drewN ?_ _) | (with_reducible refine Kd.C_drew ?_))); (case aB => exact (by repeat (first | (with_reducible first | exact HB.out | apply below_alloc | apply pw_below_drewN | apply below_drew1) | exact HB.out))); (case aF => exact (fun k_ hk => Kd.fresh' (Kd.R_lt (by (with_reducible repeat (first | apply Kd.R_alloc | apply Kd.R_drewN | apply Kd.R_drew)); exact HO142.out)) k_ hk)); (case aO => exact (by (with_reducible repeat (first | apply Kd.R_alloc | apply Kd.R_drewN | apply Kd.R_drew)); exact Kd.R_mono HO139.out (fun _ hk => hk.2))); (case aS => exact (below_size (by repeat (first | (with_reducible first | exact HB.out | apply below_alloc | apply pw_below_drewN | apply below_drew1) | exact HB.out)))); (case aL => have := LMc3.out; omega); intro v144 w9 ho hb hg hat; rw [← Ny143.out] at ho; have n0_ := Aside0.mk (Kd.R_after (ok := (fun _ => True)) (by (with_reducible repeat (first | apply Kd.R_alloc | apply Kd.R_drewN | apply Kd.R_drew)); exact HO142.out) hg hat); have n1_ := Aside0.mk (hb); have n2_ := Aside0.mk (ho); clear HO142; clear HB; clear HO139; have HO142 := n0_; have HB := n1_; have HO145 := n2_; clear n0_ n1_ n2_; clear ho hb hg hat; obtain ⟨Ao11, co11, eo11⟩ := Kd.R_slice HO145.out; subst eo11; have q12 : ((l0.length : Int) : Int) ≤ ((y143.length : Int) : Int) := of_decide_eq_true (by first | (with_reducible assumption) | assumption); obtain ⟨i012, hi012, _, hsz12, _⟩ := info_parts info9; have hcut12 := cut_to (P := Tryd.prog) 25 9 .i64 Tryd.underlying25 hi012 Ao11 y143.length co11 (l0.length : Int) (of_decide_eq_true (by first | (with_reducible assumption) | assumption)) q12 (Kd.R_reads' HO145.out).2.1; have hr12 := Kd.R_take (m := ((l0.length : Int) : Int).toNat) HO145.out (by omega); have hy12 : y146.length = ((l0.length : Int) : Int).toNat := (by rw [Ny146.out, List.length_take]; omega); rw [← Ny146.out] at hr12; rw [← hy12] at hr12 hcut12; clear hy12 hi012 hsz12; have HOK := HO145; clear HO145; have HO148 := Aside0.mk hr12; clear hr12; replace q12 := eq_true q12))
          go_ret
          have e146 : y146.length = l0.length := by
            have := of_decide_eq_true c5b1
            rw [Ny146.out, List.length_take]; omega
          have e143 : y143 = l0 ++ marks3 := by rw [Ny143.out, Ny137.out, Ny140.out]; rfl
          have hk := (Kd.R_reads' HOK.out).2.1
          have hq := HOK.out
          rw [e143] at hk hq
          rw [List.length_append] at hk hq
          exact ⟨Ao11, co11, hk, by first | (rw [e146]; rfl) | rfl | simp [e146], Kd.R_mono hq (fun _ _ => trivial), by repeat (first | (with_reducible first | exact HB.out | apply below_alloc | apply pw_below_drewN | apply below_drew1) | exact HB.out)⟩
        · rw [if_neg c5] at H
          exact absurd H (by simp)
      · rw [if_neg c4] at H
        exact absurd H (by simp)
    · rw [if_neg c3] at H
      exact absurd H (by simp)
  · rw [if_neg c2] at H
    exact absurd H (by simp)
theorem cut_cap {P : Program} (t e : TypeId) (kh : IntKind) {i : TypeInfo} (ht : P.underlying t = some (.slice e)) (hi : P.info? e = some i) (A : Option Addr) (n c : Nat) (j : Int) (h0 : 0 ≤ j) (hc : j ≤ c) :
    ∀ W : World, (Instr.slice t (.slice A n c) none (some (.int kh j)) none).run P W = .ok (.slice A j.toNat c) W := by
  intro W
  have hel : P.elem t = e := by simp [Program.elem, ht]
  have hu : P.underlying t = some (.slice (P.elem t)) := by rw [hel]; exact ht
  have ha : (A.map fun x => x.add 0) = A := by cases A <;> simp [Addr.add]
  rw [run_slice_h W t A n c hu kh j h0 hc, hel]
  simp [sizeOf, typeInfo, hi, sliced, Result.andThen, ha]
theorem same_self (l : List ByteArray) (hn : l.length ≤ 9223372036854775806) : ∃ k, kilnref5_Same.f k l l = some true := by
  have key : ∀ (d k : Nat) (i : Int), 0 ≤ i → i ≤ l.length → (l.length : Int) - i = d → d < k → kilnref5_Same.l0 k l l i = some true := by
    intro d
    induction d with
    | zero =>
      intro k i h0 h1 h2 h3
      obtain ⟨k, rfl⟩ : ∃ m, k = m + 1 := ⟨k - 1, by omega⟩
      simp only [kilnref5_Same.l0]
      rw [if_neg (by omega)]
    | succ d ih =>
      intro k i h0 h1 h2 h3
      obtain ⟨k, rfl⟩ : ∃ m, k = m + 1 := ⟨k - 1, by omega⟩
      have hw : wrap64 (i + 1) = i + 1 := by unfold wrap64; omega
      have := ih k (i + 1) (by omega) (by omega) (by omega) (by omega)
      rw [← hw] at this
      simp only [kilnref5_Same.l0]
      rw [if_pos (by omega)]
      repeat' first | rw [if_pos h0] | rw [if_pos (show i < (l.length : Int) by omega)]
      simp [this]
  refine ⟨l.length + 1, ?_⟩
  unfold kilnref5_Same.f
  rw [if_pos rfl]
  exact key l.length _ 0 (by omega) (by omega) (by omega) (by omega)
set_option maxHeartbeats 8000000 in
set_option maxRecDepth 100000 in
theorem intact_calls (ad : Addr) (c : Nat) (A0 : Option Addr) (c0 : Nat) (l0 : List ByteArray) (W : World) (hc : l0.length + 3 ≤ c) (hR : Kd.C Kd.string W (some ad) (l0 ++ marks3).length (l0 ++ marks3)) (hr0 : Kd.C Kd.string W A0 l0.length l0) (hl : l0.length ≤ 1000000000) (hc0 : l0.length ≤ c0) :
    Calls Tryd.prog 31 #[.slice (some ad) l0.length c, .slice A0 l0.length c0] W fun e w' => e = .returned (.bool true) ∧ Drawn0 W w' := by
  obtain ⟨k, hs⟩ := same_self l0 (by omega)
  have hT := Kd.C_take (m := l0.length) hR (by simp)
  rw [List.take_left] at hT
  have hD := Kd.C_drop (c := c) (m := l0.length) hR (by simp) (by simpa [marks3] using hc)
  rw [List.drop_left, if_neg (by omega)] at hD
  obtain ⟨i0, hi0, _, hsz, _⟩ := info_parts info9
  have hcut1 := cut_cap (P := Tryd.prog) 25 9 .i64 Tryd.underlying25 hi0 (some ad) l0.length c ((l0.length : Int) + 3) (by omega) (by omega)
  have hcut2 := cut_from (P := Tryd.prog) 25 9 .i64 Tryd.underlying25 hi0 1 hsz (some ad) (l0.length + 3) c (l0.length : Int) (by omega) (by omega)
  rw [show ((l0.length : Int) + 3).toNat = l0.length + 3 by omega] at hcut1
  rw [Int.toNat_natCast, if_neg (by omega), show l0.length + 3 - l0.length = 3 by omega] at hcut2
  have HS := Lib.hid hs
  have HT := Lib.hid hT
  have HD := Lib.hid hD
  have H0 := Lib.hid hr0
  have HC := Lib.hid hc
  have HC0 := Lib.hid hc0
  have hl2 : (l0.length : Int) ≤ 1000000000 := by omega
  clear hs hT hD hR hr0 hi0 hsz hc hc0 hl
  go_enter Tryd.func31, Tryd.ntmps31
  go_wp2_with fail
  refine (kilnref5_Same.calls k (some ad) c l0 A0 c0 l0 true _ HT.out (by have := HC.out; omega) H0.out HC0.out HS.out).mono ?_
  rintro e w2 ⟨rfl, ⟨⟨m2, rfl⟩⟩⟩
  obtain ⟨ad1, e1, x0⟩ := Kd.at_string (Kd.C_drewN HD.out m2) 0 (by omega) (by simp [marks3])
  cases e1
  obtain ⟨ad1, e1, x1⟩ := Kd.at_string (Kd.C_drewN HD.out m2) 1 (by omega) (by simp [marks3])
  cases e1
  obtain ⟨ad1, e1, x2⟩ := Kd.at_string (Kd.C_drewN HD.out m2) 2 (by omega) (by simp [marks3])
  cases e1
  have e1 : (Kd.string).sz = 1 := rfl
  have ea : ∀ a : Addr, a.add 0 = a := fun a => by cases a; simp [Addr.add]
  have eb : ∀ (a : Addr) (n : Nat), a.add (n + 1) = ⟨a.block, a.off + (n + 1), none⟩ := fun a n => by cases a; simp [Addr.add]
  have eb1 : ∀ a : Addr, a.add 1 = ⟨a.block, a.off + 1, none⟩ := fun a => eb a 0
  have eb2 : ∀ a : Addr, a.add 2 = ⟨a.block, a.off + 2, none⟩ := fun a => eb a 1
  simp [rdOf, marks3, e1, ea, eb1, eb2] at x0 x1 x2
  simp only [Option.map_some, Nat.mul_one] at hcut2
  clear e1 ea eb eb1 eb2
  go_wp2
  go_ret
  exact ⟨rfl, ⟨⟨m2, rfl⟩⟩⟩
def kilnlaw5_texts.f (k : Nat) (l0 : List ByteArray) : Option Bool :=
  if l0.length ≤ 1000000000 then ((path_Text.f k l0).bind fun p => ((kilnref5_Text.f k l0).bind fun q => (if p.1.toList = q.1.toList then (if q.2 = true then (some (p.2 == 0)) else (some (p.2 == 50))) else (some false)))) else none
theorem kilnlaw5_texts.mono : ∀ a0 k, LeO (kilnlaw5_texts.f k a0) (kilnlaw5_texts.f (k + 1) a0) := by
  intro a0 k
  unfold kilnlaw5_texts.f
  exact LeO.ite (LeO.bind (path_Text.mono _ _) fun _ => LeO.bind (kilnref5_Text.mono _ _) fun _ => LeO.refl _) (LeO.refl _)
theorem below_dn {w0 w : World} {B m : Nat} (h : Below B w0 w) : Below B w0 (w.drewN m) := pw_below_drewN h m
def TxPost (r : Bool) (w : World) (e : Ending) (w' : World) : Prop := e = .returned (.bool r) ∧ Below w.heap.size w w'
theorem laid_is (l0 : List ByteArray) (hl : l0.length ≤ 1000000000) : laidF l0 = some l0 := by
  unfold laidF
  rw [if_pos (by simp; omega)]
  simp only [Option.bind_some, List.nil_append]
  rw [if_pos (by simp; omega), if_pos (by omega), if_pos (by simp; omega)]
  rw [Int.toNat_natCast, List.take_left]
set_option maxHeartbeats 8000000 in
set_option maxRecDepth 100000 in
theorem texts_calls (k : Nat) (A0 : Option Addr) (c0 : Nat) (l0 : List ByteArray) (r : Bool) (w : World) (hr0 : Kd.C Kd.string w A0 l0.length l0) (hc0 : l0.length ≤ c0) (h : kilnlaw5_texts.f k l0 = some r) :
    Calls Tryd.prog 19 #[.slice A0 l0.length c0] w (TxPost r w) := by
  unfold kilnlaw5_texts.f at h
  by_cases hl : l0.length ≤ 1000000000
  case neg => rw [if_neg hl] at h; cases h
  rw [if_pos hl] at h
  cases hp : path_Text.f k l0 with
  | none => rw [hp] at h; cases h
  | some p =>
  rw [hp] at h
  simp only [Option.bind_some] at h
  cases hq : kilnref5_Text.f k l0 with
  | none => rw [hq] at h; cases h
  | some q =>
  rw [hq] at h
  simp only [Option.bind_some] at h
  obtain ⟨p1, p2⟩ := p
  obtain ⟨q1, q2⟩ := q
  simp only at h
  have HP := Lib.hid hp
  have HQ := Lib.hid hq
  have H := Lib.hid h
  have HR := Lib.hid hr0
  have HC := Lib.hid hc0
  have HL := Lib.hid hl
  clear hp hq h hr0 hc0 hl
  go_enter Tryd.func19, Tryd.ntmps19
  go_wp2_with fail
  refine (laid_calls A0 c0 l0 l0 w HR.out HC.out (laid_is l0 HL.out)).mono ?_
  rintro e w1 ⟨A, c, hc, rfl, hR, hb1⟩
  have hC := (Kd.R_reads' hR).2.2
  obtain ⟨ad, e1, _⟩ := Kd.at_string hC 0 (by omega) (by simp [marks3]; omega)
  subst e1
  have HCA := Lib.hid hC
  have HB1 := Lib.hid hb1
  have HCC := Lib.hid hc
  clear hR hC hb1 hc
  go_wp2_with fail
  have hT := Kd.C_take (m := l0.length) HCA.out (by simp)
  rw [List.take_left] at hT
  refine (path_Text.calls k (some ad) c l0 p1 p2 w1 hT (by have := HCC.out; omega) HP.out).mono ?_
  rintro e w2 ⟨rfl, hb2⟩
  have HB2 := Lib.hid hb2
  have HBB := Lib.hid (HB1.out.trans (hb2.mono HB1.out.size))
  clear hT hb2
  go_wp2_with fail
  refine (kilnref5_Text.calls k A0 c0 l0 q1 q2 w2 (Kd.C_below HR.out HBB.out) HC.out HQ.out).mono ?_
  rintro e w3 ⟨rfl, ⟨⟨m3, rfl⟩⟩⟩
  have HB3 := Lib.hid (below_dn (m := m3) HBB.out)
  have HCI := Lib.hid (Kd.C_drewN (Kd.C_below HCA.out HB2.out) m3)
  go_wp2_with fail
  refine (intact_calls ad c A0 c0 l0 _ HCC.out HCI.out (Kd.C_below HR.out HB3.out) HL.out HC.out).mono ?_
  rintro e w4 ⟨rfl, ⟨⟨m4, rfl⟩⟩⟩
  have h := H.out
  by_cases d2 : p1.toList = q1.toList
  case neg =>
    rw [if_neg d2] at h
    have d2b : (p1.toList == q1.toList) = false := by simpa using d2
    have d2c : (p1.toList != q1.toList) = true := by simpa using d2
    simp only [Option.some.injEq] at h
    subst h
    have HF := Lib.hid (show TxPost false w (.returned (.bool false)) (w2.drewN (m3 + m4)) from ⟨rfl, below_dn HBB.out⟩)
    clear d2
    go_wp2
    go_ret
    exact HF.out
  rw [if_pos d2] at h
  have d2b : (p1.toList == q1.toList) = true := by simpa using d2
  have d2c : (p1.toList != q1.toList) = false := by simpa using d2
  have HF := Lib.hid (show ∀ b, TxPost b w (.returned (.bool b)) (w2.drewN (m3 + m4)) from fun b => ⟨rfl, below_dn HBB.out⟩)
  clear d2
  cases q2 with
  | true =>
    simp only [if_true, Option.some.injEq] at h
    subst h
    go_wp2
    go_ret
    exact HF.out _
  | false =>
    simp only [Bool.false_eq_true, if_false, Option.some.injEq] at h
    subst h
    go_wp2
    go_ret
    exact HF.out _
theorem kilnlaw5_texts.calls (k : Nat) (A0 : Option Addr) (c0 : Nat) (l0 : List ByteArray) (r : Bool) (w : World) (hr0 : Kd.C Kd.string w A0 l0.length l0) (hc0 : l0.length ≤ c0) (h : kilnlaw5_texts.f k l0 = some r) :
    Calls Tryd.prog 19 #[.slice A0 l0.length c0] w fun e w' => e = .returned (.bool r) ∧ Below w.heap.size w w' := texts_calls k A0 c0 l0 r w hr0 hc0 h

end Go.Proofs.YtlcnhhpleiamhaaDoor.G
