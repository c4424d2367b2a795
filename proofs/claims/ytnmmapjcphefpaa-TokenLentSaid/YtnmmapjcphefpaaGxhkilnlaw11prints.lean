-- Printed by wip/graft.py out of the translation, over the kit's print; contracts that it lacks are given by hand.
import Derived.Test.YtnmmapjcphefpaaGx0
import Derived.Test.YtnmmapjcphefpaaGx1
import Derived.Test.YtnmmapjcphefpaaGx10
import Derived.Test.YtnmmapjcphefpaaGx4
import Derived.Test.YtnmmapjcphefpaaGxhtokenPrint
import Derived.Test.YtnmmapjcphefpaaGxhtokenTokens
import Derived.Test.YtnmmapjcphefpaaGxhtokenreaderjoin
import Derived.Test.YtnmmapjcphefpaaKit4
namespace Go.Proofs.Ytnmmapjcphefpaa.G
open Go.RowKit Go.Proofs.YtnmmapjcphefpaaW.PrintWords Go.Proofs.YtnmmapjcphefpaaW.PrintLast Go.Proofs.YtnmmapjcphefpaaW.PrintMore
attribute [local go_sem] max2_int min2_int max_two min_two max_three min_three max_four min_four   -- for this text's walks alone
set_option linter.unusedVariables false
set_option linter.unusedSimpArgs false

/-- GRAFT kilnlaw11_prints: function 19, by hand. -/
theorem graft_kilnlaw11_prints : True := trivial
def marks3 : List S27 := [⟨-1, ⟨#[]⟩, 0, 0⟩, ⟨-2, ⟨#[]⟩, 0, 0⟩, ⟨-3, ⟨#[]⟩, 0, 0⟩]
theorem reps_inv {R : S27 → List Value → Prop} (hR : ∀ t c, R t c → c = [.int .i64 t.f0, .string t.f1, .int .i64 t.f2, .int .i64 t.f3]) : ∀ (l : List S27) (cs : List Value), Reps R 4 l cs → cs = tcells l := by
  intro l
  induction l with
  | nil => intro cs h; exact List.eq_nil_of_length_eq_zero (by simpa using h.1)
  | cons t l ih =>
    intro cs h
    have h0 := hR _ _ (h.2 0 t rfl)
    simp only [Nat.zero_mul, List.drop_zero] at h0
    have h1 := ih (cs.drop 4) ⟨by rw [List.length_drop, h.1]; simp; omega, fun j p hj => by
      have := h.2 (j + 1) p (by simpa using hj)
      rw [show (j + 1) * 4 = 4 + j * 4 by omega, ← List.drop_drop] at this
      exact this⟩
    have e : tcells (t :: l) = [.int .i64 t.f0, .string t.f1, .int .i64 t.f2, .int .i64 t.f3] ++ tcells l := by simp [tcells]
    rw [e, ← h0, ← h1, List.take_append_drop]
theorem R_has {B : Nat} {w : World} {v : Value} {l : List S27} {ok : Nat → Prop} (h : Kd.R k27 27 w B ok v l) (hB : B ≤ w.heap.size) : Has B w [tkT v l] := by
  obtain ⟨_, inner, ho, hr⟩ := h
  have e := reps_inv (fun t c hc => k27_openM hc) l inner hr
  subst e
  refine ⟨fun t ht => ?_, ?_, fun k hk => ?_, hB⟩
  · simp only [List.mem_singleton] at ht
    subst ht
    show w.ownsRow 0 27 4 v l.length (tcells l)
    refine ⟨ho.1, ?_⟩
    rcases ho.2 with h1 | ⟨g, cap, cur, rfl, _, h2⟩
    · exact .inl h1
    · exact .inr ⟨g, cap, cur, rfl, Nat.zero_le _, h2⟩
  · simp only [fps, List.flatMap_cons, List.flatMap_nil, List.append_nil]
    exact rowT_nodup ..
  · simp only [fps, List.flatMap_cons, List.flatMap_nil, List.append_nil, tkT, rowT, Option.mem_toList] at hk
    exact own_base ho k hk
theorem cut_cap {P : Program} (t e : TypeId) (kh : IntKind) {i : TypeInfo} (ht : P.underlying t = some (.slice e)) (hi : P.info? e = some i) (A : Option Addr) (n c : Nat) (j : Int) (h0 : 0 ≤ j) (hc : j ≤ c) :
    ∀ W : World, (Instr.slice t (.slice A n c) none (some (.int kh j)) none).run P W = .ok (.slice A j.toNat c) W := by
  intro W
  have hel : P.elem t = e := by simp [Program.elem, ht]
  have hu : P.underlying t = some (.slice (P.elem t)) := by rw [hel]; exact ht
  have ha : (A.map fun x => x.add 0) = A := by cases A <;> simp [Addr.add]
  rw [run_slice_h W t A n c hu kh j h0 hc, hel]
  simp [sizeOf, typeInfo, hi, sliced, Result.andThen, ha]
def LaidPost (l0 : List S27) (w : World) (e : Ending) (w' : World) : Prop :=
  ∃ A c, l0.length + 3 ≤ c ∧ e = .returned (.slice A l0.length c) ∧ Kd.R k27 27 w' w.heap.size (fun _ => True) (.slice A (l0.length + 3) c) (l0 ++ marks3) ∧ Below w.heap.size w w'
set_option maxHeartbeats 8000000 in
set_option maxRecDepth 100000 in
theorem laid_calls (A0 : Option Addr) (c0 : Nat) (l0 : List S27) (w : World) (hr0 : Kd.C k27 w A0 l0.length l0) (hl : l0.length ≤ 1000000000) :
    Calls Try.prog 26 #[.slice A0 l0.length c0] w (LaidPost l0 w) := by
  have HR := Lib.hid hr0
  have HL := Lib.hid hl
  clear hr0 hl
  go_enter Try.func26, Try.ntmps26
  go_wp2_with (at_builtin; refine Kd.R_append_rows k27 (w0 := w) w.heap.size rfl (.tmp 4) (.tmp 5) 25 27 (.agg #[(.int .i64 0), (.string ⟨#[]⟩), (.int .i64 0), (.int .i64 0)]) 40 rfl Try.underlying25 info27 rfl (by decide) (by omega) (.slice none 0 0) ([] : List S27) l0 _ _ _ (fun _ => True) (fun _ => False) rfl rfl (Kd.R_nil _ _ _ _ (fun _ => True)) HR.out (fun _ _ h => h) (fun _ h => h.elim) (fun _ _ => trivial) (Below.refl _ _) (Nat.le_refl _) (by have := HL.out; simp; omega) ?_)
  intro v206 w6 ho hb hg hat
  have HO := Lib.hid (R_has ho hb.size)
  have HB := Lib.hid hb
  clear ho hb hg hat
  obtain ⟨ao, cv, rfl⟩ := tk_len HO.out 0 rfl
  go_wp2_with (at_builtin; refine wp_append_any rfl (.tmp 7) (.tmp 11) 25 27 (.agg #[(.int .i64 0), (.string ⟨#[]⟩), (.int .i64 0), (.int .i64 0)]) 4 40 rfl Try.underlying25 info27 rfl (by decide) (by omega) (.slice ao l0.length cv) l0.length (tcells l0) (.slice (some ⟨w6.heap.size, 0, none⟩) 3 3) 3 (tcells marks3) rfl rfl ?a1 ?a2 ?a3 ?a4 ?_)
  case a1 => exact RowAt.lit w6 _ 27 4 3 (by simp) (by simp [maxLen])
  case a2 => simp [tcells, marks3, Value.oneCell']
  case a3 => exact World.ownsRow.alloc (show w6.ownsRow 0 27 4 (.slice ao l0.length cv) l0.length (tcells l0) from HO.out.get 0 rfl) _
  case a4 => have := HL.out; omega
  intro v8 w8 hown hk hf _
  have HA6 := HO.out.keeps0 ((Keeps.refl [] w6).alloc (.cells (tcells marks3).toArray 27))
  obtain ⟨h8, hb8⟩ := HA6.row 0 rfl hown hk (by simpa using hf)
  obtain ⟨g, cap, rfl, hrow⟩ := own_some hown (by omega)
  have hcap : l0.length + 3 ≤ cap := by
    rcases hrow.2 with ⟨h1, _⟩ | ⟨g', cap', cur, h1, _, _, h4, _⟩
    · cases h1
    · cases h1; exact h4
  have HP := Lib.hid (show LaidPost l0 w (.returned (.slice (some ⟨g, 0, none⟩) l0.length cap)) w8 from ⟨_, _, hcap, rfl, by
    refine tk_R ?_
    have e1 : tkT (.slice (some ⟨g, 0, none⟩) (l0.length + 3) cap) (l0 ++ marks3) = rowT (.slice (some ⟨g, 0, none⟩) (l0.length + 3) cap) 27 4 (l0.length + 3) (tcells l0 ++ tcells marks3) := by simp [tkT, tcells_append, marks3]
    rw [e1]
    exact h8, HB.out.trans (((Below.refl w6.heap.size w6).alloc (Nat.le_refl _) _).mono HB.out.size |>.trans hb8)⟩)
  obtain ⟨i0, hi0, _⟩ := info_parts info27
  have hcut := cut_to (P := Try.prog) 25 27 .i64 Try.underlying25 hi0 (some ⟨g, 0, none⟩) (l0.length + 3) cap (l0.length : Int) (by omega) (by omega) hcap
  rw [Int.toNat_natCast] at hcut
  clear hown hk hf h8 hb8 HA6 hrow hi0 hcap
  go_wp2
  go_ret
  exact HP.out
theorem same_self (l : List S27) (hn : l.length ≤ 9223372036854775806) : ∃ k, kilnref11_Same.f k l l = some true := by
  have key : ∀ (d k : Nat) (i : Int), 0 ≤ i → i ≤ l.length → (l.length : Int) - i = d → d < k → kilnref11_Same.l0 k l l i = some true := by
    intro d
    induction d with
    | zero =>
      intro k i h0 h1 h2 h3
      obtain ⟨k, rfl⟩ : ∃ m, k = m + 1 := ⟨k - 1, by omega⟩
      simp only [kilnref11_Same.l0]
      rw [if_neg (by omega)]
    | succ d ih =>
      intro k i h0 h1 h2 h3
      obtain ⟨k, rfl⟩ : ∃ m, k = m + 1 := ⟨k - 1, by omega⟩
      have hw : wrap64 (i + 1) = i + 1 := by unfold wrap64; omega
      have := ih k (i + 1) (by omega) (by omega) (by omega) (by omega)
      rw [← hw] at this
      simp only [kilnref11_Same.l0]
      rw [if_pos (by omega)]
      repeat' first | rw [if_pos h0] | rw [if_pos (show i < (l.length : Int) by omega)]
      simp [this]
  refine ⟨l.length + 1, ?_⟩
  unfold kilnref11_Same.f
  rw [if_pos rfl]
  exact key l.length _ 0 (by omega) (by omega) (by omega) (by omega)
attribute [local go_sem high] eqA27
set_option maxHeartbeats 8000000 in
set_option maxRecDepth 100000 in
theorem intact_calls (ad : Addr) (c : Nat) (A0 : Option Addr) (c0 : Nat) (l0 : List S27) (W : World) (hc : l0.length + 3 ≤ c) (hR : Kd.C k27 W (some ad) (l0 ++ marks3).length (l0 ++ marks3)) (hr0 : Kd.C k27 W A0 l0.length l0) (hl : l0.length ≤ 1000000000) (hc0 : l0.length ≤ c0) :
    Calls Try.prog 28 #[.slice (some ad) l0.length c, .slice A0 l0.length c0] W fun e w' => e = .returned (.bool true) ∧ Drawn0 W w' := by
  obtain ⟨k, hs⟩ := same_self l0 (by omega)
  have hT := Kd.C_take (m := l0.length) hR (by simp)
  rw [List.take_left] at hT
  have hD := Kd.C_drop (c := c) (m := l0.length) hR (by simp) (by simpa [marks3] using hc)
  rw [List.drop_left, if_neg (by omega)] at hD
  obtain ⟨i0, hi0, _, hsz, _⟩ := info_parts info27
  have hcut1 := cut_cap (P := Try.prog) 25 27 .i64 Try.underlying25 hi0 (some ad) l0.length c ((l0.length : Int) + 3) (by omega) (by omega)
  have hcut2 := cut_from (P := Try.prog) 25 27 .i64 Try.underlying25 hi0 4 hsz (some ad) (l0.length + 3) c (l0.length : Int) (by omega) (by omega)
  rw [show ((l0.length : Int) + 3).toNat = l0.length + 3 by omega] at hcut1
  rw [Int.toNat_natCast, if_neg (by omega), show l0.length + 3 - l0.length = 3 by omega] at hcut2
  have HS := Lib.hid hs
  have HT := Lib.hid hT
  have HD := Lib.hid hD
  have H0 := Lib.hid hr0
  have HC := Lib.hid hc
  have HC0 := Lib.hid hc0
  have hl2 : (l0.length : Int) ≤ 1000000000 := by omega
  clear hs hT hD hR hr0 hi0 hsz hc hc0 hl
  go_enter Try.func28, Try.ntmps28
  go_wp2_with fail
  refine (kilnref11_Same.calls k (some ad) c l0 A0 c0 l0 true _ HT.out (by have := HC.out; omega) H0.out HC0.out HS.out).mono ?_
  rintro e w2 ⟨rfl, ⟨⟨m2, rfl⟩⟩⟩
  obtain ⟨ad1, e1, x0, x1, x2, x3⟩ := at_T27 (Kd.C_drewN HD.out m2) 0 (by omega) (by simp [marks3])
  cases e1
  obtain ⟨ad1, e1, y0, y1, y2, y3⟩ := at_T27 (Kd.C_drewN HD.out m2) 1 (by omega) (by simp [marks3])
  cases e1
  obtain ⟨ad1, e1, z0, z1, z2, z3⟩ := at_T27 (Kd.C_drewN HD.out m2) 2 (by omega) (by simp [marks3])
  cases e1
  have e4 : k27.sz = 4 := rfl
  have ea : ∀ a : Addr, a.add 0 = a := fun a => by cases a; simp [Addr.add]
  have eb : ∀ (a : Addr) (n : Nat), a.add (n + 1) = ⟨a.block, a.off + (n + 1), none⟩ := fun a n => by cases a; simp [Addr.add]
  have eb4 : ∀ a : Addr, a.add 4 = ⟨a.block, a.off + 4, none⟩ := fun a => eb a 3
  have eb8 : ∀ a : Addr, a.add 8 = ⟨a.block, a.off + 8, none⟩ := fun a => eb a 7
  simp [rd_T27, marks3, e4, ea, eb4, eb8] at x0 x1 x2 x3 y0 y1 y2 y3 z0 z1 z2 z3
  clear e4 ea eb eb4 eb8
  go_wp2
  go_ret
  exact ⟨rfl, ⟨⟨m2, rfl⟩⟩⟩
def kilnlaw11_prints.f (k : Nat) (l0 : List S27) : Option Bool :=
  if l0.length ≤ 1000000000 then ((token_Print.f k l0).bind fun p => ((kilnref11_Print.f k l0).bind fun q => (if p.2 = q.2 then (if p.1.toList = q.1.toList then (some true) else (some false)) else (some false)))) else none
theorem kilnlaw11_prints.mono : ∀ a0 k, LeO (kilnlaw11_prints.f k a0) (kilnlaw11_prints.f (k + 1) a0) := by
  intro a0 k
  unfold kilnlaw11_prints.f
  exact LeO.ite (LeO.bind (token_Print.mono _ _) fun _ => LeO.bind (kilnref11_Print.mono _ _) fun _ => LeO.refl _) (LeO.refl _)
def PrsPost (r : Bool) (w : World) (e : Ending) (w' : World) : Prop := e = .returned (.bool r) ∧ Below w.heap.size w w'
set_option maxHeartbeats 8000000 in
set_option maxRecDepth 100000 in
theorem prints_calls (k : Nat) (A0 : Option Addr) (c0 : Nat) (l0 : List S27) (r : Bool) (w : World) (hr0 : Kd.C k27 w A0 l0.length l0) (hc0 : l0.length ≤ c0) (h : kilnlaw11_prints.f k l0 = some r) :
    Calls Try.prog 19 #[.slice A0 l0.length c0] w (PrsPost r w) := by
  unfold kilnlaw11_prints.f at h
  by_cases hl : l0.length ≤ 1000000000
  · rw [if_pos hl] at h
    cases hp : token_Print.f k l0 with
    | none => rw [hp] at h; cases h
    | some p =>
      rw [hp] at h
      simp only [Option.bind_some] at h
      cases hq : kilnref11_Print.f k l0 with
      | none => rw [hq] at h; cases h
      | some q =>
        rw [hq] at h
        simp only [Option.bind_some] at h
        obtain ⟨p1, p2⟩ := p
        obtain ⟨q1, q2⟩ := q
        simp only at h
        have HP := Lib.hid hp
        have HQ := Lib.hid hq
        have H := Lib.hid h
        have HR := Lib.hid hr0
        have HC := Lib.hid hc0
        have HL := Lib.hid hl
        clear hp hq h hr0 hc0 hl
        go_enter Try.func19, Try.ntmps19
        go_wp2_with fail
        refine (laid_calls A0 c0 l0 w HR.out HL.out).mono ?_
        rintro e w1 ⟨A, c, hc, rfl, hR, hb1⟩
        have hC := (Kd.R_reads' hR).2.2
        obtain ⟨ad, e1, _⟩ := at_T27 hC 0 (by omega) (by simp [marks3]; omega)
        subst e1
        have HCA := Lib.hid hC
        have HB1 := Lib.hid hb1
        have HCC := Lib.hid hc
        clear hR hC hb1 hc
        go_wp2_with fail
        have hT := Kd.C_take (m := l0.length) HCA.out (by simp)
        rw [List.take_left] at hT
        refine (token_Print.calls k (some ad) c l0 p1 p2 w1 hT (by have := HCC.out; omega) HP.out).mono ?_
        rintro e w2 ⟨rfl, hb2⟩
        have HB2 := Lib.hid hb2
        have HBB := Lib.hid (HB1.out.trans (hb2.mono HB1.out.size))
        clear hT hb2
        go_wp2_with fail
        refine (kilnref11_Print.calls k A0 c0 l0 q1 q2 w2 (Kd.C_below HR.out HBB.out) HC.out HQ.out).mono ?_
        rintro e w3 ⟨rfl, hb3⟩
        have HB3 := Lib.hid (HBB.out.trans (hb3.mono HBB.out.size))
        have HCI := Lib.hid (Kd.C_below (Kd.C_below HCA.out HB2.out) hb3)
        clear hb3
        have h := H.out
        by_cases d1 : p2 = q2
        · rw [if_pos d1] at h
          have d1b : (p2 == q2) = true := by simpa using d1
          by_cases d2 : p1.toList = q1.toList
          · rw [if_pos d2] at h
            have d2b : (p1.toList == q1.toList) = true := by simpa using d2
            simp only [Option.some.injEq] at h
            subst h
            clear d1 d2
            go_wp2_with fail
            refine (intact_calls ad c A0 c0 l0 w3 HCC.out HCI.out (Kd.C_below HR.out HB3.out) HL.out HC.out).mono ?_
            rintro e w4 ⟨rfl, ⟨⟨m4, rfl⟩⟩⟩
            have HF := Lib.hid (show PrsPost true w (.returned (.bool true)) (w3.drewN m4) from ⟨rfl, below_dn HB3.out⟩)
            go_wp2
            go_ret
            exact HF.out
          · rw [if_neg d2] at h
            have d2b : (p1.toList == q1.toList) = false := by simpa using d2
            simp only [Option.some.injEq] at h
            subst h
            have HF := Lib.hid (show PrsPost false w (.returned (.bool false)) w3 from ⟨rfl, HB3.out⟩)
            clear d1 d2
            go_wp2
            go_ret
            exact HF.out
        · rw [if_neg d1] at h
          have d1b : (p2 == q2) = false := by simpa using d1
          simp only [Option.some.injEq] at h
          subst h
          have HF := Lib.hid (show PrsPost false w (.returned (.bool false)) w3 from ⟨rfl, HB3.out⟩)
          clear d1
          go_wp2
          go_ret
          exact HF.out
  · rw [if_neg hl] at h
    cases h
theorem kilnlaw11_prints.calls (k : Nat) (A0 : Option Addr) (c0 : Nat) (l0 : List S27) (r : Bool) (w : World) (hr0 : Kd.C k27 w A0 l0.length l0) (hc0 : l0.length ≤ c0) (h : kilnlaw11_prints.f k l0 = some r) :
    Calls Try.prog 19 #[.slice A0 l0.length c0] w fun e w' => e = .returned (.bool r) ∧ Below w.heap.size w w' := prints_calls k A0 c0 l0 r w hr0 hc0 h

end Go.Proofs.Ytnmmapjcphefpaa.G
