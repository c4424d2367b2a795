-- Printed by wip/graft.py out of the translation, over the kit's print; contracts that it lacks are given by hand.
import Derived.Test.YtnmmapjcphefpaaGx0
import Derived.Test.YtnmmapjcphefpaaKit4
import Derived.Deep.RegionLaw
import Derived.IntWalk
namespace Go.Proofs.Ytnmmapjcphefpaa.G
open Go.RowKit Go.Proofs.YtnmmapjcphefpaaW.PrintWords Go.Proofs.YtnmmapjcphefpaaW.PrintLast Go.Proofs.YtnmmapjcphefpaaW.PrintMore
attribute [local go_sem] max2_int min2_int max_two min_two max_three min_three max_four min_four   -- for this text's walks alone
set_option linter.unusedVariables false
set_option linter.unusedSimpArgs false

/-- GRAFT kilnref11_Quote: function 18, by hand. -/
theorem graft_kilnref11_Quote : True := trivial
def digs : ByteArray := ⟨#[48, 49, 50, 51, 52, 53, 54, 55, 56, 57, 97, 98, 99, 100, 101, 102]⟩
def kilnref11_Quote.l0 : Nat → ByteArray → List Int → Int → Option ByteArray
  | 0, _, _, _ => none
  | k + 1, s, out, i => if out.length < 100000000000 then (if i < (s.size : Int) then (if 0 ≤ i then (if bt s i = 34 then (kilnref11_Quote.l0 k s (out ++ [92, 34]) (wrap64 (i + 1))) else (if bt s i = 92 then (kilnref11_Quote.l0 k s (out ++ [92, 92]) (wrap64 (i + 1))) else (if bt s i = 10 then (kilnref11_Quote.l0 k s (out ++ [92, 110]) (wrap64 (i + 1))) else (if bt s i < 32 then (kilnref11_Quote.l0 k s (out ++ [92, 120, bt digs (bt s i / 16), bt digs (bt s i % 16)]) (wrap64 (i + 1))) else (if 126 < bt s i then (kilnref11_Quote.l0 k s (out ++ [92, 120, bt digs (bt s i / 16), bt digs (bt s i % 16)]) (wrap64 (i + 1))) else (kilnref11_Quote.l0 k s (out ++ [bt s i]) (wrap64 (i + 1)))))))) else none) else (some (strOfNums (out ++ [34])))) else none
def kilnref11_Quote.f (k : Nat) (a0 : ByteArray) : Option ByteArray := kilnref11_Quote.l0 k a0 [34] 0
theorem kilnref11_Quote.mono_l : ∀ k s out i, LeO (kilnref11_Quote.l0 k s out i) (kilnref11_Quote.l0 (k + 1) s out i) := by
  intro k
  induction k with
  | zero => intro s out i r h; simp [kilnref11_Quote.l0] at h
  | succ k ih =>
    intro s out i
    rw [kilnref11_Quote.l0, kilnref11_Quote.l0]
    repeat' first | exact ih _ _ _ | exact LeO.refl _ | refine LeO.ite ?_ ?_
theorem kilnref11_Quote.mono : ∀ a0 k, LeO (kilnref11_Quote.f k a0) (kilnref11_Quote.f (k + 1) a0) := fun a0 k => kilnref11_Quote.mono_l k a0 [34] 0
def qbT (v : Value) (t : List Int) : Thing := rowT v 5 1 t.length (nums .u8 t)
def HasQ (B : Nat) (w : World) (L : List Thing) (wr : World) : Prop := Has B wr L ∧ Below B w wr
theorem hq_new {B : Nat} {w wr w1 : World} {v v1 : Value} {t u : List Int} (h : HasQ B w [qbT v t] wr) (hown : w1.ownsRow 0 5 1 v1 (t.length + u.length) (nums .u8 t ++ nums .u8 u)) (hk : Keeps v.ownBlock.toList wr w1) (hf : ∀ k, v1.ownBlock = some k → v.ownBlock = some k ∨ wr.heap.size ≤ k) : HasQ B w [qbT v1 (t ++ u)] w1 := by
  obtain ⟨h1, hb1⟩ := h.1.row 0 rfl hown hk hf
  refine ⟨?_, h.2.trans hb1⟩
  have e9 : qbT v1 (t ++ u) = rowT v1 5 1 (t.length + u.length) (nums .u8 t ++ nums .u8 u) := by simp [qbT, nums]
  rw [e9]
  exact h1
/-- a literal of bytes, just made, as a row -/
theorem lit_own (W : World) (u : List Int) (hu : u.length ≤ 9223372036854775807) : (W.alloc (.cells (nums .u8 u).toArray 5)).ownsRow 0 5 1 (.slice (some ⟨W.heap.size, 0, none⟩) u.length u.length) u.length (nums .u8 u) := by
  refine ⟨by simp [nums], .inr ⟨W.heap.size, u.length, (nums .u8 u).toArray, rfl, Nat.zero_le _, StrAt.new _ _ _, Nat.le_refl _, by simpa [maxLen] using hu, by simp [nums], by simp only [Nat.mul_one]; exact List.take_of_length_le (by simp [nums])⟩⟩
theorem hq_al {B : Nat} {w wr : World} {L : List Thing} (h : HasQ B w L wr) (o : Obj) : HasQ B w L (wr.alloc o) := ⟨h.1.keeps0 ((Keeps.refl [] wr).alloc o), h.2.trans (keeps_below ((Keeps.refl [] wr).alloc o) (by simp) h.1.le)⟩
theorem hq_dr {B : Nat} {w wr : World} {L : List Thing} (h : HasQ B w L wr) : HasQ B w L wr.drew := ⟨h.1.keeps0 ((Keeps.refl [] wr).drew), h.2.trans (keeps_below ((Keeps.refl [] wr).drew) (by simp) h.1.le)⟩
def QPost (r : ByteArray) (w : World) (e : Ending) (w' : World) : Prop := e = .returned (.string r) ∧ Below w.heap.size w w'
set_option maxHeartbeats 16000000 in
set_option maxRecDepth 100000 in
theorem quote_calls (k : Nat) (a0 : ByteArray) (r : ByteArray) (w : World) (h : kilnref11_Quote.f k a0 = some r) :
    Calls Try.prog 18 #[.string a0] w (QPost r w) := by
  have HA := Lib.hid (show kilnref11_Quote.l0 k a0 [34] 0 = some r from h)
  obtain ⟨H1, hB1⟩ := (Has.nil w.heap.size w (Nat.le_refl _)).cons (t' := qbT (.slice (some ⟨w.heap.size, 0, none⟩) 1 1) [34]) ((Keeps.refl [] _).alloc (.cells #[.int .u8 34] 5)) (lit_own w [34] (by simp)) (rowT_nodup ..) (fun k hk => by simp [qbT, rowT, Value.ownBlock] at hk; omega)
  have HB := Lib.hid (show HasQ w.heap.size w [qbT (.slice (some ⟨w.heap.size, 0, none⟩) 1 1) [34]] (w.alloc (.cells #[.int .u8 34] 5)) from ⟨H1, hB1⟩)
  clear h H1 hB1
  go_enter Try.func18, Try.ntmps18
  go_wp2_with fail
  go_loopg [3, 4] k (fun q s3 s4 wr => ∃ (out : List Int) (i : Int), s4 = .int .i64 i ∧ Hid (kilnref11_Quote.l0 q a0 out i = some r) ∧ Hid (HasQ w.heap.size w [qbT s3 out] wr))
  case atStart => exact ⟨[34], 0, rfl, HA, HB⟩
  case round =>
    clear HA HB
    obtain ⟨out, x, rfl, HA, HB⟩ := hrel
    cases gk with
    | zero => exact absurd HA.out (by simp [kilnref11_Quote.l0])
    | succ k1 =>
      have hA := HA.out
      clear HA
      simp only [kilnref11_Quote.l0] at hA
      by_cases c4 : out.length < 100000000000
      · rw [if_pos c4] at hA
        have C4 := Lib.hid c4
        clear c4
        by_cases c5 : x < (a0.size : Int)
        · rw [if_pos c5] at hA
          by_cases c6 : 0 ≤ x
          · rw [if_pos c6] at hA
            have c5b0 : decide (x < (a0.size : Int)) = true := decide_eq_true c5
            have c6b0 : decide (0 ≤ x) = true := decide_eq_true c6
            have p6 := eq_true c6
            have q6 := eq_true c5
            have hx := bt_at a0 x
            have BR := Lib.hid (bt_range a0 x)
            clear c5 c6
            generalize bt a0 x = c at *
            by_cases d1 : c = 34
            · rw [if_pos d1] at hA
              subst d1
              have HA := Lib.hid hA
              clear hA
              go_wp2_with (at_builtin; refine wp_append_any rfl _ _ 37 5 (.int .u8 0) 1 1 rfl Try.underlying37 info5 rfl (by omega) (by omega) u3 out.length (nums .u8 out) (.slice (some ⟨wr.heap.size, 0, none⟩) 2 2) 2 (nums .u8 [92, 34]) rfl rfl (lit_own wr [92, 34] (by simp)) ?d1 ((hq_al HB.out _).1.get 0 rfl) ?d2 ?_)
              case d1 => simp [nums, Value.oneCell']
              case d2 => have := C4.out; omega
              intro v6 w6 hown6 hk6 hf6 _
              have HN := Lib.hid (hq_new (u := [92, 34]) (hq_al HB.out _) hown6 hk6 (by simpa using hf6))
              clear hown6 hk6 hf6
              go_wp2
              go_roundg k1
              case measure => omega
              case rel => exact ⟨_, _, rfl, HA, HN⟩
            · rw [if_neg d1] at hA
              have d1b : (c == 34) = false := by simpa using d1
              clear d1
              by_cases d2 : c = 92
              · rw [if_pos d2] at hA
                subst d2
                have HA := Lib.hid hA
                clear hA
                go_wp2_with (at_builtin; refine wp_append_any rfl _ _ 37 5 (.int .u8 0) 1 1 rfl Try.underlying37 info5 rfl (by omega) (by omega) u3 out.length (nums .u8 out) (.slice (some ⟨wr.heap.size, 0, none⟩) 2 2) 2 (nums .u8 [92, 92]) rfl rfl (lit_own wr [92, 92] (by simp)) ?d1 ((hq_al HB.out _).1.get 0 rfl) ?d2 ?_)
                case d1 => simp [nums, Value.oneCell']
                case d2 => have := C4.out; omega
                intro v6 w6 hown6 hk6 hf6 _
                have HN := Lib.hid (hq_new (u := [92, 92]) (hq_al HB.out _) hown6 hk6 (by simpa using hf6))
                clear hown6 hk6 hf6
                go_wp2
                go_roundg k1
                case measure => omega
                case rel => exact ⟨_, _, rfl, HA, HN⟩
              · rw [if_neg d2] at hA
                have d2b : (c == 92) = false := by simpa using d2
                clear d2
                by_cases d3 : c = 10
                · rw [if_pos d3] at hA
                  subst d3
                  have HA := Lib.hid hA
                  clear hA
                  go_wp2_with (at_builtin; refine wp_append_any rfl _ _ 37 5 (.int .u8 0) 1 1 rfl Try.underlying37 info5 rfl (by omega) (by omega) u3 out.length (nums .u8 out) (.slice (some ⟨wr.heap.size, 0, none⟩) 2 2) 2 (nums .u8 [92, 110]) rfl rfl (lit_own wr [92, 110] (by simp)) ?d1 ((hq_al HB.out _).1.get 0 rfl) ?d2 ?_)
                  case d1 => simp [nums, Value.oneCell']
                  case d2 => have := C4.out; omega
                  intro v6 w6 hown6 hk6 hf6 _
                  have HN := Lib.hid (hq_new (u := [92, 110]) (hq_al HB.out _) hown6 hk6 (by simpa using hf6))
                  clear hown6 hk6 hf6
                  go_wp2
                  go_roundg k1
                  case measure => omega
                  case rel => exact ⟨_, _, rfl, HA, HN⟩
                · rw [if_neg d3] at hA
                  have d3b : (c == 10) = false := by simpa using d3
                  clear d3
                  by_cases d4 : c < 32
                  · rw [if_pos d4] at hA
                    have d4b : decide (c < 32) = true := decide_eq_true d4
                    clear d4
                    have HA := Lib.hid hA
                    have w1 : IntKind.u8.wrap (c.tdiv 16) = c / 16 := by rw [IntKind.wrap_u8, Int.tdiv_eq_ediv_of_nonneg BR.out.1]; have := BR.out; omega
                    have w2 : IntKind.u8.wrap (c.tmod 16) = c % 16 := by rw [IntKind.wrap_u8, Int.tmod_eq_emod_of_nonneg BR.out.1]; have := BR.out; omega
                    have w3 : c.tmod 16 = c % 16 := Int.tmod_eq_emod_of_nonneg BR.out.1
                    have g1 : ∀ h : (c / 16).toNat < (⟨#[48, 49, 50, 51, 52, 53, 54, 55, 56, 57, 97, 98, 99, 100, 101, 102]⟩ : ByteArray).size, (((⟨#[48, 49, 50, 51, 52, 53, 54, 55, 56, 57, 97, 98, 99, 100, 101, 102]⟩ : ByteArray)[(c / 16).toNat]'h).toNat : Int) = bt digs (c / 16) := bt_at digs (c / 16)
                    have g2 : ∀ h : (c % 16).toNat < (⟨#[48, 49, 50, 51, 52, 53, 54, 55, 56, 57, 97, 98, 99, 100, 101, 102]⟩ : ByteArray).size, (((⟨#[48, 49, 50, 51, 52, 53, 54, 55, 56, 57, 97, 98, 99, 100, 101, 102]⟩ : ByteArray)[(c % 16).toNat]'h).toNat : Int) = bt digs (c % 16) := bt_at digs (c % 16)
                    have p7 : (0 ≤ c / 16) = True := eq_true (by have := BR.out; omega)
                    have q7 : (c / 16 < 16) = True := eq_true (by have := BR.out; omega)
                    have p8 : (0 ≤ c % 16) = True := eq_true (by omega)
                    have q8 : (c % 16 < 16) = True := eq_true (by omega)
                    clear hA
                    go_wp2_with fail
                    go_region_law (first | (refine step_lit rfl _ _ 37 5 (.int .u8 0) 1 1 rfl Try.underlying37 info5 rfl (by omega) (by omega) u3 out.length (nums .u8 out) 4 #[.int .u8 92, .int .u8 120, .int .u8 (bt digs (c / 16)), .int .u8 (bt digs (c % 16))] rfl rfl (by simp) rfl (by simp [Value.oneCell']) ((hq_dr HB.out).1.get 0 rfl) (by have := C4.out; omega) ?_; intro v6 w6 hown6 hk6 hf6) | fail)
                    all_goals
                      have HN := Lib.hid (hq_new (u := [92, 120, bt digs (c / 16), bt digs (c % 16)]) (hq_dr HB.out) hown6 hk6 (by simpa using hf6))
                      clear hown6 hk6 hf6
                      go_wp2
                      go_roundg k1
                      case measure => omega
                      case rel => exact ⟨_, _, rfl, HA, HN⟩
                  · rw [if_neg d4] at hA
                    have d4b : decide (c < 32) = false := decide_eq_false d4
                    clear d4
                    by_cases d5 : 126 < c
                    · rw [if_pos d5] at hA
                      have d5b : decide (126 < c) = true := decide_eq_true d5
                      clear d5
                      have HA := Lib.hid hA
                      have w1 : IntKind.u8.wrap (c.tdiv 16) = c / 16 := by rw [IntKind.wrap_u8, Int.tdiv_eq_ediv_of_nonneg BR.out.1]; have := BR.out; omega
                      have w2 : IntKind.u8.wrap (c.tmod 16) = c % 16 := by rw [IntKind.wrap_u8, Int.tmod_eq_emod_of_nonneg BR.out.1]; have := BR.out; omega
                      have w3 : c.tmod 16 = c % 16 := Int.tmod_eq_emod_of_nonneg BR.out.1
                      have g1 : ∀ h : (c / 16).toNat < (⟨#[48, 49, 50, 51, 52, 53, 54, 55, 56, 57, 97, 98, 99, 100, 101, 102]⟩ : ByteArray).size, (((⟨#[48, 49, 50, 51, 52, 53, 54, 55, 56, 57, 97, 98, 99, 100, 101, 102]⟩ : ByteArray)[(c / 16).toNat]'h).toNat : Int) = bt digs (c / 16) := bt_at digs (c / 16)
                      have g2 : ∀ h : (c % 16).toNat < (⟨#[48, 49, 50, 51, 52, 53, 54, 55, 56, 57, 97, 98, 99, 100, 101, 102]⟩ : ByteArray).size, (((⟨#[48, 49, 50, 51, 52, 53, 54, 55, 56, 57, 97, 98, 99, 100, 101, 102]⟩ : ByteArray)[(c % 16).toNat]'h).toNat : Int) = bt digs (c % 16) := bt_at digs (c % 16)
                      have p7 : (0 ≤ c / 16) = True := eq_true (by have := BR.out; omega)
                      have q7 : (c / 16 < 16) = True := eq_true (by have := BR.out; omega)
                      have p8 : (0 ≤ c % 16) = True := eq_true (by omega)
                      have q8 : (c % 16 < 16) = True := eq_true (by omega)
                      clear hA
                      go_wp2_with fail
                      go_region_law (first | (refine step_lit rfl _ _ 37 5 (.int .u8 0) 1 1 rfl Try.underlying37 info5 rfl (by omega) (by omega) u3 out.length (nums .u8 out) 4 #[.int .u8 92, .int .u8 120, .int .u8 (bt digs (c / 16)), .int .u8 (bt digs (c % 16))] rfl rfl (by simp) rfl (by simp [Value.oneCell']) ((hq_dr HB.out).1.get 0 rfl) (by have := C4.out; omega) ?_; intro v6 w6 hown6 hk6 hf6) | fail)
                      all_goals
                        have HN := Lib.hid (hq_new (u := [92, 120, bt digs (c / 16), bt digs (c % 16)]) (hq_dr HB.out) hown6 hk6 (by simpa using hf6))
                        clear hown6 hk6 hf6
                        go_wp2
                        go_roundg k1
                        case measure => omega
                        case rel => exact ⟨_, _, rfl, HA, HN⟩
                    · rw [if_neg d5] at hA
                      have d5b : decide (126 < c) = false := decide_eq_false d5
                      have HA := Lib.hid hA
                      clear d5 hA
                      go_wp2_with (at_builtin; refine wp_append_any rfl _ _ 37 5 (.int .u8 0) 1 1 rfl Try.underlying37 info5 rfl (by omega) (by omega) u3 out.length (nums .u8 out) (.slice (some ⟨wr.heap.size, 0, none⟩) 1 1) 1 (nums .u8 [c]) rfl rfl (lit_own wr [c] (by simp)) ?d1 ((hq_al HB.out _).1.get 0 rfl) ?d2 ?_)
                      case d1 => simp [nums, Value.oneCell']
                      case d2 => have := C4.out; omega
                      intro v6 w6 hown6 hk6 hf6 _
                      have HN := Lib.hid (hq_new (u := [c]) (hq_al HB.out _) hown6 hk6 (by simpa using hf6))
                      clear hown6 hk6 hf6
                      go_wp2
                      go_roundg k1
                      case measure => omega
                      case rel => exact ⟨_, _, rfl, HA, HN⟩
          · rw [if_neg c6] at hA
            cases hA
        · rw [if_neg c5] at hA
          have c5b0 : decide (x < (a0.size : Int)) = false := decide_eq_false c5
          clear c5
          simp only [Option.some.injEq] at hA
          subst hA
          go_wp2_with (at_builtin; refine wp_append_any rfl _ _ 37 5 (.int .u8 0) 1 1 rfl Try.underlying37 info5 rfl (by omega) (by omega) u3 out.length (nums .u8 out) (.slice (some ⟨wr.heap.size, 0, none⟩) 1 1) 1 (nums .u8 [34]) rfl rfl (lit_own wr [34] (by simp)) ?d1 ((hq_al HB.out _).1.get 0 rfl) ?d2 ?_)
          case d1 => simp [nums, Value.oneCell']
          case d2 => have := C4.out; omega
          intro v6 w6 hown6 hk6 hf6 _
          have HN := Lib.hid (hq_new (u := [34]) (hq_al HB.out _) hown6 hk6 (by simpa using hf6))
          clear hown6 hk6 hf6
          have hrow : w6.ownsRow 0 5 1 v6 (out ++ [34]).length (nums .u8 (out ++ [34])) := HN.out.1.get 0 rfl
          have hcv := own_string (P := Try.prog) Try.underlying37 Try.underlying5 Try.underlying9 hrow
          clear hrow
          have HP := Lib.hid (show QPost (strOfNums (out ++ [34])) w (.returned (.string (strOfNums (out ++ [34])))) w6 from ⟨rfl, HN.out.2⟩)
          go_wp2
          go_ret
          exact HP.out
      · rw [if_neg c4] at hA
        cases hA
theorem kilnref11_Quote.calls (k : Nat) (a0 : ByteArray) (r : ByteArray) (w : World) (h : kilnref11_Quote.f k a0 = some r) :
    Calls Try.prog 18 #[.string a0] w fun e w' => e = .returned (.string r) ∧ Below w.heap.size w w' := quote_calls k a0 r w h

end Go.Proofs.Ytnmmapjcphefpaa.G
