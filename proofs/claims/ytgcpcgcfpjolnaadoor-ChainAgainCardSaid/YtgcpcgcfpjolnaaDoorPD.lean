import Derived.Test.YtgcpcgcfpjolnaaDoorPC
import Derived.Laws.StructEq
-- Package sha: first, New.
namespace Go.Proofs.YtgcpcgcfpjolnaaDoor.G
open Go.RowKit Go.Proofs.YtgcpcgcfpjolnaaDoorW.PrintWords Go.Proofs.YtgcpcgcfpjolnaaDoorW.PrintLast Go.Proofs.YtgcpcgcfpjolnaaDoorW.PrintMore
set_option linter.unusedVariables false
set_option linter.unusedSimpArgs false
set_option maxRecDepth 10000
def by32 (xs : List Int) : List Value := xs.map (Value.int .u32)
theorem by32_length (xs : List Int) : (by32 xs).length = xs.length := by simp [by32]
theorem by32_get (xs : List Int) (j : Nat) : (by32 xs)[j]? = (xs[j]?).map (Value.int .u32) := by simp [by32]
theorem by32_one (xs : List Int) : ∀ u ∈ by32 xs, u.oneCell' = true := by
  intro u hu
  obtain ⟨x, _, rfl⟩ := List.mem_map.1 hu
  rfl
def H0 : List Int := [1779033703, 3144134277, 1013904242, 2773480762, 1359893119, 2600822924, 528734635, 1541459225]
theorem results_cell {P : Program} {fn : Func} {p : Tmp} {ty : TypeId} (h : fn.results = #[.cell p ty]) (tmps : Array Value) (w : World) (b f : Nat) (hp : tmps.getD p undef = .pointer (some ⟨b, f, none⟩)) (cs : List Value) (hS : w.rangeAt b f cs)
    {d : TypeDesc} (hu : P.underlying ty = some d) (hd : d.isRow = true) (hi : (P.info? ty).map (·.size) = some cs.length) : (results fn tmps).run P w = .ok (.agg cs.toArray) w := by
  have h1 := run_loadVar_mid (P := P) w b f ty cs d hS hu hd hi
  simp only [Array.getD_eq_getD_getElem?] at hp
  simp [results, h, hp, asAddr, h1, Result.andThen]
theorem str_range {w : World} {g : Nat} {T : TypeId} {cs : Array Value} (h : StrAt w g cs T) : w.rangeAt g 0 cs.toList := fun j v hj => by
  rw [Nat.zero_add, h.cell]; simpa using hj
theorem size196 : (Tryd.prog.info? 196).map (·.size) = some 8 := by kernel_rfl
theorem size189 : (Tryd.prog.info? 189).map (·.size) = some 64 := by kernel_rfl
theorem size50 : (Tryd.prog.info? 50).map (·.size) = some 32 := by kernel_rfl
theorem first_calls (w : World) : Calls Tryd.prog 120 #[] w fun e w' => e = .returned (.agg (by32 H0).toArray) ∧ Keeps [] w w' := by
  go_enter Tryd.func120, Tryd.ntmps120
  go_wp2
  refine bodyPost_ret (results_cell rfl _ _ w.heap.size 0 rfl (by32 H0) (str_range (StrAt.new w (by32 H0).toArray 196)) Tryd.underlying196 rfl (by rw [size196]; rfl)) rfl ?_
  exact ⟨rfl, (Keeps.refl _ _).alloc _⟩
def hCells (hs rest : List Int) (n : Int) : Array Value := (by32 hs ++ (by8 rest ++ [Value.int .i64 n])).toArray
theorem new_hash (w : World) : Calls Tryd.prog 95 #[] w fun e w' => ∃ b, e = .returned (.pointer (some ⟨b, 0, none⟩)) ∧ w.heap.size ≤ b ∧ StrAt w' b (hCells H0 (zs 64) 0) 200 ∧ Keeps [] w w' := by
  go_enter Tryd.func95, Tryd.ntmps95
  go_wp2_with (go_at_call 120; refine (first_calls _).mono ?_; rintro e w1 ⟨rfl, k1⟩)
  go_ret
  have e1 : (List.foldl (fun (cs : Array Value) (x : Value × Nat) => cs.setIfInBounds x.snd x.fst) Tryd.zeroCells200 (by32 H0).zipIdx) = hCells H0 (zs 64) 0 := by kernel_rfl
  rw [e1]
  exact ⟨_, rfl, k1.size, StrAt.new _ _ _, k1.alloc _⟩
end Go.Proofs.YtgcpcgcfpjolnaaDoor.G
-- sha.turned.
namespace Go.Proofs.YtgcpcgcfpjolnaaDoor.G
open Go.RowKit Go.Proofs.YtgcpcgcfpjolnaaDoorW.PrintWords Go.Proofs.YtgcpcgcfpjolnaaDoorW.PrintLast Go.Proofs.YtgcpcgcfpjolnaaDoorW.PrintMore
set_option linter.unusedVariables false
set_option linter.unusedSimpArgs false
set_option maxRecDepth 10000
def rotR (x n : Int) : Int := bits .or .u32 (x * 2 ^ (32 - n.toNat) % 4294967296) (x / 2 ^ n.toNat)
theorem rot_calls17 (x : Int) (w : World) : Calls Tryd.prog 134 #[.int .u32 x, .int .i64 (-17)] w fun e w' => e = .returned (.int .u32 (rotR x 17)) ∧ w' = w := by
  have e1 : bits .and .u64 (IntKind.u64.wrap (-17)) 31 = 15 := by decide
  go_enter Tryd.func134, Tryd.ntmps134
  go_wp2
  go_ret
  exact ⟨by simp [rotR], rfl⟩
theorem turned_calls17 (x : Int) (w : World) : Calls Tryd.prog 133 #[.int .u32 x, .int .i64 17] w fun e w' => e = .returned (.int .u32 (rotR x 17)) ∧ w' = w := by
  go_enter Tryd.func133, Tryd.ntmps133
  go_wp2_with (go_at_call 134; refine (rot_calls17 x _).mono ?_; rintro e w' ⟨rfl, rfl⟩)
  go_ret
  exact ⟨rfl, rfl⟩
theorem rot_calls19 (x : Int) (w : World) : Calls Tryd.prog 134 #[.int .u32 x, .int .i64 (-19)] w fun e w' => e = .returned (.int .u32 (rotR x 19)) ∧ w' = w := by
  have e1 : bits .and .u64 (IntKind.u64.wrap (-19)) 31 = 13 := by decide
  go_enter Tryd.func134, Tryd.ntmps134
  go_wp2
  go_ret
  exact ⟨by simp [rotR], rfl⟩
theorem turned_calls19 (x : Int) (w : World) : Calls Tryd.prog 133 #[.int .u32 x, .int .i64 19] w fun e w' => e = .returned (.int .u32 (rotR x 19)) ∧ w' = w := by
  go_enter Tryd.func133, Tryd.ntmps133
  go_wp2_with (go_at_call 134; refine (rot_calls19 x _).mono ?_; rintro e w' ⟨rfl, rfl⟩)
  go_ret
  exact ⟨rfl, rfl⟩
theorem rot_calls7 (x : Int) (w : World) : Calls Tryd.prog 134 #[.int .u32 x, .int .i64 (-7)] w fun e w' => e = .returned (.int .u32 (rotR x 7)) ∧ w' = w := by
  have e1 : bits .and .u64 (IntKind.u64.wrap (-7)) 31 = 25 := by decide
  go_enter Tryd.func134, Tryd.ntmps134
  go_wp2
  go_ret
  exact ⟨by simp [rotR], rfl⟩
theorem turned_calls7 (x : Int) (w : World) : Calls Tryd.prog 133 #[.int .u32 x, .int .i64 7] w fun e w' => e = .returned (.int .u32 (rotR x 7)) ∧ w' = w := by
  go_enter Tryd.func133, Tryd.ntmps133
  go_wp2_with (go_at_call 134; refine (rot_calls7 x _).mono ?_; rintro e w' ⟨rfl, rfl⟩)
  go_ret
  exact ⟨rfl, rfl⟩
theorem rot_calls18 (x : Int) (w : World) : Calls Tryd.prog 134 #[.int .u32 x, .int .i64 (-18)] w fun e w' => e = .returned (.int .u32 (rotR x 18)) ∧ w' = w := by
  have e1 : bits .and .u64 (IntKind.u64.wrap (-18)) 31 = 14 := by decide
  go_enter Tryd.func134, Tryd.ntmps134
  go_wp2
  go_ret
  exact ⟨by simp [rotR], rfl⟩
theorem turned_calls18 (x : Int) (w : World) : Calls Tryd.prog 133 #[.int .u32 x, .int .i64 18] w fun e w' => e = .returned (.int .u32 (rotR x 18)) ∧ w' = w := by
  go_enter Tryd.func133, Tryd.ntmps133
  go_wp2_with (go_at_call 134; refine (rot_calls18 x _).mono ?_; rintro e w' ⟨rfl, rfl⟩)
  go_ret
  exact ⟨rfl, rfl⟩
theorem rot_calls6 (x : Int) (w : World) : Calls Tryd.prog 134 #[.int .u32 x, .int .i64 (-6)] w fun e w' => e = .returned (.int .u32 (rotR x 6)) ∧ w' = w := by
  have e1 : bits .and .u64 (IntKind.u64.wrap (-6)) 31 = 26 := by decide
  go_enter Tryd.func134, Tryd.ntmps134
  go_wp2
  go_ret
  exact ⟨by simp [rotR], rfl⟩
theorem turned_calls6 (x : Int) (w : World) : Calls Tryd.prog 133 #[.int .u32 x, .int .i64 6] w fun e w' => e = .returned (.int .u32 (rotR x 6)) ∧ w' = w := by
  go_enter Tryd.func133, Tryd.ntmps133
  go_wp2_with (go_at_call 134; refine (rot_calls6 x _).mono ?_; rintro e w' ⟨rfl, rfl⟩)
  go_ret
  exact ⟨rfl, rfl⟩
theorem rot_calls11 (x : Int) (w : World) : Calls Tryd.prog 134 #[.int .u32 x, .int .i64 (-11)] w fun e w' => e = .returned (.int .u32 (rotR x 11)) ∧ w' = w := by
  have e1 : bits .and .u64 (IntKind.u64.wrap (-11)) 31 = 21 := by decide
  go_enter Tryd.func134, Tryd.ntmps134
  go_wp2
  go_ret
  exact ⟨by simp [rotR], rfl⟩
theorem turned_calls11 (x : Int) (w : World) : Calls Tryd.prog 133 #[.int .u32 x, .int .i64 11] w fun e w' => e = .returned (.int .u32 (rotR x 11)) ∧ w' = w := by
  go_enter Tryd.func133, Tryd.ntmps133
  go_wp2_with (go_at_call 134; refine (rot_calls11 x _).mono ?_; rintro e w' ⟨rfl, rfl⟩)
  go_ret
  exact ⟨rfl, rfl⟩
theorem rot_calls25 (x : Int) (w : World) : Calls Tryd.prog 134 #[.int .u32 x, .int .i64 (-25)] w fun e w' => e = .returned (.int .u32 (rotR x 25)) ∧ w' = w := by
  have e1 : bits .and .u64 (IntKind.u64.wrap (-25)) 31 = 7 := by decide
  go_enter Tryd.func134, Tryd.ntmps134
  go_wp2
  go_ret
  exact ⟨by simp [rotR], rfl⟩
theorem turned_calls25 (x : Int) (w : World) : Calls Tryd.prog 133 #[.int .u32 x, .int .i64 25] w fun e w' => e = .returned (.int .u32 (rotR x 25)) ∧ w' = w := by
  go_enter Tryd.func133, Tryd.ntmps133
  go_wp2_with (go_at_call 134; refine (rot_calls25 x _).mono ?_; rintro e w' ⟨rfl, rfl⟩)
  go_ret
  exact ⟨rfl, rfl⟩
theorem rot_calls2 (x : Int) (w : World) : Calls Tryd.prog 134 #[.int .u32 x, .int .i64 (-2)] w fun e w' => e = .returned (.int .u32 (rotR x 2)) ∧ w' = w := by
  have e1 : bits .and .u64 (IntKind.u64.wrap (-2)) 31 = 30 := by decide
  go_enter Tryd.func134, Tryd.ntmps134
  go_wp2
  go_ret
  exact ⟨by simp [rotR], rfl⟩
theorem turned_calls2 (x : Int) (w : World) : Calls Tryd.prog 133 #[.int .u32 x, .int .i64 2] w fun e w' => e = .returned (.int .u32 (rotR x 2)) ∧ w' = w := by
  go_enter Tryd.func133, Tryd.ntmps133
  go_wp2_with (go_at_call 134; refine (rot_calls2 x _).mono ?_; rintro e w' ⟨rfl, rfl⟩)
  go_ret
  exact ⟨rfl, rfl⟩
theorem rot_calls13 (x : Int) (w : World) : Calls Tryd.prog 134 #[.int .u32 x, .int .i64 (-13)] w fun e w' => e = .returned (.int .u32 (rotR x 13)) ∧ w' = w := by
  have e1 : bits .and .u64 (IntKind.u64.wrap (-13)) 31 = 19 := by decide
  go_enter Tryd.func134, Tryd.ntmps134
  go_wp2
  go_ret
  exact ⟨by simp [rotR], rfl⟩
theorem turned_calls13 (x : Int) (w : World) : Calls Tryd.prog 133 #[.int .u32 x, .int .i64 13] w fun e w' => e = .returned (.int .u32 (rotR x 13)) ∧ w' = w := by
  go_enter Tryd.func133, Tryd.ntmps133
  go_wp2_with (go_at_call 134; refine (rot_calls13 x _).mono ?_; rintro e w' ⟨rfl, rfl⟩)
  go_ret
  exact ⟨rfl, rfl⟩
theorem rot_calls22 (x : Int) (w : World) : Calls Tryd.prog 134 #[.int .u32 x, .int .i64 (-22)] w fun e w' => e = .returned (.int .u32 (rotR x 22)) ∧ w' = w := by
  have e1 : bits .and .u64 (IntKind.u64.wrap (-22)) 31 = 10 := by decide
  go_enter Tryd.func134, Tryd.ntmps134
  go_wp2
  go_ret
  exact ⟨by simp [rotR], rfl⟩
theorem turned_calls22 (x : Int) (w : World) : Calls Tryd.prog 133 #[.int .u32 x, .int .i64 22] w fun e w' => e = .returned (.int .u32 (rotR x 22)) ∧ w' = w := by
  go_enter Tryd.func133, Tryd.ntmps133
  go_wp2_with (go_at_call 134; refine (rot_calls22 x _).mono ?_; rintro e w' ⟨rfl, rfl⟩)
  go_ret
  exact ⟨rfl, rfl⟩
def okRot (n : Int) : Bool := n == 17 || (n == 19 || (n == 7 || (n == 18 || (n == 6 || (n == 11 || (n == 25 || (n == 2 || (n == 13 || n == 22))))))))
theorem turned_calls (x n : Int) (w : World) (h : okRot n = true) : Calls Tryd.prog 133 #[.int .u32 x, .int .i64 n] w fun e w' => e = .returned (.int .u32 (rotR x n)) ∧ w' = w := by
  simp only [okRot, Bool.or_eq_true, beq_iff_eq] at h
  rcases h with rfl | rfl | rfl | rfl | rfl | rfl | rfl | rfl | rfl | rfl
  · exact turned_calls17 x w
  · exact turned_calls19 x w
  · exact turned_calls7 x w
  · exact turned_calls18 x w
  · exact turned_calls6 x w
  · exact turned_calls11 x w
  · exact turned_calls25 x w
  · exact turned_calls2 x w
  · exact turned_calls13 x w
  · exact turned_calls22 x w
end Go.Proofs.YtgcpcgcfpjolnaaDoor.G
-- sha.spread.
namespace Go.Proofs.YtgcpcgcfpjolnaaDoor.G
open Go.RowKit Go.Proofs.YtgcpcgcfpjolnaaDoorW.PrintWords Go.Proofs.YtgcpcgcfpjolnaaDoorW.PrintLast Go.Proofs.YtgcpcgcfpjolnaaDoorW.PrintMore
set_option linter.unusedVariables false
set_option linter.unusedSimpArgs false
set_option maxRecDepth 10000
def by32A (xs : List Int) : Array Value := (by32 xs).toArray
theorem cell32 {w : World} {b : Nat} {T : TypeId} {ws : List Int} (h : StrAt w b (by32A ws) T) (j : Nat) (hj : j < ws.length) : w.cell? ⟨b, j, none⟩ = some (.int .u32 (ws.getD j 0)) := by
  rw [h.cell j]
  simp [by32A, by32, List.getD_eq_getElem?_getD, List.getElem?_eq_getElem hj]
theorem set_set_cell {w : World} {b : Nat} {T : TypeId} {cs : Array Value} (h : StrAt w b cs T) (j : Nat) (hj : j < cs.size) (v v2 : Value) : ((w.setCell ⟨b, j, none⟩ v).setCell ⟨b, j, none⟩ v2).cell? ⟨b, j, none⟩ = some v2 := by
  rw [((h.set j v).set j v2).cell j]
  simp [hj]
theorem set32 {w : World} {b : Nat} {T : TypeId} {ws : List Int} (h : StrAt w b (by32A ws) T) (j : Nat) (x : Int) : StrAt (w.setCell ⟨b, j, none⟩ (.int .u32 x)) b (by32A (ws.set j x)) T := by
  have := h.set j (.int .u32 x)
  unfold by32A at this ⊢
  simpa [by32, List.map_set] using this
theorem StrAt_new1 (w : World) (o : Obj) (cs : Array Value) (T : TypeId) : StrAt ((w.alloc o).alloc (.cells cs T)) (w.heap.size + 1) cs T := by
  have := StrAt.new (w.alloc o) cs T
  rwa [show (w.alloc o).heap.size = w.heap.size + 1 by simp] at this
theorem at8 {w : World} {A : Addr} {n : Nat} {xs : List Int} (h : Kd.C (Kd.int .u8) w (some A) n xs) (j : Nat) (hj : j < n) : w.cell? (A.add j) = some (.int .u8 (xs.getD j 0)) := by
  have hl : j < xs.length := by have := h.1; omega
  obtain ⟨ad, e, hc⟩ := read_at h j xs[j] (List.getElem?_eq_getElem hl)
  cases e
  rw [hc]
  simp [List.getD_eq_getElem?_getD, List.getElem?_eq_getElem hl]
theorem sp_rel {W : World} {b T : Nat} {ws : List Int} {V1 V2 : Int} (h : StrAt W b (by32A ((ws.set T V1).set T V2)) 189) (V3 : Int) : StrAt (W.setCell ⟨b, T, none⟩ (.int .u32 V3)) b (by32A (ws.set T V3)) 189 := by
  have := set32 h T V3
  rwa [List.set_set, List.set_set] at this
/-- a block's word out of its bytes -/
def word0 (xs : List Int) (t : Nat) : Int := bits .or .u32 (bits .or .u32 (bits .or .u32 (xs.getD (4 * t) 0 % 4294967296 * 16777216 % 4294967296) (xs.getD (4 * t + 1) 0 % 4294967296 * 65536 % 4294967296)) (xs.getD (4 * t + 2) 0 % 4294967296 * 256 % 4294967296)) (xs.getD (4 * t + 3) 0 % 4294967296)
def sp1 (xs : List Int) : Nat → List Int
  | 0 => zs 64
  | t + 1 => (sp1 xs t).set t (word0 xs t)
theorem sp1_length (xs : List Int) (t : Nat) : (sp1 xs t).length = 64 := by
  induction t with
  | zero => simp [sp1, zs]
  | succ t ih => simp [sp1, ih]
def spStep (ws : List Int) (t : Nat) : Int :=
  let x := ws.getD (t - 15) 0
  let y := ws.getD (t - 2) 0
  ((bits .xor .u32 (bits .xor .u32 (rotR y 17) (rotR y 19)) (y / 1024) + (ws.getD (t - 7) 0 + ws.getD (t - 16) 0)) % 4294967296 + bits .xor .u32 (bits .xor .u32 (rotR x 7) (rotR x 18)) (x / 8)) % 4294967296
def sp2 (ws : List Int) : Nat → List Int
  | 0 => ws
  | k + 1 => (sp2 ws k).set (k + 16) (spStep (sp2 ws k) (k + 16))
theorem sp2_length (ws : List Int) (t : Nat) (h : ws.length = 64) : (sp2 ws t).length = 64 := by
  induction t with
  | zero => exact h
  | succ t ih => simp [sp2, ih]
def spreadF (xs : List Int) : List Int := sp2 (sp1 xs 16) 48
theorem spreadF_length (xs : List Int) : (spreadF xs).length = 64 := sp2_length _ _ (sp1_length xs 16)
theorem by32A_size (ws : List Int) : (by32A ws).size = ws.length := by simp [by32A, by32_length]
theorem zs64_size : (by32A (zs 64)).size = 64 := by rw [by32A_size, zs_length]
set_option maxHeartbeats 1000000 in
theorem spread_calls {w : World} {A : Addr} (c : Nat) (xs : List Int) (h : Kd.C (Kd.int .u8) w (some A) 64 xs) :
    Calls Tryd.prog 132 #[.slice (some A) 64 c] w fun e w' => e = .returned (.agg (by32A (spreadF xs))) ∧ Keeps [] w w' := by
  have HX := Lib.hid h
  clear h
  go_enter Tryd.func132, Tryd.ntmps132
  go_wp2
  go_loopw [4, 8] (fun _ i W => ∃ t : Nat, t ≤ 16 ∧ i = .int .i64 (t : Int) ∧ StrAt W (w.heap.size + 1) (by32A (sp1 xs t)) 189 ∧ StrAt W w.heap.size (by32A (zs 64)) 189 ∧ Keeps [] w W) (fun _ i _ => 16 - (intOf i).toNat)
  case atStart => exact ⟨0, by omega, rfl, StrAt_new1 w _ (by32A (zs 64)) _, StrAt.alloc (StrAt.new w (by32A (zs 64)) 189) _, ((Keeps.refl _ _).alloc _).alloc _⟩
  case round =>
    obtain ⟨t, ht, rfl, hw, hr, hk⟩ := hrel
    by_cases hlt : t < 16
    · have hx := C_keeps HX.out hk (by simp)
      obtain ⟨p, hp⟩ : ∃ p, p = 4 * t := ⟨_, rfl⟩
      have e0 : 4 * (t : Int) = (p : Int) := by omega
      have e1 : (p : Int) + 1 = ((p + 1 : Nat) : Int) := by omega
      have e2 : (p : Int) + 2 = ((p + 2 : Nat) : Int) := by omega
      have e3 : (p : Int) + 3 = ((p + 3 : Nat) : Int) := by omega
      have x0 := at8 hx p (by omega)
      have x1 := at8 hx (p + 1) (by omega)
      have x2 := at8 hx (p + 2) (by omega)
      have x3 := at8 hx (p + 3) (by omega)
      have hl := sp1_length xs t
      have y := cell32 hw t (by omega)
      have f := hw.frozen t
      have b1 : ((t : Int) < 64) = True := eq_true (by omega)
      have HE : Hid (word0 xs t = bits .or .u32 (bits .or .u32 (bits .or .u32 (xs.getD p 0 % 4294967296 * 16777216 % 4294967296) (xs.getD (p + 1) 0 % 4294967296 * 65536 % 4294967296)) (xs.getD (p + 2) 0 % 4294967296 * 256 % 4294967296)) (xs.getD (p + 3) 0 % 4294967296)) := by show _ = _; subst hp; rfl
      generalize xs.getD p 0 = v0 at x0 HE
      generalize xs.getD (p + 1) 0 = v1 at x1 HE
      generalize xs.getD (p + 2) 0 = v2 at x2 HE
      generalize xs.getD (p + 3) 0 = v3 at x3 HE
      generalize p + 1 = p1 at e1 x1
      generalize p + 2 = p2 at e2 x2
      generalize p + 3 = p3 at e3 x3
      have q0 : (p : Int) < 64 := by omega
      have q1 : (p1 : Int) < 64 := by omega
      have q2 : (p2 : Int) < 64 := by omega
      have q3 : (p3 : Int) < 64 := by omega
      clear hp hl
      go_wp2
      go_region
      go_wp2
      go_roundw
      case rel => exact ⟨t + 1, by omega, by go_num, by show StrAt _ _ (by32A ((sp1 xs t).set t (word0 xs t))) _; rw [HE.out]; exact set32 hw t _, hr.other (by simp) _, (hk.drew.setCell (.inr (by simp)) _)⟩
      case measure => simp [intOf]; omega
    · have b1 : ((t : Int) < 16) = False := eq_false (by omega)
      have h16 : t = 16 := by omega
      rw [h16] at hw
      clear h16 ht hlt
      go_wp2
      go_loopw [5] (fun i W => ∃ T d : Nat, T = d + 16 ∧ d ≤ 48 ∧ i = .int .i64 (T : Int) ∧ StrAt W (w.heap.size + 1) (by32A (sp2 (sp1 xs 16) d)) 189 ∧ StrAt W w.heap.size (by32A (zs 64)) 189 ∧ Keeps [] w W) (fun i _ => 64 - (intOf i).toNat)
      case atStart => exact ⟨16, 0, by omega, by omega, rfl, hw, hr, hk⟩
      case round =>
        obtain ⟨T, d, hT, hd, rfl, hw, hr, hk⟩ := hrel
        have hl := sp2_length (sp1 xs 16) d (sp1_length xs 16)
        have HSP := Lib.hid (show sp2 (sp1 xs 16) (d + 1) = (sp2 (sp1 xs 16) d).set T (spStep (sp2 (sp1 xs 16) d) T) by rw [hT]; rfl)
        by_cases hlt : d < 48
        · generalize sp2 (sp1 xs 16) d = ws at hl hw HSP
          obtain ⟨a, ha⟩ : ∃ a, T = a + 15 := ⟨T - 15, by omega⟩
          obtain ⟨b, hb⟩ : ∃ b, T = b + 2 := ⟨T - 2, by omega⟩
          obtain ⟨c7, hc⟩ : ∃ c, T = c + 7 := ⟨T - 7, by omega⟩
          have ea : (T : Int) - 15 = (a : Int) := by omega
          have eb : (T : Int) - 2 = (b : Int) := by omega
          have ec : (T : Int) - 7 = (c7 : Int) := by omega
          have ed : (T : Int) - 16 = (d : Int) := by omega
          have ya := cell32 hw a (by omega)
          have yb := cell32 hw b (by omega)
          have yc := cell32 hw c7 (by omega)
          have yd := cell32 hw d (by omega)
          have yT := cell32 hw T (by omega)
          have fT := hw.frozen T
          have HE : Hid (spStep ws T = ((bits .xor .u32 (bits .xor .u32 (rotR (ws.getD b 0) 17) (rotR (ws.getD b 0) 19)) (ws.getD b 0 / 1024) + (ws.getD c7 0 + ws.getD d 0)) % 4294967296 + bits .xor .u32 (bits .xor .u32 (rotR (ws.getD a 0) 7) (rotR (ws.getD a 0) 18)) (ws.getD a 0 / 8)) % 4294967296) := by
            show _ = _
            have h1 : T - 15 = a := by omega
            have h2 : T - 2 = b := by omega
            have h3 : T - 7 = c7 := by omega
            have h4 : T - 16 = d := by omega
            unfold spStep
            rw [h1, h2, h3, h4]
          have KC := Lib.hid (set_set_cell hw T (by simp [by32A, by32_length, hl]; omega))
          have nTa : T ≠ a := by omega
          have nTb : T ≠ b := by omega
          have nTc : T ≠ c7 := by omega
          have nTd : T ≠ d := by omega
          generalize ws.getD a 0 = va at ya HE
          generalize ws.getD b 0 = vb at yb HE
          generalize ws.getD c7 0 = vc at yc HE
          generalize ws.getD d 0 = vd at yd HE
          generalize ws.getD T 0 = vT at yT
          have qa : (a : Int) < 64 := by omega
          have qb : (b : Int) < 64 := by omega
          have qc : (c7 : Int) < 64 := by omega
          have qd : (d : Int) < 64 := by omega
          have qT : (T : Int) < 64 := by omega
          have HT8 := Lib.hid hT
          clear ha hb hc hT hl
          go_wp2
          go_region
          go_wp2_with (go_at_call 133; refine (turned_calls _ _ _ (by decide)).mono ?_; rintro e w' ⟨rfl, rfl⟩)
          go_region
          go_wp2
          obtain ⟨V1, hV1⟩ : ∃ V, V = bits .xor .u32 (bits .xor .u32 (rotR vb 17) (rotR vb 19)) (vb / 1024) := ⟨_, rfl⟩
          obtain ⟨V2, hV2⟩ : ∃ V, V = (V1 + (vc + vd)) % 4294967296 := ⟨_, rfl⟩
          rw [← hV1, ← hV2] at HE
          rw [← hV1, ← hV2]
          obtain ⟨W2, hW2⟩ : ∃ W, W = ((wr.setCell ⟨w.heap.size + 1, T, none⟩ (.int .u32 V1)).setCell ⟨w.heap.size + 1, T, none⟩ (.int .u32 V2)) := ⟨_, rfl⟩
          rw [← hW2]
          have hw2 : StrAt W2 (w.heap.size + 1) (by32A ((ws.set T V1).set T V2)) 189 := by rw [hW2]; exact set32 (set32 hw T V1) T V2
          have hr2 : StrAt W2 w.heap.size (by32A (zs 64)) 189 := by rw [hW2]; exact (hr.other (by simp) _).other (by simp) _
          have hk2 : Keeps [] w W2 := by rw [hW2]; exact (hk.setCell (.inr (by simp)) _).setCell (.inr (by simp)) _
          have k2 : W2.cell? ⟨w.heap.size + 1, T, none⟩ = some (.int .u32 V2) := by rw [hW2]; exact KC.out _ _
          have f2 := hw2.frozen T
          clear hW2 hw hr hk ya yb yc yd yT fT KC hV1 hV2 ea eb ec ed qa qb qc qd nTa nTb nTc nTd
          have HW2 := Lib.hid hw2
          have HR2 := Lib.hid hr2
          have HK2 := Lib.hid hk2
          clear hw2 hr2 hk2
          go_region_law (first | (go_simp; go_at_call 133; refine (turned_calls _ _ _ (by decide)).mono ?_; rintro e w' ⟨rfl, rfl⟩) | fail)
          all_goals go_wp2
          all_goals go_roundw
          case rel =>
            refine ⟨T + 1, d + 1, by have := HT8.out; omega, by omega, by go_num, ?_, HR2.out.other (by simp) _, (((HK2.out.setCell (a := ⟨w.heap.size + 1, T, none⟩) (.inr (by simp)) _).drew).drew).drew⟩
            rw [HSP.out, HE.out]
            exact sp_rel HW2.out _
          case measure => simp [intOf]; omega
          case rel =>
            refine ⟨T + 1, d + 1, by have := HT8.out; omega, by omega, by go_num, ?_, HR2.out.other (by simp) _, (((HK2.out.setCell (a := ⟨w.heap.size + 1, T, none⟩) (.inr (by simp)) _).drew).drew).drew⟩
            rw [HSP.out, HE.out]
            exact sp_rel HW2.out _
          case measure => simp [intOf]; omega
          case rel =>
            refine ⟨T + 1, d + 1, by have := HT8.out; omega, by omega, by go_num, ?_, HR2.out.other (by simp) _, (((HK2.out.setCell (a := ⟨w.heap.size + 1, T, none⟩) (.inr (by simp)) _).drew).drew).drew⟩
            rw [HSP.out, HE.out]
            exact sp_rel HW2.out _
          case measure => simp [intOf]; omega
        · obtain rfl : d = 48 := by omega
          obtain rfl : T = 64 := by omega
          have HL := Lib.hid hl
          have hw' : StrAt wr (w.heap.size + 1) (by32A (spreadF xs)) 189 := hw
          have hF := spreadF_length xs
          clear hw hl
          obtain ⟨F, hFF⟩ : ∃ F, F = spreadF xs := ⟨_, rfl⟩
          rw [← hFF] at hw' hF
          have HFF := Lib.hid hFF
          clear hFF
          have hFA := by32A_size F
          rw [hF] at hFA
          have HG := Lib.hid (str_range hw')
          have HTh := Lib.hid (StrAt_there hr 0 (by32A F).size (by rw [hFA, zs64_size]; exact Nat.le_refl _))
          have HSz := Lib.hid (show (Tryd.prog.info? 189).map (·.size) = some (by32 F).length by rw [size189, by32_length, hF])
          have HSz2 := Lib.hid (show (Tryd.prog.info? 189).map (·.size) = some (by32A F).size by rw [size189, hFA])
          have H1 := Lib.hid (show (by32A F).all (·.oneCell') = true from all_oneCell_toArray (by32_one _))
          have HW9 := Lib.hid (show StrAt (wr.setCells w.heap.size 0 (by32A F).toList) w.heap.size (by32A F) 189 from StrAt_whole hr (by32A F).toList (by rw [Array.length_toList, hFA, zs64_size]))
          have HK9 := Lib.hid (show Keeps [] w (wr.setCells w.heap.size 0 (by32A F).toList) from by
            have := keeps_setCells (S := [w.heap.size]) (g := w.heap.size) (by simp) (by32A F).toList 0 w wr (hk.mono (by simp))
            exact this.mono (by simp))
          clear hw' hr hk hF hFA
          go_wp2_with (first | (refine wpList_load_mid rfl 189 (.tmp 3) rfl (w.heap.size + 1) 0 rfl (by32A F).toList _ HG.out Tryd.underlying189 rfl (by rw [HSz2.out, Array.length_toList]) ?_) | (refine wpList_store_mid rfl 189 (.tmp 2) (.tmp 96) rfl w.heap.size 0 (by32A F) rfl rfl HTh.out HSz2.out H1.out ?_))
          refine bodyPost_ret (results_cell rfl _ _ w.heap.size 0 rfl (by32A F).toList (str_range HW9.out) Tryd.underlying189 rfl (by rw [HSz2.out, Array.length_toList])) rfl ?_
          exact ⟨by rw [HFF.out], HK9.out⟩
end Go.Proofs.YtgcpcgcfpjolnaaDoor.G
-- sha.over.
namespace Go.Proofs.YtgcpcgcfpjolnaaDoor.G
open Go.RowKit Go.Proofs.YtgcpcgcfpjolnaaDoorW.PrintWords Go.Proofs.YtgcpcgcfpjolnaaDoorW.PrintLast Go.Proofs.YtgcpcgcfpjolnaaDoorW.PrintMore
set_option linter.unusedVariables false
set_option linter.unusedSimpArgs false
set_option maxRecDepth 10000
/-- the rows of package sha's table -/
def shaT : List Int := [1116352408, 1899447441, 3049323471, 3921009573, 961987163, 1508970993, 2453635748, 2870763221, 3624381080, 310598401, 607225278, 1426881987, 1925078388, 2162078206, 2614888103, 3248222580, 3835390401, 4022224774, 264347078, 604807628, 770255983, 1249150122, 1555081692, 1996064986, 2554220882, 2821834349, 2952996808, 3210313671, 3336571891, 3584528711, 113926993, 338241895, 666307205, 773529912, 1294757372, 1396182291, 1695183700, 1986661051, 2177026350, 2456956037, 2730485921, 2820302411, 3259730800, 3345764771, 3516065817, 3600352804, 4094571909, 275423344, 430227734, 506948616, 659060556, 883997877, 958139571, 1322822218, 1537002063, 1747873779, 1955562222, 2024104815, 2227730452, 2361852424, 2428436474, 2756734187, 3204031479, 3329325298]
def ShaW (w : World) : Prop := ∀ j, j < 64 → w.cell? ⟨1, j, none⟩ = some (.int .u32 (shaT.getD j 0))
theorem ShaW.keeps {w w' : World} {S : List Nat} (h : ShaW w) (hk : Keeps S w w') (h0 : 1 ∉ S) : ShaW w' := fun j hj => hk.cell (h j hj) h0
theorem _root_.Go.Proofs.YtgcpcgcfpjolnaaDoor.StrAt.drew1 {w : World} {b : Nat} {cs : Array Value} {T : TypeId} (h : StrAt w b cs T) : StrAt w.drew b cs T := h
def Z8 : Array Value := by32A (zs 8)
theorem over_key {w w1 : World} {hs F : List Int} (hF : F.length = 64) (k1 : Keeps [] ((w.alloc (.cells (by32A hs) 196)).alloc (.cells Z8 196)) w1) (W2 : World)
    (hW : (w1.alloc (.cells (by32A (zs 64)) 189)).setCells w1.heap.size 0 (by32A F).toList = W2) :
    StrAt W2 w.heap.size (by32A hs) 196 ∧ StrAt W2 (w.heap.size + 1) Z8 196 ∧ StrAt W2 w1.heap.size (by32A F) 189 ∧ Keeps [] w W2 ∧ w.heap.size + 1 < w1.heap.size ∧ w1.heap.size < W2.heap.size := by
  have hsz : w.heap.size + 1 < w1.heap.size := by have := k1.size; simp at this; omega
  have k2 : Keeps [] w1 W2 := by
    have := keeps_setCells (S := [w1.heap.size]) (g := w1.heap.size) (by simp) (by32A F).toList 0 w1 _ ((Keeps.refl _ _).alloc (.cells (by32A (zs 64)) 189))
    rw [hW] at this
    exact this.mono (by simp)
  have s2 := StrAt_whole (StrAt.new w1 (by32A (zs 64)) 189) (by32A F).toList (by rw [Array.length_toList, by32A_size, hF, zs64_size])
  rw [hW] at s2
  refine ⟨?_, ?_, s2, (((Keeps.refl [] w).alloc _).alloc _).trans' (k1.trans' k2), hsz, s2.lt⟩
  · exact (((StrAt.new w (by32A hs) 196).alloc (.cells Z8 196)).keeps k1 (by simp)).keeps k2 (by simp)
  · exact ((StrAt_new1 w _ Z8 196).keeps k1 (by simp)).keeps k2 (by simp)
theorem over_key2 {W2 : World} {hs : List Int} (hh : hs.length = 8) (W3 : World) (hW : (W2.alloc (.cells Z8 196)).setCells W2.heap.size 0 (by32A hs).toList = W3) : StrAt W3 W2.heap.size (by32A hs) 196 ∧ Keeps [] W2 W3 ∧ W2.heap.size < W3.heap.size := by
  have k2 : Keeps [] W2 W3 := by
    have := keeps_setCells (S := [W2.heap.size]) (g := W2.heap.size) (by simp) (by32A hs).toList 0 W2 _ ((Keeps.refl _ _).alloc (.cells Z8 196))
    rw [hW] at this
    exact this.mono (by simp)
  have s2 := StrAt_whole (StrAt.new W2 Z8 196) (by32A hs).toList (by rw [Array.length_toList, by32A_size, hh]; simp [Z8, by32A_size, zs])
  rw [hW] at s2
  exact ⟨s2, k2, s2.lt⟩
def sumA (s4 s5 s6 x : Int) : Int := (x + bits .xor .u32 (bits .xor .u32 (rotR s4 6) (rotR s4 11)) (rotR s4 25) + bits .xor .u32 (bits .and .u32 s4 s5) (bits .and .u32 (bits .xor .u32 IntKind.u32.max s4) s6)) % 4294967296
def sumB (s0 s1 s2 x : Int) : Int := (x + (bits .xor .u32 (bits .xor .u32 (rotR s0 2) (rotR s0 13)) (rotR s0 22) + bits .xor .u32 (bits .xor .u32 (bits .and .u32 s0 s1) (bits .and .u32 s0 s2)) (bits .and .u32 s1 s2))) % 4294967296
theorem sumB_def (s0 s1 s2 x : Int) : (x + (bits .xor .u32 (bits .xor .u32 (rotR s0 2) (rotR s0 13)) (rotR s0 22) + bits .xor .u32 (bits .xor .u32 (bits .and .u32 s0 s1) (bits .and .u32 s0 s2)) (bits .and .u32 s1 s2))) % 4294967296 = sumB s0 s1 s2 x := rfl
def stepO (s : List Int) (wt kt : Int) : List Int :=
  match s with
  | [s0, s1, s2, s3, s4, s5, s6, s7] =>
    let x := sumA s4 s5 s6 (((s7 + wt) % 4294967296 + kt) % 4294967296)
    [sumB s0 s1 s2 x, s0, s1, s2, (s3 + x) % 4294967296, s4, s5, s6]
  | _ => s
theorem list8 {s : List Int} (h : s.length = 8) : ∃ a b c d e f g i, s = [a, b, c, d, e, f, g, i] := by
  match s, h with
  | [a, b, c, d, e, f, g, i], _ => exact ⟨a, b, c, d, e, f, g, i, rfl⟩
theorem stepO_eq (s0 s1 s2 s3 s4 s5 s6 s7 wt kt : Int) : stepO [s0, s1, s2, s3, s4, s5, s6, s7] wt kt = [sumB s0 s1 s2 (sumA s4 s5 s6 (((s7 + wt) % 4294967296 + kt) % 4294967296)), s0, s1, s2, (s3 + sumA s4 s5 s6 (((s7 + wt) % 4294967296 + kt) % 4294967296)) % 4294967296, s4, s5, s6] := rfl
theorem stepO_length (s : List Int) (wt kt : Int) (h : s.length = 8) : (stepO s wt kt).length = 8 := by
  obtain ⟨a, b, c, d, e, f, g, i, rfl⟩ := list8 h
  rfl
theorem put8 {W : World} {b : Nat} {T : TypeId} {s0 s1 s2 s3 s4 s5 s6 s7 : Int} (h : StrAt W b (by32A [s0, s1, s2, s3, s4, s5, s6, s7]) T) (a0 a1 a2 a3 a4 a5 a6 a7 : Int) :
    StrAt ((((((((W.setCell ⟨b, 0, none⟩ (.int .u32 a0)).setCell ⟨b, 1, none⟩ (.int .u32 a1)).setCell ⟨b, 2, none⟩ (.int .u32 a2)).setCell ⟨b, 3, none⟩ (.int .u32 a3)).setCell ⟨b, 4, none⟩ (.int .u32 a4)).setCell ⟨b, 5, none⟩ (.int .u32 a5)).setCell ⟨b, 6, none⟩ (.int .u32 a6)).setCell ⟨b, 7, none⟩ (.int .u32 a7)) b (by32A [a0, a1, a2, a3, a4, a5, a6, a7]) T :=
  set32 (set32 (set32 (set32 (set32 (set32 (set32 (set32 h 0 a0) 1 a1) 2 a2) 3 a3) 4 a4) 5 a5) 6 a6) 7 a7
theorem kp8 (W : World) (b : Nat) (a0 a1 a2 a3 a4 a5 a6 a7 : Value) :
    Keeps [b] W ((((((((W.setCell ⟨b, 0, none⟩ a0).setCell ⟨b, 1, none⟩ a1).setCell ⟨b, 2, none⟩ a2).setCell ⟨b, 3, none⟩ a3).setCell ⟨b, 4, none⟩ a4).setCell ⟨b, 5, none⟩ a5).setCell ⟨b, 6, none⟩ a6).setCell ⟨b, 7, none⟩ a7) :=
  ((((((((Keeps.refl [b] W).setCell (.inl (by simp)) _).setCell (.inl (by simp)) _).setCell (.inl (by simp)) _).setCell (.inl (by simp)) _).setCell (.inl (by simp)) _).setCell (.inl (by simp)) _).setCell (.inl (by simp)) _).setCell (.inl (by simp)) _
def addU (hs s : List Int) : Nat → List Int
  | 0 => hs
  | i + 1 => (addU hs s i).set i (((addU hs s i).getD i 0 + s.getD i 0) % 4294967296)
theorem addU_length (hs s : List Int) (i : Nat) : (addU hs s i).length = hs.length := by
  induction i with
  | zero => rfl
  | succ i ih => simp [addU, ih]
def rnd (F hs : List Int) : Nat → List Int
  | 0 => hs
  | t + 1 => stepO (rnd F hs t) (F.getD t 0) (shaT.getD t 0)
theorem rnd_length (F hs : List Int) (h : hs.length = 8) (t : Nat) : (rnd F hs t).length = 8 := by
  induction t with
  | zero => exact h
  | succ t ih => exact stepO_length _ _ _ ih
def overF (hs xs : List Int) : List Int := addU hs (rnd (spreadF xs) hs 64) 8
theorem overF_length (hs xs : List Int) (h : hs.length = 8) : (overF hs xs).length = 8 := (addU_length _ _ _).trans h
set_option maxHeartbeats 1000000 in
theorem over_calls {w : World} {A : Addr} (c : Nat) (hs xs : List Int) (hh : hs.length = 8) (h : Kd.C (Kd.int .u8) w (some A) 64 xs) (hT : ShaW w) (hw1 : 1 < w.heap.size) :
    Calls Tryd.prog 121 #[.agg (by32A hs), .slice (some A) 64 c] w fun e w' => e = .returned (.agg (by32A (overF hs xs))) ∧ Keeps [] w w' := by
  obtain ⟨F, hF⟩ : ∃ F, F = spreadF xs := ⟨_, rfl⟩
  have hFl : F.length = 64 := by rw [hF]; exact spreadF_length xs
  have HSP := Lib.hid (show ∀ W, Keeps [] w W → Calls Tryd.prog 132 #[.slice (some A) 64 c] W fun e w' => e = .returned (.agg (by32A F)) ∧ Keeps [] W w' from fun W hk => by rw [hF]; exact spread_calls c xs (C_keeps h hk (by simp)))
  have HF := Lib.hid hF
  have HTT := Lib.hid hT
  have HH := Lib.hid hh
  have HTh := Lib.hid (show ∀ W : World, (W.alloc (.cells (by32A (zs 64)) 189)).there W.heap.size 0 (by32A F).size from fun W => StrAt_there (StrAt.new _ _ _) 0 _ (by rw [by32A_size, hFl, zs64_size]; exact Nat.le_refl _))
  have HSz := Lib.hid (show (Tryd.prog.info? 189).map (·.size) = some (by32A F).size by rw [size189, by32A_size, hFl])
  have H1 := Lib.hid (show (by32A F).all (·.oneCell') = true from all_oneCell_toArray (by32_one _))
  have HFL := Lib.hid hFl
  have HSH1 := Lib.hid (show (Tryd.prog.info? 196).map (·.size) = some (by32A hs).toList.length by rw [size196, Array.length_toList, by32A_size, hh])
  have HSH2 := Lib.hid (show (Tryd.prog.info? 196).map (·.size) = some (by32A hs).size by rw [size196, by32A_size, hh])
  have H2 := Lib.hid (show (by32A hs).all (·.oneCell') = true from all_oneCell_toArray (by32_one _))
  have HTH := Lib.hid (show ∀ W : World, (W.alloc (.cells Z8 196)).there W.heap.size 0 (by32A hs).size from fun W => StrAt_there (StrAt.new _ _ _) 0 _ (by rw [by32A_size, hh]; simp [Z8, by32A_size, zs]))
  clear h hT hh hF hFl
  go_enter Tryd.func121, Tryd.ntmps121
  go_wp2_with (first | (go_at_call 132; refine (HSP.out _ (((Keeps.refl _ _).alloc _).alloc _)).mono ?_; rintro e w1 ⟨rfl, k1⟩; have KEY := Lib.hid (over_key HFL.out k1)) | (refine wpList_store_mid rfl 189 (.tmp 5) (.tmp 12) rfl w1.heap.size 0 (by32A F) rfl rfl (HTh.out w1) HSz.out H1.out ?_; generalize HW : World.setCells _ _ _ _ = W2; obtain ⟨A1, A2, A3, A4, A5, A6⟩ := KEY.out W2 HW; clear HW KEY) | (refine wpList_load_mid rfl 196 (.tmp 2) rfl w.heap.size 0 rfl (by32A hs).toList _ (str_range A1) Tryd.underlying196 rfl HSH1.out ?_; simp only [Array.toArray_toList]) | (refine wpList_store_mid rfl 196 (.tmp 6) (.tmp 13) rfl W2.heap.size 0 (by32A hs) rfl rfl (HTH.out W2) HSH2.out H2.out ?_; generalize HW3 : World.setCells _ _ _ _ = W3; obtain ⟨D1, D2, D3⟩ := over_key2 HH.out W3 HW3; clear HW3))
  have B1 : StrAt W3 w.heap.size (by32A hs) 196 := A1.keeps D2 (by simp)
  have B2 : StrAt W3 (w.heap.size + 1) Z8 196 := A2.keeps D2 (by simp)
  have B3 : StrAt W3 w1.heap.size (by32A F) 189 := A3.keeps D2 (by simp)
  have B4 : Keeps [] w W3 := A4.trans' D2
  clear A1 A2 A3 A4 D2 D3 k1
  have HA5 := Lib.hid A5
  have HA6 := Lib.hid A6
  obtain ⟨sb, hsb⟩ : ∃ sb, sb = W2.heap.size := ⟨_, rfl⟩
  obtain ⟨wb, hwb⟩ : ∃ wb, wb = w1.heap.size := ⟨_, rfl⟩
  obtain ⟨hb, hhb⟩ : ∃ hb, hb = w.heap.size := ⟨_, rfl⟩
  rw [← hsb] at D1 HA6 ⊢
  rw [← hwb] at B3 HA5 HA6 ⊢
  rw [← hhb] at B1 B2 HA5 ⊢
  have HHB := Lib.hid hhb
  clear hsb hwb hhb A5 A6
  go_loopw [14] (fun i W => ∃ t : Nat, t ≤ 64 ∧ i = .int .i64 (t : Int) ∧ StrAt W sb (by32A (rnd F hs t)) 196 ∧ StrAt W hb (by32A hs) 196 ∧ StrAt W (hb + 1) Z8 196 ∧ StrAt W wb (by32A F) 189 ∧ Keeps [] w W) (fun i _ => 64 - (intOf i).toNat)
  case atStart => exact ⟨0, by omega, rfl, D1, B1, B2, B3, B4⟩
  case round =>
    obtain ⟨t, ht, rfl, e1, e2, e3, e4, e5⟩ := hrel
    by_cases hlt : t < 64
    · have b1 : ((t : Int) < 64) = True := eq_true (by omega)
      have yw := cell32 e4 t (by rw [HFL.out]; exact hlt)
      have yk := (HTT.out.keeps e5 (by simp)) t hlt
      have HR := Lib.hid (show rnd F hs (t + 1) = stepO (rnd F hs t) (F.getD t 0) (shaT.getD t 0) from rfl)
      obtain ⟨s0, s1, s2, s3, s4, s5, s6, s7, hs8⟩ := list8 (rnd_length F hs HH.out t)
      rw [hs8] at e1 HR
      have y0 := cell32 e1 0 (by simp)
      have y1 := cell32 e1 1 (by simp)
      have y2 := cell32 e1 2 (by simp)
      have y3 := cell32 e1 3 (by simp)
      have y4 := cell32 e1 4 (by simp)
      have y5 := cell32 e1 5 (by simp)
      have y6 := cell32 e1 6 (by simp)
      have y7 := cell32 e1 7 (by simp)
      simp at y0 y1 y2 y3 y4 y5 y6 y7
      have f0 := e1.frozen 0
      have f1 := e1.frozen 1
      have f2 := e1.frozen 2
      have f3 := e1.frozen 3
      have f4 := e1.frozen 4
      have f5 := e1.frozen 5
      have f6 := e1.frozen 6
      have f7 := e1.frozen 7
      generalize F.getD t 0 = wt at yw HR
      generalize shaT.getD t 0 = kt at yk HR
      have E1 := Lib.hid e1
      have E2 := Lib.hid e2
      have E3 := Lib.hid e3
      have E4 := Lib.hid e4
      have E5 := Lib.hid e5
      clear e1 e2 e3 e4 e5 hs8
      go_wp2
      go_region
      go_wp2
      generalize hX1 : ((s7 + wt) % 4294967296 + kt) % 4294967296 = X1
      have HX1 := Lib.hid hX1
      clear hX1
      go_region_held3 (fun W' => W'.cell? ⟨sb, 4, none⟩ = some (.int .u32 s4)) (first | assumption | exact y4) (first | (go_at_call 133; refine (turned_calls _ _ _ (by decide)).mono ?_; rintro e w' ⟨rfl, rfl⟩) | fail)
      go_wp2
      generalize hX2 : (X1 + bits .xor .u32 (bits .xor .u32 (rotR s4 6) (rotR s4 11)) (rotR s4 25) + bits .xor .u32 (bits .and .u32 s4 s5) (bits .and .u32 (bits .xor .u32 IntKind.u32.max s4) s6)) % 4294967296 = X2
      have HX2 : Hid (sumA s4 s5 s6 X1 = X2) := Lib.hid hX2
      clear hX2
      go_region_held3 (fun W' => W'.cell? ⟨sb, 0, none⟩ = some (.int .u32 s0)) (first | assumption | exact y0) (first | (go_at_call 133; refine (turned_calls _ _ _ (by decide)).mono ?_; rintro e w' ⟨rfl, rfl⟩) | fail)
      go_wp2
      go_roundw
      case rel =>
        rw [sumB_def s0 s1 s2 X2]
        have hx : rnd F hs (t + 1) = [sumB s0 s1 s2 X2, s0, s1, s2, (s3 + X2) % 4294967296, s4, s5, s6] := by
          rw [HR.out, stepO_eq, HX1.out, HX2.out]
        have k8 := kp8 wr sb (.int .u32 (sumB s0 s1 s2 X2)) (.int .u32 s0) (.int .u32 s1) (.int .u32 s2) (.int .u32 ((s3 + X2) % 4294967296)) (.int .u32 s4) (.int .u32 s5) (.int .u32 s6)
        have q5 := HA5.out
        have q6 := HA6.out
        have q7 := HHB.out
        refine ⟨t + 1, by omega, by go_num, ?_, (((E2.out.keeps k8 (by simp; omega)).drew1).drew1).drew1, (((E3.out.keeps k8 (by simp; omega)).drew1).drew1).drew1, (((E4.out.keeps k8 (by simp; omega)).drew1).drew1).drew1, ((((E5.out.trans k8 (by simp; omega)).drew).drew).drew)⟩
        rw [hx]
        exact (((put8 E1.out _ _ _ _ _ _ _ _).drew1).drew1).drew1
      case measure => simp [intOf]; omega
    · have b1 : ((t : Int) < 64) = False := eq_false (by omega)
      have h64 : t = 64 := by omega
      rw [h64] at e1
      have hrl := rnd_length F hs HH.out 64
      obtain ⟨s, hsR⟩ : ∃ s, s = rnd F hs 64 := ⟨_, rfl⟩
      rw [← hsR] at e1 hrl
      have HSS := Lib.hid hsR
      clear hsR
      clear h64 hlt ht
      go_wp2
      go_loopw [105] (fun i W => ∃ t : Nat, t ≤ 8 ∧ i = .int .i64 (t : Int) ∧ StrAt W hb (by32A (addU hs s t)) 196 ∧ StrAt W sb (by32A s) 196 ∧ StrAt W (hb + 1) Z8 196 ∧ Keeps [] w W) (fun i _ => 8 - (intOf i).toNat)
      case atStart => exact ⟨0, by omega, rfl, e2, e1, e3, e5⟩
      case round =>
        obtain ⟨j, hj, rfl, g1, g2, g3, g4⟩ := hrel
        have hul := addU_length hs s j
        rw [HH.out] at hul
        by_cases hlt : j < 8
        · have b2 : ((j : Int) < 8) = True := eq_true (by omega)
          have y1 := cell32 g1 j (by omega)
          have y2 := cell32 g2 j (by omega)
          have fj := g1.frozen j
          have HU := Lib.hid (show addU hs s (j + 1) = (addU hs s j).set j (((addU hs s j).getD j 0 + s.getD j 0) % 4294967296) from rfl)
          generalize addU hs s j = u at g1 y1 HU
          generalize u.getD j 0 = v1 at y1 HU
          generalize s.getD j 0 = v2 at y2 HU
          have G1 := Lib.hid g1
          have G2 := Lib.hid g2
          have G3 := Lib.hid g3
          have G4 := Lib.hid g4
          clear g1 g2 g3 g4 hul
          go_wp2
          go_region
          go_wp2
          go_roundw
          case rel =>
            have q5 := HA5.out
            have q6 := HA6.out
            refine ⟨j + 1, by omega, by go_num, ?_, ((G2.out.other (by simp; omega) _).drew1), ((G3.out.other (by simp) _).drew1), ((G4.out.setCell (a := ⟨hb, j, none⟩) (.inr (by have := HHB.out; simp; omega)) _).drew)⟩
            rw [HU.out]
            exact (set32 G1.out j _).drew1
          case measure => simp [intOf]; omega
        · have b2 : ((j : Int) < 8) = False := eq_false (by omega)
          have h8 : j = 8 := by omega
          rw [h8] at g1 hul
          obtain ⟨G, hG⟩ : ∃ G, G = addU hs s 8 := ⟨_, rfl⟩
          rw [← hG] at g1 hul
          have HGG := Lib.hid hG
          have HG := Lib.hid (str_range g1)
          have HT3 := Lib.hid (StrAt_there g3 0 (by32A G).size (by rw [by32A_size, hul]; simp [Z8, by32A_size, zs]))
          have HS3 := Lib.hid (show (Tryd.prog.info? 196).map (·.size) = some (by32A G).size by rw [size196, by32A_size, hul])
          have HO3 := Lib.hid (show (by32A G).all (·.oneCell') = true from all_oneCell_toArray (by32_one _))
          have HW9 := Lib.hid (StrAt_whole g3 (by32A G).toList (by rw [Array.length_toList, by32A_size, hul]; simp [Z8, by32A_size, zs]))
          have HK9 := Lib.hid (show Keeps [] w (wr.setCells (hb + 1) 0 (by32A G).toList) from by
            have := keeps_setCells (S := [hb + 1]) (g := hb + 1) (by simp) (by32A G).toList 0 w wr (g4.mono (by simp))
            exact this.mono (by have := HHB.out; simp; omega))
          clear g1 g2 g3 g4 hul hG h8
          go_wp2_with (first | (refine wpList_load_mid rfl 196 (.tmp 2) rfl hb 0 rfl (by32A G).toList _ HG.out Tryd.underlying196 rfl (by rw [HS3.out, Array.length_toList]) ?_; simp only [Array.toArray_toList]) | (refine wpList_store_mid rfl 196 (.tmp 4) (.tmp 117) rfl (hb + 1) 0 (by32A G) rfl rfl HT3.out HS3.out HO3.out ?_))
          refine bodyPost_ret (results_cell rfl _ _ (hb + 1) 0 rfl (by32A G).toList (str_range HW9.out) Tryd.underlying196 rfl (by rw [HS3.out, Array.length_toList])) rfl ?_
          refine ⟨?_, HK9.out⟩
          rw [Array.toArray_toList, HGG.out, HSS.out, HF.out]
          rfl
end Go.Proofs.YtgcpcgcfpjolnaaDoor.G
-- A hash's block: read, written over in parts; copy into an array.
namespace Go.Proofs.YtgcpcgcfpjolnaaDoor.G
open Go.RowKit Go.Proofs.YtgcpcgcfpjolnaaDoorW.PrintWords Go.Proofs.YtgcpcgcfpjolnaaDoorW.PrintLast Go.Proofs.YtgcpcgcfpjolnaaDoorW.PrintMore
set_option linter.unusedVariables false
set_option linter.unusedSimpArgs false
set_option maxRecDepth 10000
theorem C_of_range {w : World} {g o : Nat} {xs : List Int} (h : w.rangeAt g o (by8 xs)) (hn : xs.length ≤ 9223372036854775807) : Kd.C (Kd.int .u8) w (some ⟨g, o, none⟩) xs.length xs := by
  refine ⟨rfl, hn, fun _ => ⟨_, rfl, fun j t hj => ⟨_, rfl, rfl, fun i u hu => ?_⟩⟩⟩
  have hi : i < 1 := (List.getElem?_eq_some_iff.1 hu).1
  obtain rfl : i = 0 := by omega
  simp at hu
  subst hu
  have ea : (⟨g, o, none⟩ : Addr).add (j * (Kd.int .u8).sz + 0) = ⟨g, o + j, none⟩ := by
    have e1 : j * (Kd.int .u8).sz + 0 = j := Nat.mul_one j
    rw [e1, Addr.add_mid]
  rw [ea]
  exact h j _ (by rw [by8_get, hj]; rfl)
theorem range_drop {w : World} {g o : Nat} {xs : List Int} (h : w.rangeAt g o (by8 xs)) (k : Nat) : w.rangeAt g (o + k) (by8 (xs.drop k)) := fun j v hj => by
  rw [by8_get, List.getElem?_drop] at hj
  rw [Nat.add_assoc]
  exact h (k + j) v (by rw [by8_get]; exact hj)
theorem range_take {w : World} {g o : Nat} {xs : List Int} (h : w.rangeAt g o (by8 xs)) (k : Nat) : w.rangeAt g o (by8 (xs.take k)) := fun j v hj => by
  rw [by8_get, List.getElem?_take] at hj
  split at hj
  · exact h j v (by rw [by8_get]; exact hj)
  · cases hj
theorem range_keeps {w w' : World} {S : List Nat} {g o : Nat} {cs : List Value} (h : w.rangeAt g o cs) (hk : Keeps S w w') (hg : g ∉ S) : w'.rangeAt g o cs := fun j v hj => hk.cell (h j v hj) hg
theorem hCells_list (hs rest : List Int) (n : Int) : (hCells hs rest n).toList = by32 hs ++ (by8 rest ++ [Value.int .i64 n]) := rfl
theorem hCells_size (hs rest : List Int) (n : Int) (h1 : hs.length = 8) (h2 : rest.length = 64) : (hCells hs rest n).size = 73 := by
  simp [hCells, by32_length, by8_length, h1, h2]
theorem h_words {w : World} {b : Nat} {hs rest : List Int} {n : Int} (h : StrAt w b (hCells hs rest n) 200) : w.rangeAt b 0 (by32 hs) := fun j v hj => by
  rw [Nat.zero_add, h.cell, ← Array.getElem?_toList, hCells_list, List.getElem?_append_left (List.getElem?_eq_some_iff.1 hj).1]
  exact hj
theorem h_rest {w : World} {b : Nat} {hs rest : List Int} {n : Int} (h : StrAt w b (hCells hs rest n) 200) (h1 : hs.length = 8) : w.rangeAt b 8 (by8 rest) := fun j v hj => by
  rw [h.cell, ← Array.getElem?_toList, hCells_list, List.getElem?_append_right (by rw [by32_length]; omega), by32_length, h1, show 8 + j - 8 = j by omega, List.getElem?_append_left (List.getElem?_eq_some_iff.1 hj).1]
  exact hj
theorem h_n {w : World} {b : Nat} {hs rest : List Int} {n : Int} (h : StrAt w b (hCells hs rest n) 200) (h1 : hs.length = 8) (h2 : rest.length = 64) : w.cell? ⟨b, 72, none⟩ = some (.int .i64 n) := by
  rw [h.cell, ← Array.getElem?_toList, hCells_list, List.getElem?_append_right (by rw [by32_length]; omega), by32_length, h1, List.getElem?_append_right (by rw [by8_length]; omega), by8_length, h2]
  rfl
theorem h_set_n {w : World} {b : Nat} {hs rest : List Int} {n : Int} (h : StrAt w b (hCells hs rest n) 200) (h1 : hs.length = 8) (h2 : rest.length = 64) (m : Int) : StrAt (w.setCell ⟨b, 72, none⟩ (.int .i64 m)) b (hCells hs rest m) 200 := by
  have := h.set 72 (.int .i64 m)
  have e : (hCells hs rest n).setIfInBounds 72 (.int .i64 m) = hCells hs rest m := by
    apply Array.toList_inj.1
    rw [Array.toList_setIfInBounds, hCells_list, hCells_list, List.set_append_right _ _ (by rw [by32_length]; omega), by32_length, h1, List.set_append_right _ _ (by rw [by8_length]; omega), by8_length, h2]
    rfl
  rwa [e] at this
theorem h_set_words {w : World} {b : Nat} {hs rest : List Int} {n : Int} (h : StrAt w b (hCells hs rest n) 200) (h1 : hs.length = 8) (h2 : rest.length = 64) (hs' : List Int) (h3 : hs'.length = 8) : StrAt (w.setCells b 0 (by32 hs')) b (hCells hs' rest n) 200 := by
  have := StrAt_setCells (by32 hs') 0 w _ h (by rw [hCells_size _ _ _ h1 h2, by32_length]; omega)
  have e : (putAt (hCells hs rest n).toList 0 (by32 hs')).toArray = hCells hs' rest n := by
    apply Array.toList_inj.1
    rw [hCells_list]
    show putAt (by32 hs ++ (by8 rest ++ [Value.int .i64 n])) 0 (by32 hs') = by32 hs' ++ (by8 rest ++ [Value.int .i64 n])
    have := putAt_mid [] (by32 hs) (by8 rest ++ [Value.int .i64 n]) (by32 hs') 0 rfl (by rw [by32_length, by32_length, h1, h3])
    simpa using this
  rwa [e] at this
theorem h_set_rest {w : World} {b : Nat} {hs rest : List Int} {n : Int} (h : StrAt w b (hCells hs rest n) 200) (h1 : hs.length = 8) (h2 : rest.length = 64) (o : Nat) (cs : List Int) (h3 : o + cs.length ≤ 64) : StrAt (w.setCells b (8 + o) (by8 cs)) b (hCells hs (putAt rest o cs) n) 200 := by
  have := StrAt_setCells (by8 cs) (8 + o) w _ h (by rw [hCells_size _ _ _ h1 h2, by8_length]; omega)
  have e : (putAt (hCells hs rest n).toList (8 + o) (by8 cs)).toArray = hCells hs (putAt rest o cs) n := by
    apply Array.toList_inj.1
    rw [hCells_list]
    show putAt (by32 hs ++ (by8 rest ++ [Value.int .i64 n])) (8 + o) (by8 cs) = _
    have e1 : rest = rest.take o ++ ((rest.drop o).take cs.length ++ rest.drop (o + cs.length)) := by
      rw [← List.drop_drop, List.take_append_drop, List.take_append_drop]
    have e2 : by32 hs ++ (by8 rest ++ [Value.int .i64 n]) = (by32 hs ++ by8 (rest.take o)) ++ (by8 ((rest.drop o).take cs.length) ++ (by8 (rest.drop (o + cs.length)) ++ [Value.int .i64 n])) := by
      conv => lhs; rw [e1]
      simp only [by8_append, List.append_assoc]
    rw [e2, putAt_mid _ _ _ (by8 cs) (8 + o) (by rw [List.length_append, by32_length, by8_length, h1, List.length_take]; omega) (by rw [by8_length, by8_length, List.length_take, List.length_drop]; omega)]
    unfold putAt
    rw [hCells_list]
    simp only [by8_append, List.append_assoc]
  rwa [e] at this
section
variable {P : Program} {ops : Array Oper} {rest : List Oper} {o : Oper} {a : Act} {Q : Exit → Act → World → Prop}
/-- copy, of bytes, into cells that are there -/
theorem oper_copyT {W : World} {K : Act → World → Prop} (d s : Operand) (dT sT e : TypeId)
    (ho : o.op = .call { callee := .builtin .copy, args := #[d, s], argTypes := #[dT, sT] })
    (hu : P.underlying dT = some (.slice e)) (hs : (P.info? e).map (·.size) = some 1) {b off dLen dCap : Nat} (hd : a.eval d = .slice (some ⟨b, off, none⟩) dLen dCap)
    {g f c n : Nat} {xs : List Int} (hn : xs.length = n) (hsl : a.eval s = .slice (some ⟨g, f, none⟩) n c) (hx : W.rangeAt g f (by8 xs)) (ht : W.there b off dLen)
    (hK : K (a.put o.dst (.int .i64 ((min n dLen : Nat) : Int))) (W.setCells b off (by8 (xs.take dLen)))) : Oper.wp P o a W K Q := by
  subst hn
  have hlen : (by8 (xs.take dLen)).length = Nat.min xs.length dLen := by rw [by8_length, List.length_take, Nat.min_comm]
  have hrun : (Builtin.copy_ #[dT, sT] o.type #[.slice (some ⟨b, off, none⟩) dLen dCap, .slice (some ⟨g, f, none⟩) xs.length c]).run P W = .ok (.int .i64 ((min xs.length dLen : Nat) : Int)) (W.setCells b off (by8 (xs.take dLen))) := by
    have hmin : Nat.min xs.length dLen ≤ dLen := Nat.min_le_right _ _
    have := run_copy_cells (P := P) W dT sT o.type e b off dLen dCap ⟨g, f, none⟩ xs.length c (by8 (xs.take dLen)) hu hs hlen
      (fun j v hv => by rw [Addr.add_mid]; exact range_take hx dLen j v hv)
      (fun j hj => by rw [hlen] at hj; exact (ht j (by omega)).1)
      (fun j hj => by rw [hlen] at hj; exact (ht j (by omega)).2) (by8_one _)
    rw [this, hlen]; rfl
  unfold Oper.wp
  simp [execOp, ho, hd, hsl, resolve, invoke, builtin, hrun, Result.andThen]
  exact hK
theorem wp_copyT {W : World} (hgd : o.guard = none) (d s : Operand) (dT sT e : TypeId)
    (ho : o.op = .call { callee := .builtin .copy, args := #[d, s], argTypes := #[dT, sT] })
    (hu : P.underlying dT = some (.slice e)) (hs : (P.info? e).map (·.size) = some 1) {b off dLen dCap : Nat} (hd : a.eval d = .slice (some ⟨b, off, none⟩) dLen dCap)
    {g f c n : Nat} {xs : List Int} (hn : xs.length = n) (hsl : a.eval s = .slice (some ⟨g, f, none⟩) n c) (hx : W.rangeAt g f (by8 xs)) (ht : W.there b off dLen)
    (hK : wpList P ops Q rest (a.put o.dst (.int .i64 ((min n dLen : Nat) : Int))) (W.setCells b off (by8 (xs.take dLen)))) : wpList P ops Q (o :: rest) a W :=
  wpList_plain hgd fun K' hK' => oper_copyT d s dT sT e ho hu hs hd hn hsl hx ht (hK' _ _ hK)
end
section
variable {P : Program} {ops : Array Oper} {o : Oper} {a : Act} {Q : Exit → Act → World → Prop} {w : World} {K : Act → World → Prop} {E : Prop}
theorem step_store_mid (hg : o.guard = none) (ty : TypeId) (x y : Operand) (ho : o.op = .store ty x y)
    (b f : Nat) (cells : Array Value) (hx : a.eval x = .pointer (some ⟨b, f, none⟩)) (hy : a.eval y = .agg cells)
    (ht : w.there b f cells.size) (hi : (P.info? ty).map (·.size) = some cells.size) (h1 : cells.all (·.oneCell') = true)
    (hK : K (a.put o.dst undef) (w.setCells b f cells.toList)) : if Region.wanted o (yielded ops a.tmps) = true then Oper.wp P o a w K Q else E := by
  have hw : Region.wanted o (yielded ops a.tmps) = true := by simp [Region.wanted, hg]
  rw [if_pos hw]
  exact wp_store_mid ty x y ho b f cells hx hy ht hi h1 hK
end
theorem info5s : (Tryd.prog.info? 5).map (·.size) = some 1 := by kernel_rfl
/-- the words behind k blocks -/
def hsK (hs xs : List Int) : Nat → List Int
  | 0 => hs
  | k + 1 => overF (hsK hs xs k) ((xs.drop (64 * k)).take 64)
theorem hsK_length (hs xs : List Int) (h : hs.length = 8) (k : Nat) : (hsK hs xs k).length = 8 := by
  induction k with
  | zero => exact h
  | succ k ih => exact overF_length _ _ ih
end Go.Proofs.YtgcpcgcfpjolnaaDoor.G
-- (*sha.Hash).Write.
namespace Go.Proofs.YtgcpcgcfpjolnaaDoor.G
open Go.RowKit Go.Proofs.YtgcpcgcfpjolnaaDoorW.PrintWords Go.Proofs.YtgcpcgcfpjolnaaDoorW.PrintLast Go.Proofs.YtgcpcgcfpjolnaaDoorW.PrintMore
set_option linter.unusedVariables false
set_option linter.unusedSimpArgs false
set_option maxRecDepth 10000
def tailHs (hs xs : List Int) : List Int := hsK hs xs (xs.length / 64)
def tailRest (rest xs : List Int) : List Int := putAt rest 0 (xs.drop (64 * (xs.length / 64)))
def lenV : Value → Nat
  | .slice _ n _ => n
  | _ => 0
set_option maxHeartbeats 1000000 in
theorem write0 {w : World} {b : Nat} {hs rest : List Int} {n : Nat} (h : StrAt w b (hCells hs rest (n : Int)) 200) (h1 : hs.length = 8) (h2 : rest.length = 64) (hb : 1 < b) (hT : ShaW w) (hn : n % 64 = 0) (g o c : Nat) (xs : List Int) (hx : w.rangeAt g o (by8 xs)) (hg : g ≠ b) (hc : xs.length ≤ c)
    (hl : n + xs.length ≤ 1099511627776) :
    Calls Tryd.prog 96 #[.pointer (some ⟨b, 0, none⟩), .slice (some ⟨g, o, none⟩) xs.length c] w fun e w' => e = .returned (.tuple #[]) ∧ StrAt w' b (hCells (tailHs hs xs) (tailRest rest xs) ((n : Int) + (xs.length : Int))) 200 ∧ Keeps [b] w w' := by
  have yn := h_n h h1 h2
  have fn := h.frozen 72
  have H1 := Lib.hid (h_set_n h h1 h2 ((n : Int) + (xs.length : Int)))
  have H1L := Lib.hid h1
  have H2R := Lib.hid h2
  have HT := Lib.hid hT
  have HX := Lib.hid hx
  clear h hT hx h1 h2
  go_enter Tryd.func96, Tryd.ntmps96
  go_wp2_with fail
  have K1 := Lib.hid ((Keeps.refl [b] w).setCell (a := ⟨b, 72, none⟩) (by simp) (.int .i64 ((n : Int) + (xs.length : Int))))
  generalize w.setCell ⟨b, 72, none⟩ (.int .i64 ((n : Int) + (xs.length : Int))) = w1 at H1 K1 ⊢
  have h1 := H1.out
  have k1 := K1.out
  clear H1 K1 yn fn
  go_loopw [1] (fun v W => ∃ k L C f : Nat, 64 * k + L = xs.length ∧ w.rangeAt g f (by8 (xs.drop (64 * k))) ∧ L ≤ C ∧ v = .slice (some ⟨g, f, none⟩) L C ∧ StrAt W b (hCells (hsK hs xs k) rest ((n : Int) + (xs.length : Int))) 200 ∧ Keeps [b] w W) (fun v _ => lenV v)
  case atStart => exact ⟨0, xs.length, c, o, by omega, HX.out, hc, rfl, h1, k1⟩
  case round =>
    obtain ⟨k, L, C, f, hL, hf, hLC, rfl, H1, HK⟩ := hrel
    have HLK := Lib.hid (hsK_length hs xs H1L.out k)
    have HXK := Lib.hid (show wr.rangeAt g f (by8 (xs.drop (64 * k))) from range_keeps hf HK (by simpa using hg))
    by_cases hlt : 64 ≤ L
    · have b1 : (64 ≤ (L : Int)) = True := eq_true (by omega)
      have b2 : ((64 : Int) ≤ (C : Int)) = True := eq_true (by omega)
      have HK1 := Lib.hid (show hsK hs xs (k + 1) = overF (hsK hs xs k) ((xs.drop (64 * k)).take 64) from rfl)
      have hxl : ((xs.drop (64 * k)).take 64).length = 64 := by simp; omega
      have CX := Lib.hid (show ∀ W, Keeps [b] wr W → Kd.C (Kd.int .u8) W (some ⟨g, f, none⟩) 64 ((xs.drop (64 * k)).take 64) from fun W hk => by
        have := C_of_range (range_take (range_keeps HXK.out hk (by simpa using hg)) 64) (by rw [hxl]; decide)
        rwa [hxl] at this)
      have ST := Lib.hid (show ∀ W, Keeps [b] wr W → ShaW W from fun W hk => (HT.out.keeps HK (by simp; omega)).keeps hk (by simp; omega))
      generalize (xs.drop (64 * k)).take 64 = xk at HK1 CX
      generalize hsK hs xs k = hk at HLK H1 HK1
      have HS1 := Lib.hid (show (Tryd.prog.info? 196).map (·.size) = some (by32A hk).toList.length by rw [size196, Array.length_toList, by32A_size, HLK.out])
      have HS2 := Lib.hid (show (Tryd.prog.info? 196).map (·.size) = some (by32A (overF hk xk)).size by rw [size196, by32A_size, overF_length _ _ HLK.out])
      have HO2 := Lib.hid (show (by32A (overF hk xk)).all (·.oneCell') = true from all_oneCell_toArray (by32_one _))
      have HL := Lib.hid hL
      have HF := Lib.hid hf
      clear hxl hL hf
      go_wp2_with fail
      refine wp_region_any (by kernel_rfl) ?_
      change wpAny _ _ _ _ _ _ _ (World.drew _)
      refine wpAny_take (i := 0) (oi := { dst := some 53, op := Op.move (Operand.tmp 0), type := 168, pos := "sha.go:96", after := #[], guard := none }) (v := ?_) rfl (by kernel_rfl) (by kernel_rfl) (by kernel_rfl) (fun _ _ _ h => h) (Or.inl ⟨by rfl, ?_⟩) ?_
      rotate_left
      · (intro w; go_simp; try with_reducible rfl)
      try simp only [Act.put, List.setIfInBounds_toArray, List.set_cons_zero, List.set_cons_succ]
      refine wpAny_take (i := 1) (oi := { dst := some 54, op := Op.move (Operand.tmp 0), type := 168, pos := "sha.go:96", after := #[], guard := none }) (v := ?_) rfl (by kernel_rfl) (by kernel_rfl) (by kernel_rfl) (fun _ _ _ h => h) (Or.inl ⟨by rfl, ?_⟩) ?_
      rotate_left
      · (intro w; go_simp; try with_reducible rfl)
      try simp only [Act.put, List.setIfInBounds_toArray, List.set_cons_zero, List.set_cons_succ]
      refine wpAny_take (i := 2) (oi := { dst := some 55, op := Op.nilCheck (Operand.tmp 54), type := 0, pos := "sha.go:96", after := #[{ on := 1, ground := Ground.data }], guard := none }) (v := ?_) rfl (by kernel_rfl) (by kernel_rfl) (by kernel_rfl) (fun _ _ _ h => h) (Or.inl ⟨by rfl, ?_⟩) ?_
      rotate_left
      · (intro w; go_simp; try with_reducible rfl)
      try simp only [Act.put, List.setIfInBounds_toArray, List.set_cons_zero, List.set_cons_succ]
      refine wpAny_take (i := 3) (oi := { dst := some 56, op := Op.fieldAddr 200 (Operand.tmp 55) 0, type := 0, pos := "sha.go:96", after := #[{ on := 2, ground := Ground.data }], guard := none }) (v := ?_) rfl (by kernel_rfl) (by kernel_rfl) (by kernel_rfl) (fun _ _ _ h => h) (Or.inl ⟨by rfl, ?_⟩) ?_
      rotate_left
      · (intro w; go_simp; try with_reducible rfl)
      try simp only [Act.put, List.setIfInBounds_toArray, List.set_cons_zero, List.set_cons_succ]
      refine wpAny_take (i := 5) (oi := { dst := some 58, op := Op.move (Operand.tmp 1), type := 22, pos := "sha.go:96", after := #[], guard := none }) (v := ?_) rfl (by kernel_rfl) (by kernel_rfl) (by kernel_rfl) (fun _ _ _ h => h) (Or.inl ⟨by rfl, ?_⟩) ?_
      rotate_left
      · (intro w; go_simp; try with_reducible rfl)
      try simp only [Act.put, List.setIfInBounds_toArray, List.set_cons_zero, List.set_cons_succ]
      refine wpAny_take (i := 6) (oi := { dst := some 59, op := Op.slice 22 (Operand.tmp 58) none (some (Operand.const (Value.int IntKind.i64 64))) none, type := 22, pos := "sha.go:96", after := #[{ on := 5, ground := Ground.data }], guard := none }) (v := ?_) rfl (by kernel_rfl) (by kernel_rfl) (by kernel_rfl) (fun _ _ _ h => h) (Or.inl ⟨by rfl, ?_⟩) ?_
      rotate_left
      · (intro w; go_simp; try with_reducible rfl)
      try simp only [Act.put, List.setIfInBounds_toArray, List.set_cons_zero, List.set_cons_succ]
      refine wpAny_ready (rs := [4]) (by kernel_rfl) (by simp) ?_
      refine AllReady.cons (o := { dst := some 57, op := Op.load 196 (Operand.tmp 56), type := 196, pos := "sha.go:96", after := #[{ on := 3, ground := Ground.data }], guard := none }) rfl (fun K hK => ?_) AllReady.nil
      refine step_load_mid rfl 196 (.tmp 56) rfl b 0 rfl (by32A hk).toList _ (h_words H1.drew1) Tryd.underlying196 rfl HS1.out ?_
      simp only [Array.toArray_toList]
      refine hK _ _ ?_
      clear hK K
      try simp only [Act.put, List.setIfInBounds_toArray, List.set_cons_zero, List.set_cons_succ]
      refine wpAny_ready (rs := [7]) (by kernel_rfl) (by simp) ?_
      refine AllReady.cons (o := { dst := some 60, op := Op.call { callee := Callee.value (Operand.func 121), args := #[Operand.tmp 57, Operand.tmp 59], argTypes := #[196, 22] }, type := 196, pos := "sha.go:96", after := #[{ on := 4, ground := Ground.data }, { on := 6, ground := Ground.data }], guard := none }) rfl (fun K hK => ?_) AllReady.nil
      go_simp
      refine (over_calls C hk xk HLK.out (CX.out _ ((Keeps.refl [b] wr).drew)) (ST.out _ ((Keeps.refl [b] wr).drew)) (by have := (H1.lt); show 1 < wr.heap.size; omega)).mono ?_
      rintro e w5 ⟨rfl, k5⟩
      have H5 := (H1.drew1).keeps k5 (by simp)
      refine hK _ _ ?_
      clear hK K
      try simp only [Act.put, List.setIfInBounds_toArray, List.set_cons_zero, List.set_cons_succ]
      refine wpAny_take (i := 8) (oi := { dst := some 61, op := Op.nilCheck (Operand.tmp 53), type := 0, pos := "sha.go:96", after := #[{ on := 0, ground := Ground.data }, { on := 0, ground := Ground.phase }, { on := 1, ground := Ground.phase }, { on := 2, ground := Ground.phase }, { on := 3, ground := Ground.phase }, { on := 4, ground := Ground.phase }, { on := 5, ground := Ground.phase }, { on := 6, ground := Ground.phase }, { on := 7, ground := Ground.phase }], guard := none }) (v := ?_) rfl (by kernel_rfl) (by kernel_rfl) (by kernel_rfl) (fun _ _ _ h => h) (Or.inl ⟨by rfl, ?_⟩) ?_
      rotate_left
      · (intro w; go_simp; try with_reducible rfl)
      try simp only [Act.put, List.setIfInBounds_toArray, List.set_cons_zero, List.set_cons_succ]
      refine wpAny_take (i := 9) (oi := { dst := some 62, op := Op.fieldAddr 200 (Operand.tmp 61) 0, type := 0, pos := "sha.go:96", after := #[{ on := 8, ground := Ground.data }, { on := 0, ground := Ground.phase }, { on := 1, ground := Ground.phase }, { on := 2, ground := Ground.phase }, { on := 3, ground := Ground.phase }, { on := 4, ground := Ground.phase }, { on := 5, ground := Ground.phase }, { on := 6, ground := Ground.phase }, { on := 7, ground := Ground.phase }], guard := none }) (v := ?_) rfl (by kernel_rfl) (by kernel_rfl) (by kernel_rfl) (fun _ _ _ h => h) (Or.inl ⟨by rfl, ?_⟩) ?_
      rotate_left
      · (intro w; go_simp; try with_reducible rfl)
      try simp only [Act.put, List.setIfInBounds_toArray, List.set_cons_zero, List.set_cons_succ]
      refine wpAny_ready (rs := [10]) (by kernel_rfl) (by simp) ?_
      refine AllReady.cons (o := { dst := none, op := Op.store 196 (Operand.tmp 62) (Operand.tmp 60), type := 0, pos := "sha.go:96", after := #[{ on := 9, ground := Ground.data }, { on := 7, ground := Ground.data }, { on := 7, ground := Ground.chain }, { on := 0, ground := Ground.phase }, { on := 1, ground := Ground.phase }, { on := 2, ground := Ground.phase }, { on := 3, ground := Ground.phase }, { on := 4, ground := Ground.phase }, { on := 5, ground := Ground.phase }, { on := 6, ground := Ground.phase }, { on := 7, ground := Ground.phase }], guard := none }) rfl (fun K hK => ?_) AllReady.nil
      refine step_store_mid rfl 196 (.tmp 62) (.tmp 60) rfl b 0 (by32A (overF hk xk)) rfl rfl (StrAt_there H5 0 _ (by rw [by32A_size, overF_length _ _ HLK.out, hCells_size _ _ _ HLK.out H2R.out]; decide)) HS2.out HO2.out ?_
      have H6 := h_set_words H5 HLK.out H2R.out (overF hk xk) (overF_length _ _ HLK.out)
      have K6 := keeps_setCells (S := [b]) (g := b) (by simp) (by32 (overF hk xk)) 0 wr w5 (((Keeps.refl [b] wr).drew).trans k5 (by simp))
      refine hK _ _ ?_
      clear hK K
      try simp only [Act.put, List.setIfInBounds_toArray, List.set_cons_zero, List.set_cons_succ]
      refine wpAny_done (by kernel_rfl) ?_ _
      go_wp2
      go_roundw
      case rel =>
        have q1 := HL.out
        have q2 := HF.out
        refine ⟨k + 1, L - 64, C - 64, if C = 64 then f else f + 64, by omega, ?_, by omega, by split <;> rfl, by rw [HK1.out]; exact H6, HK.trans' K6⟩
        have e1 : (xs.drop (64 * k)).drop 64 = xs.drop (64 * (k + 1)) := by rw [List.drop_drop]; congr 1
        by_cases hC : C = 64
        · rw [if_pos hC]
          have : xs.drop (64 * (k + 1)) = [] := List.drop_eq_nil_iff.2 (by omega)
          rw [this]
          intro j v hj
          simp [by8] at hj
        · rw [if_neg hC, ← e1]
          exact range_drop q2 64
      case measure => simp [lenV]; omega
    · have b1 : (64 ≤ (L : Int)) = False := eq_false (by omega)
      have HD := Lib.hid (show (xs.drop (64 * k)).length = L by simp; omega)
      have HTH := Lib.hid (StrAt_there H1 8 64 (by rw [hCells_size _ _ _ HLK.out H2R.out]; decide))
      have HE := Lib.hid (show StrAt (wr.setCells b 8 (by8 ((xs.drop (64 * k)).take 64))) b (hCells (hsK hs xs k) (putAt rest 0 ((xs.drop (64 * k)).take 64)) ((n : Int) + (xs.length : Int))) 200 from h_set_rest H1 HLK.out H2R.out 0 ((xs.drop (64 * k)).take 64) (by simp; omega))
      have HK9 := Lib.hid (HK.trans' (keeps_setCells (S := [b]) (g := b) (by simp) (by8 ((xs.drop (64 * k)).take 64)) 8 wr wr (Keeps.refl _ _)))
      have HQ := Lib.hid (show tailHs hs xs = hsK hs xs k ∧ tailRest rest xs = putAt rest 0 ((xs.drop (64 * k)).take 64) from by
        have hk : xs.length / 64 = k := by omega
        unfold tailHs tailRest
        rw [hk, List.take_of_length_le (show (xs.drop (64 * k)).length ≤ 64 by simp; omega)]
        exact ⟨rfl, rfl⟩)
      clear hL hf
      go_wp2_with (refine wp_copyT rfl (.tmp 66) (.tmp 67) 22 22 5 rfl Tryd.underlying22 info5s rfl HD.out rfl HXK.out HTH.out ?_)
      go_end0
      exact ⟨rfl, by rw [HQ.out.1, HQ.out.2]; exact HE.out, HK9.out⟩
set_option maxHeartbeats 1000000 in
theorem write1 {w : World} {b : Nat} {hs rest : List Int} {n : Nat} (h : StrAt w b (hCells hs rest (n : Int)) 200) (h1 : hs.length = 8) (h2 : rest.length = 64) (hb : 1 < b) (hT : ShaW w) (had m : Nat) (hn : n % 64 = had) (hm : had + m = 64) (hm0 : 0 < had) (g o c : Nat) (xs : List Int) (hx : w.rangeAt g o (by8 xs)) (hg : g ≠ b) (hc : xs.length ≤ c)
    (hml : m ≤ xs.length) (hl : n + xs.length ≤ 1099511627776) :
    Calls Tryd.prog 96 #[.pointer (some ⟨b, 0, none⟩), .slice (some ⟨g, o, none⟩) xs.length c] w fun e w' => e = .returned (.tuple #[]) ∧
      StrAt w' b (hCells (tailHs (overF hs (putAt rest had (xs.take m))) (xs.drop m)) (tailRest (putAt rest had (xs.take m)) (xs.drop m)) ((n : Int) + (xs.length : Int))) 200 ∧ Keeps [b] w w' := by
  have yn := h_n h h1 h2
  have fn := h.frozen 72
  have H1 := h_set_n h h1 h2 ((n : Int) + (xs.length : Int))
  have K1 := (Keeps.refl [b] w).setCell (a := ⟨b, 72, none⟩) (by simp) (.int .i64 ((n : Int) + (xs.length : Int)))
  have hrl : (putAt rest had (xs.take m)).length = 64 := by rw [putAt_length _ _ _ (by simp; omega)]; exact h2
  have htk : (xs.take (64 - had)) = xs.take m := by congr 1; omega
  have H2 := Lib.hid (show StrAt ((w.setCell ⟨b, 72, none⟩ (.int .i64 ((n : Int) + (xs.length : Int)))).setCells b (8 + had) (by8 (xs.take (64 - had)))) b (hCells hs (putAt rest had (xs.take m)) ((n : Int) + (xs.length : Int))) 200 from by
    rw [htk]; exact h_set_rest H1 h1 h2 had (xs.take m) (by simp; omega))
  have K2 := Lib.hid (keeps_setCells (S := [b]) (g := b) (by simp) (by8 (xs.take (64 - had))) (8 + had) w _ K1)
  have HXC := Lib.hid (show (w.setCell ⟨b, 72, none⟩ (.int .i64 ((n : Int) + (xs.length : Int)))).rangeAt g o (by8 xs) from range_keeps hx K1 (by simpa using hg))
  have HTH0 := Lib.hid (StrAt_there H1 (8 + had) (64 - had) (by rw [hCells_size _ _ _ h1 h2]; omega))
  have HMIN := Lib.hid (show min xs.length (64 - had) = m by omega)
  obtain ⟨o2, hx2, hif⟩ : ∃ o2, w.rangeAt g o2 (by8 (xs.drop m)) ∧ (if c = m then (some ⟨g, o, none⟩ : Option Addr) else some ⟨g, o + m, none⟩) = some ⟨g, o2, none⟩ := by
    by_cases hC : c = m
    · refine ⟨o, ?_, if_pos hC⟩
      have : xs.drop m = [] := List.drop_eq_nil_iff.2 (by omega)
      rw [this]
      intro j v hj
      simp [by8] at hj
    · exact ⟨o + m, range_drop hx m, if_neg hC⟩
  have HX2 := Lib.hid hx2
  have h0 : 0 < had := hm0
  clear hx2
  have H1L := Lib.hid h1
  have HRL := Lib.hid hrl
  have HT := Lib.hid hT
  have e0 : (n : Int) % 64 = (had : Int) := by omega
  have e1 : (had : Int) + (m : Int) = 64 := by omega
  have b0 : (0 < (had : Int)) = True := eq_true (by omega)
  have b9 : ((had : Int) ≤ 64) = True := eq_true (by omega)
  have b8 : ((m : Int) ≤ (xs.length : Int)) = True := eq_true (by omega)
  have b7 : ((xs.length : Int) ≤ (c : Int)) = True := eq_true (by omega)
  obtain ⟨r, hr⟩ : ∃ r, r = putAt rest had (xs.take m) := ⟨_, rfl⟩
  rw [← hr] at H2 HRL ⊢
  have HS1 := Lib.hid (show (Tryd.prog.info? 196).map (·.size) = some (by32A hs).toList.length by rw [size196, Array.length_toList, by32A_size, h1])
  have HS2 := Lib.hid (show (Tryd.prog.info? 196).map (·.size) = some (by32A (overF hs r)).size by rw [size196, by32A_size, overF_length _ _ h1])
  have HO2 := Lib.hid (show (by32A (overF hs r)).all (·.oneCell') = true from all_oneCell_toArray (by32_one _))
  have HLL := Lib.hid (show m ≤ xs.length ∧ xs.length ≤ c ∧ xs.length = (xs.drop m).length + m from ⟨hml, hc, by simp; omega⟩)
  clear h hT hx h1 h2 H1 K1 hrl htk hr hn hm hm0 hml hc
  go_enter Tryd.func96, Tryd.ntmps96
  go_wp2_with (first | (refine wp_copyT rfl (.tmp 26) (.tmp 27) 22 22 5 rfl Tryd.underlying22 info5s rfl rfl rfl HXC.out HTH0.out ?_; rw [HMIN.out]; generalize HW3 : World.setCells _ _ _ _ = w3; have H3 := Lib.hid (show StrAt w3 b (hCells hs r ((n : Int) + (xs.length : Int))) 200 from HW3 ▸ H2.out); have K3 := Lib.hid (show Keeps [b] w w3 from HW3 ▸ K2.out); clear HW3))
  have CR := Lib.hid (show Kd.C (Kd.int .u8) w3.drew (some ⟨b, 8, none⟩) 64 r from by
    have := C_of_range (h_rest H3.out.drew1 H1L.out) (by rw [HRL.out]; decide)
    rwa [HRL.out] at this)
  have ST := Lib.hid (show ShaW w3.drew from (HT.out.keeps K3.out (by simp; omega)).keeps ((Keeps.refl [] _).drew) (by simp))
  refine wp_region_any (by kernel_rfl) ?_
  change wpAny _ _ _ _ _ _ _ (World.drew _)
  refine wpAny_take (i := 0) (oi := { dst := some 36, op := Op.move (Operand.tmp 0), type := 168, pos := "sha.go:93", after := #[], guard := none }) (v := ?_) rfl (by kernel_rfl) (by kernel_rfl) (by kernel_rfl) (fun _ _ _ h => h) (Or.inl ⟨by rfl, ?_⟩) ?_
  rotate_left
  · (intro w; go_simp; try with_reducible rfl)
  try simp only [Act.put, List.setIfInBounds_toArray, List.set_cons_zero, List.set_cons_succ]
  refine wpAny_take (i := 1) (oi := { dst := some 37, op := Op.move (Operand.tmp 0), type := 168, pos := "sha.go:93", after := #[], guard := none }) (v := ?_) rfl (by kernel_rfl) (by kernel_rfl) (by kernel_rfl) (fun _ _ _ h => h) (Or.inl ⟨by rfl, ?_⟩) ?_
  rotate_left
  · (intro w; go_simp; try with_reducible rfl)
  try simp only [Act.put, List.setIfInBounds_toArray, List.set_cons_zero, List.set_cons_succ]
  refine wpAny_take (i := 2) (oi := { dst := some 38, op := Op.nilCheck (Operand.tmp 37), type := 0, pos := "sha.go:93", after := #[{ on := 1, ground := Ground.data }], guard := none }) (v := ?_) rfl (by kernel_rfl) (by kernel_rfl) (by kernel_rfl) (fun _ _ _ h => h) (Or.inl ⟨by rfl, ?_⟩) ?_
  rotate_left
  · (intro w; go_simp; try with_reducible rfl)
  try simp only [Act.put, List.setIfInBounds_toArray, List.set_cons_zero, List.set_cons_succ]
  refine wpAny_take (i := 3) (oi := { dst := some 39, op := Op.fieldAddr 200 (Operand.tmp 38) 0, type := 0, pos := "sha.go:93", after := #[{ on := 2, ground := Ground.data }], guard := none }) (v := ?_) rfl (by kernel_rfl) (by kernel_rfl) (by kernel_rfl) (fun _ _ _ h => h) (Or.inl ⟨by rfl, ?_⟩) ?_
  rotate_left
  · (intro w; go_simp; try with_reducible rfl)
  try simp only [Act.put, List.setIfInBounds_toArray, List.set_cons_zero, List.set_cons_succ]
  refine wpAny_take (i := 5) (oi := { dst := some 41, op := Op.move (Operand.tmp 0), type := 168, pos := "sha.go:93", after := #[], guard := none }) (v := ?_) rfl (by kernel_rfl) (by kernel_rfl) (by kernel_rfl) (fun _ _ _ h => h) (Or.inl ⟨by rfl, ?_⟩) ?_
  rotate_left
  · (intro w; go_simp; try with_reducible rfl)
  try simp only [Act.put, List.setIfInBounds_toArray, List.set_cons_zero, List.set_cons_succ]
  refine wpAny_take (i := 6) (oi := { dst := some 42, op := Op.nilCheck (Operand.tmp 41), type := 0, pos := "sha.go:93", after := #[{ on := 5, ground := Ground.data }], guard := none }) (v := ?_) rfl (by kernel_rfl) (by kernel_rfl) (by kernel_rfl) (fun _ _ _ h => h) (Or.inl ⟨by rfl, ?_⟩) ?_
  rotate_left
  · (intro w; go_simp; try with_reducible rfl)
  try simp only [Act.put, List.setIfInBounds_toArray, List.set_cons_zero, List.set_cons_succ]
  refine wpAny_take (i := 7) (oi := { dst := some 43, op := Op.fieldAddr 200 (Operand.tmp 42) 1, type := 0, pos := "sha.go:93", after := #[{ on := 6, ground := Ground.data }], guard := none }) (v := ?_) rfl (by kernel_rfl) (by kernel_rfl) (by kernel_rfl) (fun _ _ _ h => h) (Or.inl ⟨by rfl, ?_⟩) ?_
  rotate_left
  · (intro w; go_simp; try with_reducible rfl)
  try simp only [Act.put, List.setIfInBounds_toArray, List.set_cons_zero, List.set_cons_succ]
  refine wpAny_take (i := 8) (oi := { dst := some 44, op := Op.slice 198 (Operand.tmp 43) none none none, type := 22, pos := "sha.go:93", after := #[{ on := 7, ground := Ground.data }], guard := none }) (v := ?_) rfl (by kernel_rfl) (by kernel_rfl) (by kernel_rfl) (fun _ _ _ h => h) (Or.inl ⟨by rfl, ?_⟩) ?_
  rotate_left
  · (intro w; go_simp; try with_reducible rfl)
  try simp only [Act.put, List.setIfInBounds_toArray, List.set_cons_zero, List.set_cons_succ]
  refine wpAny_ready (rs := [4]) (by kernel_rfl) (by simp) ?_
  refine AllReady.cons (o := { dst := some 40, op := Op.load 196 (Operand.tmp 39), type := 196, pos := "sha.go:93", after := #[{ on := 3, ground := Ground.data }], guard := none }) rfl (fun K hK => ?_) AllReady.nil
  refine step_load_mid rfl 196 (.tmp 39) rfl b 0 rfl (by32A hs).toList _ (h_words H3.out.drew1) Tryd.underlying196 rfl HS1.out ?_
  simp only [Array.toArray_toList]
  refine hK _ _ ?_
  clear hK K
  try simp only [Act.put, List.setIfInBounds_toArray, List.set_cons_zero, List.set_cons_succ]
  refine wpAny_ready (rs := [9]) (by kernel_rfl) (by simp) ?_
  refine AllReady.cons (o := { dst := some 45, op := Op.call { callee := Callee.value (Operand.func 121), args := #[Operand.tmp 40, Operand.tmp 44], argTypes := #[196, 22] }, type := 196, pos := "sha.go:93", after := #[{ on := 4, ground := Ground.data }, { on := 8, ground := Ground.data }], guard := none }) rfl (fun K hK => ?_) AllReady.nil
  go_simp
  refine (over_calls 64 hs r H1L.out CR.out ST.out (by have := H3.out.lt; show 1 < w3.heap.size; omega)).mono ?_
  rintro e w5 ⟨rfl, k5⟩
  have H5 := (H3.out.drew1).keeps k5 (by simp)
  refine hK _ _ ?_
  clear hK K
  try simp only [Act.put, List.setIfInBounds_toArray, List.set_cons_zero, List.set_cons_succ]
  refine wpAny_take (i := 10) (oi := { dst := some 46, op := Op.nilCheck (Operand.tmp 36), type := 0, pos := "sha.go:93", after := #[{ on := 0, ground := Ground.data }, { on := 0, ground := Ground.phase }, { on := 1, ground := Ground.phase }, { on := 2, ground := Ground.phase }, { on := 3, ground := Ground.phase }, { on := 4, ground := Ground.phase }, { on := 5, ground := Ground.phase }, { on := 6, ground := Ground.phase }, { on := 7, ground := Ground.phase }, { on := 8, ground := Ground.phase }, { on := 9, ground := Ground.phase }], guard := none }) (v := ?_) rfl (by kernel_rfl) (by kernel_rfl) (by kernel_rfl) (fun _ _ _ h => h) (Or.inl ⟨by rfl, ?_⟩) ?_
  rotate_left
  · (intro w; go_simp; try with_reducible rfl)
  try simp only [Act.put, List.setIfInBounds_toArray, List.set_cons_zero, List.set_cons_succ]
  refine wpAny_take (i := 11) (oi := { dst := some 47, op := Op.fieldAddr 200 (Operand.tmp 46) 0, type := 0, pos := "sha.go:93", after := #[{ on := 10, ground := Ground.data }, { on := 0, ground := Ground.phase }, { on := 1, ground := Ground.phase }, { on := 2, ground := Ground.phase }, { on := 3, ground := Ground.phase }, { on := 4, ground := Ground.phase }, { on := 5, ground := Ground.phase }, { on := 6, ground := Ground.phase }, { on := 7, ground := Ground.phase }, { on := 8, ground := Ground.phase }, { on := 9, ground := Ground.phase }], guard := none }) (v := ?_) rfl (by kernel_rfl) (by kernel_rfl) (by kernel_rfl) (fun _ _ _ h => h) (Or.inl ⟨by rfl, ?_⟩) ?_
  rotate_left
  · (intro w; go_simp; try with_reducible rfl)
  try simp only [Act.put, List.setIfInBounds_toArray, List.set_cons_zero, List.set_cons_succ]
  refine wpAny_ready (rs := [12]) (by kernel_rfl) (by simp) ?_
  refine AllReady.cons (o := { dst := none, op := Op.store 196 (Operand.tmp 47) (Operand.tmp 45), type := 0, pos := "sha.go:93", after := #[{ on := 11, ground := Ground.data }, { on := 9, ground := Ground.data }, { on := 9, ground := Ground.chain }, { on := 0, ground := Ground.phase }, { on := 1, ground := Ground.phase }, { on := 2, ground := Ground.phase }, { on := 3, ground := Ground.phase }, { on := 4, ground := Ground.phase }, { on := 5, ground := Ground.phase }, { on := 6, ground := Ground.phase }, { on := 7, ground := Ground.phase }, { on := 8, ground := Ground.phase }, { on := 9, ground := Ground.phase }], guard := none }) rfl (fun K hK => ?_) AllReady.nil
  refine step_store_mid rfl 196 (.tmp 47) (.tmp 45) rfl b 0 (by32A (overF hs r)) rfl rfl (StrAt_there H5 0 _ (by rw [by32A_size, overF_length _ _ H1L.out, hCells_size _ _ _ H1L.out HRL.out]; decide)) HS2.out HO2.out ?_
  have H6 := h_set_words H5 H1L.out HRL.out (overF hs r) (overF_length _ _ H1L.out)
  have K6 := K3.out.trans' (keeps_setCells (S := [b]) (g := b) (by simp) (by32 (overF hs r)) 0 w3 w5 (((Keeps.refl [b] w3).drew).trans k5 (by simp)))
  refine hK _ _ ?_
  clear hK K
  try simp only [Act.put, List.setIfInBounds_toArray, List.set_cons_zero, List.set_cons_succ]
  refine wpAny_done (by kernel_rfl) ?_ _
  go_wp2_with fail
  have H6q : StrAt (w5.setCells b 0 (by32A (overF hs r)).toList) b (hCells (overF hs r) r ((n : Int) + (xs.length : Int))) 200 := H6
  have K6q : Keeps [b] w (w5.setCells b 0 (by32A (overF hs r)).toList) := K6
  generalize w5.setCells b 0 (by32A (overF hs r)).toList = w6 at H6q K6q ⊢
  clear H6 K6
  obtain ⟨hs1, hh1⟩ : ∃ h, h = overF hs r := ⟨_, rfl⟩
  obtain ⟨xs1, hx1⟩ : ∃ x, x = xs.drop m := ⟨_, rfl⟩
  have HH1 := Lib.hid hh1
  have HXX := Lib.hid hx1
  have H1M := Lib.hid (show hs1.length = 8 by rw [hh1]; exact overF_length _ _ H1L.out)
  rw [← hh1] at H6q
  have h3 := HX2.out
  rw [← hx1] at h3
  have h4 := HLL.out
  rw [← hx1] at h4
  have H4 := Lib.hid h4
  clear h4
  clear hh1 hx1 HS1 HS2 HO2 CR ST HX2 H5 k5 b0 b9 b8 b7 e0 e1 hif
  go_loopw [1] (fun v W => ∃ k L C f : Nat, 64 * k + L = xs1.length ∧ w.rangeAt g f (by8 (xs1.drop (64 * k))) ∧ L ≤ C ∧ v = .slice (some ⟨g, f, none⟩) L C ∧ StrAt W b (hCells (hsK hs1 xs1 k) r ((n : Int) + (xs.length : Int))) 200 ∧ Keeps [b] w W) (fun v _ => lenV v)
  case atStart => exact ⟨0, xs.length - m, c - m, o2, by have := H4.out; omega, h3, by have := H4.out; omega, rfl, H6q, K6q⟩
  case round =>
    obtain ⟨k, L, C, f, hL, hf, hLC, rfl, H1, HK⟩ := hrel
    have HLK := Lib.hid (hsK_length hs1 xs1 H1M.out k)
    have HXK := Lib.hid (show wr.rangeAt g f (by8 (xs1.drop (64 * k))) from range_keeps hf HK (by simpa using hg))
    by_cases hlt : 64 ≤ L
    · have b1 : (64 ≤ (L : Int)) = True := eq_true (by omega)
      have b2 : ((64 : Int) ≤ (C : Int)) = True := eq_true (by omega)
      have HK1 := Lib.hid (show hsK hs1 xs1 (k + 1) = overF (hsK hs1 xs1 k) ((xs1.drop (64 * k)).take 64) from rfl)
      have hxl : ((xs1.drop (64 * k)).take 64).length = 64 := by simp; omega
      have CX := Lib.hid (show ∀ W, Keeps [b] wr W → Kd.C (Kd.int .u8) W (some ⟨g, f, none⟩) 64 ((xs1.drop (64 * k)).take 64) from fun W hk => by
        have := C_of_range (range_take (range_keeps HXK.out hk (by simpa using hg)) 64) (by rw [hxl]; decide)
        rwa [hxl] at this)
      have ST := Lib.hid (show ∀ W, Keeps [b] wr W → ShaW W from fun W hk => (HT.out.keeps HK (by simp; omega)).keeps hk (by simp; omega))
      generalize (xs1.drop (64 * k)).take 64 = xk at HK1 CX
      generalize hsK hs1 xs1 k = hk at HLK H1 HK1
      have HS1 := Lib.hid (show (Tryd.prog.info? 196).map (·.size) = some (by32A hk).toList.length by rw [size196, Array.length_toList, by32A_size, HLK.out])
      have HS2 := Lib.hid (show (Tryd.prog.info? 196).map (·.size) = some (by32A (overF hk xk)).size by rw [size196, by32A_size, overF_length _ _ HLK.out])
      have HO2 := Lib.hid (show (by32A (overF hk xk)).all (·.oneCell') = true from all_oneCell_toArray (by32_one _))
      have HL := Lib.hid hL
      have HF := Lib.hid hf
      clear hxl hL hf
      go_wp2_with fail
      refine wp_region_any (by kernel_rfl) ?_
      change wpAny _ _ _ _ _ _ _ (World.drew _)
      refine wpAny_take (i := 0) (oi := { dst := some 53, op := Op.move (Operand.tmp 0), type := 168, pos := "sha.go:96", after := #[], guard := none }) (v := ?_) rfl (by kernel_rfl) (by kernel_rfl) (by kernel_rfl) (fun _ _ _ h => h) (Or.inl ⟨by rfl, ?_⟩) ?_
      rotate_left
      · (intro w; go_simp; try with_reducible rfl)
      try simp only [Act.put, List.setIfInBounds_toArray, List.set_cons_zero, List.set_cons_succ]
      refine wpAny_take (i := 1) (oi := { dst := some 54, op := Op.move (Operand.tmp 0), type := 168, pos := "sha.go:96", after := #[], guard := none }) (v := ?_) rfl (by kernel_rfl) (by kernel_rfl) (by kernel_rfl) (fun _ _ _ h => h) (Or.inl ⟨by rfl, ?_⟩) ?_
      rotate_left
      · (intro w; go_simp; try with_reducible rfl)
      try simp only [Act.put, List.setIfInBounds_toArray, List.set_cons_zero, List.set_cons_succ]
      refine wpAny_take (i := 2) (oi := { dst := some 55, op := Op.nilCheck (Operand.tmp 54), type := 0, pos := "sha.go:96", after := #[{ on := 1, ground := Ground.data }], guard := none }) (v := ?_) rfl (by kernel_rfl) (by kernel_rfl) (by kernel_rfl) (fun _ _ _ h => h) (Or.inl ⟨by rfl, ?_⟩) ?_
      rotate_left
      · (intro w; go_simp; try with_reducible rfl)
      try simp only [Act.put, List.setIfInBounds_toArray, List.set_cons_zero, List.set_cons_succ]
      refine wpAny_take (i := 3) (oi := { dst := some 56, op := Op.fieldAddr 200 (Operand.tmp 55) 0, type := 0, pos := "sha.go:96", after := #[{ on := 2, ground := Ground.data }], guard := none }) (v := ?_) rfl (by kernel_rfl) (by kernel_rfl) (by kernel_rfl) (fun _ _ _ h => h) (Or.inl ⟨by rfl, ?_⟩) ?_
      rotate_left
      · (intro w; go_simp; try with_reducible rfl)
      try simp only [Act.put, List.setIfInBounds_toArray, List.set_cons_zero, List.set_cons_succ]
      refine wpAny_take (i := 5) (oi := { dst := some 58, op := Op.move (Operand.tmp 1), type := 22, pos := "sha.go:96", after := #[], guard := none }) (v := ?_) rfl (by kernel_rfl) (by kernel_rfl) (by kernel_rfl) (fun _ _ _ h => h) (Or.inl ⟨by rfl, ?_⟩) ?_
      rotate_left
      · (intro w; go_simp; try with_reducible rfl)
      try simp only [Act.put, List.setIfInBounds_toArray, List.set_cons_zero, List.set_cons_succ]
      refine wpAny_take (i := 6) (oi := { dst := some 59, op := Op.slice 22 (Operand.tmp 58) none (some (Operand.const (Value.int IntKind.i64 64))) none, type := 22, pos := "sha.go:96", after := #[{ on := 5, ground := Ground.data }], guard := none }) (v := ?_) rfl (by kernel_rfl) (by kernel_rfl) (by kernel_rfl) (fun _ _ _ h => h) (Or.inl ⟨by rfl, ?_⟩) ?_
      rotate_left
      · (intro w; go_simp; try with_reducible rfl)
      try simp only [Act.put, List.setIfInBounds_toArray, List.set_cons_zero, List.set_cons_succ]
      refine wpAny_ready (rs := [4]) (by kernel_rfl) (by simp) ?_
      refine AllReady.cons (o := { dst := some 57, op := Op.load 196 (Operand.tmp 56), type := 196, pos := "sha.go:96", after := #[{ on := 3, ground := Ground.data }], guard := none }) rfl (fun K hK => ?_) AllReady.nil
      refine step_load_mid rfl 196 (.tmp 56) rfl b 0 rfl (by32A hk).toList _ (h_words H1.drew1) Tryd.underlying196 rfl HS1.out ?_
      simp only [Array.toArray_toList]
      refine hK _ _ ?_
      clear hK K
      try simp only [Act.put, List.setIfInBounds_toArray, List.set_cons_zero, List.set_cons_succ]
      refine wpAny_ready (rs := [7]) (by kernel_rfl) (by simp) ?_
      refine AllReady.cons (o := { dst := some 60, op := Op.call { callee := Callee.value (Operand.func 121), args := #[Operand.tmp 57, Operand.tmp 59], argTypes := #[196, 22] }, type := 196, pos := "sha.go:96", after := #[{ on := 4, ground := Ground.data }, { on := 6, ground := Ground.data }], guard := none }) rfl (fun K hK => ?_) AllReady.nil
      go_simp
      refine (over_calls C hk xk HLK.out (CX.out _ ((Keeps.refl [b] wr).drew)) (ST.out _ ((Keeps.refl [b] wr).drew)) (by have := (H1.lt); show 1 < wr.heap.size; omega)).mono ?_
      rintro e w5 ⟨rfl, k5⟩
      have H5 := (H1.drew1).keeps k5 (by simp)
      refine hK _ _ ?_
      clear hK K
      try simp only [Act.put, List.setIfInBounds_toArray, List.set_cons_zero, List.set_cons_succ]
      refine wpAny_take (i := 8) (oi := { dst := some 61, op := Op.nilCheck (Operand.tmp 53), type := 0, pos := "sha.go:96", after := #[{ on := 0, ground := Ground.data }, { on := 0, ground := Ground.phase }, { on := 1, ground := Ground.phase }, { on := 2, ground := Ground.phase }, { on := 3, ground := Ground.phase }, { on := 4, ground := Ground.phase }, { on := 5, ground := Ground.phase }, { on := 6, ground := Ground.phase }, { on := 7, ground := Ground.phase }], guard := none }) (v := ?_) rfl (by kernel_rfl) (by kernel_rfl) (by kernel_rfl) (fun _ _ _ h => h) (Or.inl ⟨by rfl, ?_⟩) ?_
      rotate_left
      · (intro w; go_simp; try with_reducible rfl)
      try simp only [Act.put, List.setIfInBounds_toArray, List.set_cons_zero, List.set_cons_succ]
      refine wpAny_take (i := 9) (oi := { dst := some 62, op := Op.fieldAddr 200 (Operand.tmp 61) 0, type := 0, pos := "sha.go:96", after := #[{ on := 8, ground := Ground.data }, { on := 0, ground := Ground.phase }, { on := 1, ground := Ground.phase }, { on := 2, ground := Ground.phase }, { on := 3, ground := Ground.phase }, { on := 4, ground := Ground.phase }, { on := 5, ground := Ground.phase }, { on := 6, ground := Ground.phase }, { on := 7, ground := Ground.phase }], guard := none }) (v := ?_) rfl (by kernel_rfl) (by kernel_rfl) (by kernel_rfl) (fun _ _ _ h => h) (Or.inl ⟨by rfl, ?_⟩) ?_
      rotate_left
      · (intro w; go_simp; try with_reducible rfl)
      try simp only [Act.put, List.setIfInBounds_toArray, List.set_cons_zero, List.set_cons_succ]
      refine wpAny_ready (rs := [10]) (by kernel_rfl) (by simp) ?_
      refine AllReady.cons (o := { dst := none, op := Op.store 196 (Operand.tmp 62) (Operand.tmp 60), type := 0, pos := "sha.go:96", after := #[{ on := 9, ground := Ground.data }, { on := 7, ground := Ground.data }, { on := 7, ground := Ground.chain }, { on := 0, ground := Ground.phase }, { on := 1, ground := Ground.phase }, { on := 2, ground := Ground.phase }, { on := 3, ground := Ground.phase }, { on := 4, ground := Ground.phase }, { on := 5, ground := Ground.phase }, { on := 6, ground := Ground.phase }, { on := 7, ground := Ground.phase }], guard := none }) rfl (fun K hK => ?_) AllReady.nil
      refine step_store_mid rfl 196 (.tmp 62) (.tmp 60) rfl b 0 (by32A (overF hk xk)) rfl rfl (StrAt_there H5 0 _ (by rw [by32A_size, overF_length _ _ HLK.out, hCells_size _ _ _ HLK.out HRL.out]; decide)) HS2.out HO2.out ?_
      have H6 := h_set_words H5 HLK.out HRL.out (overF hk xk) (overF_length _ _ HLK.out)
      have K6 := keeps_setCells (S := [b]) (g := b) (by simp) (by32 (overF hk xk)) 0 wr w5 (((Keeps.refl [b] wr).drew).trans k5 (by simp))
      refine hK _ _ ?_
      clear hK K
      try simp only [Act.put, List.setIfInBounds_toArray, List.set_cons_zero, List.set_cons_succ]
      refine wpAny_done (by kernel_rfl) ?_ _
      go_wp2
      go_roundw
      case rel =>
        have q1 := HL.out
        have q2 := HF.out
        refine ⟨k + 1, L - 64, C - 64, if C = 64 then f else f + 64, by omega, ?_, by omega, by split <;> rfl, by rw [HK1.out]; exact H6, HK.trans' K6⟩
        have e1 : (xs1.drop (64 * k)).drop 64 = xs1.drop (64 * (k + 1)) := by rw [List.drop_drop]; congr 1
        by_cases hC : C = 64
        · rw [if_pos hC]
          have : xs1.drop (64 * (k + 1)) = [] := List.drop_eq_nil_iff.2 (by omega)
          rw [this]
          intro j v hj
          simp [by8] at hj
        · rw [if_neg hC, ← e1]
          exact range_drop q2 64
      case measure => simp [lenV]; omega
    · have b1 : (64 ≤ (L : Int)) = False := eq_false (by omega)
      have HD := Lib.hid (show (xs1.drop (64 * k)).length = L by simp; omega)
      have HTH := Lib.hid (StrAt_there H1 8 64 (by rw [hCells_size _ _ _ HLK.out HRL.out]; decide))
      have HE := Lib.hid (show StrAt (wr.setCells b 8 (by8 ((xs1.drop (64 * k)).take 64))) b (hCells (hsK hs1 xs1 k) (putAt r 0 ((xs1.drop (64 * k)).take 64)) ((n : Int) + (xs.length : Int))) 200 from h_set_rest H1 HLK.out HRL.out 0 ((xs1.drop (64 * k)).take 64) (by simp; omega))
      have HK9 := Lib.hid (HK.trans' (keeps_setCells (S := [b]) (g := b) (by simp) (by8 ((xs1.drop (64 * k)).take 64)) 8 wr wr (Keeps.refl _ _)))
      have HQ := Lib.hid (show tailHs hs1 xs1 = hsK hs1 xs1 k ∧ tailRest r xs1 = putAt r 0 ((xs1.drop (64 * k)).take 64) from by
        have hk : xs1.length / 64 = k := by omega
        unfold tailHs tailRest
        rw [hk, List.take_of_length_le (show (xs1.drop (64 * k)).length ≤ 64 by simp; omega)]
        exact ⟨rfl, rfl⟩)
      clear hL hf
      go_wp2_with (refine wp_copyT rfl (.tmp 66) (.tmp 67) 22 22 5 rfl Tryd.underlying22 info5s rfl HD.out rfl HXK.out HTH.out ?_)
      go_end0
      exact ⟨rfl, by rw [← HH1.out, ← HXX.out, HQ.out.1, HQ.out.2]; exact HE.out, HK9.out⟩
end Go.Proofs.YtgcpcgcfpjolnaaDoor.G
-- (*sha.Hash).Key.
namespace Go.Proofs.YtgcpcgcfpjolnaaDoor.G
open Go.RowKit Go.Proofs.YtgcpcgcfpjolnaaDoorW.PrintWords Go.Proofs.YtgcpcgcfpjolnaaDoorW.PrintLast Go.Proofs.YtgcpcgcfpjolnaaDoorW.PrintMore
set_option linter.unusedVariables false
set_option linter.unusedSimpArgs false
set_option maxRecDepth 10000
def wF (hs rest : List Int) (n : Nat) (xs : List Int) : List Int :=
  if n % 64 = 0 then tailHs hs xs else tailHs (overF hs (putAt rest (n % 64) (xs.take (64 - n % 64)))) (xs.drop (64 - n % 64))
theorem wF_length (hs rest : List Int) (n : Nat) (xs : List Int) (h : hs.length = 8) : (wF hs rest n xs).length = 8 := by
  unfold wF tailHs
  split
  · exact hsK_length _ _ h _
  · exact hsK_length _ _ (overF_length _ _ h) _
theorem write_h {w : World} {b : Nat} {hs rest : List Int} {n : Nat} (h : StrAt w b (hCells hs rest (n : Int)) 200) (h1 : hs.length = 8) (h2 : rest.length = 64) (hb : 1 < b) (hT : ShaW w) (g o c : Nat) (xs : List Int) (hx : w.rangeAt g o (by8 xs)) (hg : g ≠ b) (hc : xs.length ≤ c)
    (hl : n + xs.length ≤ 1099511627776) (hm : n % 64 = 0 ∨ 64 - n % 64 ≤ xs.length) :
    Calls Tryd.prog 96 #[.pointer (some ⟨b, 0, none⟩), .slice (some ⟨g, o, none⟩) xs.length c] w fun e w' => e = .returned (.tuple #[]) ∧ (∃ r, StrAt w' b (hCells (wF hs rest n xs) r ((n : Int) + (xs.length : Int))) 200 ∧ r.length = 64) ∧ Keeps [b] w w' := by
  by_cases h0 : n % 64 = 0
  · refine (write0 h h1 h2 hb hT h0 g o c xs hx hg hc hl).mono ?_
    rintro e w' ⟨rfl, q1, q2⟩
    refine ⟨rfl, ⟨_, by unfold wF; rw [if_pos h0]; exact q1, ?_⟩, q2⟩
    unfold tailRest
    rw [putAt_length _ _ _ (by rw [List.length_drop, h2]; omega)]; exact h2
  · have h3 : 64 - n % 64 ≤ xs.length := hm.resolve_left h0
    refine (write1 h h1 h2 hb hT (n % 64) (64 - n % 64) rfl (by omega) (by omega) g o c xs hx hg hc h3 hl).mono ?_
    rintro e w' ⟨rfl, q1, q2⟩
    refine ⟨rfl, ⟨_, by unfold wF; rw [if_neg h0]; exact q1, ?_⟩, q2⟩
    unfold tailRest
    have hr : (putAt rest (n % 64) (xs.take (64 - n % 64))).length = 64 := by rw [putAt_length _ _ _ (by simp; omega)]; exact h2
    rw [putAt_length _ _ _ (by rw [List.length_drop, hr]; omega)]; exact hr
def by8A (xs : List Int) : Array Value := (by8 xs).toArray
theorem by8A_size (xs : List Int) : (by8A xs).size = xs.length := by simp [by8A, by8_length]
theorem set8 {w : World} {b : Nat} {T : TypeId} {ws : List Int} (h : StrAt w b (by8A ws) T) (j : Nat) (x : Int) : StrAt (w.setCell ⟨b, j, none⟩ (.int .u8 x)) b (by8A (ws.set j x)) T := by
  have := h.set j (.int .u8 x)
  unfold by8A at this ⊢
  simpa [by8, List.map_set] using this
theorem cell8 {w : World} {b : Nat} {T : TypeId} {ws : List Int} (h : StrAt w b (by8A ws) T) (j : Nat) (hj : j < ws.length) : w.cell? ⟨b, j, none⟩ = some (.int .u8 (ws.getD j 0)) := by
  rw [h.cell j]
  simp [by8A, by8, List.getD_eq_getElem?_getD, List.getElem?_eq_getElem hj]
def keyB (x : Int) : List Int := [x / 16777216 % 256, x / 65536 % 256, x / 256 % 256, x % 256]
/-- the bytes behind n bytes: the one, the zeros, how many bits -/
def zN (n : Nat) : Nat := (119 - n % 64) % 64
def lenB (n : Nat) : List Int := let m := (8 * (n : Int)); [m / 72057594037927936 % 256, m / 281474976710656 % 256, m / 1099511627776 % 256, m / 4294967296 % 256, m / 16777216 % 256, m / 65536 % 256, m / 256 % 256, m % 256]
def endB (n : Nat) : List Int := 128 :: (zs (zN n) ++ lenB n)
def keyF (hs rest : List Int) (n : Nat) : List Int := (wF hs rest n (endB n)).flatMap keyB
theorem endB_length (n : Nat) : (endB n).length = zN n + 9 := by simp [endB, zs_length, lenB]
def kP (H : List Int) (j : Nat) : List Int := (H.take j).flatMap keyB ++ zs (32 - 4 * j)
theorem kP_length (H : List Int) (j : Nat) (h : H.length = 8) (hj : j ≤ 8) : (kP H j).length = 32 := by
  obtain ⟨a, b, c, d, e, f, g, i, rfl⟩ := list8 h
  have : j = 0 ∨ j = 1 ∨ j = 2 ∨ j = 3 ∨ j = 4 ∨ j = 5 ∨ j = 6 ∨ j = 7 ∨ j = 8 := by omega
  rcases this with rfl | rfl | rfl | rfl | rfl | rfl | rfl | rfl | rfl <;> rfl
theorem putAt4 {α : Type} (xs : List α) (o : Nat) (a b c d : α) (h : o + 4 ≤ xs.length) : (((xs.set o a).set (o + 1) b).set (o + 2) c).set (o + 3) d = putAt xs o [a, b, c, d] := by
  rw [← putAt_cons xs o a [b, c, d] (by omega), ← putAt_cons _ (o + 1) b [c, d] (by simp; omega), ← putAt_cons _ (o + 1 + 1) c [d] (by simp; omega), ← putAt_cons _ (o + 1 + 1 + 1) d [] (by simp; omega), putAt_nil]
theorem set8x4 {w : World} {b : Nat} {T : TypeId} {ws : List Int} (h : StrAt w b (by8A ws) T) (o : Nat) (ho : o + 4 ≤ ws.length) (x0 x1 x2 x3 : Int) :
    StrAt ((((w.setCell ⟨b, o, none⟩ (.int .u8 x0)).setCell ⟨b, o + 1, none⟩ (.int .u8 x1)).setCell ⟨b, o + 2, none⟩ (.int .u8 x2)).setCell ⟨b, o + 3, none⟩ (.int .u8 x3)) b (by8A (putAt ws o [x0, x1, x2, x3])) T := by
  rw [← putAt4 _ _ _ _ _ _ ho]
  exact set8 (set8 (set8 (set8 h o x0) (o + 1) x1) (o + 2) x2) (o + 3) x3
theorem flatKey_length (l : List Int) : (l.flatMap keyB).length = 4 * l.length := by
  induction l with
  | nil => rfl
  | cons a l ih => rw [List.flatMap_cons, List.length_append, ih]; simp [keyB]; omega
theorem kP_succ (H : List Int) (h : H.length = 8) (j : Nat) (hj : j < 8) (o : Nat) (ho : o = 4 * j) (x : Int) (hx : H.getD j 0 = x) : putAt (kP H j) o [x / 16777216 % 256, x / 65536 % 256, x / 256 % 256, x % 256] = kP H (j + 1) := by
  have hx' : H[j]'(by omega) = x := by rw [← hx, List.getD_eq_getElem?_getD, List.getElem?_eq_getElem (by omega)]; rfl
  have e1 : kP H j = (H.take j).flatMap keyB ++ (zs 4 ++ zs (32 - 4 * (j + 1))) := by
    unfold kP
    rw [← zs_add]; congr 2; omega
  rw [e1, putAt_mid ((H.take j).flatMap keyB) (zs 4) (zs (32 - 4 * (j + 1))) [x / 16777216 % 256, x / 65536 % 256, x / 256 % 256, x % 256] o (by rw [flatKey_length, List.length_take, h, ho, Nat.min_eq_left (by omega)]) rfl]
  unfold kP
  rw [List.take_succ_eq_append_getElem (by omega), hx', List.flatMap_append]
  simp [keyB]
theorem info179 : (Tryd.prog.info? 179).map (fun i => (i.zero, i.size, i.bytes)) = some (some (.int .u32 0), 1, 4) := by kernel_rfl
theorem wp_index196 {ops : Array Oper} {rest : List Oper} {o : Oper} {a : Act} {Q : Exit → Act → World → Prop} {w : World} (hg : o.guard = none) (x y : Operand) (hop : o.op = Op.index 196 x y) (cs : Array Value) (hx : a.eval x = .agg cs) (j : Nat) (hy : a.eval y = .int .i64 (j : Int)) (u : Int) (hv : cs[j]? = some (.int .u32 u)) (hj : j < 8)
    (hK : wpList Tryd.prog ops Q rest (a.put o.dst (.int .u32 u)) w) : wpList Tryd.prog ops Q (o :: rest) a w := by
  refine wpList_plain hg fun K' hK' => ?_
  have hrun : (Instr.index 196 (.agg cs) (.int .i64 (j : Int))).run Tryd.prog w = .ok (.int .u32 u) w := by
    obtain ⟨i0, hi, hz0, hz1, hz2⟩ := info_parts info179
    have h8 : (j : Int) < 8 := by omega
    simp [Instr.index, asIntOf, run_underlying Tryd.underlying196, run_underlying Tryd.underlying179, part, isAgg, sizeOf, typeInfo, hi, hz1, h8, hv, Result.andThen]
    intro h9; omega
  unfold Oper.wp
  simp [execOp, hop, hx, hy, hrun, Result.andThen]
  exact hK' _ _ hK
theorem size200 : (Tryd.prog.info? 200).map (·.size) = some 73 := by kernel_rfl
theorem zero200 : Tryd.zeroCells200.size = 73 := by kernel_rfl
theorem key_key {w : World} {cs : Array Value} (hcs : cs.size = 73) (W1 : World) (hW : ((w.alloc (.cells (by8A (zs 32)) 50)).alloc (.cells Tryd.zeroCells200 200)).setCells (w.heap.size + 1) 0 cs.toList = W1) :
    StrAt W1 w.heap.size (by8A (zs 32)) 50 ∧ StrAt W1 (w.heap.size + 1) cs 200 ∧ Keeps [] w W1 ∧ w.heap.size + 2 ≤ W1.heap.size := by
  have s1 := StrAt_new1 w (.cells (by8A (zs 32)) 50) Tryd.zeroCells200 200
  have s2 := StrAt_whole s1 cs.toList (by rw [Array.length_toList, hcs, zero200])
  have k := keeps_setCells (S := [w.heap.size + 1]) (g := w.heap.size + 1) (by simp) cs.toList 0 ((w.alloc (.cells (by8A (zs 32)) 50)).alloc (.cells Tryd.zeroCells200 200)) _ (Keeps.refl _ _)
  rw [hW] at s2 k
  rw [Array.toArray_toList] at s2
  refine ⟨((StrAt.new w (by8A (zs 32)) 50).alloc _).keeps k (by simp), s2, (((Keeps.refl [] w).alloc _).alloc _).trans k (by simp), ?_⟩
  have := k.size
  simpa using this
def KSt (w : World) (kb : Nat) (cs : Array Value) (v : Value) (W : World) : Prop := Keeps [] w W ∧ StrAt W kb (by8A (zs 32)) 50 ∧ StrAt W (kb + 1) cs 200 ∧ (∀ k, v.ownBlock = some k → kb + 2 ≤ k) ∧ kb + 2 ≤ W.heap.size
theorem KSt.step {w W w1 : World} {kb : Nat} {cs : Array Value} {v v1 : Value} (hkb : kb = w.heap.size) (h : KSt w kb cs v W) (hk : Keeps v.ownBlock.toList W w1) (hf : ∀ k, v1.ownBlock = some k → v.ownBlock = some k ∨ W.heap.size ≤ k) : KSt w kb cs v1 w1 := by
  obtain ⟨h1, h2, h3, h4, h5⟩ := h
  have hn : ∀ b, b < kb + 2 → b ∉ v.ownBlock.toList := fun b hb hm => by
    have := h4 b (by simpa using hm)
    omega
  refine ⟨keeps_row h1 hk fun k e => .inr (by have := h4 k e; omega), h2.keeps hk (hn _ (by omega)), h3.keeps hk (hn _ (by omega)), fun k e => ?_, Nat.le_trans h5 hk.size⟩
  rcases hf k e with h6 | h6
  · exact h4 k h6
  · omega
set_option maxHeartbeats 4000000 in
theorem key_calls {w : World} {hb : Nat} {hs rest : List Int} {n : Nat} (h : StrAt w hb (hCells hs rest (n : Int)) 200) (h1 : hs.length = 8) (h2 : rest.length = 64) (hw1 : 1 < w.heap.size) (hT : ShaW w) (hl : n ≤ 1073741824) :
    Calls Tryd.prog 97 #[.pointer (some ⟨hb, 0, none⟩)] w fun e w' => e = .returned (.agg (by8A (keyF hs rest n))) ∧ Keeps [] w w' := by
  have HS := Lib.hid h
  have HL := Lib.hid (str_range (h.alloc (.cells (by8A (zs 32)) 50)))
  have hsz := hCells_size hs rest (n : Int) h1 h2
  have HSZ := Lib.hid (show (Tryd.prog.info? 200).map (·.size) = some (hCells hs rest (n : Int)).toList.length by rw [size200, Array.length_toList, hsz])
  have HSZ2 := Lib.hid (show (Tryd.prog.info? 200).map (·.size) = some (hCells hs rest (n : Int)).size by rw [size200, hsz])
  have HO := Lib.hid (show (hCells hs rest (n : Int)).all (·.oneCell') = true from all_oneCell_toArray (by
    intro v hv
    rcases List.mem_append.1 hv with hv | hv
    · exact by32_one _ v hv
    · rcases List.mem_append.1 hv with hv | hv
      · exact by8_one _ v hv
      · simp at hv; subst hv; rfl))
  have HTh := Lib.hid (show ((w.alloc (.cells (by8A (zs 32)) 50)).alloc (.cells Tryd.zeroCells200 200)).there (w.heap.size + 1) 0 (hCells hs rest (n : Int)).size from StrAt_there (StrAt_new1 w _ Tryd.zeroCells200 200) 0 _ (by rw [hsz, zero200]; decide))
  have KEY := Lib.hid (key_key (w := w) hsz)
  have HT := Lib.hid hT
  have H1L := Lib.hid h1
  have H2R := Lib.hid h2
  have YN := Lib.hid (show ∀ W, Keeps [] w W → W.cell? ⟨hb, 72, none⟩ = some (.int .i64 (n : Int)) from fun W hk => hk.cell (h_n h h1 h2) (by simp))
  clear h h1 h2 hsz hT
  obtain ⟨cs, hcs⟩ : ∃ cs, cs = hCells hs rest (n : Int) := ⟨_, rfl⟩
  rw [← hcs] at HL HSZ HSZ2 HO HTh KEY
  have HCS := Lib.hid hcs
  clear hcs
  go_enter Tryd.func97, Tryd.ntmps97
  go_wp2_with (first | (refine wpList_load_mid rfl 200 (.tmp 10) rfl hb 0 rfl cs.toList _ HL.out Tryd.underlying200 rfl HSZ.out ?_; simp only [Array.toArray_toList]) | (refine wpList_store_mid rfl 200 (.tmp 3) (.tmp 11) rfl (w.heap.size + 1) 0 cs rfl rfl HTh.out HSZ2.out HO.out ?_; generalize HW1 : World.setCells _ _ _ _ = W1; obtain ⟨A1, A2, A3, A4⟩ := KEY.out W1 HW1; clear HW1))
  obtain ⟨kb, hkb⟩ : ∃ kb, kb = w.heap.size := ⟨_, rfl⟩
  rw [← hkb] at A1 A2 A4 ⊢
  have HKB := Lib.hid hkb
  have R0 : RowAt (W1.alloc (.cells #[.int .u8 128] 5)) W1.heap.size 5 1 1 1 (by8 (128 :: zs 0)) := RowAt.lit W1 #[.int .u8 128] 5 1 1 rfl (by unfold maxLen; omega)
  clear hkb HL HSZ HSZ2 HO HTh KEY
  go_loopw [4] (fun v W => ∃ L q cap : Nat, 1 ≤ L ∧ L ≤ zN n + 1 ∧ v = .slice (some ⟨q, 0, none⟩) L cap ∧ RowAt W q 5 1 L cap (by8 (128 :: zs (L - 1))) ∧ kb + 2 ≤ q ∧ StrAt W kb (by8A (zs 32)) 50 ∧ StrAt W (kb + 1) cs 200 ∧ Keeps [] w W) (fun v _ => zN n + 2 - lenV v)
  case atStart => exact ⟨1, W1.heap.size, 1, by omega, by omega, rfl, R0, A4, A1.alloc _, A2.alloc _, A3.alloc _⟩
  case round =>
    obtain ⟨L, q, cap, hL1, hL2, rfl, hr, hq, e1, e2, e3⟩ := hrel
    have yn := YN.out _ e3
    by_cases hlt : L < zN n + 1
    · have b1 : ((((n : Int) + (L : Int)) % 64) != 56) = true := by
        have : zN n = (119 - n % 64) % 64 := rfl
        simp; omega
      have HZ := Lib.hid (show by8 (128 :: zs (L - 1)) ++ [Value.int .u8 0] = by8 (128 :: zs L) by
        have : zs L = zs (L - 1) ++ zs 1 := by rw [← zs_add]; congr 1; omega
        rw [this, ← List.cons_append, by8_append]; rfl)
      have E1 := Lib.hid e1
      have E2 := Lib.hid e2
      have E3 := Lib.hid e3
      have HLT := Lib.hid hlt
      have hz0 : zN n < 64 := Nat.mod_lt _ (by decide)
      clear e1 e2 e3 hlt
      go_wp2_with (refine wp_push rfl _ _ 22 5 (.int .u8 0) 1 1 rfl Tryd.underlying22 info5c rfl (by omega) (by omega) (.slice (some ⟨q, 0, none⟩) L cap) L (by8 (128 :: zs (L - 1))) #[.int .u8 0] rfl rfl rfl rfl ?c1 hr ?c2 ?_)
      case c1 => simp [Value.oneCell']
      case c2 => omega
      intro v1 w3 hown3 hk3 hb3
      obtain ⟨q1, cap1, rfl, hrow3⟩ := own_some hown3 (by omega)
      go_wp2
      go_roundw
      case rel =>
        have z0 := HLT.out
        have z1 := HKB.out
        have z2 := hr.lt
        have z3 := E2.out.lt
        refine ⟨L + 1, q1, cap1, by omega, by omega, rfl, ?_, ?_, E1.out.keeps hk3 (by simp [Value.ownBlock]; omega), E2.out.keeps hk3 (by simp [Value.ownBlock]; omega), keeps_row E3.out hk3 (fun k e => .inr (by simp [Value.ownBlock] at e; omega))⟩
        · rw [show L + 1 - 1 = L by omega, ← HZ.out]; exact hrow3
        · rcases hb3 q1 rfl with h9 | h9
          · cases h9; omega
          · omega
      case measure => have := HLT.out; simp [lenV]; omega
    · have b1 : ((((n : Int) + (L : Int)) % 64) != 56) = false := by
        have : zN n = (119 - n % 64) % 64 := rfl
        simp; omega
      have HLE := Lib.hid (show L = zN n + 1 by omega)
      have hz0 : zN n < 64 := Nat.mod_lt _ (by decide)
      have hL9 : L ≤ 64 := by omega
      clear hlt
      go_wp2
      obtain ⟨xs0, hxs0⟩ : ∃ x, x = by8 (128 :: zs (L - 1)) := ⟨_, rfl⟩
      rw [← hxs0] at hr
      have HX0 := Lib.hid hxs0
      have E1 := Lib.hid e1
      have E2 := Lib.hid e2
      have E3 := Lib.hid e3
      clear e1 e2 e3 hxs0 b1
      -- ROUNDS
      have S0 : KSt w kb cs (.slice (some ⟨q, 0, none⟩) L cap) wr := ⟨E3.out, E1.out, E2.out, by rintro k hk; cases hk; exact hq, by have := E2.out.lt; omega⟩
      have HS0 := Lib.hid S0
      have ho0 : wr.ownsRow 0 5 1 (.slice (some ⟨q, 0, none⟩) L cap) L xs0 := hr
      clear S0 hr hq
      refine wp_loop_rounds 9 ?_
      rw [rounds_succ]
      go_wp2_with (refine wp_push rfl _ _ 22 5 (.int .u8 0) 1 1 rfl Tryd.underlying22 info5c rfl (by omega) (by omega) (.slice (some ⟨q, 0, none⟩) L cap) _ _ _ rfl rfl rfl rfl ?c1 ho0 ?c2 ?_)
      case c1 => simp [Value.oneCell']
      case c2 => omega
      intro v1 w1 ho1 hk1 hf1
      have HS1 := Lib.hid (KSt.step HKB.out HS0.out hk1 hf1)
      clear yn ho0 hk1 hf1 HS0
      go_wp2
      rw [rounds_succ]
      have yn := YN.out _ HS1.out.1
      go_wp2_with (refine wp_push rfl _ _ 22 5 (.int .u8 0) 1 1 rfl Tryd.underlying22 info5c rfl (by omega) (by omega) v1 _ _ _ rfl rfl rfl rfl ?c1 ho1 ?c2 ?_)
      case c1 => simp [Value.oneCell']
      case c2 => omega
      intro v2 w2 ho2 hk2 hf2
      have HS2 := Lib.hid (KSt.step HKB.out HS1.out hk2 hf2)
      clear yn ho1 hk2 hf2 HS1
      go_wp2
      rw [rounds_succ]
      have yn := YN.out _ HS2.out.1
      go_wp2_with (refine wp_push rfl _ _ 22 5 (.int .u8 0) 1 1 rfl Tryd.underlying22 info5c rfl (by omega) (by omega) v2 _ _ _ rfl rfl rfl rfl ?c1 ho2 ?c2 ?_)
      case c1 => simp [Value.oneCell']
      case c2 => omega
      intro v3 w3 ho3 hk3 hf3
      have HS3 := Lib.hid (KSt.step HKB.out HS2.out hk3 hf3)
      clear yn ho2 hk3 hf3 HS2
      go_wp2
      rw [rounds_succ]
      have yn := YN.out _ HS3.out.1
      go_wp2_with (refine wp_push rfl _ _ 22 5 (.int .u8 0) 1 1 rfl Tryd.underlying22 info5c rfl (by omega) (by omega) v3 _ _ _ rfl rfl rfl rfl ?c1 ho3 ?c2 ?_)
      case c1 => simp [Value.oneCell']
      case c2 => omega
      intro v4 w4 ho4 hk4 hf4
      have HS4 := Lib.hid (KSt.step HKB.out HS3.out hk4 hf4)
      clear yn ho3 hk4 hf4 HS3
      go_wp2
      rw [rounds_succ]
      have yn := YN.out _ HS4.out.1
      go_wp2_with (refine wp_push rfl _ _ 22 5 (.int .u8 0) 1 1 rfl Tryd.underlying22 info5c rfl (by omega) (by omega) v4 _ _ _ rfl rfl rfl rfl ?c1 ho4 ?c2 ?_)
      case c1 => simp [Value.oneCell']
      case c2 => omega
      intro v5 w5 ho5 hk5 hf5
      have HS5 := Lib.hid (KSt.step HKB.out HS4.out hk5 hf5)
      clear yn ho4 hk5 hf5 HS4
      go_wp2
      rw [rounds_succ]
      have yn := YN.out _ HS5.out.1
      go_wp2_with (refine wp_push rfl _ _ 22 5 (.int .u8 0) 1 1 rfl Tryd.underlying22 info5c rfl (by omega) (by omega) v5 _ _ _ rfl rfl rfl rfl ?c1 ho5 ?c2 ?_)
      case c1 => simp [Value.oneCell']
      case c2 => omega
      intro v6 w6 ho6 hk6 hf6
      have HS6 := Lib.hid (KSt.step HKB.out HS5.out hk6 hf6)
      clear yn ho5 hk6 hf6 HS5
      go_wp2
      rw [rounds_succ]
      have yn := YN.out _ HS6.out.1
      go_wp2_with (refine wp_push rfl _ _ 22 5 (.int .u8 0) 1 1 rfl Tryd.underlying22 info5c rfl (by omega) (by omega) v6 _ _ _ rfl rfl rfl rfl ?c1 ho6 ?c2 ?_)
      case c1 => simp [Value.oneCell']
      case c2 => omega
      intro v7 w7 ho7 hk7 hf7
      have HS7 := Lib.hid (KSt.step HKB.out HS6.out hk7 hf7)
      clear yn ho6 hk7 hf7 HS6
      go_wp2
      rw [rounds_succ]
      have yn := YN.out _ HS7.out.1
      go_wp2_with (refine wp_push rfl _ _ 22 5 (.int .u8 0) 1 1 rfl Tryd.underlying22 info5c rfl (by omega) (by omega) v7 _ _ _ rfl rfl rfl rfl ?c1 ho7 ?c2 ?_)
      case c1 => simp [Value.oneCell']
      case c2 => omega
      intro v8 w8 ho8 hk8 hf8
      have HS8 := Lib.hid (KSt.step HKB.out HS7.out hk8 hf8)
      clear yn ho7 hk8 hf8 HS7
      go_wp2
      rw [rounds_succ]
      -- ENDROUNDS
      have hend : w8.ownsRow 0 5 1 v8 (endB n).length (by8 (endB n)) := by
        have e1 : L + 1 + 1 + 1 + 1 + 1 + 1 + 1 + 1 = (endB n).length := by rw [endB_length, HLE.out]
        rw [e1, HX0.out, HLE.out] at ho8
        have e2 : by8 (128 :: zs (zN n + 1 - 1)) ++ [Value.int .u8 (8 * (n : Int) / 72057594037927936), Value.int .u8 (8 * (n : Int) / 281474976710656), Value.int .u8 (8 * (n : Int) / 1099511627776), Value.int .u8 (8 * (n : Int) / 4294967296), Value.int .u8 (8 * (n : Int) / 16777216 % 256), Value.int .u8 (8 * (n : Int) / 65536 % 256), Value.int .u8 (8 * (n : Int) / 256 % 256), Value.int .u8 (8 * (n : Int) % 256)] = by8 (endB n) := by
          have a1 : 8 * (n : Int) / 72057594037927936 % 256 = 8 * (n : Int) / 72057594037927936 := by omega
          have a2 : 8 * (n : Int) / 281474976710656 % 256 = 8 * (n : Int) / 281474976710656 := by omega
          have a3 : 8 * (n : Int) / 1099511627776 % 256 = 8 * (n : Int) / 1099511627776 := by omega
          have a4 : 8 * (n : Int) / 4294967296 % 256 = 8 * (n : Int) / 4294967296 := by omega
          unfold endB lenB
          simp only [a1, a2, a3, a4, Nat.add_sub_cancel]
          rw [← List.cons_append, by8_append]
          rfl
        rw [e2] at ho8
        exact ho8
      clear ho8
      obtain ⟨ge, ce, rfl, hrow⟩ := own_some hend (by rw [endB_length]; omega)
      have HLE2 := Lib.hid (endB_length n)
      obtain ⟨s1, s2, s3, s4, s5⟩ := HS8.out
      rw [HCS.out] at s3
      have hce := hrow.capLe
      have hge := s4 ge rfl
      have HW := Lib.hid (show Calls Tryd.prog 96 #[.pointer (some ⟨kb + 1, 0, none⟩), .slice (some ⟨ge, 0, none⟩) (endB n).length ce] w8 fun e w' => e = .returned (.tuple #[]) ∧ (∃ r, StrAt w' (kb + 1) (hCells (wF hs rest n (endB n)) r ((n : Int) + ((endB n).length : Int))) 200 ∧ r.length = 64) ∧ Keeps [kb + 1] w8 w' from
        write_h s3 H1L.out H2R.out (by have := HKB.out; omega) (HT.out.keeps s1 (by simp)) ge 0 ce (endB n) (fun j v hj => by rw [Nat.zero_add, RowAt.cell hrow j (by have := (List.getElem?_eq_some_iff.1 hj).1; rw [by8_length] at this; omega)]; exact hj) (by omega) hce.1 (by rw [endB_length]; omega) (by
          rw [endB_length]
          have : zN n = (119 - n % 64) % 64 := rfl
          omega))
      have HH8 := Lib.hid (wF_length hs rest n (endB n) H1L.out)
      generalize (endB n).length = le at HW
      have S1 := Lib.hid s1
      have S2 := Lib.hid s2
      clear s1 s2 s3 s4 s5 hend hrow hce hge HS8
      -- TAIL
      go_wp2_with (first | (go_at_call 96; refine HW.out.mono ?_; rintro e w9 ⟨rfl, ⟨r9, q1, q2⟩, k9⟩; obtain ⟨a0, a1, a2, a3, a4, a5, a6, a7, hA⟩ := list8 HH8.out; rw [hA] at q1; have HA := Lib.hid hA; have hq9 := h_words (q1.alloc (.cells (by8A (zs 32)) 50)); clear hA) | (refine wpList_load_mid rfl 196 (.tmp 43) rfl (kb + 1) 0 rfl [.int .u32 a0, .int .u32 a1, .int .u32 a2, .int .u32 a3, .int .u32 a4, .int .u32 a5, .int .u32 a6, .int .u32 a7] _ hq9 Tryd.underlying196 rfl size196 ?_))
      have B1 : StrAt w9 kb (by8A (zs 32)) 50 := S2.out.keeps k9 (by simp)
      have B2 : Keeps [] w w9 := S1.out.trans k9 (by have := HKB.out; simp; omega)
      have B3 : kb < w9.heap.size := B1.lt
      obtain ⟨k2, hk2⟩ : ∃ k2, k2 = w9.heap.size := ⟨_, rfl⟩
      have C1 : StrAt (w9.alloc (.cells (by8A (zs 32)) 50)) k2 (by8A (kP [a0, a1, a2, a3, a4, a5, a6, a7] 0)) 50 := by rw [hk2]; exact StrAt.new w9 (by8A (zs 32)) 50
      rw [← hk2] at B3 ⊢
      have HK2 := Lib.hid hk2
      clear hk2 hq9 q1 q2 k9 HW HH8
      go_loopw [45] (fun i W => ∃ j : Nat, j ≤ 8 ∧ i = .int .i64 (j : Int) ∧ StrAt W k2 (by8A (kP [a0, a1, a2, a3, a4, a5, a6, a7] j)) 50 ∧ StrAt W kb (by8A (zs 32)) 50 ∧ Keeps [] w W) (fun i _ => 8 - (intOf i).toNat)
      case atStart => exact ⟨0, by omega, rfl, C1, B1.alloc _, B2.alloc _⟩
      case round =>
        obtain ⟨j, hj, rfl, e1, e2, e3⟩ := hrel
        have HJ : Hid (kb < k2 ∧ w.heap.size ≤ kb) := Lib.hid ⟨B3, by have := HKB.out; omega⟩
        by_cases hlt : j < 8
        · have e9 : j = 0 ∨ j = 1 ∨ j = 2 ∨ j = 3 ∨ j = 4 ∨ j = 5 ∨ j = 6 ∨ j = 7 := by omega
          have E2 := Lib.hid e2
          have E3 := Lib.hid e3
          clear e2 e3 hlt hj C1 B1 B2 B3
          rcases e9 with rfl | rfl | rfl | rfl | rfl | rfl | rfl | rfl
          · have y0 := cell8 e1 0 (by rw [kP_length _ 0 rfl (by decide)]; decide)
            have f0 := e1.frozen 0
            have y1 := cell8 e1 1 (by rw [kP_length _ 0 rfl (by decide)]; decide)
            have f1 := e1.frozen 1
            have y2 := cell8 e1 2 (by rw [kP_length _ 0 rfl (by decide)]; decide)
            have f2 := e1.frozen 2
            have y3 := cell8 e1 3 (by rw [kP_length _ 0 rfl (by decide)]; decide)
            have f3 := e1.frozen 3
            generalize (kP [a0, a1, a2, a3, a4, a5, a6, a7] 0).getD 0 0 = u0 at y0
            generalize (kP [a0, a1, a2, a3, a4, a5, a6, a7] 0).getD 1 0 = u1 at y1
            generalize (kP [a0, a1, a2, a3, a4, a5, a6, a7] 0).getD 2 0 = u2 at y2
            generalize (kP [a0, a1, a2, a3, a4, a5, a6, a7] 0).getD 3 0 = u3 at y3
            have E1 := Lib.hid e1
            clear e1
            go_wp2_with (refine wp_index196 rfl (.tmp 44) (.tmp 45) rfl _ rfl 0 rfl a0 rfl (by decide) ?_)
            go_roundw
            case rel =>
              have h0 := HJ.out
              refine ⟨1, by decide, rfl, ?_, (((E2.out.other (by simp; omega) _).other (by simp; omega) _).other (by simp; omega) _).other (by simp; omega) _, (((E3.out.setCell (a := ⟨k2, 0, none⟩) (.inr (by simp; omega)) _).setCell (a := ⟨k2, 1, none⟩) (.inr (by simp; omega)) _).setCell (a := ⟨k2, 2, none⟩) (.inr (by simp; omega)) _).setCell (a := ⟨k2, 3, none⟩) (.inr (by simp; omega)) _⟩
              rw [← kP_succ [a0, a1, a2, a3, a4, a5, a6, a7] rfl 0 (by decide) 0 rfl a0 rfl]
              exact set8x4 E1.out 0 (by rw [kP_length _ 0 rfl (by decide)]; decide) _ _ _ _
            case measure => simp [intOf]
          · have y0 := cell8 e1 4 (by rw [kP_length _ 1 rfl (by decide)]; decide)
            have f0 := e1.frozen 4
            have y1 := cell8 e1 5 (by rw [kP_length _ 1 rfl (by decide)]; decide)
            have f1 := e1.frozen 5
            have y2 := cell8 e1 6 (by rw [kP_length _ 1 rfl (by decide)]; decide)
            have f2 := e1.frozen 6
            have y3 := cell8 e1 7 (by rw [kP_length _ 1 rfl (by decide)]; decide)
            have f3 := e1.frozen 7
            generalize (kP [a0, a1, a2, a3, a4, a5, a6, a7] 1).getD 4 0 = u0 at y0
            generalize (kP [a0, a1, a2, a3, a4, a5, a6, a7] 1).getD 5 0 = u1 at y1
            generalize (kP [a0, a1, a2, a3, a4, a5, a6, a7] 1).getD 6 0 = u2 at y2
            generalize (kP [a0, a1, a2, a3, a4, a5, a6, a7] 1).getD 7 0 = u3 at y3
            have E1 := Lib.hid e1
            clear e1
            go_wp2_with (refine wp_index196 rfl (.tmp 44) (.tmp 45) rfl _ rfl 1 rfl a1 rfl (by decide) ?_)
            go_roundw
            case rel =>
              have h0 := HJ.out
              refine ⟨2, by decide, rfl, ?_, (((E2.out.other (by simp; omega) _).other (by simp; omega) _).other (by simp; omega) _).other (by simp; omega) _, (((E3.out.setCell (a := ⟨k2, 4, none⟩) (.inr (by simp; omega)) _).setCell (a := ⟨k2, 5, none⟩) (.inr (by simp; omega)) _).setCell (a := ⟨k2, 6, none⟩) (.inr (by simp; omega)) _).setCell (a := ⟨k2, 7, none⟩) (.inr (by simp; omega)) _⟩
              rw [← kP_succ [a0, a1, a2, a3, a4, a5, a6, a7] rfl 1 (by decide) 4 rfl a1 rfl]
              exact set8x4 E1.out 4 (by rw [kP_length _ 1 rfl (by decide)]; decide) _ _ _ _
            case measure => simp [intOf]
          · have y0 := cell8 e1 8 (by rw [kP_length _ 2 rfl (by decide)]; decide)
            have f0 := e1.frozen 8
            have y1 := cell8 e1 9 (by rw [kP_length _ 2 rfl (by decide)]; decide)
            have f1 := e1.frozen 9
            have y2 := cell8 e1 10 (by rw [kP_length _ 2 rfl (by decide)]; decide)
            have f2 := e1.frozen 10
            have y3 := cell8 e1 11 (by rw [kP_length _ 2 rfl (by decide)]; decide)
            have f3 := e1.frozen 11
            generalize (kP [a0, a1, a2, a3, a4, a5, a6, a7] 2).getD 8 0 = u0 at y0
            generalize (kP [a0, a1, a2, a3, a4, a5, a6, a7] 2).getD 9 0 = u1 at y1
            generalize (kP [a0, a1, a2, a3, a4, a5, a6, a7] 2).getD 10 0 = u2 at y2
            generalize (kP [a0, a1, a2, a3, a4, a5, a6, a7] 2).getD 11 0 = u3 at y3
            have E1 := Lib.hid e1
            clear e1
            go_wp2_with (refine wp_index196 rfl (.tmp 44) (.tmp 45) rfl _ rfl 2 rfl a2 rfl (by decide) ?_)
            go_roundw
            case rel =>
              have h0 := HJ.out
              refine ⟨3, by decide, rfl, ?_, (((E2.out.other (by simp; omega) _).other (by simp; omega) _).other (by simp; omega) _).other (by simp; omega) _, (((E3.out.setCell (a := ⟨k2, 8, none⟩) (.inr (by simp; omega)) _).setCell (a := ⟨k2, 9, none⟩) (.inr (by simp; omega)) _).setCell (a := ⟨k2, 10, none⟩) (.inr (by simp; omega)) _).setCell (a := ⟨k2, 11, none⟩) (.inr (by simp; omega)) _⟩
              rw [← kP_succ [a0, a1, a2, a3, a4, a5, a6, a7] rfl 2 (by decide) 8 rfl a2 rfl]
              exact set8x4 E1.out 8 (by rw [kP_length _ 2 rfl (by decide)]; decide) _ _ _ _
            case measure => simp [intOf]
          · have y0 := cell8 e1 12 (by rw [kP_length _ 3 rfl (by decide)]; decide)
            have f0 := e1.frozen 12
            have y1 := cell8 e1 13 (by rw [kP_length _ 3 rfl (by decide)]; decide)
            have f1 := e1.frozen 13
            have y2 := cell8 e1 14 (by rw [kP_length _ 3 rfl (by decide)]; decide)
            have f2 := e1.frozen 14
            have y3 := cell8 e1 15 (by rw [kP_length _ 3 rfl (by decide)]; decide)
            have f3 := e1.frozen 15
            generalize (kP [a0, a1, a2, a3, a4, a5, a6, a7] 3).getD 12 0 = u0 at y0
            generalize (kP [a0, a1, a2, a3, a4, a5, a6, a7] 3).getD 13 0 = u1 at y1
            generalize (kP [a0, a1, a2, a3, a4, a5, a6, a7] 3).getD 14 0 = u2 at y2
            generalize (kP [a0, a1, a2, a3, a4, a5, a6, a7] 3).getD 15 0 = u3 at y3
            have E1 := Lib.hid e1
            clear e1
            go_wp2_with (refine wp_index196 rfl (.tmp 44) (.tmp 45) rfl _ rfl 3 rfl a3 rfl (by decide) ?_)
            go_roundw
            case rel =>
              have h0 := HJ.out
              refine ⟨4, by decide, rfl, ?_, (((E2.out.other (by simp; omega) _).other (by simp; omega) _).other (by simp; omega) _).other (by simp; omega) _, (((E3.out.setCell (a := ⟨k2, 12, none⟩) (.inr (by simp; omega)) _).setCell (a := ⟨k2, 13, none⟩) (.inr (by simp; omega)) _).setCell (a := ⟨k2, 14, none⟩) (.inr (by simp; omega)) _).setCell (a := ⟨k2, 15, none⟩) (.inr (by simp; omega)) _⟩
              rw [← kP_succ [a0, a1, a2, a3, a4, a5, a6, a7] rfl 3 (by decide) 12 rfl a3 rfl]
              exact set8x4 E1.out 12 (by rw [kP_length _ 3 rfl (by decide)]; decide) _ _ _ _
            case measure => simp [intOf]
          · have y0 := cell8 e1 16 (by rw [kP_length _ 4 rfl (by decide)]; decide)
            have f0 := e1.frozen 16
            have y1 := cell8 e1 17 (by rw [kP_length _ 4 rfl (by decide)]; decide)
            have f1 := e1.frozen 17
            have y2 := cell8 e1 18 (by rw [kP_length _ 4 rfl (by decide)]; decide)
            have f2 := e1.frozen 18
            have y3 := cell8 e1 19 (by rw [kP_length _ 4 rfl (by decide)]; decide)
            have f3 := e1.frozen 19
            generalize (kP [a0, a1, a2, a3, a4, a5, a6, a7] 4).getD 16 0 = u0 at y0
            generalize (kP [a0, a1, a2, a3, a4, a5, a6, a7] 4).getD 17 0 = u1 at y1
            generalize (kP [a0, a1, a2, a3, a4, a5, a6, a7] 4).getD 18 0 = u2 at y2
            generalize (kP [a0, a1, a2, a3, a4, a5, a6, a7] 4).getD 19 0 = u3 at y3
            have E1 := Lib.hid e1
            clear e1
            go_wp2_with (refine wp_index196 rfl (.tmp 44) (.tmp 45) rfl _ rfl 4 rfl a4 rfl (by decide) ?_)
            go_roundw
            case rel =>
              have h0 := HJ.out
              refine ⟨5, by decide, rfl, ?_, (((E2.out.other (by simp; omega) _).other (by simp; omega) _).other (by simp; omega) _).other (by simp; omega) _, (((E3.out.setCell (a := ⟨k2, 16, none⟩) (.inr (by simp; omega)) _).setCell (a := ⟨k2, 17, none⟩) (.inr (by simp; omega)) _).setCell (a := ⟨k2, 18, none⟩) (.inr (by simp; omega)) _).setCell (a := ⟨k2, 19, none⟩) (.inr (by simp; omega)) _⟩
              rw [← kP_succ [a0, a1, a2, a3, a4, a5, a6, a7] rfl 4 (by decide) 16 rfl a4 rfl]
              exact set8x4 E1.out 16 (by rw [kP_length _ 4 rfl (by decide)]; decide) _ _ _ _
            case measure => simp [intOf]
          · have y0 := cell8 e1 20 (by rw [kP_length _ 5 rfl (by decide)]; decide)
            have f0 := e1.frozen 20
            have y1 := cell8 e1 21 (by rw [kP_length _ 5 rfl (by decide)]; decide)
            have f1 := e1.frozen 21
            have y2 := cell8 e1 22 (by rw [kP_length _ 5 rfl (by decide)]; decide)
            have f2 := e1.frozen 22
            have y3 := cell8 e1 23 (by rw [kP_length _ 5 rfl (by decide)]; decide)
            have f3 := e1.frozen 23
            generalize (kP [a0, a1, a2, a3, a4, a5, a6, a7] 5).getD 20 0 = u0 at y0
            generalize (kP [a0, a1, a2, a3, a4, a5, a6, a7] 5).getD 21 0 = u1 at y1
            generalize (kP [a0, a1, a2, a3, a4, a5, a6, a7] 5).getD 22 0 = u2 at y2
            generalize (kP [a0, a1, a2, a3, a4, a5, a6, a7] 5).getD 23 0 = u3 at y3
            have E1 := Lib.hid e1
            clear e1
            go_wp2_with (refine wp_index196 rfl (.tmp 44) (.tmp 45) rfl _ rfl 5 rfl a5 rfl (by decide) ?_)
            go_roundw
            case rel =>
              have h0 := HJ.out
              refine ⟨6, by decide, rfl, ?_, (((E2.out.other (by simp; omega) _).other (by simp; omega) _).other (by simp; omega) _).other (by simp; omega) _, (((E3.out.setCell (a := ⟨k2, 20, none⟩) (.inr (by simp; omega)) _).setCell (a := ⟨k2, 21, none⟩) (.inr (by simp; omega)) _).setCell (a := ⟨k2, 22, none⟩) (.inr (by simp; omega)) _).setCell (a := ⟨k2, 23, none⟩) (.inr (by simp; omega)) _⟩
              rw [← kP_succ [a0, a1, a2, a3, a4, a5, a6, a7] rfl 5 (by decide) 20 rfl a5 rfl]
              exact set8x4 E1.out 20 (by rw [kP_length _ 5 rfl (by decide)]; decide) _ _ _ _
            case measure => simp [intOf]
          · have y0 := cell8 e1 24 (by rw [kP_length _ 6 rfl (by decide)]; decide)
            have f0 := e1.frozen 24
            have y1 := cell8 e1 25 (by rw [kP_length _ 6 rfl (by decide)]; decide)
            have f1 := e1.frozen 25
            have y2 := cell8 e1 26 (by rw [kP_length _ 6 rfl (by decide)]; decide)
            have f2 := e1.frozen 26
            have y3 := cell8 e1 27 (by rw [kP_length _ 6 rfl (by decide)]; decide)
            have f3 := e1.frozen 27
            generalize (kP [a0, a1, a2, a3, a4, a5, a6, a7] 6).getD 24 0 = u0 at y0
            generalize (kP [a0, a1, a2, a3, a4, a5, a6, a7] 6).getD 25 0 = u1 at y1
            generalize (kP [a0, a1, a2, a3, a4, a5, a6, a7] 6).getD 26 0 = u2 at y2
            generalize (kP [a0, a1, a2, a3, a4, a5, a6, a7] 6).getD 27 0 = u3 at y3
            have E1 := Lib.hid e1
            clear e1
            go_wp2_with (refine wp_index196 rfl (.tmp 44) (.tmp 45) rfl _ rfl 6 rfl a6 rfl (by decide) ?_)
            go_roundw
            case rel =>
              have h0 := HJ.out
              refine ⟨7, by decide, rfl, ?_, (((E2.out.other (by simp; omega) _).other (by simp; omega) _).other (by simp; omega) _).other (by simp; omega) _, (((E3.out.setCell (a := ⟨k2, 24, none⟩) (.inr (by simp; omega)) _).setCell (a := ⟨k2, 25, none⟩) (.inr (by simp; omega)) _).setCell (a := ⟨k2, 26, none⟩) (.inr (by simp; omega)) _).setCell (a := ⟨k2, 27, none⟩) (.inr (by simp; omega)) _⟩
              rw [← kP_succ [a0, a1, a2, a3, a4, a5, a6, a7] rfl 6 (by decide) 24 rfl a6 rfl]
              exact set8x4 E1.out 24 (by rw [kP_length _ 6 rfl (by decide)]; decide) _ _ _ _
            case measure => simp [intOf]
          · have y0 := cell8 e1 28 (by rw [kP_length _ 7 rfl (by decide)]; decide)
            have f0 := e1.frozen 28
            have y1 := cell8 e1 29 (by rw [kP_length _ 7 rfl (by decide)]; decide)
            have f1 := e1.frozen 29
            have y2 := cell8 e1 30 (by rw [kP_length _ 7 rfl (by decide)]; decide)
            have f2 := e1.frozen 30
            have y3 := cell8 e1 31 (by rw [kP_length _ 7 rfl (by decide)]; decide)
            have f3 := e1.frozen 31
            generalize (kP [a0, a1, a2, a3, a4, a5, a6, a7] 7).getD 28 0 = u0 at y0
            generalize (kP [a0, a1, a2, a3, a4, a5, a6, a7] 7).getD 29 0 = u1 at y1
            generalize (kP [a0, a1, a2, a3, a4, a5, a6, a7] 7).getD 30 0 = u2 at y2
            generalize (kP [a0, a1, a2, a3, a4, a5, a6, a7] 7).getD 31 0 = u3 at y3
            have E1 := Lib.hid e1
            clear e1
            go_wp2_with (refine wp_index196 rfl (.tmp 44) (.tmp 45) rfl _ rfl 7 rfl a7 rfl (by decide) ?_)
            go_roundw
            case rel =>
              have h0 := HJ.out
              refine ⟨8, by decide, rfl, ?_, (((E2.out.other (by simp; omega) _).other (by simp; omega) _).other (by simp; omega) _).other (by simp; omega) _, (((E3.out.setCell (a := ⟨k2, 28, none⟩) (.inr (by simp; omega)) _).setCell (a := ⟨k2, 29, none⟩) (.inr (by simp; omega)) _).setCell (a := ⟨k2, 30, none⟩) (.inr (by simp; omega)) _).setCell (a := ⟨k2, 31, none⟩) (.inr (by simp; omega)) _⟩
              rw [← kP_succ [a0, a1, a2, a3, a4, a5, a6, a7] rfl 7 (by decide) 28 rfl a7 rfl]
              exact set8x4 E1.out 28 (by rw [kP_length _ 7 rfl (by decide)]; decide) _ _ _ _
            case measure => simp [intOf]
        · have b2 : ((j : Int) < 8) = False := eq_false (by omega)
          have h8 : j = 8 := by omega
          rw [h8] at e1
          have hkl := kP_length [a0, a1, a2, a3, a4, a5, a6, a7] 8 rfl (by decide)
          have HKF := Lib.hid (show kP [a0, a1, a2, a3, a4, a5, a6, a7] 8 = keyF hs rest n by unfold keyF; rw [HA.out]; rfl)
          generalize kP [a0, a1, a2, a3, a4, a5, a6, a7] 8 = G at e1 hkl HKF
          have HG := Lib.hid (str_range e1)
          have HT3 := Lib.hid (StrAt_there e2 0 (by8A G).size (by rw [by8A_size, by8A_size, hkl]; simp [zs]))
          have HS3 := Lib.hid (show (Tryd.prog.info? 50).map (·.size) = some (by8A G).size by rw [size50, by8A_size, hkl])
          have HO3 := Lib.hid (show (by8A G).all (·.oneCell') = true from all_oneCell_toArray (by8_one _))
          have HW9 := Lib.hid (StrAt_whole e2 (by8A G).toList (by rw [Array.length_toList, by8A_size, by8A_size, hkl]; simp [zs]))
          have HK9 := Lib.hid (show Keeps [] w (wr.setCells kb 0 (by8A G).toList) from by
            have := keeps_setCells (S := [kb]) (g := kb) (by simp) (by8A G).toList 0 w wr (e3.mono (by simp))
            exact this.mono (by have := HJ.out; simp; omega))
          clear e1 e2 e3 hkl h8 hj C1 B1 B2 B3 hlt
          go_wp2_with (first | (refine wpList_load_mid rfl 50 (.tmp 6) rfl k2 0 rfl (by8A G).toList _ HG.out Tryd.underlying50 rfl (by rw [HS3.out, Array.length_toList]) ?_; simp only [Array.toArray_toList]) | (refine wpList_store_mid rfl 50 (.tmp 2) (.tmp 76) rfl kb 0 (by8A G) rfl rfl HT3.out HS3.out HO3.out ?_))
          refine bodyPost_ret (results_cell rfl _ _ kb 0 rfl (by8A G).toList (str_range HW9.out) Tryd.underlying50 rfl (by rw [HS3.out, Array.length_toList])) rfl ?_
          exact ⟨by rw [Array.toArray_toList, HKF.out], HK9.out⟩
end Go.Proofs.YtgcpcgcfpjolnaaDoor.G
-- sha.Sum of one part.
namespace Go.Proofs.YtgcpcgcfpjolnaaDoor.G
open Go.RowKit Go.Proofs.YtgcpcgcfpjolnaaDoorW.PrintWords Go.Proofs.YtgcpcgcfpjolnaaDoorW.PrintLast Go.Proofs.YtgcpcgcfpjolnaaDoorW.PrintMore
set_option linter.unusedVariables false
set_option linter.unusedSimpArgs false
set_option maxRecDepth 10000
/-- the hash of bytes -/
def shaF (xs : List Int) : List Int := keyF (tailHs H0 xs) (tailRest (zs 64) xs) xs.length
theorem tailHs_length (hs xs : List Int) (h : hs.length = 8) : (tailHs hs xs).length = 8 := hsK_length _ _ h _
theorem tailRest_length (rest xs : List Int) (h : rest.length = 64) : (tailRest rest xs).length = 64 := by
  unfold tailRest
  rw [putAt_length _ _ _ (by rw [List.length_drop, h]; omega)]; exact h
theorem keyF_length (hs rest : List Int) (n : Nat) (h : hs.length = 8) : (keyF hs rest n).length = 32 := by
  unfold keyF
  rw [flatKey_length, wF_length _ _ _ _ h]
theorem shaF_length (xs : List Int) : (shaF xs).length = 32 := keyF_length _ _ _ (tailHs_length _ _ rfl)
theorem wp_copy_none {P : Program} {ops : Array Oper} {rest : List Oper} {o : Oper} {a : Act} {Q : Exit → Act → World → Prop} {W : World} (hgd : o.guard = none) (d s : Operand) (dT sT e : TypeId)
    (ho : o.op = .call { callee := .builtin .copy, args := #[d, s], argTypes := #[dT, sT] })
    (hu : P.underlying dT = some (.slice e)) (hs : (P.info? e).map (·.size) = some 1) {A B : Option Addr} {dLen dCap c : Nat} (hd : a.eval d = .slice A dLen dCap) (hsl : a.eval s = .slice B 0 c)
    (hK : wpList P ops Q rest (a.put o.dst (.int .i64 0)) W) : wpList P ops Q (o :: rest) a W := by
  refine wpList_plain hgd fun K' hK' => ?_
  have hrun : (Builtin.copy_ #[dT, sT] o.type #[.slice A dLen dCap, .slice B 0 c]).run P W = .ok (.int .i64 0) W := by
    rw [run_copy_none W dT sT o.type e _ _ _ _ _ _ hu hs (Nat.zero_min _)]; rfl
  unfold Oper.wp
  simp [execOp, ho, hd, hsl, resolve, invoke, builtin, hrun, Result.andThen]
  exact hK' _ _ hK
theorem write_nil {w : World} {b : Nat} {hs rest : List Int} (h : StrAt w b (hCells hs rest 0) 200) (h1 : hs.length = 8) (h2 : rest.length = 64) (c : Nat) :
    Calls Tryd.prog 96 #[.pointer (some ⟨b, 0, none⟩), .slice none 0 c] w fun e w' => e = .returned (.tuple #[]) ∧ StrAt w' b (hCells hs rest 0) 200 ∧ Keeps [b] w w' := by
  have yn := h_n h h1 h2
  have fn := h.frozen 72
  have H1 := Lib.hid (h_set_n h h1 h2 0)
  clear h
  go_enter Tryd.func96, Tryd.ntmps96
  go_wp2
  refine wp_loop_rounds 1 ?_
  rw [rounds_succ]
  go_wp2_with (refine wp_copy_none rfl (.tmp 66) (.tmp 67) 22 22 5 rfl Tryd.underlying22 info5s rfl rfl ?_)
  go_end0
  exact ⟨rfl, H1.out, (Keeps.refl _ _).setCell (by simp) _⟩
theorem sum_hash {w : World} (p cap : Nat) (A : Option Addr) (c L : Nat) (xs : List Int) (hp : w.cell? ⟨p, 0, none⟩ = some (.slice A L c)) (hx : (A = none ∧ xs = [] ∧ L = 0) ∨ ∃ g o, A = some ⟨g, o, none⟩ ∧ w.rangeAt g o (by8 xs) ∧ xs.length = L ∧ g < w.heap.size) (hc : L ≤ c)
    (hl : L ≤ 1073741824) (hT : ShaW w) (hw1 : 1 < w.heap.size) :
    Calls Tryd.prog 52 #[.slice (some ⟨p, 0, none⟩) 1 cap] w fun e w' => e = .returned (.agg (by8A (shaF xs))) ∧ Keeps [] w w' := by
  go_enter Tryd.func52, Tryd.ntmps52
  go_wp2_with (go_at_call 95; refine (new_hash _).mono ?_; rintro e w1 ⟨b, rfl, hb, h1, k1⟩)
  have hlt : w.heap.size < b := by simp at hb; omega
  have HRB : Hid (StrAt w1 w.heap.size (by8A (zs 32)) 50) := Lib.hid ((StrAt.new w (by8A (zs 32)) 50).keeps k1 (by simp))
  have K1 : Keeps [] w w1 := ((Keeps.refl [] w).alloc _).trans' k1
  have hp1 := K1.cell hp (by simp)
  have HW := Lib.hid (show Calls Tryd.prog 96 #[.pointer (some ⟨b, 0, none⟩), .slice A L c] w1 fun e w' => e = .returned (.tuple #[]) ∧ StrAt w' b (hCells (tailHs H0 xs) (tailRest (zs 64) xs) ((xs.length : Nat) : Int)) 200 ∧ Keeps [b] w1 w' from by
    rcases hx with ⟨rfl, rfl, rfl⟩ | ⟨g, o, rfl, hr, hL, hg⟩
    · exact write_nil h1 rfl (zs_length 64) c
    · subst hL
      refine (write0 (n := 0) h1 rfl (zs_length 64) (by omega) (hT.keeps K1 (by simp)) rfl g o c xs (range_keeps hr K1 (by simp)) (by omega) hc (by omega)).mono ?_
      rintro e w' ⟨rfl, q1, q2⟩
      refine ⟨rfl, ?_, q2⟩
      have e9 : ((0 : Nat) : Int) + (xs.length : Int) = ((xs.length : Nat) : Int) := by omega
      rw [e9] at q1; exact q1)
  have HXL : Hid (xs.length = L) := Lib.hid (by rcases hx with ⟨_, rfl, rfl⟩ | ⟨_, _, _, _, h, _⟩; rfl; exact h)
  have HT := Lib.hid hT
  have HK1 := Lib.hid K1
  clear hx hT K1 k1 hb h1 hp
  generalize hG : w.heap.size = rb at HRB hlt hw1 ⊢
  have HG := Lib.hid hG
  clear hG
  refine wp_loop_rounds 2 ?_
  rw [rounds_succ]
  go_wp2_with (go_at_call 96; refine HW.out.mono ?_; rintro e w2 ⟨rfl, h2, k2⟩)
  rw [rounds_succ]
  have HRB2 := Lib.hid (HRB.out.keeps k2 (by simp; omega))
  have HK2 := Lib.hid (HK1.out.trans k2 (by have := HG.out; simp; omega))
  have HKY := Lib.hid (key_calls h2 (tailHs_length _ _ rfl) (tailRest_length _ _ (zs_length 64)) (by have := h2.lt; omega) (HT.out.keeps HK2.out (by simp)) (by have := HXL.out; omega))
  have HSF := Lib.hid (show keyF (tailHs H0 xs) (tailRest (zs 64) xs) xs.length = shaF xs from rfl)
  have HFL := Lib.hid (shaF_length xs)
  clear h2 k2 HW
  generalize keyF (tailHs H0 xs) (tailRest (zs 64) xs) xs.length = F at HKY HSF
  rw [← HSF.out] at HFL
  have HTh := Lib.hid (show ∀ W, Keeps [] w2 W → W.there rb 0 (by8A F).size from fun W hk => StrAt_there (HRB2.out.keeps hk (by simp)) 0 _ (by rw [by8A_size, by8A_size, HFL.out]; simp [zs]))
  have HSz := Lib.hid (show (Tryd.prog.info? 50).map (·.size) = some (by8A F).size by rw [size50, by8A_size, HFL.out])
  have HO := Lib.hid (show (by8A F).all (·.oneCell') = true from all_oneCell_toArray (by8_one _))
  go_wp2_with (first | (go_at_call 97; refine HKY.out.mono ?_; rintro e w3 ⟨rfl, k3⟩) | (refine wpList_store_mid rfl 50 (.tmp 2) (.tmp 18) rfl rb 0 (by8A F) rfl rfl (HTh.out w3 k3) HSz.out HO.out ?_))
  have hw := StrAt_whole (HRB2.out.keeps k3 (by simp)) (by8A F).toList (by rw [Array.length_toList, by8A_size, by8A_size, HFL.out]; simp [zs])
  refine bodyPost_ret (results_cell rfl _ _ rb 0 rfl (by8A F).toList (str_range hw) Tryd.underlying50 rfl (by rw [HSz.out, Array.length_toList])) rfl ?_
  refine ⟨by rw [Array.toArray_toList, HSF.out], ?_⟩
  have := keeps_setCells (S := [rb]) (g := rb) (by simp) (by8A F).toList 0 w w3 ((HK2.out.trans' k3).mono (by simp))
  exact this.mono (by have := HG.out; simp; omega)
end Go.Proofs.YtgcpcgcfpjolnaaDoor.G
-- Arrays of bytes that are the same are told equal.
namespace Go.Proofs.YtgcpcgcfpjolnaaDoor.G
open Go.RowKit
set_option linter.unusedVariables false
set_option linter.unusedSimpArgs false
theorem forIn_yield {P : Program} {w : World} {β : Type} (s : β) (g : Nat → β → Sem (ForInStep β)) : ∀ l : List Nat, (∀ i ∈ l, (g i s).run P w = .ok (.yield s) w) → (forIn l s g).run P w = .ok s w
  | [], _ => by simp
  | i :: l, h => by
    rw [List.forIn_cons, Sem.run_bind, h i (by simp)]
    simp only [Result.andThen_ok]
    exact forIn_yield s g l fun j hj => h j (by simp [hj])
theorem eq_bytes {P : Program} (w : World) (d t e : Nat) (n : Nat) (xs : List Int) (hu : P.underlying t = some (.array n e)) (he : P.underlying e = some (.int .u8)) (hi : (P.info? e).map (·.size) = some 1) (hl : xs.length = n) :
    (Op.equalIn (d + 2) t (.agg (by8 xs).toArray) (.agg (by8 xs).toArray)).run P w = .ok true w := by
  cases hq : P.info? e with
  | none => simp [hq] at hi
  | some i0 =>
    have hs : i0.size = 1 := by simpa [hq] using hi
    have hp : ∀ i, i < n → (part e (by8 xs).toArray (i * 1)).run P w = .ok (.int .u8 (xs.getD i 0)) w := fun i hi => by
      have h1 : (by8 xs)[i]? = some (.int .u8 (xs.getD i 0)) := by
        rw [by8_get, List.getElem?_eq_getElem (by omega)]
        simp [List.getD_eq_getElem?_getD, List.getElem?_eq_getElem (show i < xs.length by omega)]
      simp [part, isAgg, run_underlying he, h1, Result.andThen]
    unfold Op.equalIn
    simp only [Sem.run_bind, run_underlying hu, Result.andThen_ok, sizeOf, typeInfo, hq, Sem.run_pure, hs]
    simp only [run_program, Result.andThen_ok, hq, Sem.run_pure, hs]
    have hf : (forIn [:n] ((none : Option Bool), ()) (fun i (__s : Option Bool × Unit) => do
              let a ← part e (by8 xs).toArray (i * 1)
              let b ← part e (by8 xs).toArray (i * 1)
              let c ← Op.equalIn (d + 1) e a b
              if (!c) = true then pure (ForInStep.done (some false, ())) else pure (ForInStep.yield ((none : Option Bool), ()))) : Sem (Option Bool × Unit)).run P w = .ok (none, ()) w := by
      rw [Std.Legacy.Range.forIn_eq_forIn_range']
      refine forIn_yield _ _ _ fun i hi => ?_
      have hin : i < n := by simpa [Std.Legacy.Range.size] using hi
      simp only [Sem.run_bind, hp i hin, Result.andThen_ok, run_equalIn_int w d e .u8 .u8 _ _ he]
      simp
    rw [hf]
    simp
end Go.Proofs.YtgcpcgcfpjolnaaDoor.G
