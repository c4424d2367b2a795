/- The writers of a strings.Builder that the call itself has made, at this program. -/
import Derived.Test.YtnmmapjcphefpaaShelf
import Derived.Test.YtnmmapjcphefpaaKit3
import Derived.Lib.AppendStr
import Derived.Laws.Externs
set_option linter.unusedVariables false
set_option linter.unusedSimpArgs false
namespace Go.Proofs.Ytnmmapjcphefpaa
open Go.RowKit
theorem bsize : (Try.prog.info? 56).map (·.size) = some 2 := by kernel_rfl
theorem blies : liesAt Try.prog Try.prog.depth 56 (2 / Try.prog.cellsOf 56) 0 56 1 = true := by kernel_rfl
theorem binfo5 : (Try.prog.info? 5).map (fun i => (i.zero, i.size, i.bytes)) = some (some (.int .u8 0), 1, 1) := by kernel_rfl
set_option maxHeartbeats 1000000 in
set_option maxRecDepth 100000 in
theorem copyCheck_used (b : Nat) (w : World) (h0 : w.cell? ⟨b, 0, none⟩ = some (.pointer (some ⟨b, 0, none⟩))) :
    Calls Try.prog 45 #[.pointer (some ⟨b, 0, none⟩)] w fun e w' => e = .returned (.tuple #[]) ∧ w = w' := by
  obtain ⟨j, hj, _⟩ := Option.map_eq_some_iff.1 bsize
  go_enter Try.func45, Try.ntmps45
  go_wp2
  rw [Lib.run_neq_ptr_same w _ Try.underlying54 hj]
  go_wp2
  go_end0
  exact ⟨rfl, rfl⟩
set_option maxHeartbeats 1000000 in
set_option maxRecDepth 100000 in
theorem copyCheck_fresh (b : Nat) (w : World) (h0 : w.cell? ⟨b, 0, none⟩ = some (.pointer none)) (hsh : w.shape? b = some (56, 2)) (hfz : w.frozen? ⟨b, 0, none⟩ = false) :
    Calls Try.prog 45 #[.pointer (some ⟨b, 0, none⟩)] w fun e w' => e = .returned (.tuple #[]) ∧ w' = w.setCell ⟨b, 0, none⟩ (.pointer (some ⟨b, 0, none⟩)) := by
  obtain ⟨j, hj, hjs⟩ := Option.map_eq_some_iff.1 bsize
  go_enter Try.func45, Try.ntmps45
  go_wp2
  rw [Lib.run_to_unsafe w ⟨b, 0, none⟩ Try.underlying54 Try.underlying81 hj (by rw [hjs]; decide) hsh (Nat.zero_lt_succ 1)]
  simp only [Result.andThen]
  rw [Oper.upon_value]
  go_wp2
  rw [run_callFunc_extern Try.func54 (by kernel_rfl) (by kernel_rfl) (by kernel_rfl) (e := Extern.AbiNoEscape.same) (by kernel_rfl)]
  rw [Lib.run_noEscape]
  simp only [Result.andThen]
  rw [Oper.upon_value]
  go_wp2
  rw [Lib.run_from_unsafe w ⟨b, 0, none⟩ Try.underlying81 Try.underlying54 hj hsh blies]
  simp only [Result.andThen]
  rw [Oper.upon_value]
  go_wp2
  go_end0
  exact ⟨rfl, rfl⟩
theorem ok_inj {α : Type} {a b : α} {w w' : World} (h : (Result.ok a w : Result α) = .ok b w') : a = b := by cases h; rfl
theorem wp_append_str {P : Program} (w : World) {ops : Array Oper} {rest : List Oper} {o : Oper} {a : Act} {Q : Exit → Act → World → Prop} (hgd : o.guard = none) (sl x : Operand) (t u : TypeId)
    (ho : o.op = .call { callee := .builtin .append, args := #[sl, x], argTypes := #[t, u] })
    (e : TypeId) (i : TypeInfo) (ht : P.underlying t = some (.slice e)) (hu : P.underlying u = some .string) (hi : P.info? e = some i) (hz : i.zero = some (.int .u8 0))
    (hsize : i.size = 1) (hby : i.bytes = 1)
    (v : Value) (n : Nat) (xs : List Value) (hs : a.eval sl = v) (hown : w.ownsRow 0 e 1 v n xs) (s : ByteArray) (hx : a.eval x = .string s)
    (hbytes : n + s.size ≤ 140737488355328)
    (h : ∀ v' w', w'.ownsRow 0 e 1 v' (n + s.size) (xs ++ Lib.strCells s) → Keeps v.ownBlock.toList w w' → (∀ k, v'.ownBlock = some k → v.ownBlock = some k ∨ w.heap.size ≤ k) → wpList P ops Q rest (a.put o.dst v') w') : wpList P ops Q (o :: rest) a w := by
  refine wpList_plain hgd fun K hK => ?_
  have h63 : n + s.size ≤ maxLen := by unfold maxLen; omega
  obtain ⟨v', w', hr, h2, h3, h4⟩ := Lib.run_append_own_string (P := P) w 0 t u o.type e i ht hu hi hz hsize hby v n xs hown s h63 hbytes (Nat.zero_le _)
  have hf : ∀ k, v'.ownBlock = some k → v.ownBlock = some k ∨ w.heap.size ≤ k := by
    intro k hk
    rcases hown.2 with ⟨rfl, rfl⟩ | ⟨g, cap, cur, rfl, _, hg, hnc, hcm, hcs, htake⟩
    · obtain ⟨v2, w2, hr2, h22, _, _⟩ := Lib.run_append_own_string (P := P) w w.heap.size t u o.type e i ht hu hi hz hsize hby (.slice none 0 0) 0 xs ⟨hown.1, .inl ⟨rfl, rfl⟩⟩ s h63 hbytes (Nat.le_refl _)
      obtain rfl := ok_inj (hr.symm.trans hr2)
      exact .inr (h22.lt k hk).1
    · have hxl : xs.length = n := by simpa using hown.1
      by_cases hroom : n + s.size ≤ cap
      · have hr2 := Lib.run_append_room_string (P := P) w t u o.type e i ht hu hi hsize g n cap cur hg s hroom (by omega)
        obtain rfl := ok_inj (hr.symm.trans hr2)
        exact .inl hk
      · have holds : ∀ j u, xs[j]? = some u → w.cell? ((⟨g, 0, none⟩ : Addr).add j) = some u := hown.cells (g := g) rfl
        have hr2 := Lib.run_append_grow_string (P := P) w t u o.type e i (.int .u8 0) ht hu hi hz ⟨g, 0, none⟩ n cap xs (by rw [hsize]; simpa using hxl) holds s (by omega) (by omega) (by rw [hby]; exact growslice_fits (by omega) (by omega))
        obtain rfl := ok_inj (hr.symm.trans hr2)
        simp [Value.ownBlock] at hk
        omega
  unfold Oper.wp execOp
  simp only [ho, resolve, invoke, builtin, Sem.run_bind, Sem.run_pure, Result.andThen_ok, List.map_toArray, List.map_cons, List.map_nil, hs, hx, hr]
  exact hK _ _ (h v' w' h2 (Keeps.of_grownBy h3) hf)
def IsB (b : Nat) (p : Value) : Prop := p = .pointer none ∨ p = .pointer (some ⟨b, 0, none⟩)
/-- the builder's block; its bytes -/
def bdT (b : Nat) (p v : Value) : Thing := strT b #[p, v] 56
def bbT (v : Value) (bs : List Value) : Thing := rowT v 5 1 bs.length bs
theorem has_builder {B b : Nat} {w : World} {p v : Value} {bs : List Value} {L : List Thing} (h : Has B w (bdT b p v :: bbT v bs :: L)) (hp : IsB b p) : Lib.IsBuilder 56 5 B b bs w := by
  have h0 : w.heap[b]? = some (.cells #[p, v] 56 (0, 0)) := h.get 0 rfl
  have h1 : w.ownsRow 0 5 1 v bs.length bs := h.get 1 rfl
  have hg : ∀ k, v.ownBlock = some k → B ≤ k := fun k hk => h.ge k (by simp [fps, bdT, bbT, strT, rowT, hk])
  have hB : B ≤ b := h.ge b (by simp [fps, bdT, strT])
  have hne : v.ownBlock ≠ some b := fun e => h.ne 1 0 rfl rfl (by omega) b (by simp [bbT, rowT, e]) (by simp [bdT, strT])
  have hown : w.ownsRow B 5 1 v bs.length bs := by
    refine ⟨h1.1, ?_⟩
    rcases h1.2 with h2 | ⟨g, cap, cur, rfl, _, h2⟩
    · exact .inl h2
    · exact .inr ⟨g, cap, cur, rfl, hg g rfl, h2⟩
  rcases hp with rfl | rfl
  · exact .inl ⟨hB, v, h0, hown, hne⟩
  · exact .inr ⟨hB, v, h0, hown, hne⟩
def CcPost (B b : Nat) (v : Value) (L : List Thing) (w : World) (e : Ending) (w' : World) : Prop := e = .returned (.tuple #[]) ∧ Has B w' (bdT b (.pointer (some ⟨b, 0, none⟩)) v :: L) ∧ Below B w w'
theorem copyCheck_calls {B b : Nat} {w : World} {p v : Value} {L : List Thing} (H : Has B w (bdT b p v :: L)) (hp : IsB b p) :
    Calls Try.prog 45 #[.pointer (some ⟨b, 0, none⟩)] w (CcPost B b v L w) := by
  have h0 : w.heap[b]? = some (.cells #[p, v] 56 (0, 0)) := H.get 0 rfl
  have hc : w.cell? ⟨b, 0, none⟩ = some p := by rw [Lib.cell_of_heap h0]; rfl
  rcases hp with rfl | rfl
  · refine (copyCheck_fresh b w hc (by simp [World.shape?, h0]) (Lib.frozen_of_heap h0 0)).mono ?_
    rintro e w' ⟨rfl, rfl⟩
    obtain ⟨H1, hB1⟩ := H.store 0 rfl 0 (.pointer (some ⟨b, 0, none⟩))
    exact ⟨rfl, H1, hB1⟩
  · refine (copyCheck_used b w hc).mono ?_
    rintro e w' ⟨rfl, rfl⟩
    exact ⟨rfl, H, Below.refl _ _⟩
def WrPost (B b : Nat) (r : Value) (bs : List Value) (L : List Thing) (w : World) (e : Ending) (w' : World) : Prop := e = .returned r ∧ ∃ v', Has B w' (bdT b (.pointer (some ⟨b, 0, none⟩)) v' :: bbT v' bs :: L) ∧ Below B w w'
set_option maxHeartbeats 2000000 in
set_option maxRecDepth 100000 in
theorem writeByte_calls {B b : Nat} {w : World} {p v : Value} {bs : List Value} {L : List Thing} (H : Has B w (bdT b p v :: bbT v bs :: L)) (hp : IsB b p) (c : Int) (hlen : bs.length + 1 ≤ 140737488355328) :
    Calls Try.prog 33 #[.pointer (some ⟨b, 0, none⟩), .int .u8 c] w (WrPost B b .nilIface (bs ++ [.int .u8 c]) L w) := by
  go_enter Try.func33, Try.ntmps33
  go_wp2_with fail
  refine (copyCheck_calls H hp).mono ?_
  rintro e w1 ⟨rfl, H1, hb1⟩
  have c1 := (StrAt.cell (H1.get 0 rfl) 1).trans (show _ = some v from rfl)
  clear H
  go_wp2_with (at_builtin; refine wp_push rfl _ _ 37 5 (.int .u8 0) 1 1 rfl Try.underlying37 binfo5 rfl (by omega) (by omega) v bs.length bs #[.int .u8 c] rfl rfl (by simp) rfl ?d1 (H1.get 1 rfl) ?d2 ?_)
  case d1 => simp [Value.oneCell']
  case d2 => omega
  intro v2 w2 hown hk hf
  obtain ⟨g, cap, rfl, _⟩ := own_some hown (by omega)
  obtain ⟨H2, hb2⟩ := H1.row 1 rfl hown hk hf
  have d1 := (StrAt.cell (H2.get 0 rfl) 1).trans (show _ = some v from rfl)
  have f1 := StrAt.frozen (H2.get 0 rfl) 1
  obtain ⟨H3, hb3⟩ := H2.store 0 rfl 1 (.slice (some ⟨g, 0, none⟩) (bs.length + 1) cap)
  have HP := Lib.hid (show WrPost B b .nilIface (bs ++ [.int .u8 c]) L w (.returned .nilIface) (w2.setCell ⟨b, 1, none⟩ (.slice (some ⟨g, 0, none⟩) (bs.length + 1) cap)) from ⟨rfl, _, by
    have e9 : bbT (.slice (some ⟨g, 0, none⟩) (bs.length + 1) cap) (bs ++ [.int .u8 c]) = rowT (.slice (some ⟨g, 0, none⟩) (bs.length + 1) cap) 5 1 (bs.length + 1) (bs ++ (#[Value.int .u8 c] : Array Value).toList) := by simp [bbT]
    rw [e9]
    exact H3, hb1.trans (hb2.trans hb3)⟩)
  clear hown hk hf H1 H2 H3 hb1 hb2 hb3
  go_wp2
  go_ret
  exact HP.out
set_option maxHeartbeats 2000000 in
set_option maxRecDepth 100000 in
theorem writeString_calls {B b : Nat} {w : World} {p v : Value} {bs : List Value} {L : List Thing} (H : Has B w (bdT b p v :: bbT v bs :: L)) (hp : IsB b p) (s : ByteArray) (hlen : bs.length + s.size ≤ 140737488355328) :
    Calls Try.prog 34 #[.pointer (some ⟨b, 0, none⟩), .string s] w (WrPost B b (.tuple #[.int .i64 s.size, .nilIface]) (bs ++ Lib.strCells s) L w) := by
  obtain ⟨i0, hi, hz0, hz1, hz2⟩ := info_parts binfo5
  go_enter Try.func34, Try.ntmps34
  go_wp2_with fail
  refine (copyCheck_calls H hp).mono ?_
  rintro e w1 ⟨rfl, H1, hb1⟩
  have c1 := (StrAt.cell (H1.get 0 rfl) 1).trans (show _ = some v from rfl)
  clear H
  go_wp2_with (at_builtin; refine wp_append_str _ rfl _ _ 37 9 rfl 5 i0 Try.underlying37 Try.underlying9 hi hz0 hz1 hz2 _ _ _ rfl (show w1.ownsRow 0 5 1 v bs.length bs from H1.get 1 rfl) s rfl ?c4 ?_)
  case c4 => omega
  intro v' w2 hown' hgrow hfr
  obtain ⟨ao, n', cap, rfl⟩ : ∃ ao n' cap, v' = .slice ao n' cap := by
    rcases hown'.2 with ⟨hv, _⟩ | ⟨g, cap, cur, hv, _⟩
    · exact ⟨_, _, _, hv⟩
    · exact ⟨_, _, _, hv⟩
  obtain ⟨H2, hb2⟩ := H1.row 1 rfl hown' hgrow hfr
  have d1 := (StrAt.cell (H2.get 0 rfl) 1).trans (show _ = some v from rfl)
  have f1 := StrAt.frozen (H2.get 0 rfl) 1
  obtain ⟨H3, hb3⟩ := H2.store 0 rfl 1 (.slice ao n' cap)
  have HP := Lib.hid (show WrPost B b (.tuple #[.int .i64 s.size, .nilIface]) (bs ++ Lib.strCells s) L w (.returned (.tuple #[.int .i64 s.size, .nilIface])) (w2.setCell ⟨b, 1, none⟩ (.slice ao n' cap)) from ⟨rfl, _, by
    have e9 : bbT (.slice ao n' cap) (bs ++ Lib.strCells s) = rowT (.slice ao n' cap) 5 1 (bs.length + s.size) (bs ++ Lib.strCells s) := by simp [bbT, Lib.strCells_length]
    rw [e9]
    exact H3, hb1.trans (hb2.trans hb3)⟩)
  clear hown' hgrow H1 H2 H3 hb1 hb2 hb3
  go_wp2
  go_ret2
  exact HP.out
end Go.Proofs.Ytnmmapjcphefpaa
