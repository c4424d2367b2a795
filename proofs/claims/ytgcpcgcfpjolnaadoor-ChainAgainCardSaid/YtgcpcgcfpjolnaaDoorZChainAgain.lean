/- Byte strings that lie in one place in memory, filled anew for each call, are written and read as they lay there then, and sectors are told sound as they lie: law ChainAgain returns true. For all arguments that can be read; the tables math/bits.deBruijn64tab, kiln/sha.table and kiln/wire.half are as their texts lay them. -/
import Derived.Test.YtgcpcgcfpjolnaaDoorPU
import Derived.Test.YtgcpcgcfpjolnaaDoorPS
import Derived.Test.YtgcpcgcfpjolnaaDoorPR
import Derived.Lib.LaidTab
import Derived.SizedLaws
import Derived.Test.YtgcpcgcfpjolnaaDoorPT
import Derived.Deep.Matrix
import Derived.Test.YtgcpcgcfpjolnaaDoorCards
import Derived.Test.YtgcpcgcfpjolnaaDoorTie
import Derived.Deep.DeepHandedRow
-- ChainAgain: the walk, as the row wants it.
namespace Go.Proofs.YtgcpcgcfpjolnaaDoor.G
open Go.RowKit
theorem again_all {W0 : World} (hw : 3 ≤ W0.heap.size) (hTab : TabW W0) (hT : ShaW W0) (hH : HalfW W0) (Ao : Option Addr) (n co : Nat) (ts : List AT) (hl : LArg W0 Ao n co ts) :
    Calls Tryd.prog 6 #[.slice Ao n co] W0 fun e w' => e = .returned (.bool true) ∧ Keeps [] W0 w' := again_walk hw Ao n co ts hl hTab hT hH
end Go.Proofs.YtgcpcgcfpjolnaaDoor.G
-- The arguments of the laws on chains, opened; the tables.
namespace Go.Proofs.YtgcpcgcfpjolnaaDoor.G
open Go.ChangeShapes Go.WideShapes Go.ChangeAt Go.RowKit
set_option linter.unusedVariables false
set_option linter.unusedSimpArgs false
set_option maxRecDepth 10000
theorem laidOut : laidOutB Tryd.prog = true := by kernel_rfl
theorem gTab : Tryd.prog.globalNamed "math/bits.deBruijn64tab" = some 2 := by kernel_rfl
theorem gSha : Tryd.prog.globalNamed "kiln/sha.table" = some 1 := by kernel_rfl
theorem gHalf : Tryd.prog.globalNamed "kiln/wire.half" = some 0 := by kernel_rfl
theorem gTabType : (Tryd.prog.globals[2]?).map (·.type) = some 198 := by kernel_rfl
theorem gShaType : (Tryd.prog.globals[1]?).map (·.type) = some 189 := by kernel_rfl
theorem gHalfType : (Tryd.prog.globals[0]?).map (·.type) = some 204 := by kernel_rfl
theorem cellsTab : Tryd.prog.cellsOf 198 = 64 := by kernel_rfl
theorem cellsSha : Tryd.prog.cellsOf 189 = 64 := by kernel_rfl
theorem cellsHalf : Tryd.prog.cellsOf 204 = 16 := by kernel_rfl
theorem cells179 : Tryd.prog.cellsOf 179 = 1 := by kernel_rfl
theorem laid_tail {P : Program} {x : String × DataW Unit} {rest : List (String × DataW Unit)} {W : World} (h : laidMet P (x :: rest) W) : laidMet P rest W := by
  obtain ⟨ps, ⟨g', t', cs, fuel, p, q, h1, h2, h3, h4, h5, h6⟩, hn, hc⟩ := h
  subst h6
  exact ⟨q, h5, (List.nodup_append.1 hn).2.1, fun b off hm => hc b off (List.mem_append_right _ hm)⟩
theorem tab_of {W : World} (h : Lib.TabIs Tryd.prog W "math/bits.deBruijn64tab" .u8 (Lib.deBruijn64tab.map fun (x : Nat) => (x : Int))) : TabW W := fun j hj => by
  have hl : (Lib.deBruijn64tab.map fun (x : Nat) => (x : Int)).length = 64 := rfl
  have := h.cell gTab j (by omega)
  rw [this]
  simp [List.getD_eq_getElem?_getD, List.getElem?_map]
  cases Lib.deBruijn64tab[j]? <;> rfl
theorem sha_of {W : World} (h : Lib.TabIs Tryd.prog W "kiln/sha.table" .u32 shaT) : ShaW W := fun j hj => h.cell gSha j (by have : shaT.length = 64 := rfl; omega)
theorem half_of {W : World} (h : Lib.TabIs Tryd.prog W "kiln/wire.half" .u32 halfL) : HalfW W := fun j hj => h.cell gHalf j (by have : halfL.length = 16 := rfl; omega)
def layTab : Obj → Obj
  | .cells _ t frozen => .cells (Lib.deBruijn64tab.map fun (x : Nat) => Value.int .u8 (x : Int)).toArray t frozen
  | o => o
def laySha : Obj → Obj
  | .cells _ t frozen => .cells (shaT.map (Value.int .u32)).toArray t frozen
  | o => o
def layHalf : Obj → Obj
  | .cells _ t frozen => .cells (halfL.map (Value.int .u32)).toArray t frozen
  | o => o
theorem cells5 : Tryd.prog.cellsOf 5 = 1 := by kernel_rfl
theorem cells3 : Tryd.prog.cellsOf 3 = 1 := by kernel_rfl
theorem spot_none {w : World} {a : Addr} {v : Value} (h : w.cell? a = some v) : a.spot = none := by
  unfold World.cell? at h
  split at h
  · split at h
    · cases h
    · rename_i hs
      simpa using hs
  · cases h
theorem add_off (b off k : Nat) : (⟨b, off, none⟩ : Addr).add k = ⟨b, off + k, none⟩ := by unfold Addr.add; split <;> simp_all
section
variable {H : Type} {enc : TypeId × Value → H}
theorem okWide_addr {T E : TypeId} (hT : Tryd.prog.underlying T = some (.slice E)) {W : World} {base : Nat} {r : Reach} {a : Addr} {len cap : Nat} (hv : Value.okWide Tryd.prog W r base T (.slice (some a) len cap)) : a.spot = none ∧ a.block < W.heap.size := by
  have h1 : Cell.okWide Tryd.prog W r base T (.slice (some a) len cap) := by
    unfold Value.okWide at hv
    rw [hT] at hv
    exact hv
  have h2 : Cell.ok Tryd.prog W r base T (.slice (some a) len cap) := by
    unfold Cell.okWide at h1
    rw [hT] at h1
    exact h1
  unfold Cell.ok at h2
  rw [hT] at h2
  obtain ⟨_, _, _, h3, row, cells, h4, _⟩ := h2
  refine ⟨h3, ?_⟩
  unfold World.shape? at h4
  rcases Nat.lt_or_ge a.block W.heap.size with h5 | h5
  · exact h5
  · rw [Array.getElem?_eq_none h5] at h4
    simp at h4
theorem open_rows {k : IntKind} {T E : TypeId} (hT : Tryd.prog.underlying T = some (.slice E)) (hE : Tryd.prog.underlying E = some (.int k)) (hC : Tryd.prog.cellsOf E = 1) {W : World} {base : Nat} {r : Reach} {v : Value} {d : DataW H} {p : List MemPlace}
    (hv : Value.okWide Tryd.prog W r base T v) (h : DataW.Trod enc Tryd.prog W 0 (fun _ => true) true T v d p) :
    ∃ (ao : Option Addr) (l : List Int) (c : Nat), v = .slice ao l.length c ∧ l.length ≤ c ∧ c ≤ maxLen ∧ (∀ x ∈ l, (Lit.int k x).wf = true) ∧ ((ao = none ∧ l = []) ∨ ∃ g o, ao = some ⟨g, o, none⟩ ∧ g < W.heap.size ∧ W.rangeAt g o (l.map (Value.int k))) ∧ (l = [] ∨ ∃ es sp, d = .slice es sp ∧ es.length = l.length) := by
  obtain ⟨fuel, hx⟩ := h
  rcases open_ints hT hE hC hx with ⟨h1, _⟩ | ⟨a, len, cap, zs, h1, _, h2, h3, h4, hd, h5, h6⟩
  · obtain ⟨a, n, c, rfl⟩ := okWide_slice hT hv
    simp [Value.cells] at h1
    obtain ⟨rfl, rfl, rfl⟩ := h1
    exact ⟨none, [], 0, rfl, Nat.le_refl _, Nat.zero_le _, (fun x hx => by cases hx), .inl ⟨rfl, rfl⟩, .inl rfl⟩
  · obtain ⟨a', n', c', rfl⟩ := okWide_slice hT hv
    simp [Value.cells] at h1
    obtain ⟨rfl, rfl, rfl⟩ := h1
    obtain ⟨g, o, sp⟩ := a
    obtain ⟨h7, h8⟩ := okWide_addr hT hv
    simp only at h7 h8
    subst h7
    simp only [if_true] at h4
    have hlen : (zs.take n').length = n' := by rw [List.length_take]; omega
    refine ⟨some ⟨g, o, none⟩, zs.take n', c', by rw [hlen], by rw [hlen]; exact h2, h3, fun x hx => h6 x (List.mem_of_mem_take hx), .inr ⟨g, o, rfl, h8, fun j u hj => ?_⟩, .inr ⟨_, _, (Prod.mk.inj hd).1, by have e9 := hlen; rw [List.length_take] at e9; simp [lits, e9]⟩⟩
    have hjl : j < n' := by
      have := (List.getElem?_eq_some_iff.1 hj).1
      rw [List.length_map, hlen] at this
      exact this
    have h9 := h5 j (by omega)
    rw [add_off] at h9
    rw [h9]
    rw [List.getElem?_map, List.getElem?_take, if_pos hjl, List.getElem?_eq_getElem (by omega)] at hj
    rw [List.getD_eq_getElem?_getD, List.getElem?_eq_getElem (by omega)]
    exact hj
theorem open_bytes {W : World} {base : Nat} {r : Reach} {v : Value} {d : DataW H} {p : List MemPlace} (hv : Value.okWide Tryd.prog W r base 22 v) (h : DataW.Trod enc Tryd.prog W 0 (fun _ => true) true 22 v d p) :
    ∃ (ao : Option Addr) (l : List Int) (c : Nat), v = .slice ao l.length c ∧ BSl W ao l.length c l ∧ (∀ x ∈ l, 0 ≤ x ∧ x < 256) ∧ (l = [] ∨ ∃ es sp, d = .slice es sp ∧ es.length = l.length) := by
  obtain ⟨ao, l, c, rfl, h1, h2, h3, h4, h9⟩ := open_rows Tryd.underlying22 Tryd.underlying5 cells5 hv h
  refine ⟨ao, l, c, rfl, ⟨rfl, h1, ?_⟩, fun x hx => by have := bounds_u8 (h3 x hx); omega, h9⟩
  rcases h4 with ⟨rfl, rfl⟩ | ⟨g, o, rfl, h5, h6⟩
  · exact .inl ⟨rfl, rfl, rfl⟩
  · exact .inr ⟨g, o, rfl, h6, rfl, h5⟩
theorem open_nums {W : World} {base : Nat} {r : Reach} {v : Value} {d : DataW H} {p : List MemPlace} (hv : Value.okWide Tryd.prog W r base 47 v) (h : DataW.Trod enc Tryd.prog W 0 (fun _ => true) true 47 v d p) :
    ∃ (ao : Option Addr) (l : List Int) (c : Nat), v = .slice ao l.length c ∧ ISl W ao l.length c l ∧ (l = [] ∨ ∃ es sp, d = .slice es sp ∧ es.length = l.length) := by
  obtain ⟨ao, l, c, rfl, h1, h2, h3, h4, h9⟩ := open_rows Tryd.underlying47 Tryd.underlying3 cells3 hv h
  refine ⟨ao, l, c, rfl, ⟨rfl, h1, ?_⟩, h9⟩
  rcases h4 with ⟨rfl, rfl⟩ | ⟨g, o, rfl, h5, h6⟩
  · exact .inl ⟨rfl, rfl, rfl⟩
  · exact .inr ⟨g, o, rfl, h6, rfl, h5⟩
theorem bytes3 : Tryd.prog.bytesOf 3 = 8 := by kernel_rfl
theorem nums_short {ts : List TypeId} {ds : List (DataW H)} (hz : (DataW.weightsEach Tryd.prog ts ds).all (· ≤ reachBytes) = true) {j : Nat} {d : DataW H} {l : List Int} (ht : ts[j]? = some 47) (hd : ds[j]? = some d) (h : l = [] ∨ ∃ es sp, d = .slice es sp ∧ es.length = l.length) : l.length ≤ 17592186044416 := by
  rcases h with rfl | ⟨es, sp, rfl, he⟩
  · simp
  · have h1 := sized_slice hz ht hd Tryd.underlying47
    rw [bytes3] at h1
    unfold reachBytes at h1
    omega
end
end Go.Proofs.YtgcpcgcfpjolnaaDoor.G
-- Lists of byte strings that come in, opened.
namespace Go.Proofs.YtgcpcgcfpjolnaaDoor.G
open Go.ChangeShapes Go.WideShapes Go.ChangeAt Go.RowKit
set_option linter.unusedVariables false
set_option linter.unusedSimpArgs false
set_option maxRecDepth 10000
theorem cells22 : Tryd.prog.cellsOf 22 = 1 := by kernel_rfl
section
variable {H : Type} {enc : TypeId × Value → H}
theorem open_lists {W : World} {base : Nat} {r : Reach} {v : Value} {d : DataW H} {p : List MemPlace} (hv : Value.okWide Tryd.prog W r base 33 v) (h : DataW.Trod enc Tryd.prog W 0 (fun _ => true) true 33 v d p) :
    ∃ (ao : Option Addr) (n c : Nat) (ts : List AT), v = .slice ao n c ∧ LArg W ao n c ts := by
  obtain ⟨fuel, hx⟩ := h
  rcases Go.Deep.open_int_rows Tryd.underlying33 Tryd.underlying22 Tryd.underlying5 cells22 cells5 hx with ⟨h1, _⟩ | ⟨a, len, cap, A, L, C, Z, h1, _, h2, h3, _, h5⟩
  · obtain ⟨a, n, c, rfl⟩ := okWide_slice Tryd.underlying33 hv
    simp [Value.cells] at h1
    obtain ⟨rfl, rfl, rfl⟩ := h1
    exact ⟨none, 0, 0, [], rfl, rfl, Nat.le_refl _, .inl rfl, fun t ht => by cases ht⟩
  · obtain ⟨a', n', c', rfl⟩ := okWide_slice Tryd.underlying33 hv
    simp [Value.cells] at h1
    obtain ⟨rfl, rfl, rfl⟩ := h1
    obtain ⟨g, o, sp⟩ := a
    obtain ⟨h7, _⟩ := okWide_addr Tryd.underlying33 hv
    simp only at h7
    subst h7
    refine ⟨some ⟨g, o, none⟩, n', c', (List.range n').map fun i => ⟨A i, C i, (Z i).take (L i)⟩, rfl, by simp, h2, .inr ⟨g, o, rfl, fun i t ht => ?_⟩, fun t ht => ?_⟩
    · have hi : i < n' := by have := (List.getElem?_eq_some_iff.1 ht).1; simpa using this
      obtain ⟨q1, q2, q3, q4, _⟩ := h5 i (by omega)
      rw [List.getElem?_map, List.getElem?_range hi] at ht
      cases ht
      rw [add_off] at q1
      rw [q1]
      unfold atV
      rw [List.length_take, q4, Nat.min_eq_left q2]
    · obtain ⟨i, hi, rfl⟩ := List.mem_map.1 ht
      have hi := List.mem_range.1 hi
      obtain ⟨q1, q2, q3, q4, q5, q6, q7⟩ := h5 i (by omega)
      have hl : ((Z i).take (L i)).length = L i := by rw [List.length_take, q4, Nat.min_eq_left q2]
      refine ⟨⟨rfl, by simp only; rw [hl]; exact q2, ?_⟩, fun x hx9 => by have := bounds_u8 (q5 x (List.mem_of_mem_take hx9)); omega⟩
      simp only
      by_cases hL0 : L i = 0
      · exact .inl (by rw [hl]; exact hL0)
      · cases hA : A i with
        | none => have := q6 hA; omega
        | some a2 =>
          obtain ⟨_, q9⟩ := q7 a2 hA
          have c0 := q9 0 (by omega)
          have hsp := spot_none c0
          have hlt := World.block_lt_of_cell? W _ c0
          obtain ⟨g2, o2, sp2⟩ := a2
          have e0 : (⟨g2, o2, sp2⟩ : Addr).add 0 = ⟨g2, o2, sp2⟩ := by unfold Addr.add; simp
          rw [e0] at hsp hlt
          simp only at hsp hlt
          subst hsp
          refine .inr ⟨g2, o2, rfl, fun j u hj => ?_, hlt⟩
          have hjl : j < L i := by
            have := (List.getElem?_eq_some_iff.1 hj).1
            rw [G.by8_length, hl] at this
            exact this
          have h9 := q9 j (by omega)
          rw [add_off] at h9
          rw [h9]
          rw [by8_get, List.getElem?_take, if_pos hjl, List.getElem?_eq_getElem (by omega)] at hj
          rw [List.getD_eq_getElem?_getD, List.getElem?_eq_getElem (by omega)]
          exact hj
end
end Go.Proofs.YtgcpcgcfpjolnaaDoor.G
set_option linter.unusedVariables false
set_option linter.unusedSimpArgs false
namespace Go.Proofs.YtgcpcgcfpjolnaaDoor.chainAgain
open Go.ChangeShapes Go.WideShapes Go.ChangeAt Go.RowKit

theorem own : ownKnob Tryd.prog.godebug = none := by kernel_rfl
theorem tables {W : World} (h : laidMetH Tryd.prog Rows.chainAgainRow.laid W) : TabW W ∧ G.ShaW W ∧ G.HalfW W := by
  have h0 : laidMetH Tryd.prog (_ :: _ :: _ :: []) W := h
  exact ⟨G.tab_of (Lib.tabIs_of_head G.gTab G.gTabType Tryd.underlying198 Tryd.underlying5 G.cells5 G.cellsTab h0), G.sha_of (Lib.tabIs_of_head G.gSha G.gShaType Tryd.underlying189 Tryd.underlying179 G.cells179 G.cellsSha (G.laid_tail h0)), G.half_of (Lib.tabIs_of_head G.gHalf G.gHalfType Tryd.underlying204 Tryd.underlying179 G.cells179 G.cellsHalf (G.laid_tail (G.laid_tail h0)))⟩

set_option maxRecDepth 100000 in
theorem contract (H : Type) (enc : TypeId × Value → H) (W : World) (base : Nat) (args : Array Value) (ds gs : List (DataW H)) (before : List MemPlace)
    (hval : ∀ (j : Nat) t v, Tryd.f6.params[j]? = some t → args[j]? = some v → Value.okWide Tryd.prog W .any base t v)
    (hW : DataW.Whole enc Tryd.prog Tryd.f6.params.toList Rows.chainAgainSpec.vars false W args.toList ds gs before) (hL : laidMetH Tryd.prog Rows.chainAgainRow.laid W)
    (hz : (DataW.weightsEach Tryd.prog (Tryd.f6.params.toList ++ (OpenSpec.ofChange Rows.chainAgainSpec).bare.plain.varTypes Tryd.prog) (ds ++ gs)).all (· ≤ reachBytes) = true) :
    Calls Tryd.prog 6 args W fun e W' => ∃ v, e = .returned v ∧ Rows.chainAgainSpec.post enc Tryd.prog Tryd.f6 false true false false W args v W' := by
  have hW' := hW
  obtain ⟨p, q, hA0, hV, rfl, hfz, hnd⟩ := hW
  have hA : DataW.TrodAll enc Tryd.prog W 0 (fun _ => true) true Tryd.f6.params.toList args.toList ds p := hA0
  rw [Tryd.params6] at hA hval hz
  obtain ⟨v0, vs0, d0, ds0, p0, q0, hargs, rfl, rfl, h0, r0⟩ := trodAll_cons hA
  obtain ⟨rfl, rfl, rfl⟩ := trodAll_nil r0
  obtain rfl : args = #[v0] := by cases args; simp_all
  obtain ⟨rfl, rfl⟩ := trodVars_none hV
  obtain ⟨o0, n0, c0, l0, rfl, e0⟩ := G.open_lists (hval 0 33 v0 rfl rfl) h0
  clear hA0
  obtain ⟨t1, t2, t3⟩ := tables hL
  have hw3 : 3 ≤ W.heap.size := by have := World.block_lt_of_cell? W ⟨2, 0, none⟩ (t1 0 (by omega)); simp only at this; omega
  refine (G.again_all hw3 t1 t2 t3 o0 n0 c0 l0 e0).mono fun e W' ⟨he, hg⟩ => ?_
  subst he
  exact ⟨_, rfl, law_post G.laidOut Tryd.underlying4 (by kernel_rfl) (fun t ht => by rw [Tryd.params6] at ht; simp at ht; subst ht; exact ⟨by kernel_rfl, of_decide_eq_true (by kernel_rfl)⟩) rfl rfl hW' hg.below⟩

/-- A WORLD FOR THE WITNESS: the settled one, the tables (blocks 0, 1 and 2) holding what their texts lay. -/
noncomputable def laidWorld (os : Os) : World :=
  { World.holding Tryd.prog os ⟨#[], #[], []⟩ with heap := (((World.holding Tryd.prog os ⟨#[], #[], []⟩).heap.modify 0 G.layHalf).modify 1 G.laySha).modify 2 G.layTab }
theorem laid_met (os : Os) : laidMet Tryd.prog Rows.chainAgainRow.laid ((laidWorld os).forCall (fun _ _ => 0) ⟨#[], #[Value.slice none 0 0], []⟩).memory :=
  laidMet_of_run' 8 (by kernel_rfl) (by kernel_rfl)
theorem reads (os : Os) {H : Type} (enc : TypeId × Value → H) : ∃ places, DataW.whole enc Tryd.prog ((laidWorld os).forCall (fun _ _ => 0) ⟨#[], #[Value.slice none 0 0], []⟩).memory Tryd.f6.params.toList Rows.chainAgainSpec.vars false #[Value.slice none 0 0].toList 8 = some ([.nil], [], places) :=
  ⟨[], by kernel_rfl⟩

set_option maxRecDepth 100000 in
theorem lifted (os : Os) (started : os.Started) (H : Type) (enc : TypeId × Value → H) (F : Stop.Interp) :
    ReturnsInHanded {} Tryd.checked os 6 .any ((OpenSpec.ofChange Rows.chainAgainSpec).preRow enc Tryd.prog Tryd.f6 Rows.chainAgainRow.domain false Rows.chainAgainRow.laid) (((OpenSpec.ofChange Rows.chainAgainSpec).at F).post enc Tryd.prog Tryd.f6 false true false false) := by
  obtain ⟨places, hx⟩ := reads os enc
  refine returnsInHanded_of_row (C := Tryd.checked) (s := OpenSpec.ofChange Rows.chainAgainSpec) own started (by kernel_rfl) Tryd.func6
    (witness_row_at (enc := enc) (C := Tryd.checked) false (laidWorld os) #[Value.slice none 0 0] rfl (by kernel_rfl) (by kernel_rfl) (by kernel_rfl)
      (OpenSpec.preRow_of_cond 8 hx (by kernel_rfl) (fun k hk => by cases hk) (by kernel_rfl) (laid_met os))) ?_
  intro W base args ds gs before hval hW _ _ hz hL _ _
  exact contract H enc W base args ds gs before hval hW hL hz

theorem said : Rows.ChainAgainSaid :=
  OpenClaim.holds_of_cond 6 Tryd.f6 rfl rfl rfl rfl rfl rfl rfl ⟨rfl, rfl, rfl, rfl, rfl⟩ rfl rfl rfl rfl rfl (by kernel_rfl) Tryd.func6 (by kernel_rfl)
    (of_decide_eq_true (by kernel_rfl)) (by unfold Func.isWrapper; first | (rw [if_pos (by decide +kernel)]; kernel_rfl) | (rw [if_neg (by decide +kernel)]; exact ⟨rfl, rfl⟩))
    (fun os started H enc _ F => by rw [OpenClaim.pre_eq_preRow]; exact lifted os started H enc F)

/-- No parameter wants a stand-in; the program's own looks are off: what the card asks. -/
theorem plain (f : FuncId) (fn : Func) (hf : Tryd.pinned.checked.prog.funcNamed "kiln/kilnlaw6.ChainAgain" = some f) (hfn : Tryd.pinned.checked.prog.funcs[f]? = some fn) :
    false = Tryd.pinned.checked.prog.looks [] ∧ ∀ (j : Nat) t, fn.params[j]? = some t → Tryd.pinned.checked.prog.wantsStandIn t = false := by
  obtain rfl : f = 6 := Option.some.inj ((show Tryd.prog.funcNamed "kiln/kilnlaw6.ChainAgain" = some 6 by kernel_rfl).symm.trans hf) |>.symm
  obtain rfl : fn = Tryd.f6 := (Option.some.inj (Tryd.func6.symm.trans hfn)).symm
  refine ⟨by kernel_rfl, fun j t ht => ?_⟩
  rw [Tryd.params6] at ht
  have hm := Array.mem_of_getElem? ht
  simp at hm
  subst hm
  exact (show Tryd.prog.wantsStandIn 33 = false by kernel_rfl)

theorem card : Rows.ChainAgainCardSaid :=
  Claim7.holds_tied_plain_at .later [] _ _ _ _ said (fun _ h => by cases h) (by kernel_rfl) (fun _ h => by cases h) chainAgain_row_tie rfl ⟨rfl, rfl⟩ (by kernel_rfl) rfl plain (by kernel_rfl)
end Go.Proofs.YtgcpcgcfpjolnaaDoor.chainAgain
