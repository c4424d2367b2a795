import Derived.Test.YtgcpcgcfpjolnaaDoorRows
import Derived.WalkKit
import Derived.Deep.QuietTactic
import Derived.BigQuiet
import Derived.Deep.LoopGhost
import Derived.Maps.AppendAt
import Derived.Deep.OwnRows
import Derived.Laws.OwnMore
import Derived.Lib.Hide
import Derived.Laws.BytesArg
import Derived.Maps.OwnOps
import Derived.Lib.TrailingZeros
/- General words: what a call leaves alone ('Keeps'), rows and struct blocks that stand apart. Lays no condition on anything. -/
set_option linter.unusedVariables false
set_option linter.unusedSimpArgs false
namespace Go.Proofs.YtgcpcgcfpjolnaaDoor
open Go.RowKit

/-- The call changed no old block but those of S. -/
structure Keeps (S : List Nat) (w w' : World) : Prop where
  os : w'.os = w.os
  tape : w'.tape = w.tape
  output : w'.output = w.output
  size : w.heap.size ≤ w'.heap.size
  block : ∀ k, k < w.heap.size → k ∉ S → w'.heap[k]? = w.heap[k]?

theorem Keeps.refl (S : List Nat) (w : World) : Keeps S w w := ⟨rfl, rfl, rfl, Nat.le_refl _, fun _ _ _ => rfl⟩
theorem Keeps.mono {S S' : List Nat} {w w' : World} (h : Keeps S w w') (hs : ∀ k ∈ S, k ∈ S' ∨ w.heap.size ≤ k) : Keeps S' w w' :=
  ⟨h.os, h.tape, h.output, h.size, fun k hk hn => h.block k hk fun hm => by rcases hs k hm with h1 | h1; exact hn h1; omega⟩
theorem Keeps.trans {S S' : List Nat} {w w1 w2 : World} (h : Keeps S w w1) (g : Keeps S' w1 w2) (hs : ∀ k ∈ S', k ∈ S ∨ w.heap.size ≤ k) : Keeps S w w2 :=
  ⟨g.os.trans h.os, g.tape.trans h.tape, g.output.trans h.output, Nat.le_trans h.size g.size, fun k hk hn => (g.block k (Nat.lt_of_lt_of_le hk h.size) fun hm => by
    rcases hs k hm with h1 | h1
    · exact hn h1
    · omega).trans (h.block k hk hn)⟩
theorem Keeps.trans' {S : List Nat} {w w1 w2 : World} (h : Keeps S w w1) (g : Keeps S w1 w2) : Keeps S w w2 := h.trans g fun _ hk => .inl hk
theorem Keeps.drewN {S : List Nat} {w w1 : World} (h : Keeps S w w1) (n : Nat) : Keeps S w (w1.drewN n) := ⟨h.os, h.tape, h.output, h.size, h.block⟩
theorem Keeps.drew {S : List Nat} {w w1 : World} (h : Keeps S w w1) : Keeps S w w1.drew := ⟨h.os, h.tape, h.output, h.size, h.block⟩
theorem Keeps.alloc {S : List Nat} {w w1 : World} (h : Keeps S w w1) (o : Obj) : Keeps S w (w1.alloc o) :=
  h.trans (S' := []) ⟨rfl, rfl, rfl, by simp, fun k hk _ => Below.heap_alloc _ _ _ hk⟩ (by simp)
theorem Keeps.setCell {S : List Nat} {w w1 : World} (h : Keeps S w w1) {a : Addr} (ha : a.block ∈ S ∨ w.heap.size ≤ a.block) (v : Value) : Keeps S w (w1.setCell a v) :=
  h.trans (S' := [a.block]) ⟨rfl, rfl, rfl, by simp [World.setCell], fun k hk hn => Below.heap_setCell _ _ _ _ (by simpa using hn)⟩ (by simpa using ha)
theorem Keeps.of_grownBy {w w' : World} {row : Option Nat} (h : w.grownBy w' row) : Keeps row.toList w w' :=
  ⟨h.os, h.tape, h.output, h.size, fun k hk hn => h.block k hk fun e => hn (by cases e; simp)⟩
theorem Keeps.of_below {w w' : World} (h : Below w.heap.size w w') : Keeps [] w w' := ⟨h.os, h.tape, h.output, h.size, fun k hk _ => h.block k hk⟩
theorem Keeps.below {w w' : World} (h : Keeps [] w w') : Below w.heap.size w w' := ⟨h.os, h.tape, h.output, h.size, fun k hk => h.block k hk (by simp)⟩
theorem Keeps.grownBy {w w' : World} {S : List Nat} {row : Option Nat} (h : Keeps S w w') (hs : ∀ k ∈ S, some k = row ∨ w.heap.size ≤ k) : w.grownBy w' row :=
  ⟨h.os, h.tape, h.output, h.size, fun k hk hn => h.block k hk fun hm => by
    rcases hs k hm with h1 | h1
    · exact hn h1
    · omega⟩
theorem Keeps.cell {S : List Nat} {w w' : World} (h : Keeps S w w') {p : Addr} {v : Value} (hc : w.cell? p = some v) (hp : p.block ∉ S) : w'.cell? p = some v :=
  (World.cell?_of_block (w := w) (h.block p.block (World.block_lt_of_cell? w p hc) hp)).trans hc

theorem Keeps.cf {S : List Nat} {w w' : World} (h : Keeps S w w') {p : Addr} {v : Value} {b : Bool} (hc : w.cell? p = some v) (hf : w.frozen? p = b) (hp : p.block ∉ S) : w'.cell? p = some v ∧ w'.frozen? p = b :=
  ⟨h.cell hc hp, (World.frozen?_of_block (w := w) (h.block p.block (World.block_lt_of_cell? w p hc) hp)).trans hf⟩

/-- a struct's block, whole -/
def StrAt (w : World) (b : Nat) (cs : Array Value) (T : TypeId) : Prop := w.heap[b]? = some (.cells cs T (0, 0))
theorem StrAt.cell {w : World} {b : Nat} {cs : Array Value} {T : TypeId} (h : StrAt w b cs T) (o : Nat) : w.cell? ⟨b, o, none⟩ = cs[o]? := by
  have h' : w.heap[b]? = _ := h
  simp [World.cell?, h']
theorem StrAt.frozen {w : World} {b : Nat} {cs : Array Value} {T : TypeId} (h : StrAt w b cs T) (o : Nat) : w.frozen? ⟨b, o, none⟩ = false := by
  have h' : w.heap[b]? = _ := h
  simp [World.frozen?, h']
theorem StrAt.lt {w : World} {b : Nat} {cs : Array Value} {T : TypeId} (h : StrAt w b cs T) : b < w.heap.size := (Array.getElem?_eq_some_iff.1 h).1
theorem StrAt.keeps {w w' : World} {b : Nat} {cs : Array Value} {T : TypeId} {S : List Nat} (h : StrAt w b cs T) (hk : Keeps S w w') (hb : b ∉ S) : StrAt w' b cs T := (hk.block b h.lt hb).trans h
theorem StrAt.set {w : World} {b : Nat} {cs : Array Value} {T : TypeId} (h : StrAt w b cs T) (o : Nat) (v : Value) : StrAt (w.setCell ⟨b, o, none⟩ v) b (cs.setIfInBounds o v) T := by
  have h' : w.heap[b]? = _ := h
  show (w.setCell ⟨b, o, none⟩ v).heap[b]? = _
  simp only [World.setCell, Array.getElem?_modify, if_pos, h', Option.map_some]
  rfl
theorem StrAt.other {w : World} {b : Nat} {cs : Array Value} {T : TypeId} (h : StrAt w b cs T) {a : Addr} (ha : b ≠ a.block) (v : Value) : StrAt (w.setCell a v) b cs T :=
  (Below.heap_setCell w a v b ha).trans h
theorem StrAt.alloc {w : World} {b : Nat} {cs : Array Value} {T : TypeId} (h : StrAt w b cs T) (o : Obj) : StrAt (w.alloc o) b cs T := (Below.heap_alloc w o b h.lt).trans h
theorem StrAt.drewN {w : World} {b : Nat} {cs : Array Value} {T : TypeId} (h : StrAt w b cs T) (n : Nat) : StrAt (w.drewN n) b cs T := h
theorem StrAt.new (w : World) (cs : Array Value) (T : TypeId) : StrAt (w.alloc (.cells cs T)) w.heap.size cs T := by
  show (w.heap.push _)[w.heap.size]? = _
  simp

/-- a row of the program's own: it begins its block -/
def RowAt (w : World) (g : Nat) (e : TypeId) (size n cap : Nat) (xs : List Value) : Prop :=
  w.ownsRow 0 e size (.slice (some ⟨g, 0, none⟩) n cap) n xs
theorem ownsRow_local {w w' : World} {base : Nat} {e : TypeId} {size n : Nat} {v : Value} {xs : List Value} (h : w.ownsRow base e size v n xs) (hb : ∀ k, v.ownBlock = some k → w'.heap[k]? = w.heap[k]?) : w'.ownsRow base e size v n xs := by
  refine ⟨h.1, ?_⟩
  rcases h.2 with h1 | ⟨g, cap, cur, rfl, h1, h2, h3⟩
  · exact .inl h1
  · exact .inr ⟨g, cap, cur, rfl, h1, (hb g rfl).trans h2, h3⟩
theorem ownsRow_keeps {S : List Nat} {w w' : World} {base : Nat} {e : TypeId} {size n : Nat} {v : Value} {xs : List Value} (h : w.ownsRow base e size v n xs) (hk : Keeps S w w') (hn : ∀ k, v.ownBlock = some k → k ∉ S) : w'.ownsRow base e size v n xs :=
  ownsRow_local h fun k e => hk.block k (h.lt k e).2 (hn k e)
theorem RowAt.lt {w : World} {g : Nat} {e : TypeId} {size n cap : Nat} {xs : List Value} (h : RowAt w g e size n cap xs) : g < w.heap.size := (World.ownsRow.lt h g rfl).2
theorem RowAt.keeps {S : List Nat} {w w' : World} {g : Nat} {e : TypeId} {size n cap : Nat} {xs : List Value} (h : RowAt w g e size n cap xs) (hk : Keeps S w w') (hn : g ∉ S) : RowAt w' g e size n cap xs :=
  ownsRow_keeps h hk fun k e => by cases e; exact hn
theorem RowAt.len {w : World} {g : Nat} {e : TypeId} {size n cap : Nat} {xs : List Value} (h : RowAt w g e size n cap xs) : xs.length = n * size := h.1
theorem RowAt.cell {w : World} {g : Nat} {e : TypeId} {size n cap : Nat} {xs : List Value} (h : RowAt w g e size n cap xs) (j : Nat) (hj : j < n * size) : w.cell? ⟨g, j, none⟩ = xs[j]? := World.ownsRow.cellAt h j hj
theorem RowAt.frozen {w : World} {g : Nat} {e : TypeId} {size n cap : Nat} {xs : List Value} (h : RowAt w g e size n cap xs) (j : Nat) : w.frozen? ⟨g, j, none⟩ = false := World.ownsRow.frozenAt h j
theorem RowAt.capLe {w : World} {g : Nat} {e : TypeId} {size n cap : Nat} {xs : List Value} (h : RowAt w g e size n cap xs) : n ≤ cap ∧ cap ≤ maxLen := by
  rcases h.2 with ⟨h1, _⟩ | ⟨g', cap', cur, h1, h2, h3, h4, h5, _⟩
  · cases h1
  · cases h1; exact ⟨h4, h5⟩
theorem RowAt.set {w : World} {g : Nat} {e : TypeId} {size n cap : Nat} {xs : List Value} (h : RowAt w g e size n cap xs) (j : Nat) (u : Value) : RowAt (w.setCell ⟨g, j, none⟩ u) g e size n cap (xs.set j u) := by
  refine ⟨by simpa using h.1, .inr ?_⟩
  rcases h.2 with ⟨h1, _⟩ | ⟨g', cap', cur, h1, h2, h3, h4, h5, h6, h7⟩
  · cases h1
  · cases h1
    refine ⟨g, cap, cur.setIfInBounds j u, rfl, h2, ?_, h4, h5, by simpa using h6, ?_⟩
    · simp only [World.setCell, Array.getElem?_modify, if_pos, h3, Option.map_some]
      rfl
    · simp [← h7, List.take_set]
theorem RowAt.other {w : World} {g : Nat} {e : TypeId} {size n cap : Nat} {xs : List Value} (h : RowAt w g e size n cap xs) {a : Addr} (ha : g ≠ a.block) (u : Value) : RowAt (w.setCell a u) g e size n cap xs :=
  ownsRow_local h fun k hk => by cases hk; exact Below.heap_setCell w a u g ha
theorem RowAt.alloc {w : World} {g : Nat} {e : TypeId} {size n cap : Nat} {xs : List Value} (h : RowAt w g e size n cap xs) (o : Obj) : RowAt (w.alloc o) g e size n cap xs := World.ownsRow.alloc h o
theorem RowAt.drewN {w : World} {g : Nat} {e : TypeId} {size n cap : Nat} {xs : List Value} (h : RowAt w g e size n cap xs) (k : Nat) : RowAt (w.drewN k) g e size n cap xs := h
/-- a slice that may be nil: what stands in it, and its block -/
theorem own_form {w : World} {base : Nat} {e : TypeId} {size n : Nat} {v : Value} {xs : List Value} (h : w.ownsRow base e size v n xs) : (v = .slice none 0 0 ∧ n = 0 ∧ xs = []) ∨ ∃ g cap, v = .slice (some ⟨g, 0, none⟩) n cap ∧ RowAt w g e size n cap xs := by
  rcases h.2 with ⟨rfl, rfl⟩ | ⟨g, cap, cur, rfl, _, h2, h3⟩
  · exact .inl ⟨rfl, rfl, List.eq_nil_of_length_eq_zero (by simpa using h.1)⟩
  · exact .inr ⟨g, cap, rfl, h.1, .inr ⟨g, cap, cur, rfl, Nat.zero_le _, h2, h3⟩⟩
end Go.Proofs.YtgcpcgcfpjolnaaDoor
/- General words, more: an append of one element, of a whole slice; make; what is fresh. -/
namespace Go.Proofs.YtgcpcgcfpjolnaaDoor
open Go.RowKit

/-- the slice's own block, if it has one, is newer than the world w -/
def Fresh (w : World) (v : Value) : Prop := ∀ k, v.ownBlock = some k → w.heap.size ≤ k
theorem Fresh.nil (w : World) : Fresh w (.slice none 0 0) := fun k h => by cases h
theorem Fresh.mono {w w1 : World} {v : Value} (h : Fresh w1 v) (hk : w.heap.size ≤ w1.heap.size) : Fresh w v := fun k e => Nat.le_trans hk (h k e)
theorem keeps_row {w w1 w2 : World} {S : List Nat} {v : Value} (h : Keeps S w w1) (g : Keeps v.ownBlock.toList w1 w2) (hf : ∀ k, v.ownBlock = some k → k ∈ S ∨ w.heap.size ≤ k) : Keeps S w w2 :=
  h.trans g fun k hk => hf k (by simpa using hk)

/-- xs[:m] -/
theorem RowAt.take {w : World} {g : Nat} {e : TypeId} {size n cap : Nat} {xs : List Value} (h : RowAt w g e size n cap xs) (m : Nat) (hm : m ≤ n) : RowAt w g e size m cap (xs.take (m * size)) := by
  have hl := h.1
  have hle : m * size ≤ n * size := Nat.mul_le_mul_right _ hm
  refine ⟨by simp; omega, .inr ?_⟩
  rcases h.2 with ⟨h1, _⟩ | ⟨g', cap', cur, h1, h2, h3, h4, h5, h6, h7⟩
  · cases h1
  · cases h1
    exact ⟨g, cap, cur, rfl, h2, h3, by omega, h5, h6, by rw [← h7, List.take_take, Nat.min_eq_left hle]⟩
/-- []T{} -/
theorem RowAt.empty (w : World) (e : TypeId) (size : Nat) : RowAt (w.alloc (.cells #[] e)) w.heap.size e size 0 0 [] :=
  ⟨by simp, .inr ⟨w.heap.size, 0, #[], rfl, Nat.zero_le _, by show (w.heap.push _)[w.heap.size]? = _; simp, Nat.le_refl _, by simp [maxLen], by simp, by simp⟩⟩
/-- []T{..} -/
theorem RowAt.lit (w : World) (cs : Array Value) (e : TypeId) (size n : Nat) (hs : cs.size = n * size) (hn : n ≤ maxLen) : RowAt (w.alloc (.cells cs e)) w.heap.size e size n n cs.toList :=
  ⟨by simpa using hs, .inr ⟨w.heap.size, n, cs, rfl, Nat.zero_le _, by show (w.heap.push _)[w.heap.size]? = _; simp, Nat.le_refl _, hn, hs, List.take_of_length_le (by simp [hs])⟩⟩
/-- of at least one element a slice is no nil -/
theorem own_some {w : World} {base : Nat} {e : TypeId} {size n : Nat} {v : Value} {xs : List Value} (h : w.ownsRow base e size v n xs) (hn : 1 ≤ n) : ∃ g cap, v = .slice (some ⟨g, 0, none⟩) n cap ∧ RowAt w g e size n cap xs := by
  rcases own_form h with ⟨_, h1, _⟩ | h1
  · omega
  · exact h1

section
variable {P : Program} {ops : Array Oper} {rest : List Oper} {o : Oper} {a : Act} {Q : Exit → Act → World → Prop}

/-- append of one element, which lies in a box of its own -/
theorem wp_push {W : World} (hgd : o.guard = none) (s x : Operand) (t e : TypeId) (z : Value) (size bytes : Nat)
    (ho : o.op = .call { callee := .builtin .append, args := #[s, x], argTypes := #[t, t] })
    (ht : P.underlying t = some (.slice e)) (hinfo : (P.info? e).map (fun i => (i.zero, i.size, i.bytes)) = some (some z, size, bytes)) (hz : z.cells.size = size) (hs0 : 0 < size) (hb0 : 0 < bytes)
    (v : Value) (n : Nat) (xs : List Value) (cs : Array Value) (hs : a.eval s = v) {H : Nat} (hx : a.eval x = .slice (some ⟨H, 0, none⟩) 1 1) (hH : W.heap.size = H) (hcs : cs.size = size) (h1 : ∀ u ∈ cs.toList, u.oneCell' = true)
    (HO : W.ownsRow 0 e size v n xs) (hl : (n + 1) * bytes ≤ 140737488355328)
    (h : ∀ v1 w1, w1.ownsRow 0 e size v1 (n + 1) (xs ++ cs.toList) → Keeps v.ownBlock.toList W w1 → (∀ k, v1.ownBlock = some k → v.ownBlock = some k ∨ W.heap.size ≤ k) → wpList P ops Q rest (a.put o.dst v1) w1) :
    wpList P ops Q (o :: rest) a (W.alloc (.cells cs e)) := by
  subst hH
  obtain ⟨i0, hi, hzz⟩ := Option.map_eq_some_iff.1 hinfo
  simp only [Prod.mk.injEq] at hzz
  obtain ⟨hz0, hz1, hz2⟩ := hzz
  have hlen : n + 1 ≤ 140737488355328 := Nat.le_trans (Nat.le_mul_of_pos_right _ hb0) hl
  refine wpList_append_own_at (W.alloc (.cells cs e)) hgd s x t ho 0 e i0 z size bytes ht hi hz0 hz1 hz2 hz hs0 v n xs hs (HO.alloc _) ⟨W.heap.size, 0, none⟩ 1 1 cs.toList hx (by simp [hcs])
    ?_ h1 (by simp only [maxLen]; omega) hl (Nat.zero_le _) ?_
  · intro j u hj
    have e2 : (⟨W.heap.size, 0, none⟩ : Addr).add j = ⟨W.heap.size, j, none⟩ := by unfold Addr.add; split <;> simp_all
    rw [e2, (StrAt.new W cs e).cell j]
    simpa using hj
  · intro v1 w1 hown hg _ hat
    refine h v1 w1 hown (((Keeps.refl _ _).alloc _).trans (Keeps.of_grownBy hg) (fun k hk => .inl hk)) ?_
    intro k hk
    rcases hat with hat | hat
    · exact .inl (hat ▸ hk)
    · rw [hat] at hk
      cases hk
      exact .inr (by simp)

/-- append of all of another slice -/
theorem wp_append {W : World} (hgd : o.guard = none) (s x : Operand) (t e : TypeId) (z : Value) (size bytes : Nat)
    (ho : o.op = .call { callee := .builtin .append, args := #[s, x], argTypes := #[t, t] })
    (ht : P.underlying t = some (.slice e)) (hinfo : (P.info? e).map (fun i => (i.zero, i.size, i.bytes)) = some (some z, size, bytes)) (hz : z.cells.size = size) (hs0 : 0 < size) (hb0 : 0 < bytes)
    (v : Value) (n : Nat) (xs : List Value) (g m c : Nat) (ys : List Value) (hs : a.eval s = v) (hx : a.eval x = .slice (some ⟨g, 0, none⟩) m c) (hys : RowAt W g e size m c ys) (h1 : ∀ u ∈ ys, u.oneCell' = true)
    (HO : W.ownsRow 0 e size v n xs) (hl : (n + m) * bytes ≤ 140737488355328)
    (h : ∀ v1 w1, w1.ownsRow 0 e size v1 (n + m) (xs ++ ys) → Keeps v.ownBlock.toList W w1 → (∀ k, v1.ownBlock = some k → v.ownBlock = some k ∨ W.heap.size ≤ k) → (v1 = .slice none 0 0 ↔ v = .slice none 0 0 ∧ m = 0) → wpList P ops Q rest (a.put o.dst v1) w1) :
    wpList P ops Q (o :: rest) a W := by
  obtain ⟨i0, hi, hzz⟩ := Option.map_eq_some_iff.1 hinfo
  simp only [Prod.mk.injEq] at hzz
  obtain ⟨hz0, hz1, hz2⟩ := hzz
  have hlen : n + m ≤ 140737488355328 := Nat.le_trans (Nat.le_mul_of_pos_right _ hb0) hl
  refine wpList_append_own_at W hgd s x t ho 0 e i0 z size bytes ht hi hz0 hz1 hz2 hz hs0 v n xs hs HO ⟨g, 0, none⟩ m c ys hx hys.len
    (World.ownsRow.cells hys (g := g) rfl) h1 (by simp only [maxLen]; omega) hl (Nat.zero_le _) ?_
  intro v1 w1 hown hg hnil hat
  refine h v1 w1 hown (Keeps.of_grownBy hg) ?_ hnil
  intro k hk
  rcases hat with hat | hat
  · exact .inl (hat ▸ hk)
  · rw [hat] at hk
    cases hk
    exact .inr (Nat.le_refl _)

/-- append of all of another slice, which may be nil -/
theorem wp_append_any {W : World} (hgd : o.guard = none) (s x : Operand) (t e : TypeId) (z : Value) (size bytes : Nat)
    (ho : o.op = .call { callee := .builtin .append, args := #[s, x], argTypes := #[t, t] })
    (ht : P.underlying t = some (.slice e)) (hinfo : (P.info? e).map (fun i => (i.zero, i.size, i.bytes)) = some (some z, size, bytes)) (hz : z.cells.size = size) (hs0 : 0 < size) (hb0 : 0 < bytes)
    (v : Value) (n : Nat) (xs : List Value) (y : Value) (m : Nat) (ys : List Value) (hs : a.eval s = v) (hx : a.eval x = y) (hys : W.ownsRow 0 e size y m ys) (h1 : ∀ u ∈ ys, u.oneCell' = true)
    (HO : W.ownsRow 0 e size v n xs) (hl : (n + m) * bytes ≤ 140737488355328)
    (h : ∀ v1 w1, w1.ownsRow 0 e size v1 (n + m) (xs ++ ys) → Keeps v.ownBlock.toList W w1 → (∀ k, v1.ownBlock = some k → v.ownBlock = some k ∨ W.heap.size ≤ k) → (v1 = .slice none 0 0 ↔ v = .slice none 0 0 ∧ m = 0) → wpList P ops Q rest (a.put o.dst v1) w1) :
    wpList P ops Q (o :: rest) a W := by
  rcases own_form hys with ⟨rfl, rfl, rfl⟩ | ⟨g, c, rfl, hr⟩
  · obtain ⟨i0, hi, hzz⟩ := Option.map_eq_some_iff.1 hinfo
    refine wpList_plain hgd fun K hK' => ?_
    have hrun := run_append_owned_none (P := P) W 0 t o.type e i0 size ht hi v n xs HO
    unfold Oper.wp
    simp [execOp, ho, resolve, invoke, builtin, hs, hx, hrun, Result.andThen]
    exact hK' _ _ (h v W (by simpa using HO) (Keeps.refl _ _) (fun k hk => .inl hk) (by simp))
  · exact wp_append hgd s x t e z size bytes ho ht hinfo hz hs0 hb0 v n xs g m c ys hs hx hr h1 HO hl h

/-- the same as a step of a region that draws -/
theorem step_append {W : World} {K : Act → World → Prop} {E : Prop} (hgd : o.guard = none) (s x : Operand) (t e : TypeId) (z : Value) (size bytes : Nat)
    (ho : o.op = .call { callee := .builtin .append, args := #[s, x], argTypes := #[t, t] })
    (ht : P.underlying t = some (.slice e)) (hinfo : (P.info? e).map (fun i => (i.zero, i.size, i.bytes)) = some (some z, size, bytes)) (hz : z.cells.size = size) (hs0 : 0 < size) (hb0 : 0 < bytes)
    (v : Value) (n : Nat) (xs : List Value) (g m c : Nat) (ys : List Value) (hs : a.eval s = v) (hx : a.eval x = .slice (some ⟨g, 0, none⟩) m c) (hys : RowAt W g e size m c ys) (h1 : ∀ u ∈ ys, u.oneCell' = true)
    (HO : W.ownsRow 0 e size v n xs) (hl : (n + m) * bytes ≤ 140737488355328)
    (h : ∀ v1 w1, w1.ownsRow 0 e size v1 (n + m) (xs ++ ys) → Keeps v.ownBlock.toList W w1 → (∀ k, v1.ownBlock = some k → v.ownBlock = some k ∨ W.heap.size ≤ k) → (v1 = .slice none 0 0 ↔ v = .slice none 0 0 ∧ m = 0) → K (a.put o.dst v1) w1) :
    if Region.wanted o (yielded ops a.tmps) = true then Oper.wp P o a W K Q else E := by
  have hw : Region.wanted o (yielded ops a.tmps) = true := by simp [Region.wanted, hgd]
  rw [if_pos hw]
  obtain ⟨i0, hi, hzz⟩ := Option.map_eq_some_iff.1 hinfo
  simp only [Prod.mk.injEq] at hzz
  obtain ⟨hz0, hz1, hz2⟩ := hzz
  have hlen : n + m ≤ 140737488355328 := Nat.le_trans (Nat.le_mul_of_pos_right _ hb0) hl
  obtain ⟨v1, w1, hr, h2, h3, h4, h5⟩ := run_append_own_at (P := P) W 0 t o.type e i0 z size bytes ht hi hz0 hz1 hz2 hz hs0 v n xs HO ⟨g, 0, none⟩ m c ys hys.len (World.ownsRow.cells hys (g := g) rfl) h1 (by simp only [maxLen]; omega) hl (Nat.zero_le _)
  unfold Oper.wp execOp
  simp only [ho, resolve, invoke, builtin, Sem.run_bind, Sem.run_pure, Result.andThen_ok, List.map_toArray, List.map_cons, List.map_nil, hs, hx, hr]
  refine h v1 w1 h2 (Keeps.of_grownBy h3) ?_ h4
  intro k hk
  rcases h5 with hat | hat
  · exact .inl (hat ▸ hk)
  · rw [hat] at hk
    cases hk
    exact .inr (Nat.le_refl _)

/-- append of one element as a step of a region that draws -/
theorem step_push {W : World} {K : Act → World → Prop} {E : Prop} (hgd : o.guard = none) (s x : Operand) (t e : TypeId) (z : Value) (size bytes : Nat)
    (ho : o.op = .call { callee := .builtin .append, args := #[s, x], argTypes := #[t, t] })
    (ht : P.underlying t = some (.slice e)) (hinfo : (P.info? e).map (fun i => (i.zero, i.size, i.bytes)) = some (some z, size, bytes)) (hz : z.cells.size = size) (hs0 : 0 < size) (hb0 : 0 < bytes)
    (v : Value) (n : Nat) (xs : List Value) (cs : Array Value) (hs : a.eval s = v) {H : Nat} (hx : a.eval x = .slice (some ⟨H, 0, none⟩) 1 1) (hH : W.heap.size = H) (hcs : cs.size = size) (h1 : ∀ u ∈ cs.toList, u.oneCell' = true)
    (HO : W.ownsRow 0 e size v n xs) (hl : (n + 1) * bytes ≤ 140737488355328)
    (h : ∀ v1 w1, w1.ownsRow 0 e size v1 (n + 1) (xs ++ cs.toList) → Keeps v.ownBlock.toList W w1 → (∀ k, v1.ownBlock = some k → v.ownBlock = some k ∨ W.heap.size ≤ k) → K (a.put o.dst v1) w1) :
    if Region.wanted o (yielded ops a.tmps) = true then Oper.wp P o a (W.alloc (.cells cs e)) K Q else E := by
  subst hH
  have hw : Region.wanted o (yielded ops a.tmps) = true := by simp [Region.wanted, hgd]
  rw [if_pos hw]
  obtain ⟨i0, hi, hzz⟩ := Option.map_eq_some_iff.1 hinfo
  simp only [Prod.mk.injEq] at hzz
  obtain ⟨hz0, hz1, hz2⟩ := hzz
  have hlen : n + 1 ≤ 140737488355328 := Nat.le_trans (Nat.le_mul_of_pos_right _ hb0) hl
  have hc : ∀ j u, cs.toList[j]? = some u → (W.alloc (.cells cs e)).cell? ((⟨W.heap.size, 0, none⟩ : Addr).add j) = some u := by
    intro j u hj
    have e2 : (⟨W.heap.size, 0, none⟩ : Addr).add j = ⟨W.heap.size, j, none⟩ := by unfold Addr.add; split <;> simp_all
    rw [e2, (StrAt.new W cs e).cell j]
    simpa using hj
  obtain ⟨v1, w1, hr, h2, h3, h4, h5⟩ := run_append_own_at (P := P) (W.alloc (.cells cs e)) 0 t o.type e i0 z size bytes ht hi hz0 hz1 hz2 hz hs0 v n xs (HO.alloc _) ⟨W.heap.size, 0, none⟩ 1 1 cs.toList (by simp [hcs]) hc h1 (by simp only [maxLen]; omega) hl (Nat.zero_le _)
  unfold Oper.wp execOp
  simp only [ho, resolve, invoke, builtin, Sem.run_bind, Sem.run_pure, Result.andThen_ok, List.map_toArray, List.map_cons, List.map_nil, hs, hx, hr]
  refine h v1 w1 h2 (((Keeps.refl _ _).alloc _).trans (Keeps.of_grownBy h3) (fun k hk => .inl hk)) ?_
  intro k hk
  rcases h5 with hat | hat
  · exact .inl (hat ▸ hk)
  · rw [hat] at hk
    cases hk
    exact .inr (by simp)

/-- make([]T, 0, n) -/
theorem wp_make0 {W : World} (hg : o.guard = none) (l c : Operand) (t e : TypeId) (z : Value) (size bytes : Nat) (hop : o.op = Op.makeSlice t l c)
    (ht : P.underlying t = some (.slice e)) (hinfo : (P.info? e).map (fun i => (i.zero, i.size, i.bytes)) = some (some z, size, bytes))
    (n : Nat) {C : Int} (hl : a.eval l = .int .i64 0) (hc : a.eval c = .int .i64 C) (hC : C = (n : Int)) (b2 : bytes * n ≤ 281474976710656) (b3 : n ≤ maxLen)
    (hK : ∀ w', RowAt w' W.heap.size e size 0 n [] → Keeps [] W w' → wpList P ops Q rest (a.put o.dst (.slice (some ⟨W.heap.size, 0, none⟩) 0 n)) w') :
    wpList P ops Q (o :: rest) a W := by
  obtain ⟨i0, hi, hz0, hz1, hz2⟩ := info_parts hinfo
  exact wpList_make_own W hg l c t hop 0 e i0 z size ht hi hz0 hz1 .i64 .i64 C n hl hc hC (by rw [hz2]; exact b2) b3 (Nat.zero_le _) fun w' h1 h2 => hK w' h1 (Keeps.of_grownBy h2)
/-- make([]T, n) -/
theorem wp_make {W : World} (hg : o.guard = none) (l c : Operand) (t e : TypeId) (z : Value) (size bytes : Nat) (hop : o.op = Op.makeSlice t l c)
    (ht : P.underlying t = some (.slice e)) (hinfo : (P.info? e).map (fun i => (i.zero, i.size, i.bytes)) = some (some z, size, bytes))
    (n : Nat) {L C : Int} (hl : a.eval l = .int .i64 L) (hc : a.eval c = .int .i64 C) (hL : L = (n : Int)) (hC : C = (n : Int)) (b2 : bytes * n ≤ 281474976710656) (b3 : n ≤ maxLen)
    (hK : ∀ w', RowAt w' W.heap.size e size n n (madeCells z.cells (n * size)).toList → Keeps [] W w' → wpList P ops Q rest (a.put o.dst (.slice (some ⟨W.heap.size, 0, none⟩) n n)) w') :
    wpList P ops Q (o :: rest) a W := by
  obtain ⟨i0, hi, hz0, hz1, hz2⟩ := info_parts hinfo
  exact wpList_make_full W hg l c t hop 0 e i0 z size ht hi hz0 hz1 .i64 .i64 L C n hl hc hL hC (by rw [hz2]; exact b2) b3 (Nat.zero_le _) fun w' h1 h2 => hK w' h1 (Keeps.of_grownBy h2)
/-- append of one element where there is room for it -/
theorem wp_push_fits {W : World} (hgd : o.guard = none) (s x : Operand) (t e : TypeId) (z : Value) (size bytes : Nat)
    (ho : o.op = .call { callee := .builtin .append, args := #[s, x], argTypes := #[t, t] })
    (ht : P.underlying t = some (.slice e)) (hinfo : (P.info? e).map (fun i => (i.zero, i.size, i.bytes)) = some (some z, size, bytes))
    (g n cap : Nat) (xs : List Value) (cs : Array Value) (hs : a.eval s = .slice (some ⟨g, 0, none⟩) n cap) {H : Nat} (hx : a.eval x = .slice (some ⟨H, 0, none⟩) 1 1) (hH : W.heap.size = H) (hcs : cs.size = size) (h1 : ∀ u ∈ cs.toList, u.oneCell' = true)
    (HO : RowAt W g e size n cap xs) (hr : n + 1 ≤ cap)
    (h : ∀ w1, RowAt w1 g e size (n + 1) cap (xs ++ cs.toList) → Keeps [g] W w1 → wpList P ops Q rest (a.put o.dst (.slice (some ⟨g, 0, none⟩) (n + 1) cap)) w1) :
    wpList P ops Q (o :: rest) a (W.alloc (.cells cs e)) := by
  subst hH
  obtain ⟨i0, hi, hzz⟩ := Option.map_eq_some_iff.1 hinfo
  simp only [Prod.mk.injEq] at hzz
  obtain ⟨hz0, hz1, hz2⟩ := hzz
  refine wpList_append_fits (W.alloc (.cells cs e)) hgd s x t ho 0 e i0 size ht hi hz1 g n cap xs hs (World.ownsRow.alloc HO _) ⟨W.heap.size, 0, none⟩ 1 1 cs.toList hx (by simp [hcs]) ?_ h1 hr ?_
  · intro j u hj
    have e2 : (⟨W.heap.size, 0, none⟩ : Addr).add j = ⟨W.heap.size, j, none⟩ := by unfold Addr.add; split <;> simp_all
    rw [e2, (StrAt.new W cs e).cell j]
    simpa using hj
  · intro w1 hown hg
    exact h w1 hown (((Keeps.refl _ _).alloc _).trans (Keeps.of_grownBy hg) (fun k hk => .inl hk))
end
end Go.Proofs.YtgcpcgcfpjolnaaDoor
/- General words: things that stand apart in memory, above a block number B. -/
namespace Go.Proofs.YtgcpcgcfpjolnaaDoor
open Go.RowKit

structure Thing where
  fp : List Nat
  P : World → Prop
  loc : ∀ {w w' : World}, P w → (∀ k ∈ fp, w'.heap[k]? = w.heap[k]?) → P w'
  lt : ∀ {w : World}, P w → ∀ k ∈ fp, k < w.heap.size

def fps (L : List Thing) : List Nat := L.flatMap (·.fp)
structure Has (B : Nat) (w : World) (L : List Thing) : Prop where
  all : ∀ t ∈ L, t.P w
  apart : (fps L).Nodup
  ge : ∀ k ∈ fps L, B ≤ k
  le : B ≤ w.heap.size

theorem mem_fps {L : List Thing} {t : Thing} (ht : t ∈ L) {k : Nat} (hk : k ∈ t.fp) : k ∈ fps L := List.mem_flatMap.2 ⟨t, ht, hk⟩
theorem fps_cons (t : Thing) (L : List Thing) : fps (t :: L) = t.fp ++ fps L := rfl
theorem fps_append (L M : List Thing) : fps (L ++ M) = fps L ++ fps M := List.flatMap_append
theorem Has.lt {B : Nat} {w : World} {L : List Thing} (h : Has B w L) : ∀ k ∈ fps L, k < w.heap.size := by
  intro k hk
  obtain ⟨t, ht, hk⟩ := List.mem_flatMap.1 hk
  exact t.lt (h.all t ht) k hk
theorem Has.perm {B : Nat} {w : World} {L M : List Thing} (h : Has B w L) (p : L.Perm M) : Has B w M :=
  ⟨fun t ht => h.all t (p.mem_iff.2 ht), (p.flatMap_right _).nodup_iff.1 h.apart, fun k hk => h.ge k ((p.flatMap_right _).mem_iff.2 hk), h.le⟩
theorem Has.tail {B : Nat} {w : World} {t : Thing} {L : List Thing} (h : Has B w (t :: L)) : Has B w L :=
  ⟨fun u hu => h.all u (List.mem_cons_of_mem _ hu), (List.nodup_append.1 h.apart).2.1, fun k hk => h.ge k (List.mem_append_right _ hk), h.le⟩
theorem Has.keeps {B : Nat} {w w' : World} {S : List Nat} {L : List Thing} (h : Has B w L) (hk : Keeps S w w') (hs : ∀ k ∈ fps L, k ∉ S) : Has B w' L :=
  ⟨fun t ht => t.loc (h.all t ht) fun k hm => hk.block k (t.lt (h.all t ht) k hm) (hs k (mem_fps ht hm)), h.apart, h.ge, Nat.le_trans h.le hk.size⟩
theorem Has.keeps0 {B : Nat} {w w' : World} {L : List Thing} (h : Has B w L) (hk : Keeps [] w w') : Has B w' L := h.keeps hk (by simp)
theorem Has.nil (B : Nat) (w : World) (h : B ≤ w.heap.size) : Has B w [] := ⟨by simp, by simp [fps], by simp [fps], h⟩
theorem keeps_below {B : Nat} {w w' : World} {S : List Nat} (hk : Keeps S w w') (hs : ∀ k ∈ S, B ≤ k) (hB : B ≤ w.heap.size) : Below B w w' :=
  ⟨hk.os, hk.tape, hk.output, hk.size, fun k hlt => hk.block k (Nat.lt_of_lt_of_le hlt hB) fun hm => by have := hs k hm; omega⟩
/-- the head thing is turned into another one -/
theorem Has.head {B : Nat} {w w' : World} {t t' : Thing} {L : List Thing} (h : Has B w (t :: L)) (hk : Keeps t.fp w w') (hp : t'.P w') (hn : t'.fp.Nodup) (hf : ∀ k ∈ t'.fp, k ∈ t.fp ∨ w.heap.size ≤ k) :
    Has B w' (t' :: L) ∧ Below B w w' := by
  have hd := (List.nodup_append.1 h.apart).2.2
  have h' : Has B w' L := h.tail.keeps hk fun k hm hs => hd k hs k hm rfl
  refine ⟨⟨fun u hu => ?_, ?_, fun k hm => ?_, h'.le⟩, keeps_below hk (fun k hm => h.ge k (List.mem_append_left _ hm)) h.le⟩
  · rcases List.mem_cons.1 hu with rfl | hu
    · exact hp
    · exact h'.all u hu
  · rw [fps_cons]
    refine List.nodup_append.2 ⟨hn, h'.apart, fun a ha b hb e => ?_⟩
    subst e
    rcases hf a ha with h1 | h1
    · exact hd a h1 a hb rfl
    · have := h.tail.lt a hb
      omega
  · rw [fps_cons] at hm
    rcases List.mem_append.1 hm with h1 | h1
    · rcases hf k h1 with h2 | h2
      · exact h.ge k (List.mem_append_left _ h2)
      · have := h.le
        omega
    · exact h'.ge k h1
/-- a new thing -/
theorem Has.cons {B : Nat} {w w' : World} {t' : Thing} {L : List Thing} (h : Has B w L) (hk : Keeps [] w w') (hp : t'.P w') (hn : t'.fp.Nodup) (hf : ∀ k ∈ t'.fp, w.heap.size ≤ k) :
    Has B w' (t' :: L) ∧ Below B w w' := by
  have h' : Has B w' L := h.keeps0 hk
  refine ⟨⟨fun u hu => ?_, ?_, fun k hm => ?_, h'.le⟩, keeps_below hk (by simp) h.le⟩
  · rcases List.mem_cons.1 hu with rfl | hu
    · exact hp
    · exact h'.all u hu
  · rw [fps_cons]
    refine List.nodup_append.2 ⟨hn, h'.apart, fun a ha b hb e => ?_⟩
    subst e
    have h1 := hf a ha
    have := h.lt a hb
    omega
  · rw [fps_cons] at hm
    rcases List.mem_append.1 hm with h1 | h1
    · have := hf k h1
      have := h.le
      omega
    · exact h'.ge k h1
theorem perm_set {α : Type} (L : List α) (i : Nat) (t : α) (h : L[i]? = some t) (t' : α) : ((t :: L.eraseIdx i).Perm L) ∧ ((t' :: L.eraseIdx i).Perm (L.set i t')) := by
  have hi : i < L.length := (List.getElem?_eq_some_iff.1 h).1
  have ht : L[i] = t := (List.getElem?_eq_some_iff.1 h).2
  have e1 : L = L.take i ++ t :: L.drop (i + 1) := by
    rw [← ht]
    simp
  have e2 : L.eraseIdx i = L.take i ++ L.drop (i + 1) := List.eraseIdx_eq_take_drop_succ L i
  have e3 : L.set i t' = L.take i ++ t' :: L.drop (i + 1) := List.set_eq_take_append_cons_drop.trans (if_pos hi)
  rw [e2, e3]
  refine ⟨?_, List.perm_middle.symm⟩
  conv => rhs; rw [e1]
  exact List.perm_middle.symm
/-- the thing at a place is turned into another one -/
theorem Has.upd {B : Nat} {w w' : World} {L : List Thing} (h : Has B w L) (i : Nat) {t : Thing} (t' : Thing) (ht : L[i]? = some t) (hk : Keeps t.fp w w') (hp : t'.P w') (hn : t'.fp.Nodup) (hf : ∀ k ∈ t'.fp, k ∈ t.fp ∨ w.heap.size ≤ k) :
    Has B w' (L.set i t') ∧ Below B w w' := by
  obtain ⟨p1, p2⟩ := perm_set L i t ht t'
  obtain ⟨h1, h2⟩ := (h.perm p1.symm).head hk hp hn hf
  exact ⟨h1.perm p2, h2⟩
/-- the thing at a place is turned into another one, and a new one comes -/
theorem Has.updNew {B : Nat} {w w' : World} {L : List Thing} (h : Has B w L) (i : Nat) {t : Thing} (t' u : Thing) (ht : L[i]? = some t) (hk : Keeps t.fp w w') (hp : t'.P w') (hn : t'.fp.Nodup) (hf : ∀ k ∈ t'.fp, k ∈ t.fp ∨ w.heap.size ≤ k)
    (hu : u.P w') (hun : u.fp.Nodup) (huf : ∀ k ∈ u.fp, w.heap.size ≤ k) (hd : ∀ k ∈ u.fp, k ∉ t'.fp) : Has B w' (u :: L.set i t') ∧ Below B w w' := by
  obtain ⟨p1, p2⟩ := perm_set L i t ht t'
  have h0 := h.perm p1.symm
  obtain ⟨h1, h2⟩ := h0.head hk hp hn hf
  refine ⟨Has.perm (L := u :: t' :: L.eraseIdx i) ⟨fun x hx => ?_, ?_, fun k hm => ?_, h1.le⟩ (p2.cons u), h2⟩
  · rcases List.mem_cons.1 hx with rfl | hx
    · exact hu
    · exact h1.all x hx
  · rw [fps_cons]
    refine List.nodup_append.2 ⟨hun, h1.apart, fun a ha b hb e => ?_⟩
    subst e
    rw [fps_cons] at hb
    rcases List.mem_append.1 hb with h3 | h3
    · exact hd a ha h3
    · have := h0.tail.lt a h3
      have := huf a ha
      omega
  · rw [fps_cons] at hm
    rcases List.mem_append.1 hm with h3 | h3
    · have := huf k h3
      have := h.le
      omega
    · exact h1.ge k h3
theorem Has.get {B : Nat} {w : World} {L : List Thing} (h : Has B w L) (i : Nat) {t : Thing} (ht : L[i]? = some t) : t.P w := h.all t (List.mem_of_getElem? ht)
theorem Has.fresh {B : Nat} {w : World} {L : List Thing} (h : Has B w L) {t : Thing} (ht : t ∈ L) : ∀ k ∈ t.fp, B ≤ k := fun k hk => h.ge k (mem_fps ht hk)
/-- two places are apart -/
theorem Has.ne {B : Nat} {w : World} {L : List Thing} (h : Has B w L) (i j : Nat) {t u : Thing} (ht : L[i]? = some t) (hu : L[j]? = some u) (hij : i ≠ j) : ∀ k ∈ t.fp, k ∉ u.fp := by
  intro k hk hk'
  obtain ⟨p1, _⟩ := perm_set L i t ht t
  have h1 := (h.perm p1.symm).apart
  rw [fps_cons] at h1
  refine (List.nodup_append.1 h1).2.2 k hk k ?_ rfl
  have hm : u ∈ L.eraseIdx i := by
    rw [List.mem_eraseIdx_iff_getElem?]
    exact ⟨j, fun e => hij e.symm, hu⟩
  exact mem_fps hm hk'

def strT (b : Nat) (cs : Array Value) (T : TypeId) : Thing where
  fp := [b]
  P := fun w => StrAt w b cs T
  loc := fun h hk => (hk b (by simp)).trans h
  lt := fun h k hk => by simp at hk; subst hk; exact StrAt.lt h
def rowT (v : Value) (e : TypeId) (size n : Nat) (xs : List Value) : Thing where
  fp := v.ownBlock.toList
  P := fun w => w.ownsRow 0 e size v n xs
  loc := fun h hk => ownsRow_local h fun k e => hk k (by rw [e]; simp)
  lt := fun h k hk => (World.ownsRow.lt h k (by simpa using hk)).2
theorem rowT_nodup (v : Value) (e : TypeId) (size n : Nat) (xs : List Value) : (rowT v e size n xs).fp.Nodup := by
  show v.ownBlock.toList.Nodup
  cases v.ownBlock <;> simp
theorem strT_nodup (b : Nat) (cs : Array Value) (T : TypeId) : (strT b cs T).fp.Nodup := by simp [strT]
/-- a struct's cell is written -/
theorem Has.store {B : Nat} {w : World} {L : List Thing} (h : Has B w L) (i : Nat) {b : Nat} {cs : Array Value} {T : TypeId} (ht : L[i]? = some (strT b cs T)) (o : Nat) (v : Value) :
    Has B (w.setCell ⟨b, o, none⟩ v) (L.set i (strT b (cs.setIfInBounds o v) T)) ∧ Below B w (w.setCell ⟨b, o, none⟩ v) :=
  h.upd i (strT b (cs.setIfInBounds o v) T) ht ((Keeps.refl _ _).setCell (by simp [strT]) _) (StrAt.set (h.get i ht) o v) (strT_nodup ..) (fun k hk => .inl hk)
/-- a row's cell is written -/
theorem Has.storeRow {B : Nat} {w : World} {L : List Thing} (h : Has B w L) (i : Nat) {g : Nat} {e : TypeId} {size n cap : Nat} {xs : List Value} (ht : L[i]? = some (rowT (.slice (some ⟨g, 0, none⟩) n cap) e size n xs)) (j : Nat) (v : Value) :
    Has B (w.setCell ⟨g, j, none⟩ v) (L.set i (rowT (.slice (some ⟨g, 0, none⟩) n cap) e size n (xs.set j v))) ∧ Below B w (w.setCell ⟨g, j, none⟩ v) :=
  h.upd i _ ht ((Keeps.refl _ _).setCell (by simp [rowT, Value.ownBlock]) _) (RowAt.set (h.get i ht) j v) (rowT_nodup ..) (fun k hk => .inl hk)
/-- a row has been lengthened -/
theorem Has.row {B : Nat} {w w' : World} {L : List Thing} (h : Has B w L) (i : Nat) {v v1 : Value} {e e1 : TypeId} {size size1 n n1 : Nat} {xs ys : List Value} (ht : L[i]? = some (rowT v e size n xs)) (hown : w'.ownsRow 0 e1 size1 v1 n1 ys)
    (hk : Keeps v.ownBlock.toList w w') (hf : ∀ k, v1.ownBlock = some k → v.ownBlock = some k ∨ w.heap.size ≤ k) : Has B w' (L.set i (rowT v1 e1 size1 n1 ys)) ∧ Below B w w' :=
  h.upd i _ ht hk hown (rowT_nodup ..) (fun k hk => (hf k (by simpa [rowT] using hk)).imp (by simp [rowT]) id)
end Go.Proofs.YtgcpcgcfpjolnaaDoor
/- A map of whole numbers in a block: what it holds, as a list of keys and values. -/
set_option linter.unusedVariables false
set_option linter.unusedSimpArgs false
namespace Go.Proofs.YtgcpcgcfpjolnaaDoor
open Go.RowKit Go.Maps Go.ChangeMaps Go.WideShapes
set_option maxRecDepth 10000

def okKey (n : Int) : Prop := (Lit.int .i64 n).wf = true
theorem okKey_of {n : Int} (h0 : -9223372036854775808 ≤ n) (h1 : n ≤ 9223372036854775807) : okKey n := WalkArith.wf_i64 (by omega)
/-- block b is a map that holds E -/
def MapAt (w : World) (b : Nat) (E : List (Int × Value)) : Prop :=
  (E.map Prod.fst).Nodup ∧ (∀ p ∈ E, okKey p.1) ∧ ∃ es clock, w.heap[b]? = some (.map es clock) ∧ es.toList.map (fun e => (e.key, e.val)) = E.map fun p => (Value.int .i64 p.1, p.2)
def mapGet (E : List (Int × Value)) (k : Int) : Option Value := (E.find? (fun p => p.1 == k)).map (·.2)
def mapPut (E : List (Int × Value)) (k : Int) (v : Value) : List (Int × Value) := if k ∈ E.map Prod.fst then E.map (fun p => if p.1 = k then (k, v) else p) else E ++ [(k, v)]
theorem mapPut_fst (E : List (Int × Value)) (k : Int) (v : Value) : (mapPut E k v).map Prod.fst = if k ∈ E.map Prod.fst then E.map Prod.fst else E.map Prod.fst ++ [k] := by
  unfold mapPut
  split
  · rw [List.map_map]
    refine List.map_congr_left fun p _ => ?_
    show (if p.1 = k then (k, v) else p).1 = p.1
    split
    · rename_i e; exact e.symm
    · rfl
  · simp
theorem mapGet_none {E : List (Int × Value)} {k : Int} (h : k ∉ E.map Prod.fst) : mapGet E k = none := by
  unfold mapGet
  rw [Option.map_eq_none_iff, List.find?_eq_none]
  intro p hp e
  exact h (List.mem_map.2 ⟨p, hp, by simpa using e⟩)
theorem mapGet_some {E : List (Int × Value)} (hn : (E.map Prod.fst).Nodup) {k : Int} {v : Value} (h : (k, v) ∈ E) : mapGet E k = some v := by
  induction E with
  | nil => simp at h
  | cons p E ih =>
    rw [List.map_cons, List.nodup_cons] at hn
    unfold mapGet
    rw [List.find?_cons]
    by_cases e : p.1 = k
    · simp [e]
      rcases List.mem_cons.1 h with h | h
      · rw [← h]
      · exact absurd (List.mem_map.2 ⟨(k, v), h, e.symm⟩) hn.1
    · have e2 : (p.1 == k) = false := beq_false_of_ne e
      rw [e2]
      rcases List.mem_cons.1 h with h | h
      · exact absurd (by rw [← h]) e
      · exact ih hn.2 h
theorem mapGet_put (E : List (Int × Value)) (k : Int) (v : Value) (j : Int) : mapGet (mapPut E k v) j = if j = k then some v else mapGet E j := by
  have hgen : ∀ E : List (Int × Value), mapGet (E.map (fun p => if p.1 = k then (k, v) else p)) j = if j = k then (mapGet E j).map (fun _ => v) else mapGet E j := by
    intro E
    induction E with
    | nil => simp [mapGet]
    | cons p E ih =>
      unfold mapGet at ih ⊢
      rw [List.map_cons, List.find?_cons, List.find?_cons]
      by_cases e : p.1 = k
      · rw [if_pos e]
        by_cases e2 : j = k
        · subst e2; simp [e]
        · have e3 : (k == j) = false := beq_false_of_ne (fun h => e2 h.symm)
          have e4 : (p.1 == j) = false := by rw [e]; exact e3
          simp only [e3, e4]
          rw [ih, if_neg e2]
      · rw [if_neg e]
        by_cases e2 : p.1 = j
        · have e3 : (p.1 == j) = true := beq_iff_eq.2 e2
          have e4 : j ≠ k := fun h => e (e2.trans h)
          simp [e3, e4]
        · have e3 : (p.1 == j) = false := beq_false_of_ne e2
          simp only [e3]
          rw [ih]
  unfold mapPut
  split
  · rename_i hk
    rw [hgen]
    by_cases e : j = k
    · subst e
      rw [if_pos rfl, if_pos rfl]
      obtain ⟨p, hp, hpk⟩ := List.mem_map.1 hk
      have : (mapGet E j).isSome = true := by
        unfold mapGet
        rw [Option.isSome_map, List.find?_isSome]
        exact ⟨p, hp, by simpa using hpk⟩
      obtain ⟨u, hu⟩ := Option.isSome_iff_exists.1 this
      rw [hu]; rfl
    · rw [if_neg e, if_neg e]
  · rename_i hk
    unfold mapGet
    rw [List.find?_append]
    by_cases e : j = k
    · subst e
      rw [if_pos rfl]
      have : E.find? (fun p => p.1 == j) = none := by
        rw [List.find?_eq_none]
        intro p hp h
        exact hk (List.mem_map.2 ⟨p, hp, by simpa using h⟩)
      rw [this]
      simp
    · rw [if_neg e]
      have e3 : (k == j) = false := beq_false_of_ne (fun h => e h.symm)
      simp [List.find?_cons, e3]
theorem mapAt_lt {w : World} {b : Nat} {E : List (Int × Value)} (h : MapAt w b E) : b < w.heap.size := by
  obtain ⟨_, _, es, clock, hb, _⟩ := h
  exact (Array.getElem?_eq_some_iff.1 hb).1
def mapT (b : Nat) (E : List (Int × Value)) : Thing where
  fp := [b]
  P := fun w => MapAt w b E
  loc := fun h hk => ⟨h.1, h.2.1, by obtain ⟨es, clock, hb, he⟩ := h.2.2; exact ⟨es, clock, (hk b (by simp)).trans hb, he⟩⟩
  lt := fun h k hk => by simp at hk; subst hk; exact mapAt_lt h
section
variable {P : Program} {w : World} {k t e : TypeId} {b : Nat} {E : List (Int × Value)}
theorem MapAt.keys (hk : P.underlying k = some (.int .i64)) (h : MapAt w b E) : ∃ es clock, w.heap[b]? = some (.map es clock) ∧ es.toList.map (fun e => (e.key, e.val)) = E.map (fun p => (Value.int .i64 p.1, p.2)) ∧ ∀ x ∈ es.toList, ∃ l, keyOf P k x.key = some l := by
  obtain ⟨hn, hok, es, clock, hb, he⟩ := h
  refine ⟨es, clock, hb, he, fun x hx => ?_⟩
  have hx2 : (x.key, x.val) ∈ E.map (fun p => (Value.int .i64 p.1, p.2)) := by rw [← he]; exact List.mem_map.2 ⟨x, hx, rfl⟩
  obtain ⟨p, hp, hpe⟩ := List.mem_map.1 hx2
  simp only [Prod.mk.injEq] at hpe
  exact ⟨_, by rw [← hpe.1]; exact keyOf_int_mk hk (hok p hp)⟩
theorem MapAt.lookup (hk : P.underlying k = some (.int .i64)) (ht : P.underlying t = some (.map k e)) {z : Value} (hz : (zeroValue e).run P w = .ok z w) (h : MapAt w b E) (n : Int) (hn : okKey n) :
    (Instr.lookup t (.map (some b)) (.int .i64 n) false).run P w = .ok ((mapGet E n).getD z) w := by
  obtain ⟨es, clock, hb, he, hkeys⟩ := h.keys hk
  have K := int_keyed hk
  have hkey := keyOf_int_mk hk hn
  rcases K.find w hkey es.toList hkeys with ⟨h1, h2⟩ | ⟨j, e0, h1, h2, h3⟩
  · have hg : mapGet E n = none := by
      refine mapGet_none fun hm => ?_
      obtain ⟨p, hp, hpe⟩ := List.mem_map.1 hm
      have : (Value.int .i64 p.1, p.2) ∈ es.toList.map (fun e => (e.key, e.val)) := by rw [he]; exact List.mem_map.2 ⟨p, hp, rfl⟩
      obtain ⟨x, hx, hxe⟩ := List.mem_map.1 this
      simp only [Prod.mk.injEq] at hxe
      exact h2 x hx (by rw [hxe.1, hpe])
    rw [hg]
    simp [Instr.lookup, run_underlying ht, MapKept.run_getObj_map hb, K.check w _ hkey, h1, hz, Result.andThen]
  · have hm0 : e0 ∈ es.toList := List.mem_of_getElem? h2
    have hg : mapGet E n = some e0.val := by
      have : (e0.key, e0.val) ∈ E.map (fun p => (Value.int .i64 p.1, p.2)) := by rw [← he]; exact List.mem_map.2 ⟨e0, hm0, rfl⟩
      obtain ⟨p, hp, hpe⟩ := List.mem_map.1 this
      simp only [Prod.mk.injEq] at hpe
      refine mapGet_some h.1 ?_
      rw [h3] at hpe
      have e1 : p.1 = n := by have := hpe.1; simpa using this
      rw [← e1, ← hpe.2]
      exact hp
    rw [hg]
    simp [Instr.lookup, run_underlying ht, MapKept.run_getObj_map hb, K.check w _ hkey, h1, Result.andThen]
theorem MapAt.update (hk : P.underlying k = some (.int .i64)) (ht : P.underlying t = some (.map k e)) (h : MapAt w b E) (n : Int) (hn : okKey n) (v : Value) :
    ∃ w', (Instr.mapUpdate t (.map (some b)) (.int .i64 n) v).run P w = .ok () w' ∧ MapAt w' b (mapPut E n v) ∧ Keeps [b] w w' := by
  obtain ⟨es, clock, hb, he, hkeys⟩ := h.keys hk
  have K := int_keyed hk
  have hkey := keyOf_int_mk hk hn
  have hnod : ((mapPut E n v).map Prod.fst).Nodup := by
    rw [mapPut_fst]
    split
    · exact h.1
    · rename_i hm
      exact List.nodup_append.2 ⟨h.1, by simp, fun a ha c hc e => hm (by simp at hc; rw [← hc, ← e]; exact ha)⟩
  have hoks : ∀ p ∈ mapPut E n v, okKey p.1 := by
    intro p hp
    unfold mapPut at hp
    split at hp
    · obtain ⟨q, hq, rfl⟩ := List.mem_map.1 hp
      split
      · exact hn
      · exact h.2.1 q hq
    · rcases List.mem_append.1 hp with hp | hp
      · exact h.2.1 p hp
      · simp at hp; subst hp; exact hn
  have hkeep : ∀ o, Keeps [b] w (setBlock w b o) := fun o => ⟨rfl, rfl, rfl, by simp [setBlock], fun i _ hi => heap_setBlock_other hb _ (fun e => hi (by simp [e]))⟩
  rcases K.find w hkey es.toList hkeys with ⟨h1, h2⟩ | ⟨j, e0, h1, h2, h3⟩
  · have hm : n ∉ E.map Prod.fst := by
      intro hm
      obtain ⟨p, hp, hpe⟩ := List.mem_map.1 hm
      have : (Value.int .i64 p.1, p.2) ∈ es.toList.map (fun e => (e.key, e.val)) := by rw [he]; exact List.mem_map.2 ⟨p, hp, rfl⟩
      obtain ⟨x, hx, hxe⟩ := List.mem_map.1 this
      simp only [Prod.mk.injEq] at hxe
      exact h2 x hx (by rw [hxe.1, hpe])
    refine ⟨setBlock w b (.map (es.push ⟨.int .i64 n, v, clock⟩) (clock + 1)), ?_, ⟨hnod, hoks, _, _, heap_setBlock_same hb _, ?_⟩, hkeep _⟩
    · simp [Instr.mapUpdate, run_underlying ht, MapKept.run_getObj_map hb, K.check w false hkey, h1, MapKept.run_setObj_map _ hb, Result.andThen, setBlock]
    · unfold mapPut
      rw [if_neg hm, Array.toList_push, List.map_append, List.map_append, he]
      rfl
  · have hj : es[j]? = some e0 := by simpa using h2
    have hlist : (es.modify j (fun e' => { e' with key := .int .i64 n, val := v })).toList = es.toList.set j { e0 with key := .int .i64 n, val := v } := by rw [Array.toList_modify, modify_eq_set _ _ _ _ h2]
    have hm : n ∈ E.map Prod.fst := by
      have : (e0.key, e0.val) ∈ E.map (fun p => (Value.int .i64 p.1, p.2)) := by rw [← he]; exact List.mem_map.2 ⟨e0, List.mem_of_getElem? h2, rfl⟩
      obtain ⟨p, hp, hpe⟩ := List.mem_map.1 this
      simp only [Prod.mk.injEq] at hpe
      rw [h3] at hpe
      exact List.mem_map.2 ⟨p, hp, by have := hpe.1; simpa using this⟩
    refine ⟨setBlock w b (.map (es.modify j (fun e' => { e' with key := .int .i64 n, val := v })) clock), ?_, ⟨hnod, hoks, _, _, heap_setBlock_same hb _, ?_⟩, hkeep _⟩
    · simp [Instr.mapUpdate, run_underlying ht, MapKept.run_getObj_map hb, K.check w false hkey, h1, hj, h3, K.stays w hkey, MapKept.run_setObj_map _ hb, Result.andThen, setBlock]
    · rw [hlist, List.map_set, he]
      unfold mapPut
      rw [if_pos hm]
      refine List.ext_getElem? fun i => ?_
      have hlen : es.toList.length = E.length := by have := congrArg List.length he; simpa using this
      have hjl : j < E.length := by have := (List.getElem?_eq_some_iff.1 h2).1; omega
      have hpj : E[j].1 = n := by
        have := congrArg (fun l => l[j]?) he
        simp only [List.getElem?_map, h2, List.getElem?_eq_getElem hjl, Option.map_some, Option.some.injEq, Prod.mk.injEq] at this
        rw [h3] at this
        have := this.1
        simpa using this.symm
      by_cases e1 : i = j
      · subst e1
        rw [List.getElem?_set_self (by simpa using hjl), List.getElem?_map, List.getElem?_map, List.getElem?_eq_getElem hjl]
        simp [hpj]
      · rw [List.getElem?_set_ne (fun h => e1 h.symm), List.getElem?_map, List.getElem?_map, List.getElem?_map]
        cases hi : E[i]? with
        | none => rfl
        | some p =>
          have hne : p.1 ≠ n := by
            intro hpn
            have hil := (List.getElem?_eq_some_iff.1 hi).1
            have hie := (List.getElem?_eq_some_iff.1 hi).2
            have hnd := h.1
            have hp := List.pairwise_iff_getElem.1 hnd
            rcases Nat.lt_or_gt_of_ne e1 with hlt | hlt
            · exact hp i j (by simpa using hil) (by simpa using hjl) hlt (by simp [hie, hpj, hpn])
            · exact hp j i (by simpa using hjl) (by simpa using hil) hlt (by simp [hie, hpj, hpn])
          simp [hne]
end
section
variable {P : Program} {ops : Array Oper} {rest : List Oper} {o : Oper} {a : Act} {Q : Exit → Act → World → Prop} {w : World}
/-- m[k] at the operation -/
theorem wp_mapGet (hg : o.guard = none) (m x : Operand) (t : TypeId) (hop : o.op = Op.lookup t m x false) (k e : TypeId) (hk : P.underlying k = some (.int .i64)) (ht : P.underlying t = some (.map k e)) {z : Value}
    (hz : (zeroValue e).run P w = .ok z w) {b : Nat} {E : List (Int × Value)} (h : MapAt w b E) (hm : a.eval m = .map (some b)) (n : Int) (hx : a.eval x = .int .i64 n) (hn : okKey n)
    (hK : wpList P ops Q rest (a.put o.dst ((mapGet E n).getD z)) w) : wpList P ops Q (o :: rest) a w := by
  refine wpList_plain hg fun K' hK' => ?_
  have hrun := h.lookup hk ht hz n hn
  unfold Oper.wp
  simp [execOp, hop, hm, hx, hrun, Result.andThen]
  exact hK' _ _ hK
/-- m[k] = v at the operation -/
theorem wp_mapPut (hg : o.guard = none) (m x v : Operand) (t : TypeId) (hop : o.op = Op.mapUpdate t m x v) (k e : TypeId) (hk : P.underlying k = some (.int .i64)) (ht : P.underlying t = some (.map k e))
    {b : Nat} {E : List (Int × Value)} (h : MapAt w b E) (hm : a.eval m = .map (some b)) (n : Int) (hx : a.eval x = .int .i64 n) (hn : okKey n) (u : Value) (hv : a.eval v = u)
    (hK : ∀ w', MapAt w' b (mapPut E n u) → Keeps [b] w w' → wpList P ops Q rest (a.put o.dst undef) w') : wpList P ops Q (o :: rest) a w := by
  refine wpList_plain hg fun K' hK' => ?_
  obtain ⟨w', hrun, r1, r2⟩ := h.update hk ht n hn u
  unfold Oper.wp
  simp [execOp, hop, hm, hx, hv, hrun, Result.andThen]
  exact hK' _ _ (hK w' r1 r2)
end
end Go.Proofs.YtgcpcgcfpjolnaaDoor
/- General words: what a call does to a list of things; groups of things. -/
namespace Go.Proofs.YtgcpcgcfpjolnaaDoor
open Go.RowKit

/-- the things M become M'; all else stays -/
structure Moves (M M' : List Thing) (w w' : World) : Prop where
  has : Has 3 w' M'
  keeps : Keeps (fps M) w w'
  new : ∀ k ∈ fps M', k ∈ fps M ∨ w.heap.size ≤ k
theorem Moves.refl {M : List Thing} {w : World} (h : Has 3 w M) : Moves M M w w := ⟨h, Keeps.refl _ _, fun _ hk => .inl hk⟩
theorem Moves.trans {M M1 M2 : List Thing} {w w1 w2 : World} (h : Moves M M1 w w1) (g : Moves M1 M2 w1 w2) : Moves M M2 w w2 :=
  ⟨g.has, h.keeps.trans g.keeps h.new, fun k hk => by
    rcases g.new k hk with h1 | h1
    · exact h.new k h1
    · exact .inr (Nat.le_trans h.keeps.size h1)⟩
theorem Has.left {B : Nat} {w : World} {M L : List Thing} (h : Has B w (M ++ L)) : Has B w M :=
  ⟨fun t ht => h.all t (List.mem_append_left _ ht), by have := h.apart; rw [fps_append] at this; exact (List.nodup_append.1 this).1, fun k hk => h.ge k (by rw [fps_append]; exact List.mem_append_left _ hk), h.le⟩
theorem Has.right {B : Nat} {w : World} {M L : List Thing} (h : Has B w (M ++ L)) : Has B w L :=
  ⟨fun t ht => h.all t (List.mem_append_right _ ht), by have := h.apart; rw [fps_append] at this; exact (List.nodup_append.1 this).2.1, fun k hk => h.ge k (by rw [fps_append]; exact List.mem_append_right _ hk), h.le⟩
theorem Has.apart2 {B : Nat} {w : World} {M L : List Thing} (h : Has B w (M ++ L)) : ∀ k ∈ fps M, k ∉ fps L := by
  have := h.apart
  rw [fps_append] at this
  exact fun k hk hl => (List.nodup_append.1 this).2.2 k hk k hl rfl
theorem Has.join {B : Nat} {w : World} {M L : List Thing} (h : Has B w M) (g : Has B w L) (hd : ∀ k ∈ fps M, k ∉ fps L) : Has B w (M ++ L) :=
  ⟨fun t ht => (List.mem_append.1 ht).elim (h.all t) (g.all t), by rw [fps_append]; exact List.nodup_append.2 ⟨h.apart, g.apart, fun a ha b hb e => hd a ha (e ▸ hb)⟩,
    fun k hk => by rw [fps_append] at hk; exact (List.mem_append.1 hk).elim (h.ge k) (g.ge k), h.le⟩
theorem Moves.frame {M M' L : List Thing} {w w' : World} (m : Moves M M' w w') (h : Has 3 w (M ++ L)) : Has 3 w' (M' ++ L) := by
  refine Has.join m.has (h.right.keeps m.keeps fun k hl hk => h.apart2 k hk hl) fun k hk hl => ?_
  rcases m.new k hk with h1 | h1
  · exact h.apart2 k h1 hl
  · have := h.right.lt k hl
    omega
theorem Moves.wide {M M' L : List Thing} {w w' : World} (m : Moves M M' w w') (h : Has 3 w (M ++ L)) : Moves (M ++ L) (M' ++ L) w w' :=
  ⟨m.frame h, m.keeps.mono fun k hk => .inl (by rw [fps_append]; exact List.mem_append_left _ hk), fun k hk => by
    rw [fps_append] at hk ⊢
    rcases List.mem_append.1 hk with h1 | h1
    · exact (m.new k h1).imp (List.mem_append_left _) id
    · exact .inl (List.mem_append_right _ h1)⟩
theorem mem_fps_perm {L M : List Thing} (p : L.Perm M) (k : Nat) : k ∈ fps L ↔ k ∈ fps M := (p.flatMap_right _).mem_iff
theorem Moves.perm {M M' N N' : List Thing} {w w' : World} (m : Moves M M' w w') (p : M.Perm N) (q : M'.Perm N') : Moves N N' w w' :=
  ⟨m.has.perm q, m.keeps.mono fun k hk => .inl ((mem_fps_perm p k).1 hk), fun k hk => (m.new k ((mem_fps_perm q k).2 hk)).imp (mem_fps_perm p k).1 id⟩
/-- what only new blocks came to -/
theorem Moves.of_below {M : List Thing} {w w' : World} (h : Has 3 w M) (hb : Keeps [] w w') : Moves M M w w' := ⟨h.keeps0 hb, hb.mono (by simp), fun k hk => .inl hk⟩
/-- new things come -/
theorem Moves.add {M M' N : List Thing} {w w' : World} (m : Moves M M' w w') (hN : Has 3 w' N) (hf : ∀ k ∈ fps N, w.heap.size ≤ k ∧ k ∉ fps M') : Moves M (N ++ M') w w' :=
  ⟨Has.join hN m.has fun k hk => (hf k hk).2, m.keeps, fun k hk => by
    rw [fps_append] at hk
    exact (List.mem_append.1 hk).elim (fun h1 => .inr (hf k h1).1) (m.new k)⟩
/-- things are let go of -/
theorem Moves.drop {M N M' : List Thing} {w w' : World} (m : Moves M (N ++ M') w w') : Moves M M' w w' :=
  ⟨m.has.right, m.keeps, fun k hk => m.new k (by rw [fps_append]; exact List.mem_append_right _ hk)⟩
theorem Moves.mono {M M' N : List Thing} {w w' : World} (m : Moves M M' w w') (hs : ∀ k ∈ fps M, k ∈ fps N) : Moves N M' w w' :=
  ⟨m.has, m.keeps.mono fun k hk => .inl (hs k hk), fun k hk => (m.new k hk).imp (hs k) id⟩

/-- the thing at a place is turned into another one -/
theorem Moves.at {L : List Thing} {w w' : World} (h : Has 3 w L) (i : Nat) {t : Thing} (t' : Thing) (ht : L[i]? = some t) (hk : Keeps t.fp w w') (hp : t'.P w') (hn : t'.fp.Nodup) (hf : ∀ k ∈ t'.fp, k ∈ t.fp ∨ w.heap.size ≤ k) : Moves L (L.set i t') w w' := by
  refine ⟨(h.upd i t' ht hk hp hn hf).1, hk.mono fun k hm => .inl (mem_fps (List.mem_of_getElem? ht) hm), fun k hk' => ?_⟩
  obtain ⟨u, hu, hku⟩ := List.mem_flatMap.1 hk'
  rcases List.mem_or_eq_of_mem_set hu with h1 | rfl
  · exact .inl (mem_fps h1 hku)
  · exact (hf k hku).imp (mem_fps (List.mem_of_getElem? ht)) id
theorem Moves.store {L : List Thing} {w : World} (h : Has 3 w L) (i : Nat) {b : Nat} {cs : Array Value} {T : TypeId} (ht : L[i]? = some (strT b cs T)) (o : Nat) (v : Value) :
    Moves L (L.set i (strT b (cs.setIfInBounds o v) T)) w (w.setCell ⟨b, o, none⟩ v) :=
  Moves.at h i _ ht ((Keeps.refl _ _).setCell (by simp [strT]) _) (StrAt.set (h.get i ht) o v) (strT_nodup ..) (fun k hk => .inl hk)
theorem Moves.row {L : List Thing} {w w' : World} (h : Has 3 w L) (i : Nat) {v v1 : Value} {e e1 : TypeId} {size size1 n n1 : Nat} {xs ys : List Value} (ht : L[i]? = some (rowT v e size n xs)) (hown : w'.ownsRow 0 e1 size1 v1 n1 ys)
    (hk : Keeps v.ownBlock.toList w w') (hf : ∀ k, v1.ownBlock = some k → v.ownBlock = some k ∨ w.heap.size ≤ k) : Moves L (L.set i (rowT v1 e1 size1 n1 ys)) w w' :=
  Moves.at h i _ ht hk hown (rowT_nodup ..) (fun k hk => (hf k (by simpa [rowT] using hk)).imp (by simp [rowT]) id)
/-- a new thing comes -/
theorem Moves.cons {L : List Thing} {w w' : World} {t' : Thing} (h : Has 3 w L) (hk : Keeps [] w w') (hp : t'.P w') (hn : t'.fp.Nodup) (hf : ∀ k ∈ t'.fp, w.heap.size ≤ k) : Moves L (t' :: L) w w' :=
  ⟨(h.cons hk hp hn hf).1, hk.mono (by simp), fun k hm => by
    rw [fps_cons] at hm
    exact (List.mem_append.1 hm).elim (fun h1 => .inr (hf k h1)) .inl⟩
theorem Moves.below {M M' : List Thing} {w w' : World} (m : Moves M M' w w') {B : Nat} (h : Has B w M) : Below B w w' := keeps_below m.keeps h.ge h.le

/-- groups of things -/
def HasG (w : World) (G : List (List Thing)) : Prop := Has 3 w G.flatten
theorem flat_perm {α : Type} {L M : List (List α)} (p : L.Perm M) : L.flatten.Perm M.flatten := by
  simpa [List.flatMap_id] using p.flatMap_right id
theorem HasG.get {w : World} {G : List (List Thing)} (h : HasG w G) (i : Nat) {M : List Thing} (hi : G[i]? = some M) : Has 3 w M := by
  obtain ⟨p, _⟩ := perm_set G i M hi M
  have := Has.perm h (flat_perm p).symm
  exact Has.left (L := (G.eraseIdx i).flatten) (by simpa using this)
/-- one group is turned into another one -/
theorem HasG.upd {w w' : World} {G : List (List Thing)} (h : HasG w G) (i : Nat) {M : List Thing} (M' : List Thing) (hi : G[i]? = some M) (m : Moves M M' w w') : HasG w' (G.set i M') := by
  obtain ⟨p, q⟩ := perm_set G i M hi M'
  have h1 : Has 3 w (M ++ (G.eraseIdx i).flatten) := by simpa using Has.perm h (flat_perm p).symm
  exact Has.perm (L := M' ++ (G.eraseIdx i).flatten) (m.frame h1) (by simpa using flat_perm q)
theorem erase_get {α : Type} {G : List α} {i j : Nat} {N : α} (hj : G[j]? = some N) (hij : i < j) : (G.eraseIdx i)[j - 1]? = some N := by
  rw [List.getElem?_eraseIdx, if_neg (by omega)]
  rw [show j - 1 + 1 = j by omega]; exact hj
theorem perm_two {α : Type} (G : List α) (i j : Nat) (M N M' N' : α) (hij : i < j) (hi : G[i]? = some M) (hj : G[j]? = some N) :
    (M :: N :: (G.eraseIdx i).eraseIdx (j - 1)).Perm G ∧ (M' :: N' :: (G.eraseIdx i).eraseIdx (j - 1)).Perm ((G.set i M').set j N') := by
  have e1 := erase_get hj hij
  obtain ⟨p, q⟩ := perm_set G i M hi M'
  obtain ⟨p2, q2⟩ := perm_set (G.eraseIdx i) (j - 1) N e1 N'
  refine ⟨(p2.cons M).trans p, ?_⟩
  have e2 : (G.set i M').set j N' = (G.set j N').set i M' := List.set_comm _ _ (by omega)
  rw [e2]
  have hi2 : (G.set j N')[i]? = some M := by rw [List.getElem?_set_ne (by omega)]; exact hi
  obtain ⟨_, q3⟩ := perm_set (G.set j N') i M hi2 M'
  refine List.Perm.trans ?_ q3
  refine List.Perm.cons M' ?_
  refine q2.trans ?_
  have : (G.set j N').eraseIdx i = (G.eraseIdx i).set (j - 1) N' := by
    rw [List.eraseIdx_set_lt (by omega)]
  rw [this]
theorem HasG.get2 {w : World} {G : List (List Thing)} (h : HasG w G) (i j : Nat) {M N : List Thing} (hij : i < j) (hi : G[i]? = some M) (hj : G[j]? = some N) : Has 3 w (M ++ N) := by
  obtain ⟨p, _⟩ := perm_two G i j M N M N hij hi hj
  have := Has.perm h (flat_perm p).symm
  exact Has.left (L := ((G.eraseIdx i).eraseIdx (j - 1)).flatten) (by simpa using this)
/-- two groups are turned into others -/
theorem HasG.upd2 {w w' : World} {G : List (List Thing)} (h : HasG w G) (i j : Nat) {M N : List Thing} (M' N' : List Thing) (hij : i < j) (hi : G[i]? = some M) (hj : G[j]? = some N) (m : Moves (M ++ N) (M' ++ N') w w') : HasG w' ((G.set i M').set j N') := by
  obtain ⟨p, q⟩ := perm_two G i j M N M' N' hij hi hj
  have h1 : Has 3 w ((M ++ N) ++ ((G.eraseIdx i).eraseIdx (j - 1)).flatten) := by simpa using Has.perm h (flat_perm p).symm
  exact Has.perm (L := (M' ++ N') ++ ((G.eraseIdx i).eraseIdx (j - 1)).flatten) (m.frame h1) (by simpa using flat_perm q)
theorem HasG.keeps0 {w w' : World} {G : List (List Thing)} (h : HasG w G) (hk : Keeps [] w w') : HasG w' G := Has.keeps0 h hk
/-- a group comes -/
theorem HasG.cons {w : World} {G : List (List Thing)} (h : HasG w G) {N : List Thing} (hN : Has 3 w N) (hd : ∀ k ∈ fps N, k ∉ fps G.flatten) : HasG w (N :: G) := by
  unfold HasG
  rw [List.flatten_cons]
  exact Has.join hN h hd
theorem strH {w : World} {b : Nat} {cs : Array Value} {T : TypeId} (h : StrAt w b cs T) (hb : 3 ≤ b) : Has 3 w [strT b cs T] :=
  ⟨by simpa [strT] using h, by simp [fps, strT], by simpa [fps, strT] using hb, by have := h.lt; omega⟩
theorem rowH {w : World} {v : Value} {e : TypeId} {size n : Nat} {xs : List Value} (h : w.ownsRow 0 e size v n xs) (hb : ∀ k, v.ownBlock = some k → 3 ≤ k) (hw : 3 ≤ w.heap.size) : Has 3 w [rowT v e size n xs] :=
  ⟨by simpa [rowT] using h, by simpa [fps] using rowT_nodup v e size n xs, by simpa [fps, rowT] using hb, hw⟩
end Go.Proofs.YtgcpcgcfpjolnaaDoor
/- General words: groups of things, as a run moves them. -/
namespace Go.Proofs.YtgcpcgcfpjolnaaDoor
open Go.RowKit

/-- a call that turns the things A into A', among all the things M -/
theorem Moves.act {M0 M A A' L M' : List Thing} {w0 w w1 : World} (m : Moves M0 M w0 w) (p : M.Perm (A ++ L)) (a : Moves A A' w w1) (q : (A' ++ L).Perm M') : Moves M0 M' w0 w1 := by
  have m1 := m.perm (List.Perm.refl _) p
  exact (m1.trans (a.wide m1.has)).perm (List.Perm.refl _) q
theorem Moves.upd {M0 : List Thing} {G : List (List Thing)} {w0 w w1 : World} (m : Moves M0 G.flatten w0 w) (i : Nat) {M M' : List Thing} (hi : G[i]? = some M) (a : Moves M M' w w1) : Moves M0 (G.set i M').flatten w0 w1 := by
  obtain ⟨p, q⟩ := perm_set G i M hi M'
  exact m.act (A := M) (A' := M') (L := (G.eraseIdx i).flatten) (by simpa using (flat_perm p).symm) a (by simpa using flat_perm q)
theorem Moves.upd2 {M0 : List Thing} {G : List (List Thing)} {w0 w w1 : World} (m : Moves M0 G.flatten w0 w) (i j : Nat) {M N M' N' : List Thing} (hij : i < j) (hi : G[i]? = some M) (hj : G[j]? = some N) (a : Moves (M ++ N) (M' ++ N') w w1) :
    Moves M0 ((G.set i M').set j N').flatten w0 w1 := by
  obtain ⟨p, q⟩ := perm_two G i j M N M' N' hij hi hj
  exact m.act (A := M ++ N) (A' := M' ++ N') (L := ((G.eraseIdx i).eraseIdx (j - 1)).flatten) (by simpa using (flat_perm p).symm) a (by simpa using flat_perm q)
theorem Moves.get {M0 : List Thing} {G : List (List Thing)} {w0 w : World} (m : Moves M0 G.flatten w0 w) (i : Nat) {M : List Thing} (hi : G[i]? = some M) : Has 3 w M := HasG.get (G := G) m.has i hi
theorem Moves.get2 {M0 : List Thing} {G : List (List Thing)} {w0 w : World} (m : Moves M0 G.flatten w0 w) (i j : Nat) {M N : List Thing} (hij : i < j) (hi : G[i]? = some M) (hj : G[j]? = some N) : Has 3 w (M ++ N) := HasG.get2 (G := G) m.has i j hij hi hj
/-- only new blocks came -/
theorem Moves.blank {M0 M : List Thing} {w0 w w1 : World} (m : Moves M0 M w0 w) (h : Keeps [] w w1) : Moves M0 M w0 w1 := m.trans (Moves.of_below m.has h)
/-- a call that turns the group at a place into it and a new one ahead of all -/
theorem Moves.updNew {M0 : List Thing} {G : List (List Thing)} {w0 w w1 : World} (m : Moves M0 G.flatten w0 w) (i : Nat) {M M' N : List Thing} (hi : G[i]? = some M) (a : Moves M (N ++ M') w w1) : Moves M0 (N :: G.set i M').flatten w0 w1 := by
  obtain ⟨p, q⟩ := perm_set G i M hi M'
  refine m.act (A := M) (A' := N ++ M') (L := (G.eraseIdx i).flatten) (by simpa using (flat_perm p).symm) a ?_
  rw [List.append_assoc, List.flatten_cons]
  exact List.Perm.append_left N (by simpa using flat_perm q)
theorem Moves.upd2New {M0 : List Thing} {G : List (List Thing)} {w0 w w1 : World} (m : Moves M0 G.flatten w0 w) (i j : Nat) {M N M' N' R : List Thing} (hij : i < j) (hi : G[i]? = some M) (hj : G[j]? = some N) (a : Moves (M ++ N) (R ++ (M' ++ N')) w w1) :
    Moves M0 (R :: ((G.set i M').set j N')).flatten w0 w1 := by
  obtain ⟨p, q⟩ := perm_two G i j M N M' N' hij hi hj
  refine m.act (A := M ++ N) (A' := R ++ (M' ++ N')) (L := ((G.eraseIdx i).eraseIdx (j - 1)).flatten) (by simpa using (flat_perm p).symm) a ?_
  rw [List.append_assoc, List.flatten_cons]
  exact List.Perm.append_left R (by simpa using flat_perm q)
/-- new things, with nothing turned -/
theorem Moves.fresh {M0 N : List Thing} {G : List (List Thing)} {w0 w w1 : World} (m : Moves M0 G.flatten w0 w) (hk : Keeps [] w w1) (hN : Has 3 w1 N) (hf : ∀ k ∈ fps N, w.heap.size ≤ k) : Moves M0 (N :: G).flatten w0 w1 := by
  rw [List.flatten_cons]
  refine m.trans ((Moves.of_below m.has hk).add hN fun k hk9 => ⟨hf k hk9, fun h => ?_⟩)
  have := m.has.lt k h
  have := hf k hk9
  omega
/-- a new row -/
theorem Moves.newVal {M0 : List Thing} {G : List (List Thing)} {w0 w w1 : World} {v : Value} {e size n : Nat} {xs : List Value} (m : Moves M0 G.flatten w0 w) (ho : w1.ownsRow 0 e size v n xs) (hf : Fresh w v) (hk : Keeps [] w w1) : Moves M0 ([rowT v e size n xs] :: G).flatten w0 w1 := by
  have h3 := m.has.le
  have h4 := hk.size
  exact m.fresh hk (rowH ho (fun k hk9 => by have := hf k hk9; omega) (by omega)) (fun k hk9 => hf k (by simpa [fps, rowT] using hk9))
theorem Moves.newRow {M0 : List Thing} {G : List (List Thing)} {w0 w w1 : World} {q e size n cap : Nat} {xs : List Value} (m : Moves M0 G.flatten w0 w) (hq : w.heap.size = q) (hr : RowAt w1 q e size n cap xs) (hk : Keeps [] w w1) :
    Moves M0 ([rowT (.slice (some ⟨q, 0, none⟩) n cap) e size n xs] :: G).flatten w0 w1 :=
  m.newVal hr (fun k hk9 => by have : k = q := by (have h9 : some q = some k := hk9); cases h9; rfl
                               omega) hk
theorem Moves.newStr {M0 : List Thing} {G : List (List Thing)} {w0 w : World} (m : Moves M0 G.flatten w0 w) (cs : Array Value) (T : TypeId) : Moves M0 ([strT w.heap.size cs T] :: G).flatten w0 (w.alloc (.cells cs T)) :=
  m.fresh ((Keeps.refl _ _).alloc _) (strH (StrAt.new w cs T) m.has.le) (fun k hk9 => by simp [fps, strT] at hk9; omega)
/-- the first group is let go of -/
theorem Moves.shed {M0 N : List Thing} {G : List (List Thing)} {w0 w : World} (m : Moves M0 (N :: G).flatten w0 w) : Moves M0 G.flatten w0 w := by
  rw [List.flatten_cons] at m; exact m.drop
theorem Moves.permG {M0 : List Thing} {G G' : List (List Thing)} {w0 w : World} (m : Moves M0 G.flatten w0 w) (p : G.Perm G') : Moves M0 G'.flatten w0 w := m.perm (List.Perm.refl _) (flat_perm p)
/-- all that is there is new -/
theorem Moves.news {M : List Thing} {w0 w : World} (m : Moves [] M w0 w) : ∀ k ∈ fps M, w0.heap.size ≤ k := fun k hk => (m.new k hk).elim (fun h => absurd h (by simp [fps])) id
theorem Moves.old {M : List Thing} {w0 w : World} (m : Moves [] M w0 w) : Keeps [] w0 w := m.keeps
/-- a struct's block is written whole, or a row's cell: the group at a place is one thing -/
theorem Moves.one {M0 : List Thing} {G : List (List Thing)} {w0 w w1 : World} (m : Moves M0 G.flatten w0 w) (i : Nat) {t t' : Thing} (hi : G[i]? = some [t]) (hk : Keeps t.fp w w1) (hp : t'.P w1) (hf : t'.fp = t.fp) : Moves M0 (G.set i [t']).flatten w0 w1 := by
  have h1 := m.get i hi
  have hn : t.fp.Nodup := by have := h1.apart; simpa [fps] using this
  exact m.upd i hi (Moves.at h1 0 t' rfl hk hp (by rw [hf]; exact hn) (fun k hk => .inl (by rw [hf] at hk; exact hk)))
/-- the group at a place is let go of -/
theorem Moves.cut {M0 N : List Thing} {G : List (List Thing)} {w0 w : World} (m : Moves M0 G.flatten w0 w) (i : Nat) (hi : G[i]? = some N) : Moves M0 (G.eraseIdx i).flatten w0 w :=
  Moves.shed (N := N) (m.permG (perm_set G i N hi N).1.symm)
theorem Moves.start {w : World} (h : 3 ≤ w.heap.size) : Moves [] ([] : List (List Thing)).flatten w w := Moves.refl (Has.nil 3 w h)
end Go.Proofs.YtgcpcgcfpjolnaaDoor
/- Plain words on bits in words of 64 and on lists of bools: what a space counts. No program in sight. -/
set_option linter.unusedVariables false
namespace Go.Proofs.YtgcpcgcfpjolnaaDoor
open Go

def bitAt (ws : List Nat) (i : Nat) : Bool := (ws.getD (i / 64) 0).testBit (i % 64)
/-- the free ones' places, rising -/
def trues (is : List Bool) : List Nat := (List.range is.length).filter fun i => is.getD i false
def clear (is : List Bool) (l : List Nat) : List Bool := l.foldl (fun s i => s.set i false) is

theorem getD_set (is : List Bool) (m : Nat) (v : Bool) (i : Nat) : (is.set m v).getD i false = if i = m ∧ m < is.length then v else is.getD i false := by
  simp only [List.getD_eq_getElem?_getD, List.getElem?_set]
  by_cases h : m = i
  · subst h
    by_cases h2 : m < is.length <;> simp [h2]
  · simp [h, Ne.symm h]

theorem trues_nodup (is : List Bool) : (trues is).Nodup := List.Pairwise.filter _ List.nodup_range
theorem mem_trues (is : List Bool) (i : Nat) : i ∈ trues is ↔ is.getD i false = true := by
  simp only [trues, List.mem_filter, List.mem_range]
  constructor
  · exact fun h => h.2
  · intro h
    refine ⟨?_, h⟩
    by_cases hi : i < is.length
    · exact hi
    · simp [List.getD_eq_getElem?_getD, List.getElem?_eq_none (Nat.le_of_not_lt hi)] at h
theorem trues_lt {is : List Bool} {i : Nat} (h : i ∈ trues is) : i < is.length := by simpa using (List.mem_filter.1 h).1
theorem trues_clear_one (is : List Bool) (m : Nat) : trues (is.set m false) = (trues is).filter (· != m) := by
  simp only [trues, List.length_set, List.filter_filter]
  refine List.filter_congr fun i hi => ?_
  rw [getD_set]
  by_cases h : i = m
  · subst h
    by_cases h2 : i < is.length
    · simp [h2]
    · simp at hi; omega
  · simp [h]
theorem trues_cons {is : List Bool} {m : Nat} {t : List Nat} (h : trues is = m :: t) : trues (is.set m false) = t := by
  rw [trues_clear_one, h]
  have hn := trues_nodup is
  rw [h] at hn
  simp only [List.filter_cons, bne_self_eq_false, Bool.false_eq_true, if_false]
  refine List.filter_eq_self.2 fun x hx => ?_
  have := (List.nodup_cons.1 hn).1
  simp
  rintro rfl
  exact this hx
theorem trues_len_clear {is : List Bool} {m : Nat} (h : is.getD m false = true) : (trues (is.set m false)).length + 1 = (trues is).length := by
  have hm := (mem_trues is m).2 h
  rw [trues_clear_one, ← (trues_nodup is).erase_eq_filter, List.length_erase_of_mem hm]
  have := List.length_pos_of_mem hm
  omega
theorem set_getD_self (is : List Bool) (m : Nat) (h : is.getD m false = false) : is.set m false = is := by
  refine List.ext_getElem (by simp) fun i h1 h2 => ?_
  rw [List.getElem_set]
  split
  · rename_i e
    subst e
    simp only [List.getD_eq_getElem?_getD, List.getElem?_eq_getElem h2, Option.getD_some] at h
    exact h.symm
  · rfl
theorem trues_len_give {is : List Bool} {m : Nat} (hm : m < is.length) (h : is.getD m false = false) : (trues (is.set m true)).length = (trues is).length + 1 := by
  have h1 : (is.set m true).getD m false = true := by rw [getD_set]; simp [hm]
  have h2 := trues_len_clear h1
  rw [List.set_set, set_getD_self is m h] at h2
  omega
theorem trues_len_le (is : List Bool) : (trues is).length ≤ is.length := by
  have := List.length_filter_le (fun i => is.getD i false) (List.range is.length)
  simpa [trues] using this
theorem trues_head {is : List Bool} {m : Nat} (h1 : is.getD m false = true) (h2 : ∀ i, i < m → is.getD i false = false) : ∃ t, trues is = m :: t := by
  have hm : m < is.length := trues_lt ((mem_trues is m).2 h1)
  refine ⟨((List.range' (m + 1) (is.length - (m + 1))).filter fun i => is.getD i false), ?_⟩
  have e : List.range is.length = List.range m ++ m :: List.range' (m + 1) (is.length - (m + 1)) := by
    rw [List.range_eq_range', List.range_eq_range', show is.length = m + (1 + (is.length - (m + 1))) by omega, ← List.range'_append_1, Nat.add_comm 1, List.range'_succ]
    simp
    omega
  rw [trues, e, List.filter_append, List.filter_cons, if_pos h1, List.filter_eq_nil_iff.2 (fun i hi => by rw [h2 i (by simpa using hi)]; exact Bool.false_ne_true)]
  rfl
theorem trues_nil {is : List Bool} (h : ∀ i, is.getD i false = false) : trues is = [] := List.filter_eq_nil_iff.2 fun i _ => by rw [h i]; exact Bool.false_ne_true
theorem clear_length (l : List Nat) : ∀ is : List Bool, (clear is l).length = is.length := by
  induction l with
  | nil => intro is; rfl
  | cons a l ih => intro is; simp only [clear, List.foldl_cons]; exact (ih _).trans (by simp)
theorem clear_append (is : List Bool) (l : List Nat) (a : Nat) : clear is (l ++ [a]) = (clear is l).set a false := by simp [clear]
theorem trues_clear_take (k : Nat) : ∀ is : List Bool, trues (clear is ((trues is).take k)) = (trues is).drop k := by
  induction k with
  | zero => intro is; simp [clear]
  | succ k ih =>
    intro is
    cases h : trues is with
    | nil => simp [clear, h]
    | cons m t =>
      have h1 := trues_cons h
      have h2 := ih (is.set m false)
      rw [h1] at h2
      simp only [List.take_succ_cons, List.drop_succ_cons, clear, List.foldl_cons]
      exact h2
/-- the k-th step of taking one by one -/
theorem clear_take_succ {is : List Bool} {k m : Nat} {t : List Nat} (h : trues (clear is ((trues is).take k)) = m :: t) : (trues is).take (k + 1) = (trues is).take k ++ [m] ∧ clear is ((trues is).take (k + 1)) = (clear is ((trues is).take k)).set m false := by
  rw [trues_clear_take] at h
  have e : (trues is).take (k + 1) = (trues is).take k ++ [m] := by
    have hk : k < (trues is).length := by
      by_cases hk : k < (trues is).length
      · exact hk
      · rw [List.drop_eq_nil_of_le (by omega)] at h; cases h
    rw [List.take_succ_eq_append_getElem hk]
    rw [List.drop_eq_getElem_cons hk] at h
    cases h
    rfl
  exact ⟨e, by rw [e, clear_append]⟩

/-- what the words say -/
structure WInv (n : Nat) (free : Int) (low : Nat) (ws : List Nat) (is : List Bool) : Prop where
  len : is.length = n
  wlen : ws.length = (n + 63) / 64
  lt : ∀ x ∈ ws, x < 2 ^ 64
  bits : ∀ i, bitAt ws i = is.getD i false
  free : free = (trues is).length
  lowLe : low ≤ ws.length
  low0 : ∀ j, j < low → ws.getD j 0 = 0

theorem getD_lt {ws : List Nat} (h : ∀ x ∈ ws, x < 2 ^ 64) (j : Nat) : ws.getD j 0 < 2 ^ 64 := by
  rw [List.getD_eq_getElem?_getD]
  cases hj : ws[j]? with
  | none => simp
  | some x => simpa using h x (List.mem_of_getElem? hj)
theorem bitAt_set (ws : List Nat) (j y i : Nat) : bitAt (ws.set j y) i = if i / 64 = j ∧ j < ws.length then y.testBit (i % 64) else bitAt ws i := by
  simp only [bitAt, List.getD_eq_getElem?_getD, List.getElem?_set]
  by_cases h : j = i / 64
  · subst h
    by_cases h2 : i / 64 < ws.length <;> simp [h2]
  · simp [h, Ne.symm h]
theorem set_lt {ws : List Nat} (h : ∀ x ∈ ws, x < 2 ^ 64) (j y : Nat) (hy : y < 2 ^ 64) : ∀ x ∈ ws.set j y, x < 2 ^ 64 := by
  intro x hx
  rcases List.mem_or_eq_of_mem_set hx with h1 | h1
  · exact h x h1
  · omega
theorem WInv.inw {n : Nat} {free : Int} {low : Nat} {ws : List Nat} {is : List Bool} (h : WInv n free low ws is) {i : Nat} (hi : i < n) : i / 64 < ws.length := by
  rw [h.wlen]; omega
theorem mask_testBit (k i : Nat) (hk : k < 64) (hi : i < 64) : (18446744073709551615 - 2 ^ k).testBit i = decide (i ≠ k) := by
  have h := Nat.testBit_two_pow_sub_succ (x := 2 ^ k) (n := 64) (Nat.pow_lt_pow_right (by omega) hk) i
  rw [show 18446744073709551615 - 2 ^ k = 2 ^ 64 - (2 ^ k + 1) by omega, h, Nat.testBit_two_pow]
  simp [hi]
  omega
theorem and_lt {a b : Nat} (h : a < 2 ^ 64) : a &&& b < 2 ^ 64 := Nat.lt_of_le_of_lt Nat.and_le_left h

theorem WInv.claim {n : Nat} {free : Int} {low : Nat} {ws : List Nat} {is : List Bool} (h : WInv n free low ws is) {i : Nat} (hi : i < n) (ht : is.getD i false = true) :
    WInv n (free - 1) low (ws.set (i / 64) (ws.getD (i / 64) 0 &&& (18446744073709551615 - 2 ^ (i % 64)))) (is.set i false) := by
  refine ⟨by simpa using h.len, by simpa using h.wlen, set_lt h.lt _ _ (and_lt (getD_lt h.lt _)), fun k => ?_, ?_, by simpa using h.lowLe, fun j hj => ?_⟩
  · rw [bitAt_set, getD_set]
    by_cases hk : k / 64 = i / 64
    · rw [if_pos ⟨hk, h.inw hi⟩, Nat.testBit_and, mask_testBit _ _ (Nat.mod_lt _ (by omega)) (Nat.mod_lt _ (by omega))]
      have hb := h.bits k
      unfold bitAt at hb
      rw [hk] at hb
      rw [hb]
      by_cases e : k = i
      · subst e; simp [h.len, hi]
      · rw [if_neg (by omega)]
        have : k % 64 ≠ i % 64 := by omega
        simp [this]
    · rw [if_neg (by omega), if_neg (by rintro ⟨rfl, _⟩; exact hk rfl)]
      exact h.bits k
  · have := trues_len_clear ht
    rw [h.free]; omega
  · have h0 := h.low0 j hj
    have hlen := h.lowLe
    by_cases e : i / 64 = j
    · subst e
      simp only [List.getD_eq_getElem?_getD, List.getElem?_set_self (show i / 64 < ws.length by omega), Option.getD_some]
      rw [← List.getD_eq_getElem?_getD, h0]; simp
    · simp only [List.getD_eq_getElem?_getD, List.getElem?_set_ne e]
      rw [← List.getD_eq_getElem?_getD]; exact h0
theorem WInv.give {n : Nat} {free : Int} {low : Nat} {ws : List Nat} {is : List Bool} (h : WInv n free low ws is) {i : Nat} (hi : i < n) (ht : is.getD i false = false) :
    WInv n (free + 1) (min low (i / 64)) (ws.set (i / 64) (ws.getD (i / 64) 0 ||| 2 ^ (i % 64))) (is.set i true) := by
  have hp : 2 ^ (i % 64) < 2 ^ 64 := Nat.pow_lt_pow_right (by omega) (Nat.mod_lt _ (by omega))
  refine ⟨by simpa using h.len, by simpa using h.wlen, set_lt h.lt _ _ (Nat.or_lt_two_pow (getD_lt h.lt _) hp), fun k => ?_, ?_, ?_, fun j hj => ?_⟩
  · rw [bitAt_set, getD_set]
    by_cases hk : k / 64 = i / 64
    · rw [if_pos ⟨hk, h.inw hi⟩, Nat.testBit_or, Nat.testBit_two_pow]
      have hb := h.bits k
      unfold bitAt at hb
      rw [hk] at hb
      rw [hb]
      by_cases e : k = i
      · subst e; simp [h.len, hi]
      · rw [if_neg (by omega)]
        have : ¬ i % 64 = k % 64 := by omega
        simp [this]
    · rw [if_neg (by omega), if_neg (by rintro ⟨rfl, _⟩; exact hk rfl)]
      exact h.bits k
  · have := trues_len_give (by rw [h.len]; exact hi) ht
    rw [h.free]; omega
  · have := h.lowLe
    simp; omega
  · have h0 := h.low0 j (by omega)
    rw [List.getD_eq_getElem?_getD, List.getElem?_set_ne (by omega), ← List.getD_eq_getElem?_getD]; exact h0

theorem low_bit {x : Nat} (h0 : x ≠ 0) (h : x < 2 ^ 64) : Lib.ctz 64 x < 64 ∧ x.testBit (Lib.ctz 64 x) = true ∧ (∀ i, i < Lib.ctz 64 x → x.testBit i = false) ∧ ∀ i, (x &&& (x - 1)).testBit i = (x.testBit i && decide (i ≠ Lib.ctz 64 x)) := by
  obtain ⟨m, hm, hk⟩ := Lib.ctzFrom_spec 64 x (by omega) h
  have e : Lib.ctz 64 x = Lib.ctzFrom 64 x := by simp [Lib.ctz, h0]
  rw [e]
  generalize Lib.ctzFrom 64 x = k at hm hk
  have hb : ∀ i, x.testBit i = (decide (k ≤ i) && (2 * m + 1).testBit (i - k)) := by
    intro i
    rw [hm, Nat.testBit_two_pow_mul]
  refine ⟨hk, ?_, ?_, ?_⟩
  · rw [hb]; simp
  · intro i hi; rw [hb]; simp; omega
  · intro i
    have hx1 : x - 1 = 2 ^ k * (2 * m) + (2 ^ k - 1) := by
      have : 0 < 2 ^ k := Nat.two_pow_pos k
      rw [hm, Nat.mul_add]; omega
    rw [Nat.testBit_and, hb, hx1, Nat.testBit_two_pow_mul_add _ (by have : 0 < 2 ^ k := Nat.two_pow_pos k; omega)]
    by_cases h1 : i < k
    · have : ¬ k ≤ i := by omega
      simp [this]
    · rw [if_neg h1]
      by_cases h2 : i = k
      · subst h2; simp
      · have h3 : ∃ d, i - k = d + 1 := ⟨i - k - 1, by omega⟩
        obtain ⟨d, hd⟩ := h3
        rw [hd]
        have h4 : (2 * m + 1).testBit (d + 1) = (2 * m).testBit (d + 1) := by
          rw [Nat.testBit_succ, Nat.testBit_succ]
          congr 1; omega
        rw [h4]
        simp [h2]
theorem WInv.low_zero {n : Nat} {free : Int} {low : Nat} {ws : List Nat} {is : List Bool} (h : WInv n free low ws is) (hl : low < ws.length) (h0 : ws.getD low 0 = 0) : WInv n free (low + 1) ws is :=
  ⟨h.len, h.wlen, h.lt, h.bits, h.free, hl, fun j hj => by
    by_cases e : j = low
    · rw [e]; exact h0
    · exact h.low0 j (by omega)⟩
theorem WInv.none {n : Nat} {free : Int} {low : Nat} {ws : List Nat} {is : List Bool} (h : WInv n free low ws is) (hl : ws.length ≤ low) : trues is = [] := by
  refine trues_nil fun i => ?_
  rw [← h.bits, bitAt]
  by_cases hi : i / 64 < low
  · rw [h.low0 _ hi]; simp
  · rw [List.getD_eq_getElem?_getD, List.getElem?_eq_none (by omega)]; simp
theorem WInv.take {n : Nat} {free : Int} {low : Nat} {ws : List Nat} {is : List Bool} (h : WInv n free low ws is) (hl : low < ws.length) (h0 : ws.getD low 0 ≠ 0) :
    ∃ m t, trues is = m :: t ∧ m = 64 * low + Lib.ctz 64 (ws.getD low 0) ∧ m < n ∧ WInv n (free - 1) low (ws.set low (ws.getD low 0 &&& (ws.getD low 0 - 1))) (is.set m false) := by
  obtain ⟨hc, h1, h2, h3⟩ := low_bit h0 (getD_lt h.lt low)
  generalize hcz : Lib.ctz 64 (ws.getD low 0) = c at *
  have hb1 : is.getD (64 * low + c) false = true := by
    rw [← h.bits, bitAt, show (64 * low + c) / 64 = low by omega, show (64 * low + c) % 64 = c by omega]; exact h1
  have hb2 : ∀ i, i < 64 * low + c → is.getD i false = false := by
    intro i hi
    rw [← h.bits, bitAt]
    by_cases e : i / 64 < low
    · rw [h.low0 _ e]; simp
    · have : i / 64 = low := by omega
      rw [this]; exact h2 _ (by omega)
  obtain ⟨t, ht⟩ := trues_head hb1 hb2
  have hmn : 64 * low + c < n := by have := trues_lt ((mem_trues is _).2 hb1); rw [h.len] at this; exact this
  refine ⟨_, t, ht, rfl, hmn, ?_⟩
  refine ⟨by simpa using h.len, by simpa using h.wlen, set_lt h.lt _ _ (and_lt (getD_lt h.lt _)), fun k => ?_, ?_, by simpa using h.lowLe, fun j hj => ?_⟩
  · rw [bitAt_set, getD_set]
    by_cases hk : k / 64 = low
    · rw [if_pos ⟨hk, hl⟩, h3]
      have hb := h.bits k
      unfold bitAt at hb
      rw [hk] at hb
      rw [hb]
      by_cases e : k = 64 * low + c
      · rw [if_pos ⟨e, by rw [h.len]; exact hmn⟩]
        have : k % 64 = c := by omega
        simp [this]
      · rw [if_neg (by omega)]
        have : k % 64 ≠ c := by omega
        simp [this]
    · rw [if_neg (by omega), if_neg (by omega)]
      exact h.bits k
  · have := trues_len_clear hb1
    rw [h.free]; omega
  · rw [List.getD_eq_getElem?_getD, List.getElem?_set_ne (by omega), ← List.getD_eq_getElem?_getD]; exact h.low0 j hj
/-- a space of n free numbers -/
def fullWords (n : Nat) : List Nat := if n % 64 = 0 then List.replicate ((n + 63) / 64) 18446744073709551615 else (List.replicate ((n + 63) / 64) 18446744073709551615).set ((n + 63) / 64 - 1) (2 ^ (n % 64) - 1)
theorem trues_full (n : Nat) : trues (List.replicate n true) = List.range n := by
  simp only [trues, List.length_replicate]
  refine List.filter_eq_self.2 fun i hi => ?_
  simp at hi
  simp [List.getD_eq_getElem?_getD, hi]
theorem WInv.full (n : Nat) : WInv n n 0 (fullWords n) (List.replicate n true) := by
  have hall : ∀ i, i < 64 → (18446744073709551615 : Nat).testBit i = true := by
    intro i hi
    rw [show (18446744073709551615 : Nat) = 2 ^ 64 - 1 by decide, Nat.testBit_two_pow_sub_one]; simp [hi]
  refine ⟨by simp, ?_, ?_, fun i => ?_, by rw [trues_full]; simp, Nat.zero_le _, fun j hj => by omega⟩
  · unfold fullWords; split <;> simp
  · unfold fullWords
    have hr : ∀ x ∈ List.replicate ((n + 63) / 64) 18446744073709551615, x < 2 ^ 64 := by
      intro x hx
      have := (List.mem_replicate.1 hx).2
      omega
    split
    · exact hr
    · refine set_lt hr _ _ ?_
      have : 2 ^ (n % 64) < 2 ^ 64 := Nat.pow_lt_pow_right (by omega) (Nat.mod_lt _ (by omega))
      omega
  · have hR : (List.replicate n true).getD i false = decide (i < n) := by
      simp only [List.getD_eq_getElem?_getD, List.getElem?_replicate]
      by_cases h : i < n <;> simp [h]
    rw [hR]
    unfold fullWords
    have hF : bitAt (List.replicate ((n + 63) / 64) 18446744073709551615) i = decide (i / 64 < (n + 63) / 64) := by
      simp only [bitAt, List.getD_eq_getElem?_getD, List.getElem?_replicate]
      by_cases h : i / 64 < (n + 63) / 64
      · simp [h, hall (i % 64) (Nat.mod_lt _ (by omega))]
      · simp [h]
    split
    · rw [hF]
      by_cases h : i < n
      · simp only [h, decide_true, decide_eq_true_eq]; omega
      · simp only [h, decide_false, decide_eq_false_iff_not]; omega
    · rw [bitAt_set]
      simp only [List.length_replicate]
      split
      · rw [Nat.testBit_two_pow_sub_one]
        by_cases h : i < n
        · simp only [h, decide_true, decide_eq_true_eq]; omega
        · simp only [h, decide_false, decide_eq_false_iff_not]; omega
      · rw [hF]
        by_cases h : i < n
        · simp only [h, decide_true, decide_eq_true_eq]; omega
        · simp only [h, decide_false, decide_eq_false_iff_not]; omega
end Go.Proofs.YtgcpcgcfpjolnaaDoor
