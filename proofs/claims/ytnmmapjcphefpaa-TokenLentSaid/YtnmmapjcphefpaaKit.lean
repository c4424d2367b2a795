/- General words: what a call leaves alone ('Keeps'), rows and struct blocks that stand apart. Lays no condition on anything. -/
import Derived.Test.YtnmmapjcphefpaaRows
import Derived.WalkKit
import Derived.Deep.QuietTactic
import Derived.BigQuiet
import Derived.Deep.LoopGhost
import Derived.Maps.AppendAt
import Derived.Deep.OwnRows
import Derived.Laws.OwnMore
import Derived.Lib.Hide
set_option linter.unusedVariables false
set_option linter.unusedSimpArgs false
namespace Go.Proofs.Ytnmmapjcphefpaa
open Go.RowKit

/-- The call changed no old block but those of S. -/
structure Keeps (S : List Nat) (w w' : World) : Prop where
  os : w'.os = w.os
  tape : w'.tape = w.tape
  output : w'.output = w.output
  size : w.heap.size ≤ w'.heap.size
  block : ∀ k, k < w.heap.size → k ∉ S → w'.heap[k]? = w.heap[k]?

theorem Keeps.refl (S : List Nat) (w : World) : Keeps S w w := ⟨rfl, rfl, rfl, Nat.le_refl _, fun _ _ _ => rfl⟩
theorem Keeps.mono {S S' : List Nat} {w w' : World} (h : Keeps S w w') (hs : ∀ k ∈ S, k ∈ S' ∨ w.heap.size ≤ k) : Keeps S' w w' :=
  ⟨h.os, h.tape, h.output, h.size, fun k hk hn => h.block k hk fun hm => by rcases hs k hm with h1 | h1; exact hn h1; omega⟩
theorem Keeps.trans {S S' : List Nat} {w w1 w2 : World} (h : Keeps S w w1) (g : Keeps S' w1 w2) (hs : ∀ k ∈ S', k ∈ S ∨ w.heap.size ≤ k) : Keeps S w w2 :=
  ⟨g.os.trans h.os, g.tape.trans h.tape, g.output.trans h.output, Nat.le_trans h.size g.size, fun k hk hn => (g.block k (Nat.lt_of_lt_of_le hk h.size) fun hm => by
    rcases hs k hm with h1 | h1
    · exact hn h1
    · omega).trans (h.block k hk hn)⟩
theorem Keeps.trans' {S : List Nat} {w w1 w2 : World} (h : Keeps S w w1) (g : Keeps S w1 w2) : Keeps S w w2 := h.trans g fun _ hk => .inl hk
theorem Keeps.drewN {S : List Nat} {w w1 : World} (h : Keeps S w w1) (n : Nat) : Keeps S w (w1.drewN n) := ⟨h.os, h.tape, h.output, h.size, h.block⟩
theorem Keeps.drew {S : List Nat} {w w1 : World} (h : Keeps S w w1) : Keeps S w w1.drew := ⟨h.os, h.tape, h.output, h.size, h.block⟩
theorem Keeps.alloc {S : List Nat} {w w1 : World} (h : Keeps S w w1) (o : Obj) : Keeps S w (w1.alloc o) :=
  h.trans (S' := []) ⟨rfl, rfl, rfl, by simp, fun k hk _ => Below.heap_alloc _ _ _ hk⟩ (by simp)
theorem Keeps.setCell {S : List Nat} {w w1 : World} (h : Keeps S w w1) {a : Addr} (ha : a.block ∈ S ∨ w.heap.size ≤ a.block) (v : Value) : Keeps S w (w1.setCell a v) :=
  h.trans (S' := [a.block]) ⟨rfl, rfl, rfl, by simp [World.setCell], fun k hk hn => Below.heap_setCell _ _ _ _ (by simpa using hn)⟩ (by simpa using ha)
theorem Keeps.of_grownBy {w w' : World} {row : Option Nat} (h : w.grownBy w' row) : Keeps row.toList w w' :=
  ⟨h.os, h.tape, h.output, h.size, fun k hk hn => h.block k hk fun e => hn (by cases e; simp)⟩
theorem Keeps.of_below {w w' : World} (h : Below w.heap.size w w') : Keeps [] w w' := ⟨h.os, h.tape, h.output, h.size, fun k hk _ => h.block k hk⟩
theorem Keeps.below {w w' : World} (h : Keeps [] w w') : Below w.heap.size w w' := ⟨h.os, h.tape, h.output, h.size, fun k hk => h.block k hk (by simp)⟩
theorem Keeps.grownBy {w w' : World} {S : List Nat} {row : Option Nat} (h : Keeps S w w') (hs : ∀ k ∈ S, some k = row ∨ w.heap.size ≤ k) : w.grownBy w' row :=
  ⟨h.os, h.tape, h.output, h.size, fun k hk hn => h.block k hk fun hm => by
    rcases hs k hm with h1 | h1
    · exact hn h1
    · omega⟩
theorem Keeps.cell {S : List Nat} {w w' : World} (h : Keeps S w w') {p : Addr} {v : Value} (hc : w.cell? p = some v) (hp : p.block ∉ S) : w'.cell? p = some v :=
  (World.cell?_of_block (w := w) (h.block p.block (World.block_lt_of_cell? w p hc) hp)).trans hc

theorem Keeps.cf {S : List Nat} {w w' : World} (h : Keeps S w w') {p : Addr} {v : Value} {b : Bool} (hc : w.cell? p = some v) (hf : w.frozen? p = b) (hp : p.block ∉ S) : w'.cell? p = some v ∧ w'.frozen? p = b :=
  ⟨h.cell hc hp, (World.frozen?_of_block (w := w) (h.block p.block (World.block_lt_of_cell? w p hc) hp)).trans hf⟩

/-- a struct's block, whole -/
def StrAt (w : World) (b : Nat) (cs : Array Value) (T : TypeId) : Prop := w.heap[b]? = some (.cells cs T (0, 0))
theorem StrAt.cell {w : World} {b : Nat} {cs : Array Value} {T : TypeId} (h : StrAt w b cs T) (o : Nat) : w.cell? ⟨b, o, none⟩ = cs[o]? := by
  have h' : w.heap[b]? = _ := h
  simp [World.cell?, h']
theorem StrAt.frozen {w : World} {b : Nat} {cs : Array Value} {T : TypeId} (h : StrAt w b cs T) (o : Nat) : w.frozen? ⟨b, o, none⟩ = false := by
  have h' : w.heap[b]? = _ := h
  simp [World.frozen?, h']
theorem StrAt.lt {w : World} {b : Nat} {cs : Array Value} {T : TypeId} (h : StrAt w b cs T) : b < w.heap.size := (Array.getElem?_eq_some_iff.1 h).1
theorem StrAt.keeps {w w' : World} {b : Nat} {cs : Array Value} {T : TypeId} {S : List Nat} (h : StrAt w b cs T) (hk : Keeps S w w') (hb : b ∉ S) : StrAt w' b cs T := (hk.block b h.lt hb).trans h
theorem StrAt.set {w : World} {b : Nat} {cs : Array Value} {T : TypeId} (h : StrAt w b cs T) (o : Nat) (v : Value) : StrAt (w.setCell ⟨b, o, none⟩ v) b (cs.setIfInBounds o v) T := by
  have h' : w.heap[b]? = _ := h
  show (w.setCell ⟨b, o, none⟩ v).heap[b]? = _
  simp only [World.setCell, Array.getElem?_modify, if_pos, h', Option.map_some]
  rfl
theorem StrAt.other {w : World} {b : Nat} {cs : Array Value} {T : TypeId} (h : StrAt w b cs T) {a : Addr} (ha : b ≠ a.block) (v : Value) : StrAt (w.setCell a v) b cs T :=
  (Below.heap_setCell w a v b ha).trans h
theorem StrAt.alloc {w : World} {b : Nat} {cs : Array Value} {T : TypeId} (h : StrAt w b cs T) (o : Obj) : StrAt (w.alloc o) b cs T := (Below.heap_alloc w o b h.lt).trans h
theorem StrAt.drewN {w : World} {b : Nat} {cs : Array Value} {T : TypeId} (h : StrAt w b cs T) (n : Nat) : StrAt (w.drewN n) b cs T := h
theorem StrAt.new (w : World) (cs : Array Value) (T : TypeId) : StrAt (w.alloc (.cells cs T)) w.heap.size cs T := by
  show (w.heap.push _)[w.heap.size]? = _
  simp

/-- a row of the program's own: it begins its block -/
def RowAt (w : World) (g : Nat) (e : TypeId) (size n cap : Nat) (xs : List Value) : Prop :=
  w.ownsRow 0 e size (.slice (some ⟨g, 0, none⟩) n cap) n xs
theorem ownsRow_local {w w' : World} {base : Nat} {e : TypeId} {size n : Nat} {v : Value} {xs : List Value} (h : w.ownsRow base e size v n xs) (hb : ∀ k, v.ownBlock = some k → w'.heap[k]? = w.heap[k]?) : w'.ownsRow base e size v n xs := by
  refine ⟨h.1, ?_⟩
  rcases h.2 with h1 | ⟨g, cap, cur, rfl, h1, h2, h3⟩
  · exact .inl h1
  · exact .inr ⟨g, cap, cur, rfl, h1, (hb g rfl).trans h2, h3⟩
theorem ownsRow_keeps {S : List Nat} {w w' : World} {base : Nat} {e : TypeId} {size n : Nat} {v : Value} {xs : List Value} (h : w.ownsRow base e size v n xs) (hk : Keeps S w w') (hn : ∀ k, v.ownBlock = some k → k ∉ S) : w'.ownsRow base e size v n xs :=
  ownsRow_local h fun k e => hk.block k (h.lt k e).2 (hn k e)
theorem RowAt.lt {w : World} {g : Nat} {e : TypeId} {size n cap : Nat} {xs : List Value} (h : RowAt w g e size n cap xs) : g < w.heap.size := (World.ownsRow.lt h g rfl).2
theorem RowAt.keeps {S : List Nat} {w w' : World} {g : Nat} {e : TypeId} {size n cap : Nat} {xs : List Value} (h : RowAt w g e size n cap xs) (hk : Keeps S w w') (hn : g ∉ S) : RowAt w' g e size n cap xs :=
  ownsRow_keeps h hk fun k e => by cases e; exact hn
theorem RowAt.len {w : World} {g : Nat} {e : TypeId} {size n cap : Nat} {xs : List Value} (h : RowAt w g e size n cap xs) : xs.length = n * size := h.1
theorem RowAt.cell {w : World} {g : Nat} {e : TypeId} {size n cap : Nat} {xs : List Value} (h : RowAt w g e size n cap xs) (j : Nat) (hj : j < n * size) : w.cell? ⟨g, j, none⟩ = xs[j]? := World.ownsRow.cellAt h j hj
theorem RowAt.frozen {w : World} {g : Nat} {e : TypeId} {size n cap : Nat} {xs : List Value} (h : RowAt w g e size n cap xs) (j : Nat) : w.frozen? ⟨g, j, none⟩ = false := World.ownsRow.frozenAt h j
theorem RowAt.capLe {w : World} {g : Nat} {e : TypeId} {size n cap : Nat} {xs : List Value} (h : RowAt w g e size n cap xs) : n ≤ cap ∧ cap ≤ maxLen := by
  rcases h.2 with ⟨h1, _⟩ | ⟨g', cap', cur, h1, h2, h3, h4, h5, _⟩
  · cases h1
  · cases h1; exact ⟨h4, h5⟩
theorem RowAt.set {w : World} {g : Nat} {e : TypeId} {size n cap : Nat} {xs : List Value} (h : RowAt w g e size n cap xs) (j : Nat) (u : Value) : RowAt (w.setCell ⟨g, j, none⟩ u) g e size n cap (xs.set j u) := by
  refine ⟨by simpa using h.1, .inr ?_⟩
  rcases h.2 with ⟨h1, _⟩ | ⟨g', cap', cur, h1, h2, h3, h4, h5, h6, h7⟩
  · cases h1
  · cases h1
    refine ⟨g, cap, cur.setIfInBounds j u, rfl, h2, ?_, h4, h5, by simpa using h6, ?_⟩
    · simp only [World.setCell, Array.getElem?_modify, if_pos, h3, Option.map_some]
      rfl
    · simp [← h7, List.take_set]
theorem RowAt.other {w : World} {g : Nat} {e : TypeId} {size n cap : Nat} {xs : List Value} (h : RowAt w g e size n cap xs) {a : Addr} (ha : g ≠ a.block) (u : Value) : RowAt (w.setCell a u) g e size n cap xs :=
  ownsRow_local h fun k hk => by cases hk; exact Below.heap_setCell w a u g ha
theorem RowAt.alloc {w : World} {g : Nat} {e : TypeId} {size n cap : Nat} {xs : List Value} (h : RowAt w g e size n cap xs) (o : Obj) : RowAt (w.alloc o) g e size n cap xs := World.ownsRow.alloc h o
theorem RowAt.drewN {w : World} {g : Nat} {e : TypeId} {size n cap : Nat} {xs : List Value} (h : RowAt w g e size n cap xs) (k : Nat) : RowAt (w.drewN k) g e size n cap xs := h
/-- a slice that may be nil: what stands in it, and its block -/
theorem own_form {w : World} {base : Nat} {e : TypeId} {size n : Nat} {v : Value} {xs : List Value} (h : w.ownsRow base e size v n xs) : (v = .slice none 0 0 ∧ n = 0 ∧ xs = []) ∨ ∃ g cap, v = .slice (some ⟨g, 0, none⟩) n cap ∧ RowAt w g e size n cap xs := by
  rcases h.2 with ⟨rfl, rfl⟩ | ⟨g, cap, cur, rfl, _, h2, h3⟩
  · exact .inl ⟨rfl, rfl, List.eq_nil_of_length_eq_zero (by simpa using h.1)⟩
  · exact .inr ⟨g, cap, rfl, h.1, .inr ⟨g, cap, cur, rfl, Nat.zero_le _, h2, h3⟩⟩
end Go.Proofs.Ytnmmapjcphefpaa
