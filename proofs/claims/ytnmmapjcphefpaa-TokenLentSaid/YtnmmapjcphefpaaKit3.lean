/- General words: things that stand apart in memory, above a block number B. -/
import Derived.Test.YtnmmapjcphefpaaKit2
namespace Go.Proofs.Ytnmmapjcphefpaa
open Go.RowKit

structure Thing where
  fp : List Nat
  P : World → Prop
  loc : ∀ {w w' : World}, P w → (∀ k ∈ fp, w'.heap[k]? = w.heap[k]?) → P w'
  lt : ∀ {w : World}, P w → ∀ k ∈ fp, k < w.heap.size

def fps (L : List Thing) : List Nat := L.flatMap (·.fp)
structure Has (B : Nat) (w : World) (L : List Thing) : Prop where
  all : ∀ t ∈ L, t.P w
  apart : (fps L).Nodup
  ge : ∀ k ∈ fps L, B ≤ k
  le : B ≤ w.heap.size

theorem mem_fps {L : List Thing} {t : Thing} (ht : t ∈ L) {k : Nat} (hk : k ∈ t.fp) : k ∈ fps L := List.mem_flatMap.2 ⟨t, ht, hk⟩
theorem fps_cons (t : Thing) (L : List Thing) : fps (t :: L) = t.fp ++ fps L := rfl
theorem fps_append (L M : List Thing) : fps (L ++ M) = fps L ++ fps M := List.flatMap_append
theorem Has.lt {B : Nat} {w : World} {L : List Thing} (h : Has B w L) : ∀ k ∈ fps L, k < w.heap.size := by
  intro k hk
  obtain ⟨t, ht, hk⟩ := List.mem_flatMap.1 hk
  exact t.lt (h.all t ht) k hk
theorem Has.perm {B : Nat} {w : World} {L M : List Thing} (h : Has B w L) (p : L.Perm M) : Has B w M :=
  ⟨fun t ht => h.all t (p.mem_iff.2 ht), (p.flatMap_right _).nodup_iff.1 h.apart, fun k hk => h.ge k ((p.flatMap_right _).mem_iff.2 hk), h.le⟩
theorem Has.tail {B : Nat} {w : World} {t : Thing} {L : List Thing} (h : Has B w (t :: L)) : Has B w L :=
  ⟨fun u hu => h.all u (List.mem_cons_of_mem _ hu), (List.nodup_append.1 h.apart).2.1, fun k hk => h.ge k (List.mem_append_right _ hk), h.le⟩
theorem Has.keeps {B : Nat} {w w' : World} {S : List Nat} {L : List Thing} (h : Has B w L) (hk : Keeps S w w') (hs : ∀ k ∈ fps L, k ∉ S) : Has B w' L :=
  ⟨fun t ht => t.loc (h.all t ht) fun k hm => hk.block k (t.lt (h.all t ht) k hm) (hs k (mem_fps ht hm)), h.apart, h.ge, Nat.le_trans h.le hk.size⟩
theorem Has.keeps0 {B : Nat} {w w' : World} {L : List Thing} (h : Has B w L) (hk : Keeps [] w w') : Has B w' L := h.keeps hk (by simp)
theorem Has.nil (B : Nat) (w : World) (h : B ≤ w.heap.size) : Has B w [] := ⟨by simp, by simp [fps], by simp [fps], h⟩
theorem keeps_below {B : Nat} {w w' : World} {S : List Nat} (hk : Keeps S w w') (hs : ∀ k ∈ S, B ≤ k) (hB : B ≤ w.heap.size) : Below B w w' :=
  ⟨hk.os, hk.tape, hk.output, hk.size, fun k hlt => hk.block k (Nat.lt_of_lt_of_le hlt hB) fun hm => by have := hs k hm; omega⟩
/-- the head thing is turned into another one -/
theorem Has.head {B : Nat} {w w' : World} {t t' : Thing} {L : List Thing} (h : Has B w (t :: L)) (hk : Keeps t.fp w w') (hp : t'.P w') (hn : t'.fp.Nodup) (hf : ∀ k ∈ t'.fp, k ∈ t.fp ∨ w.heap.size ≤ k) :
    Has B w' (t' :: L) ∧ Below B w w' := by
  have hd := (List.nodup_append.1 h.apart).2.2
  have h' : Has B w' L := h.tail.keeps hk fun k hm hs => hd k hs k hm rfl
  refine ⟨⟨fun u hu => ?_, ?_, fun k hm => ?_, h'.le⟩, keeps_below hk (fun k hm => h.ge k (List.mem_append_left _ hm)) h.le⟩
  · rcases List.mem_cons.1 hu with rfl | hu
    · exact hp
    · exact h'.all u hu
  · rw [fps_cons]
    refine List.nodup_append.2 ⟨hn, h'.apart, fun a ha b hb e => ?_⟩
    subst e
    rcases hf a ha with h1 | h1
    · exact hd a h1 a hb rfl
    · have := h.tail.lt a hb
      omega
  · rw [fps_cons] at hm
    rcases List.mem_append.1 hm with h1 | h1
    · rcases hf k h1 with h2 | h2
      · exact h.ge k (List.mem_append_left _ h2)
      · have := h.le
        omega
    · exact h'.ge k h1
/-- a new thing -/
theorem Has.cons {B : Nat} {w w' : World} {t' : Thing} {L : List Thing} (h : Has B w L) (hk : Keeps [] w w') (hp : t'.P w') (hn : t'.fp.Nodup) (hf : ∀ k ∈ t'.fp, w.heap.size ≤ k) :
    Has B w' (t' :: L) ∧ Below B w w' := by
  have h' : Has B w' L := h.keeps0 hk
  refine ⟨⟨fun u hu => ?_, ?_, fun k hm => ?_, h'.le⟩, keeps_below hk (by simp) h.le⟩
  · rcases List.mem_cons.1 hu with rfl | hu
    · exact hp
    · exact h'.all u hu
  · rw [fps_cons]
    refine List.nodup_append.2 ⟨hn, h'.apart, fun a ha b hb e => ?_⟩
    subst e
    have h1 := hf a ha
    have := h.lt a hb
    omega
  · rw [fps_cons] at hm
    rcases List.mem_append.1 hm with h1 | h1
    · have := hf k h1
      have := h.le
      omega
    · exact h'.ge k h1
theorem perm_set {α : Type} (L : List α) (i : Nat) (t : α) (h : L[i]? = some t) (t' : α) : ((t :: L.eraseIdx i).Perm L) ∧ ((t' :: L.eraseIdx i).Perm (L.set i t')) := by
  have hi : i < L.length := (List.getElem?_eq_some_iff.1 h).1
  have ht : L[i] = t := (List.getElem?_eq_some_iff.1 h).2
  have e1 : L = L.take i ++ t :: L.drop (i + 1) := by
    rw [← ht]
    simp
  have e2 : L.eraseIdx i = L.take i ++ L.drop (i + 1) := List.eraseIdx_eq_take_drop_succ L i
  have e3 : L.set i t' = L.take i ++ t' :: L.drop (i + 1) := List.set_eq_take_append_cons_drop.trans (if_pos hi)
  rw [e2, e3]
  refine ⟨?_, List.perm_middle.symm⟩
  conv => rhs; rw [e1]
  exact List.perm_middle.symm
/-- the thing at a place is turned into another one -/
theorem Has.upd {B : Nat} {w w' : World} {L : List Thing} (h : Has B w L) (i : Nat) {t : Thing} (t' : Thing) (ht : L[i]? = some t) (hk : Keeps t.fp w w') (hp : t'.P w') (hn : t'.fp.Nodup) (hf : ∀ k ∈ t'.fp, k ∈ t.fp ∨ w.heap.size ≤ k) :
    Has B w' (L.set i t') ∧ Below B w w' := by
  obtain ⟨p1, p2⟩ := perm_set L i t ht t'
  obtain ⟨h1, h2⟩ := (h.perm p1.symm).head hk hp hn hf
  exact ⟨h1.perm p2, h2⟩
/-- the thing at a place is turned into another one, and a new one comes -/
theorem Has.updNew {B : Nat} {w w' : World} {L : List Thing} (h : Has B w L) (i : Nat) {t : Thing} (t' u : Thing) (ht : L[i]? = some t) (hk : Keeps t.fp w w') (hp : t'.P w') (hn : t'.fp.Nodup) (hf : ∀ k ∈ t'.fp, k ∈ t.fp ∨ w.heap.size ≤ k)
    (hu : u.P w') (hun : u.fp.Nodup) (huf : ∀ k ∈ u.fp, w.heap.size ≤ k) (hd : ∀ k ∈ u.fp, k ∉ t'.fp) : Has B w' (u :: L.set i t') ∧ Below B w w' := by
  obtain ⟨p1, p2⟩ := perm_set L i t ht t'
  have h0 := h.perm p1.symm
  obtain ⟨h1, h2⟩ := h0.head hk hp hn hf
  refine ⟨Has.perm (L := u :: t' :: L.eraseIdx i) ⟨fun x hx => ?_, ?_, fun k hm => ?_, h1.le⟩ (p2.cons u), h2⟩
  · rcases List.mem_cons.1 hx with rfl | hx
    · exact hu
    · exact h1.all x hx
  · rw [fps_cons]
    refine List.nodup_append.2 ⟨hun, h1.apart, fun a ha b hb e => ?_⟩
    subst e
    rw [fps_cons] at hb
    rcases List.mem_append.1 hb with h3 | h3
    · exact hd a ha h3
    · have := h0.tail.lt a h3
      have := huf a ha
      omega
  · rw [fps_cons] at hm
    rcases List.mem_append.1 hm with h3 | h3
    · have := huf k h3
      have := h.le
      omega
    · exact h1.ge k h3
theorem Has.get {B : Nat} {w : World} {L : List Thing} (h : Has B w L) (i : Nat) {t : Thing} (ht : L[i]? = some t) : t.P w := h.all t (List.mem_of_getElem? ht)
theorem Has.fresh {B : Nat} {w : World} {L : List Thing} (h : Has B w L) {t : Thing} (ht : t ∈ L) : ∀ k ∈ t.fp, B ≤ k := fun k hk => h.ge k (mem_fps ht hk)
/-- two places are apart -/
theorem Has.ne {B : Nat} {w : World} {L : List Thing} (h : Has B w L) (i j : Nat) {t u : Thing} (ht : L[i]? = some t) (hu : L[j]? = some u) (hij : i ≠ j) : ∀ k ∈ t.fp, k ∉ u.fp := by
  intro k hk hk'
  obtain ⟨p1, _⟩ := perm_set L i t ht t
  have h1 := (h.perm p1.symm).apart
  rw [fps_cons] at h1
  refine (List.nodup_append.1 h1).2.2 k hk k ?_ rfl
  have hm : u ∈ L.eraseIdx i := by
    rw [List.mem_eraseIdx_iff_getElem?]
    exact ⟨j, fun e => hij e.symm, hu⟩
  exact mem_fps hm hk'

def strT (b : Nat) (cs : Array Value) (T : TypeId) : Thing where
  fp := [b]
  P := fun w => StrAt w b cs T
  loc := fun h hk => (hk b (by simp)).trans h
  lt := fun h k hk => by simp at hk; subst hk; exact StrAt.lt h
def rowT (v : Value) (e : TypeId) (size n : Nat) (xs : List Value) : Thing where
  fp := v.ownBlock.toList
  P := fun w => w.ownsRow 0 e size v n xs
  loc := fun h hk => ownsRow_local h fun k e => hk k (by rw [e]; simp)
  lt := fun h k hk => (World.ownsRow.lt h k (by simpa using hk)).2
theorem rowT_nodup (v : Value) (e : TypeId) (size n : Nat) (xs : List Value) : (rowT v e size n xs).fp.Nodup := by
  show v.ownBlock.toList.Nodup
  cases v.ownBlock <;> simp
theorem strT_nodup (b : Nat) (cs : Array Value) (T : TypeId) : (strT b cs T).fp.Nodup := by simp [strT]
/-- a struct's cell is written -/
theorem Has.store {B : Nat} {w : World} {L : List Thing} (h : Has B w L) (i : Nat) {b : Nat} {cs : Array Value} {T : TypeId} (ht : L[i]? = some (strT b cs T)) (o : Nat) (v : Value) :
    Has B (w.setCell ⟨b, o, none⟩ v) (L.set i (strT b (cs.setIfInBounds o v) T)) ∧ Below B w (w.setCell ⟨b, o, none⟩ v) :=
  h.upd i (strT b (cs.setIfInBounds o v) T) ht ((Keeps.refl _ _).setCell (by simp [strT]) _) (StrAt.set (h.get i ht) o v) (strT_nodup ..) (fun k hk => .inl hk)
/-- a row's cell is written -/
theorem Has.storeRow {B : Nat} {w : World} {L : List Thing} (h : Has B w L) (i : Nat) {g : Nat} {e : TypeId} {size n cap : Nat} {xs : List Value} (ht : L[i]? = some (rowT (.slice (some ⟨g, 0, none⟩) n cap) e size n xs)) (j : Nat) (v : Value) :
    Has B (w.setCell ⟨g, j, none⟩ v) (L.set i (rowT (.slice (some ⟨g, 0, none⟩) n cap) e size n (xs.set j v))) ∧ Below B w (w.setCell ⟨g, j, none⟩ v) :=
  h.upd i _ ht ((Keeps.refl _ _).setCell (by simp [rowT, Value.ownBlock]) _) (RowAt.set (h.get i ht) j v) (rowT_nodup ..) (fun k hk => .inl hk)
/-- a row has been lengthened -/
theorem Has.row {B : Nat} {w w' : World} {L : List Thing} (h : Has B w L) (i : Nat) {v v1 : Value} {e e1 : TypeId} {size size1 n n1 : Nat} {xs ys : List Value} (ht : L[i]? = some (rowT v e size n xs)) (hown : w'.ownsRow 0 e1 size1 v1 n1 ys)
    (hk : Keeps v.ownBlock.toList w w') (hf : ∀ k, v1.ownBlock = some k → v.ownBlock = some k ∨ w.heap.size ≤ k) : Has B w' (L.set i (rowT v1 e1 size1 n1 ys)) ∧ Below B w w' :=
  h.upd i _ ht hk hown (rowT_nodup ..) (fun k hk => (hf k (by simpa [rowT] using hk)).imp (by simp [rowT]) id)
end Go.Proofs.Ytnmmapjcphefpaa
