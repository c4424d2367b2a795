/- Settle's things: a list and what it has been lengthened to. -/
import Derived.Test.YtnjjijkcenhebaaDoorLaw8
set_option linter.unusedVariables false
set_option linter.unusedSimpArgs false
namespace Go.Proofs.YtnjjijkcenhebaaDoor
open Go.RowKit
set_option maxRecDepth 10000

theorem Has.drops {B : Nat} {w : World} {L : List Thing} : ∀ D : List Thing, Has B w (D ++ L) → Has B w L
  | [], h => h
  | _ :: D, h => Has.drops D h.tail

/-- a list v of n numbers x, and what it has been lengthened to: g, of m numbers x -/
structure PI where
  v : Value
  g : Value
  n : Nat
  m : Nat
  x : Int
def same (n : Nat) (x : Int) : List Value := List.replicate n (.int .i64 x)
def pT (p : PI) : Thing where
  fp := p.v.ownBlock.toList ++ (if p.g.ownBlock = p.v.ownBlock then [] else p.g.ownBlock.toList)
  P := fun w => w.ownsRow 0 3 1 p.v p.n (same p.n p.x) ∧ w.ownsRow 0 3 1 p.g p.m (same p.m p.x) ∧ (p.g.ownBlock = p.v.ownBlock → ∃ ao cap, p.v = .slice ao p.n cap ∧ p.g = .slice ao p.m cap ∧ p.n ≤ p.m)
  loc := fun h hk => by
    refine ⟨ownsRow_local h.1 fun k e => hk k (by simp [e]), ownsRow_local h.2.1 fun k e => hk k ?_, h.2.2⟩
    by_cases hs : p.g.ownBlock = p.v.ownBlock
    · rw [e] at hs; simp [← hs]
    · have hs' := hs
      rw [e] at hs'
      simp [hs, e]
      exact .inr hs'
  lt := fun h k hk => by
    rcases List.mem_append.1 hk with h1 | h1
    · exact (World.ownsRow.lt h.1 k (by simpa using h1)).2
    · split at h1
      · simp at h1
      · exact (World.ownsRow.lt h.2.1 k (by simpa using h1)).2
theorem pT_start {B : Nat} {w : World} {L : List Thing} {v : Value} {n : Nat} {x : Int} (h : Has B w (rowT v 3 1 n (same n x) :: L)) : Has B w (pT ⟨v, v, n, n, x⟩ :: L) := by
  have hr := h.get 0 rfl
  refine (h.head (t' := pT ⟨v, v, n, n, x⟩) (Keeps.refl _ _) ⟨hr, hr, fun _ => ?_⟩ ?_ ?_).1
  · obtain ⟨ao, cap, rfl⟩ := own_len hr
    exact ⟨ao, cap, rfl, rfl, Nat.le_refl _⟩
  · simp only [pT, if_pos, List.append_nil]; cases v.ownBlock <;> simp
  · intro k hk; left; simpa [pT, rowT] using hk

section
variable {P : Program} {ops : Array Oper} {rest : List Oper} {o : Oper} {a : Act} {Q : Exit → Act → World → Prop}

/-- append of one element: in place, or elsewhere with all else left as it was -/
theorem wp_push_where {W : World} (hgd : o.guard = none) (s x : Operand) (t e : TypeId) (z : Value) (size bytes : Nat)
    (ho : o.op = .call { callee := .builtin .append, args := #[s, x], argTypes := #[t, t] })
    (ht : P.underlying t = some (.slice e)) (hinfo : (P.info? e).map (fun i => (i.zero, i.size, i.bytes)) = some (some z, size, bytes)) (hz : z.cells.size = size) (hs0 : 0 < size) (hb0 : 0 < bytes)
    (v : Value) (n : Nat) (xs : List Value) (cs : Array Value) (hs : a.eval s = v) {H : Nat} (hx : a.eval x = .slice (some ⟨H, 0, none⟩) 1 1) (hH : W.heap.size = H) (hcs : cs.size = size) (h1 : ∀ u ∈ cs.toList, u.oneCell' = true)
    (HO : W.ownsRow 0 e size v n xs) (hl : (n + 1) * bytes ≤ 140737488355328)
    (hfit : ∀ g cap w1, v = .slice (some ⟨g, 0, none⟩) n cap → RowAt w1 g e size (n + 1) cap (xs ++ cs.toList) → Keeps [g] W w1 → wpList P ops Q rest (a.put o.dst (.slice (some ⟨g, 0, none⟩) (n + 1) cap)) w1)
    (hgrow : ∀ v1 w1, w1.ownsRow 0 e size v1 (n + 1) (xs ++ cs.toList) → Keeps [] W w1 → (∀ k, v1.ownBlock = some k → W.heap.size ≤ k) → wpList P ops Q rest (a.put o.dst v1) w1) :
    wpList P ops Q (o :: rest) a (W.alloc (.cells cs e)) := by
  have hc : ∀ j u, cs.toList[j]? = some u → (W.alloc (.cells cs e)).cell? ((⟨H, 0, none⟩ : Addr).add j) = some u := by
    intro j u hj
    have e2 : (⟨H, 0, none⟩ : Addr).add j = ⟨H, j, none⟩ := by unfold Addr.add; split <;> simp_all
    rw [e2, ← hH, (StrAt.new W cs e).cell j]
    simpa using hj
  have hlen : n + 1 ≤ 140737488355328 := Nat.le_trans (Nat.le_mul_of_pos_right _ hb0) hl
  have grows : ∀ (ao : Option Addr) (cap : Nat), v = .slice ao n cap → (ao = none → n = 0 ∧ cap = 0) → cap < n + 1 → (∀ b, ao = some b → ∀ j u, xs[j]? = some u → (W.alloc (.cells cs e)).cell? (b.add j) = some u) → wpList P ops Q (o :: rest) a (W.alloc (.cells cs e)) := by
    intro ao cap hv hnone hcap hcells
    obtain ⟨i0, hi, hzz⟩ := Option.map_eq_some_iff.1 hinfo
    simp only [Prod.mk.injEq] at hzz
    obtain ⟨hz0, hz1, hz2⟩ := hzz
    refine wpList_append_grows (W.alloc (.cells cs e)) hgd s x t ho e i0 z size bytes ht hi hz0 hz1 hz2 hz hs0 ao n cap xs (hs.trans hv) hnone HO.1 hcells ⟨H, 0, none⟩ 1 1 cs.toList hx (by simp [hcs]) hc h1 hcap (by simp only [maxLen]; omega) hl ?_
    intro v' w' hown hg
    have hk : Keeps [] W w' := ((Keeps.refl [] W).alloc _).trans (Keeps.of_grownBy hg) (by simp)
    refine hgrow v' w' ⟨hown.1, ?_⟩ hk ?_
    · rcases hown.2 with h1 | ⟨g, cap, cur, h1, h2, h3⟩
      · exact .inl h1
      · exact .inr ⟨g, cap, cur, h1, Nat.zero_le _, h3⟩
    · intro k e
      have := (World.ownsRow.lt hown k e).1
      simp at this
      omega
  rcases own_form HO with ⟨rfl, rfl, rfl⟩ | ⟨g, cap, rfl, hr⟩
  · exact grows none 0 rfl (fun _ => ⟨rfl, rfl⟩) (by omega) (fun b hb => by cases hb)
  · by_cases hc1 : n + 1 ≤ cap
    · refine wp_push_fits hgd s x t e z size bytes ho ht hinfo g n cap xs cs hs hx hH hcs h1 hr hc1 fun w1 hr1 hk => hfit g cap w1 rfl hr1 hk
    · refine grows (some ⟨g, 0, none⟩) cap rfl (fun h => by cases h) (by omega) (fun b hb j u hj => ?_)
      cases hb
      exact World.ownsRow.cells (hr.alloc _) (g := g) rfl j u hj

/-- the same, of a list of the book -/
theorem wp_push_pair {B : Nat} {W : World} {p : PI} {L : List Thing} (HO : Has B W (pT p :: L)) (hgd : o.guard = none) (s x : Operand) (t : TypeId)
    (ho : o.op = .call { callee := .builtin .append, args := #[s, x], argTypes := #[t, t] })
    (ht : P.underlying t = some (.slice 3)) (hinfo : (P.info? 3).map (fun i => (i.zero, i.size, i.bytes)) = some (some (.int .i64 0), 1, 8))
    (hs : a.eval s = p.g) {H : Nat} (hx : a.eval x = .slice (some ⟨H, 0, none⟩) 1 1) (hH : W.heap.size = H) (hl : p.m ≤ 10000000)
    (h : ∀ g1 w1, Has B w1 (pT ⟨p.v, g1, p.n, p.m + 1, p.x⟩ :: L) → Below B W w1 → wpList P ops Q rest (a.put o.dst g1) w1) :
    wpList P ops Q (o :: rest) a (W.alloc (.cells #[.int .i64 p.x] 3)) := by
  obtain ⟨h1, h2, h3⟩ : (pT p).P W := HO.get 0 rfl
  obtain ⟨v, g, n, m, y⟩ := p
  simp only at *
  have hsame : same m y ++ [.int .i64 y] = same (m + 1) y := by
    unfold same; rw [List.replicate_succ']
  refine wp_push_where hgd s x t 3 (.int .i64 0) 1 8 ho ht hinfo rfl (by omega) (by omega) g m (same m y) #[.int .i64 y] hs hx hH rfl (by intro u hu; simp at hu; subst hu; rfl) h2 (by omega) ?_ ?_
  · rintro b cap w1 rfl hr hk
    simp only [hsame] at hr
    refine (fun hh => h _ _ hh.1 hh.2) (HO.head (w' := w1) (t' := pT ⟨v, .slice (some ⟨b, 0, none⟩) (m + 1) cap, n, m + 1, y⟩) (hk.mono fun k hk => .inl ?_) ⟨?_, hr, ?_⟩ ?_ ?_)
    · simp at hk; subst hk
      by_cases he : Value.ownBlock (.slice (some ⟨k, 0, none⟩) m cap) = v.ownBlock
      · show k ∈ v.ownBlock.toList ++ _
        exact List.mem_append_left _ (by rw [← he]; simp [Value.ownBlock])
      · show k ∈ v.ownBlock.toList ++ (if _ then _ else _)
        rw [if_neg he]
        exact List.mem_append_right _ (by simp [Value.ownBlock])
    · by_cases hv : Value.ownBlock (.slice (some ⟨b, 0, none⟩) m cap) = v.ownBlock
      · obtain ⟨ao, cap', rfl, e, hle⟩ := h3 hv
        cases e
        have := hr.take n (by omega)
        simp [same, List.take_replicate, Nat.min_eq_left (show n ≤ m + 1 by omega)] at this
        exact this
      · exact ownsRow_keeps h1 hk fun k e hm => hv (by simp at hm; subst hm; rw [e]; rfl)
    · intro hv
      obtain ⟨ao, cap', rfl, e, hle⟩ := h3 hv
      cases e
      exact ⟨_, _, rfl, rfl, by show n ≤ m + 1; omega⟩
    · have := List.nodup_append.1 HO.apart
      exact this.1
    · intro k hk
      exact .inl hk
  · intro g1 w1 hr hk hf
    simp only [hsame] at hr
    obtain ⟨b, cap, rfl, hr1⟩ := own_some hr (by omega)
    have hb := hf b rfl
    have hv1 : ∀ k, v.ownBlock = some k → k < W.heap.size := fun k e => (World.ownsRow.lt h1 k e).2
    have hne : ¬ Value.ownBlock (.slice (some ⟨b, 0, none⟩) (m + 1) cap) = v.ownBlock := fun e => by have := hv1 b e.symm; omega
    refine (fun hh => h _ _ hh.1 hh.2) (HO.head (w' := w1) (t' := pT ⟨v, .slice (some ⟨b, 0, none⟩) (m + 1) cap, n, m + 1, y⟩) (hk.mono (by simp)) ⟨ownsRow_keeps h1 hk (by simp), hr, fun e => absurd e hne⟩ ?_ ?_)
    · simp only [pT, if_neg hne]
      refine List.nodup_append.2 ⟨by cases v.ownBlock <;> simp, by simp [Value.ownBlock], fun k hk k' hk' e => ?_⟩
      subst e
      simp [Value.ownBlock] at hk'
      subst hk'
      have := hv1 k (by simpa using hk)
      omega
    · intro k hk
      simp only [pT, if_neg hne] at hk
      rcases List.mem_append.1 hk with h4 | h4
      · left; simp only [pT]; exact List.mem_append_left _ h4
      · right; simp [Value.ownBlock] at h4; subst h4; exact hb
end
end Go.Proofs.YtnjjijkcenhebaaDoor
