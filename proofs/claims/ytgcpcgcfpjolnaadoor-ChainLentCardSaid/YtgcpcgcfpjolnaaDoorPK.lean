import Derived.Test.YtgcpcgcfpjolnaaDoorPA
import Derived.Test.YtgcpcgcfpjolnaaDoorPG
/- Lists that are written full with marks and lengthened: a list and what it has been lengthened to (a thing), for elements of any size. -/
set_option linter.unusedVariables false
set_option linter.unusedSimpArgs false
namespace Go.Proofs.YtgcpcgcfpjolnaaDoor
open Go.RowKit
set_option maxRecDepth 10000

theorem Has.drops {B : Nat} {w : World} {L : List Thing} : ∀ D : List Thing, Has B w (D ++ L) → Has B w L
  | [], h => h
  | _ :: D, h => Has.drops D h.tail
theorem own_len {w : World} {base : Nat} {e : TypeId} {size n : Nat} {v : Value} {xs : List Value} (h : w.ownsRow base e size v n xs) : ∃ ao cap, v = .slice ao n cap := by
  rcases own_form h with ⟨rfl, rfl, _⟩ | ⟨g, cap, rfl, _⟩
  · exact ⟨none, 0, rfl⟩
  · exact ⟨_, _, rfl⟩
/-- a list v of n elements x, and what it has been lengthened to: g, of m elements x -/
structure PI where
  v : Value
  g : Value
  n : Nat
  m : Nat
  x : List Value
def same (n : Nat) (x : List Value) : List Value := (List.replicate n x).flatten
theorem same_succ (n : Nat) (x : List Value) : same n x ++ x = same (n + 1) x := by
  unfold same
  rw [List.replicate_succ', List.flatten_append]
  simp
theorem same_len (n sz : Nat) (x : List Value) (h : x.length = sz) : (same n x).length = n * sz := by
  unfold same
  rw [List.length_flatten]
  simp [h]
theorem same_take (n m sz : Nat) (x : List Value) (h : x.length = sz) (hn : n ≤ m) : (same m x).take (n * sz) = same n x := by
  have e : same m x = same n x ++ same (m - n) x := by
    unfold same
    rw [← List.flatten_append, ← List.replicate_append_replicate.symm] <;> simp [hn]
  rw [e]
  exact List.take_left' (same_len n sz x h)
def pT (e : TypeId) (sz : Nat) (p : PI) : Thing where
  fp := p.v.ownBlock.toList ++ (if p.g.ownBlock = p.v.ownBlock then [] else p.g.ownBlock.toList)
  P := fun w => w.ownsRow 0 e sz p.v p.n (same p.n p.x) ∧ w.ownsRow 0 e sz p.g p.m (same p.m p.x) ∧ (p.g.ownBlock = p.v.ownBlock → ∃ ao cap, p.v = .slice ao p.n cap ∧ p.g = .slice ao p.m cap ∧ p.n ≤ p.m)
  loc := fun h hk => by
    refine ⟨ownsRow_local h.1 fun k e => hk k (by simp [e]), ownsRow_local h.2.1 fun k e => hk k ?_, h.2.2⟩
    by_cases hs : p.g.ownBlock = p.v.ownBlock
    · rw [e] at hs; simp [← hs]
    · have hs' := hs
      rw [e] at hs'
      simp [hs, e]
      exact .inr hs'
  lt := fun h k hk => by
    rcases List.mem_append.1 hk with h1 | h1
    · exact (World.ownsRow.lt h.1 k (by simpa using h1)).2
    · split at h1
      · simp at h1
      · exact (World.ownsRow.lt h.2.1 k (by simpa using h1)).2
theorem pT_start {B : Nat} {w : World} {L : List Thing} {v : Value} {e : TypeId} {sz n : Nat} {x : List Value} (h : Has B w (rowT v e sz n (same n x) :: L)) : Has B w (pT e sz ⟨v, v, n, n, x⟩ :: L) := by
  have hr := h.get 0 rfl
  refine (h.head (t' := pT e sz ⟨v, v, n, n, x⟩) (Keeps.refl _ _) ⟨hr, hr, fun _ => ?_⟩ ?_ ?_).1
  · obtain ⟨ao, cap, rfl⟩ := own_len hr
    exact ⟨ao, cap, rfl, rfl, Nat.le_refl _⟩
  · simp only [pT, if_pos, List.append_nil]; cases v.ownBlock <;> simp
  · intro k hk; left; simpa [pT, rowT] using hk

section
variable {P : Program} {ops : Array Oper} {rest : List Oper} {o : Oper} {a : Act} {Q : Exit → Act → World → Prop}

/-- append of one element: in place, or elsewhere with all else left as it was -/
theorem wp_push_where {W : World} (hgd : o.guard = none) (s x : Operand) (t e : TypeId) (z : Value) (size bytes : Nat)
    (ho : o.op = .call { callee := .builtin .append, args := #[s, x], argTypes := #[t, t] })
    (ht : P.underlying t = some (.slice e)) (hinfo : (P.info? e).map (fun i => (i.zero, i.size, i.bytes)) = some (some z, size, bytes)) (hz : z.cells.size = size) (hs0 : 0 < size) (hb0 : 0 < bytes)
    (v : Value) (n : Nat) (xs : List Value) (cs : Array Value) (hs : a.eval s = v) {H : Nat} (hx : a.eval x = .slice (some ⟨H, 0, none⟩) 1 1) (hH : W.heap.size = H) (hcs : cs.size = size) (h1 : ∀ u ∈ cs.toList, u.oneCell' = true)
    (HO : W.ownsRow 0 e size v n xs) (hl : (n + 1) * bytes ≤ 140737488355328)
    (hfit : ∀ g cap w1, v = .slice (some ⟨g, 0, none⟩) n cap → RowAt w1 g e size (n + 1) cap (xs ++ cs.toList) → Keeps [g] W w1 → wpList P ops Q rest (a.put o.dst (.slice (some ⟨g, 0, none⟩) (n + 1) cap)) w1)
    (hgrow : ∀ v1 w1, w1.ownsRow 0 e size v1 (n + 1) (xs ++ cs.toList) → Keeps [] W w1 → (∀ k, v1.ownBlock = some k → W.heap.size ≤ k) → wpList P ops Q rest (a.put o.dst v1) w1) :
    wpList P ops Q (o :: rest) a (W.alloc (.cells cs e)) := by
  have hc : ∀ j u, cs.toList[j]? = some u → (W.alloc (.cells cs e)).cell? ((⟨H, 0, none⟩ : Addr).add j) = some u := by
    intro j u hj
    have e2 : (⟨H, 0, none⟩ : Addr).add j = ⟨H, j, none⟩ := by unfold Addr.add; split <;> simp_all
    rw [e2, ← hH, (StrAt.new W cs e).cell j]
    simpa using hj
  have hlen : n + 1 ≤ 140737488355328 := Nat.le_trans (Nat.le_mul_of_pos_right _ hb0) hl
  have grows : ∀ (ao : Option Addr) (cap : Nat), v = .slice ao n cap → (ao = none → n = 0 ∧ cap = 0) → cap < n + 1 → (∀ b, ao = some b → ∀ j u, xs[j]? = some u → (W.alloc (.cells cs e)).cell? (b.add j) = some u) → wpList P ops Q (o :: rest) a (W.alloc (.cells cs e)) := by
    intro ao cap hv hnone hcap hcells
    obtain ⟨i0, hi, hzz⟩ := Option.map_eq_some_iff.1 hinfo
    simp only [Prod.mk.injEq] at hzz
    obtain ⟨hz0, hz1, hz2⟩ := hzz
    refine wpList_append_grows (W.alloc (.cells cs e)) hgd s x t ho e i0 z size bytes ht hi hz0 hz1 hz2 hz hs0 ao n cap xs (hs.trans hv) hnone HO.1 hcells ⟨H, 0, none⟩ 1 1 cs.toList hx (by simp [hcs]) hc h1 hcap (by simp only [maxLen]; omega) hl ?_
    intro v' w' hown hg
    have hk : Keeps [] W w' := ((Keeps.refl [] W).alloc _).trans (Keeps.of_grownBy hg) (by simp)
    refine hgrow v' w' ⟨hown.1, ?_⟩ hk ?_
    · rcases hown.2 with h1 | ⟨g, cap, cur, h1, h2, h3⟩
      · exact .inl h1
      · exact .inr ⟨g, cap, cur, h1, Nat.zero_le _, h3⟩
    · intro k e
      have := (World.ownsRow.lt hown k e).1
      simp at this
      omega
  rcases own_form HO with ⟨rfl, rfl, rfl⟩ | ⟨g, cap, rfl, hr⟩
  · exact grows none 0 rfl (fun _ => ⟨rfl, rfl⟩) (by omega) (fun b hb => by cases hb)
  · by_cases hc1 : n + 1 ≤ cap
    · refine wp_push_fits hgd s x t e z size bytes ho ht hinfo g n cap xs cs hs hx hH hcs h1 hr hc1 fun w1 hr1 hk => hfit g cap w1 rfl hr1 hk
    · refine grows (some ⟨g, 0, none⟩) cap rfl (fun h => by cases h) (by omega) (fun b hb j u hj => ?_)
      cases hb
      exact World.ownsRow.cells (hr.alloc _) (g := g) rfl j u hj

/-- the same, of a list and what it has been lengthened to -/
theorem wp_push_pair {B : Nat} {W : World} {e : TypeId} {sz bytes : Nat} {z : Value} {p : PI} {L : List Thing} (HO : Has B W (pT e sz p :: L)) (hgd : o.guard = none) (s x : Operand) (t : TypeId)
    (ho : o.op = .call { callee := .builtin .append, args := #[s, x], argTypes := #[t, t] })
    (ht : P.underlying t = some (.slice e)) (hinfo : (P.info? e).map (fun i => (i.zero, i.size, i.bytes)) = some (some z, sz, bytes)) (hz : z.cells.size = sz) (hs0 : 0 < sz) (hb0 : 0 < bytes)
    (cs : Array Value) (hcs : cs.toList = p.x) (hsz : cs.size = sz) (h1c : ∀ u ∈ cs.toList, u.oneCell' = true)
    (hs : a.eval s = p.g) {H : Nat} (hx : a.eval x = .slice (some ⟨H, 0, none⟩) 1 1) (hH : W.heap.size = H) (hl : (p.m + 1) * bytes ≤ 140737488355328)
    (h : ∀ g1 w1, Has B w1 (pT e sz ⟨p.v, g1, p.n, p.m + 1, p.x⟩ :: L) → Below B W w1 → wpList P ops Q rest (a.put o.dst g1) w1) :
    wpList P ops Q (o :: rest) a (W.alloc (.cells cs e)) := by
  obtain ⟨h1, h2, h3⟩ : (pT e sz p).P W := HO.get 0 rfl
  obtain ⟨v, g, n, m, y⟩ := p
  simp only at *
  have hyl : y.length = sz := by rw [← hcs]; simpa using hsz
  have hsame : same m y ++ cs.toList = same (m + 1) y := by rw [hcs]; exact same_succ m y
  refine wp_push_where hgd s x t e z sz bytes ho ht hinfo hz hs0 hb0 g m (same m y) cs hs hx hH hsz h1c h2 hl ?_ ?_
  · rintro b cap w1 rfl hr hk
    simp only [hsame] at hr
    refine (fun hh => h _ _ hh.1 hh.2) (HO.head (w' := w1) (t' := pT e sz ⟨v, .slice (some ⟨b, 0, none⟩) (m + 1) cap, n, m + 1, y⟩) (hk.mono fun k hk => .inl ?_) ⟨?_, hr, ?_⟩ ?_ ?_)
    · simp at hk; subst hk
      by_cases he : Value.ownBlock (.slice (some ⟨k, 0, none⟩) m cap) = v.ownBlock
      · show k ∈ v.ownBlock.toList ++ _
        exact List.mem_append_left _ (by rw [← he]; simp [Value.ownBlock])
      · show k ∈ v.ownBlock.toList ++ (if _ then _ else _)
        rw [if_neg he]
        exact List.mem_append_right _ (by simp [Value.ownBlock])
    · by_cases hv : Value.ownBlock (.slice (some ⟨b, 0, none⟩) m cap) = v.ownBlock
      · obtain ⟨ao, cap', rfl, e, hle⟩ := h3 hv
        cases e
        have := hr.take n (by omega)
        rw [same_take n (m + 1) sz y hyl (by omega)] at this
        exact this
      · exact ownsRow_keeps h1 hk fun k e hm => hv (by simp at hm; subst hm; rw [e]; rfl)
    · intro hv
      obtain ⟨ao, cap', rfl, e, hle⟩ := h3 hv
      cases e
      exact ⟨_, _, rfl, rfl, by show n ≤ m + 1; omega⟩
    · have := List.nodup_append.1 HO.apart
      exact this.1
    · intro k hk
      exact .inl hk
  · intro g1 w1 hr hk hf
    simp only [hsame] at hr
    obtain ⟨b, cap, rfl, hr1⟩ := own_some hr (by omega)
    have hb := hf b rfl
    have hv1 : ∀ k, v.ownBlock = some k → k < W.heap.size := fun k e => (World.ownsRow.lt h1 k e).2
    have hne : ¬ Value.ownBlock (.slice (some ⟨b, 0, none⟩) (m + 1) cap) = v.ownBlock := fun e => by have := hv1 b e.symm; omega
    refine (fun hh => h _ _ hh.1 hh.2) (HO.head (w' := w1) (t' := pT e sz ⟨v, .slice (some ⟨b, 0, none⟩) (m + 1) cap, n, m + 1, y⟩) (hk.mono (by simp)) ⟨ownsRow_keeps h1 hk (by simp), hr, fun e => absurd e hne⟩ ?_ ?_)
    · simp only [pT, if_neg hne]
      refine List.nodup_append.2 ⟨by cases v.ownBlock <;> simp, by simp [Value.ownBlock], fun k hk k' hk' e => ?_⟩
      subst e
      simp [Value.ownBlock] at hk'
      subst hk'
      have := hv1 k (by simpa using hk)
      omega
    · intro k hk
      simp only [pT, if_neg hne] at hk
      rcases List.mem_append.1 hk with h4 | h4
      · left; simp only [pT]; exact List.mem_append_left _ h4
      · right; simp [Value.ownBlock] at h4; subst h4; exact hb
end
theorem perm_pair {α : Type} (Lr M p : α) (P E F : List α) : (p :: Lr :: M :: (P ++ (E ++ F))).Perm (Lr :: M :: ((P ++ [p]) ++ (E ++ F))) := by
  classical
  rw [List.perm_iff_count]
  intro a
  simp only [List.count_append, List.count_cons, List.count_nil]
  omega
theorem perm_take {α : Type} (Lr M p : α) (P E F : List α) : (Lr :: M :: (P ++ ((p :: E) ++ F))).Perm (p :: Lr :: M :: (P ++ (E ++ F))) := by
  classical
  rw [List.perm_iff_count]
  intro a
  simp only [List.count_append, List.count_cons, List.count_nil]
  omega
end Go.Proofs.YtgcpcgcfpjolnaaDoor
-- Small calls of the books.
namespace Go.Proofs.YtgcpcgcfpjolnaaDoor.G
open Go.RowKit Go.Proofs.YtgcpcgcfpjolnaaDoorW.PrintWords Go.Proofs.YtgcpcgcfpjolnaaDoorW.PrintLast Go.Proofs.YtgcpcgcfpjolnaaDoorW.PrintMore
set_option linter.unusedVariables false
set_option linter.unusedSimpArgs false
set_option maxRecDepth 10000
theorem sameInts4_l (x : List Int) (hl : x.length ≤ 1073741824) : ∀ (k i : Nat), i ≤ x.length → x.length < i + k → kilnlaw4_sameInts.l0 k x x (i : Int) = some true
  | 0, i, h1, h2 => by omega
  | k + 1, i, h1, h2 => by
    unfold kilnlaw4_sameInts.l0
    by_cases h : i < x.length
    · rw [if_pos (by omega), if_pos (by omega), if_pos (by omega), if_pos rfl, show wrap64 ((i : Int) + 1) = ((i + 1 : Nat) : Int) from by unfold wrap64; omega]
      exact sameInts4_l x hl k (i + 1) (by omega) (by omega)
    · rw [if_neg (by omega)]
theorem sameI_calls {w : World} {v c : Value} {l : List Int} (h0 : w.ownsRow 0 3 1 v l.length (ints l)) (h1 : w.ownsRow 0 3 1 c l.length (ints l)) (hl : l.length ≤ 1073741824) :
    Calls Tryd.prog 108 #[v, c] w fun e w' => e = .returned (.bool true) ∧ Keeps [] w w' := by
  obtain ⟨A0, c0, rfl, hc0, hC0, _⟩ := own_C (k := .i64) h0
  obtain ⟨A1, c1, rfl, hc1, hC1, _⟩ := own_C (k := .i64) h1
  refine (kilnlaw4_sameInts.calls (l.length + 1) A0 c0 l A1 c1 l true w hC0 hc0 hC1 hc1 ?_).mono ?_
  · unfold kilnlaw4_sameInts.f
    rw [if_pos rfl]
    exact sameInts4_l l hl (l.length + 1) 0 (by omega) (by omega)
  · rintro e w' ⟨rfl, hd⟩
    exact ⟨rfl, drawn0_keeps hd⟩
theorem sameB_calls {w : World} {v c : Value} {l : List Int} (h0 : w.ownsRow 0 5 1 v l.length (by8 l)) (h1 : w.ownsRow 0 5 1 c l.length (by8 l)) (hl : l.length ≤ 1073741824) :
    Calls Tryd.prog 80 #[v, c] w fun e w' => e = .returned (.bool true) ∧ Keeps [] w w' := by
  obtain ⟨A0, c0, rfl, hc0, hC0, _⟩ := own_C (k := .u8) h0
  obtain ⟨A1, c1, rfl, hc1, hC1, _⟩ := own_C (k := .u8) h1
  refine (kilnlaw1_same.calls A0 c0 l A1 c1 l true w hC0 hc0 hC1 hc1 (by simp [kilnlaw1_same.f])).mono ?_
  rintro e w' ⟨rfl, hd⟩
  exact ⟨rfl, drawn0_keeps hd⟩
theorem only_l (m : Nat) (x : Int) (hm : m ≤ 1073741824) : ∀ (k i : Nat), i ≤ m → m < i + k → kilnlaw1_only.l0 k (List.replicate m x) x (i : Int) = some true
  | 0, i, h1, h2 => by omega
  | k + 1, i, h1, h2 => by
    unfold kilnlaw1_only.l0
    have hl : (List.replicate m x).length = m := by simp
    by_cases h : i < m
    · have e1 : rd (List.replicate m x) (i : Int) = x := by
        unfold rd
        rw [Int.toNat_natCast, List.getD_eq_getElem?_getD, List.getElem?_replicate, if_pos h]; rfl
      rw [if_pos (by omega), if_pos (by omega), if_pos e1, show wrap64 ((i : Int) + 1) = ((i + 1 : Nat) : Int) from by unfold wrap64; omega]
      exact only_l m x hm k (i + 1) (by omega) (by omega)
    · rw [if_neg (by omega)]
theorem only_calls0 {w : World} {v : Value} {m : Nat} {x : Int} (xs : List Int) (hx : xs = List.replicate m x) (h0 : w.ownsRow 0 5 1 v xs.length (by8 xs)) (hl : m ≤ 1073741824) :
    Calls Tryd.prog 76 #[v, .int .u8 x] w fun e w' => e = .returned (.bool true) ∧ Keeps [] w w' := by
  obtain ⟨A0, c0, rfl, hc0, hC0, _⟩ := own_C (k := .u8) h0
  refine (kilnlaw1_only.calls (m + 1) A0 c0 xs x true w hC0 hc0 (by unfold kilnlaw1_only.f; rw [hx]; exact only_l m x hl (m + 1) 0 (by omega) (by omega))).mono ?_
  rintro e w' ⟨rfl, hd⟩
  exact ⟨rfl, drawn0_keeps hd⟩
theorem only_calls {w : World} {v : Value} {m : Nat} {x : Int} (h0 : w.ownsRow 0 5 1 v m (by8 (List.replicate m x))) (hl : m ≤ 1073741824) :
    Calls Tryd.prog 76 #[v, .int .u8 x] w fun e w' => e = .returned (.bool true) ∧ Keeps [] w w' := by
  have hn : (List.replicate m x).length = m := by simp
  obtain ⟨xs, hxs⟩ : ∃ xs, xs = List.replicate m x := ⟨_, rfl⟩
  rw [← hxs] at h0 hn
  exact only_calls0 xs hxs (by rw [hn]; exact h0) hl
def bCellsI (Lv Wv : Value) (n : Int) : Array Value := #[Lv, Wv, .int .i64 n]
def bCellsB (Lv Wv : Value) (n : Int) : Array Value := #[Lv, Wv]
theorem moves_has {M : List Thing} {W0 W : World} (m : Moves [] M W0 W) : Has W0.heap.size W M := ⟨m.has.all, m.has.apart, m.news, m.old.size⟩
theorem has_moves {M M' : List Thing} {W0 W W' : World} (m : Moves [] M W0 W) (h3 : 3 ≤ W0.heap.size) (h : Has W0.heap.size W' M') (hb : Below W0.heap.size W W') : Moves [] M' W0 W' :=
  ⟨⟨h.all, h.apart, fun k hk => Nat.le_trans h3 (h.ge k hk), Nat.le_trans h3 h.le⟩,
    ⟨hb.os.trans m.old.os, hb.tape.trans m.old.tape, hb.output.trans m.old.output, h.le, fun k hk hn => (hb.block k hk).trans (m.old.block k hk hn)⟩, fun k hk => .inr (h.ge k hk)⟩
end Go.Proofs.YtgcpcgcfpjolnaaDoor.G
-- A book of lists that were handed out: Keep's things, Untouched.
namespace Go.Proofs.YtgcpcgcfpjolnaaDoor.G.NI
open Go.RowKit Go.Proofs.YtgcpcgcfpjolnaaDoorW.PrintWords Go.Proofs.YtgcpcgcfpjolnaaDoorW.PrintLast Go.Proofs.YtgcpcgcfpjolnaaDoorW.PrintMore
set_option linter.unusedVariables false
set_option linter.unusedSimpArgs false
set_option maxRecDepth 10000
theorem infoS : (Tryd.prog.info? 47).map (fun i => (i.zero, i.size, i.bytes)) = some (some (.slice none 0 0), 1, 24) := by kernel_rfl
/-- a list of the book, and the copy of it -/
structure EI where
  v : Value
  c : Value
  l : List Int
  le : l.length ≤ 2000000
def rowE (v : Value) (l : List Int) : Thing := rowT v 3 1 l.length (ints l)
def BL (b : Nat) (Lv Wv : Value) (n : Int) (es : List EI) (F : List Thing) : List Thing :=
  strT b (bCellsI Lv Wv n) 39 :: rowT Lv 47 1 es.length (es.map EI.v) :: rowT Wv 47 1 es.length (es.map EI.c) :: (es.map (fun e => rowE e.v e.l) ++ (es.map (fun e => rowE e.c e.l) ++ F))
theorem perm_keep {α : Type} (c v : α) (H V C T : List α) : (c :: v :: (H ++ (V ++ (C ++ T)))).Perm (H ++ ((V ++ [v]) ++ ((C ++ [c]) ++ T))) := by
  classical
  rw [List.perm_iff_count]
  intro a
  simp only [List.count_append, List.count_cons, List.count_nil]
  omega
theorem val_one (l : List Int) : ∀ u ∈ ints l, u.oneCell' = true := by
  intro u hu
  simp [ints] at hu
  obtain ⟨x, _, rfl⟩ := hu
  rfl
def KeepPost (F : List Thing) (B b : Nat) (n : Int) (ne : Nat) (l : List Int) (w : World) (e : Ending) (w' : World) : Prop :=
  e = .returned (.tuple #[]) ∧ ∃ Lv Wv n' es, Has B w' (BL b Lv Wv n' es F) ∧ Below B w w' ∧ 0 ≤ n' ∧ n' ≤ n + l.length + 1 ∧ es.length ≤ ne + 1
set_option maxHeartbeats 2000000 in
theorem untouched_calls {B b : Nat} {F : List Thing} {w : World} {Lv Wv : Value} {n : Int} {es : List EI} (h : Has B w (BL b Lv Wv n es F)) (hes : es.length ≤ 1000000) :
    Calls Tryd.prog 77 #[.pointer (some ⟨b, 0, none⟩)] w fun e w' => e = .returned (.bool true) ∧ Keeps [] w w' := by
  obtain ⟨aL, cL, rfl⟩ := own_len (h.get 1 rfl)
  obtain ⟨aW, cW, rfl⟩ := own_len (h.get 2 rfl)
  go_enter Tryd.func77, Tryd.ntmps77
  go_wp2
  go_loopw [3] (fun i wr => ∃ j : Nat, j ≤ es.length ∧ i = .int .i64 (j : Int) ∧ Keeps [] w wr) (fun i _ => es.length - (intOf i).toNat)
  case atStart => exact ⟨0, Nat.zero_le _, rfl, Keeps.refl _ _⟩
  case round =>
    obtain ⟨j, hj, rfl, hk⟩ := hrel
    have c0 := StrAt.cell (h.get 0 rfl) 0
    have c1 := StrAt.cell (h.get 0 rfl) 1
    simp [bCellsI] at c0 c1
    replace c0 := hk.cell c0 (by simp)
    replace c1 := hk.cell c1 (by simp)
    by_cases hlt : j < es.length
    · have hlt' : (j : Int) < (es.length : Int) := by omega
      obtain ⟨gL, c9, hL, rL⟩ := own_some (h.get 1 rfl) (by omega)
      cases hL
      obtain ⟨gW, c9, hW, rW⟩ := own_some (h.get 2 rfl) (by omega)
      cases hW
      have he : es[j]? = some es[j] := List.getElem?_eq_getElem hlt
      generalize es[j] = x at he
      have hm : x ∈ es := List.mem_of_getElem? he
      have cv := hk.cell ((rL.cell j (by omega)).trans (show (es.map EI.v)[j]? = some x.v by simp [he])) (by simp)
      have cc := hk.cell ((rW.cell j (by omega)).trans (show (es.map EI.c)[j]? = some x.c by simp [he])) (by simp)
      have i1 : w.ownsRow 0 3 1 x.v x.l.length (ints x.l) := h.all (rowE x.v x.l) (by simp only [BL, List.mem_cons, List.mem_append, List.mem_map]; exact .inr (.inr (.inr (.inl ⟨x, hm, rfl⟩))))
      have i2 : w.ownsRow 0 3 1 x.c x.l.length (ints x.l) := h.all (rowE x.c x.l) (by simp only [BL, List.mem_cons, List.mem_append, List.mem_map]; exact .inr (.inr (.inr (.inr (.inl ⟨x, hm, rfl⟩)))))
      have HSM := Lib.hid (show ∀ W, Keeps [] wr W → Calls Tryd.prog 108 #[x.v, x.c] W fun e w' => e = .returned (.bool true) ∧ Keeps [] W w' from fun W hk9 => sameI_calls (ownsRow_keeps i1 (hk.trans' hk9) (by simp)) (ownsRow_keeps i2 (hk.trans' hk9) (by simp)) (by have := x.le; omega))
      clear he hm i1 i2 rL rW
      have hS : ∀ W, Keeps [] wr W → W.cell? ⟨b, 0, none⟩ = some (.slice (some ⟨gL, 0, none⟩) es.length cL) ∧ W.cell? ⟨b, 1, none⟩ = some (.slice (some ⟨gW, 0, none⟩) es.length cW) ∧ W.cell? ⟨gL, j, none⟩ = some x.v ∧ W.cell? ⟨gW, j, none⟩ = some x.c ∧ Keeps [] wr W := fun W hk => ⟨hk.cell c0 (by simp), hk.cell c1 (by simp), hk.cell cv (by simp), hk.cell cc (by simp), hk⟩
      go_wp2_with fail
      go_region_held3 (fun W => W.cell? ⟨b, 0, none⟩ = some (.slice (some ⟨gL, 0, none⟩) es.length cL) ∧ W.cell? ⟨b, 1, none⟩ = some (.slice (some ⟨gW, 0, none⟩) es.length cW) ∧ W.cell? ⟨gL, j, none⟩ = some x.v ∧ W.cell? ⟨gW, j, none⟩ = some x.c ∧ Keeps [] wr W) (first | exact hS _ ((Keeps.refl [] wr).drew) | assumption | exact hS _ (((Keeps.refl [] wr).drew).trans' (by assumption))) (first | (go_at_call 108; refine (HSM.out _ ((Keeps.refl [] wr).drew)).mono ?_; rintro e w' ⟨rfl, hk23⟩) | fail)
      all_goals
        go_wp2
        go_roundw
      case rel => exact ⟨j + 1, by omega, by go_num, hk.trans' (((Keeps.refl [] wr).drew).trans' (by assumption))⟩
      case measure => simp [intOf]; omega
    · have hlt' : ¬ (j : Int) < (es.length : Int) := by omega
      go_wp2
      go_ret
      exact ⟨rfl, hk⟩
end Go.Proofs.YtgcpcgcfpjolnaaDoor.G.NI
-- A book of lists that were handed out: Keep's things, Untouched.
namespace Go.Proofs.YtgcpcgcfpjolnaaDoor.G.NB
open Go.RowKit Go.Proofs.YtgcpcgcfpjolnaaDoorW.PrintWords Go.Proofs.YtgcpcgcfpjolnaaDoorW.PrintLast Go.Proofs.YtgcpcgcfpjolnaaDoorW.PrintMore
set_option linter.unusedVariables false
set_option linter.unusedSimpArgs false
set_option maxRecDepth 10000
theorem infoS : (Tryd.prog.info? 22).map (fun i => (i.zero, i.size, i.bytes)) = some (some (.slice none 0 0), 1, 24) := by kernel_rfl
/-- a list of the book, and the copy of it -/
structure EI where
  v : Value
  c : Value
  l : List Int
  le : l.length ≤ 2000000
def rowE (v : Value) (l : List Int) : Thing := rowT v 5 1 l.length (by8 l)
def BL (b : Nat) (Lv Wv : Value) (n : Int) (es : List EI) (F : List Thing) : List Thing :=
  strT b (bCellsB Lv Wv n) 35 :: rowT Lv 22 1 es.length (es.map EI.v) :: rowT Wv 22 1 es.length (es.map EI.c) :: (es.map (fun e => rowE e.v e.l) ++ (es.map (fun e => rowE e.c e.l) ++ F))
theorem perm_keep {α : Type} (c v : α) (H V C T : List α) : (c :: v :: (H ++ (V ++ (C ++ T)))).Perm (H ++ ((V ++ [v]) ++ ((C ++ [c]) ++ T))) := by
  classical
  rw [List.perm_iff_count]
  intro a
  simp only [List.count_append, List.count_cons, List.count_nil]
  omega
theorem val_one (l : List Int) : ∀ u ∈ by8 l, u.oneCell' = true := by
  intro u hu
  simp [by8] at hu
  obtain ⟨x, _, rfl⟩ := hu
  rfl
def KeepPost (F : List Thing) (B b : Nat) (n : Int) (ne : Nat) (l : List Int) (w : World) (e : Ending) (w' : World) : Prop :=
  e = .returned (.tuple #[]) ∧ ∃ Lv Wv n' es, Has B w' (BL b Lv Wv n' es F) ∧ Below B w w' ∧ 0 ≤ n' ∧ n' ≤ n + l.length + 1 ∧ es.length ≤ ne + 1
set_option maxHeartbeats 2000000 in
theorem untouched_calls {B b : Nat} {F : List Thing} {w : World} {Lv Wv : Value} {n : Int} {es : List EI} (h : Has B w (BL b Lv Wv n es F)) (hes : es.length ≤ 1000000) :
    Calls Tryd.prog 75 #[.pointer (some ⟨b, 0, none⟩)] w fun e w' => e = .returned (.bool true) ∧ Keeps [] w w' := by
  obtain ⟨aL, cL, rfl⟩ := own_len (h.get 1 rfl)
  obtain ⟨aW, cW, rfl⟩ := own_len (h.get 2 rfl)
  go_enter Tryd.func75, Tryd.ntmps75
  go_wp2
  go_loopw [3] (fun i wr => ∃ j : Nat, j ≤ es.length ∧ i = .int .i64 (j : Int) ∧ Keeps [] w wr) (fun i _ => es.length - (intOf i).toNat)
  case atStart => exact ⟨0, Nat.zero_le _, rfl, Keeps.refl _ _⟩
  case round =>
    obtain ⟨j, hj, rfl, hk⟩ := hrel
    have c0 := StrAt.cell (h.get 0 rfl) 0
    have c1 := StrAt.cell (h.get 0 rfl) 1
    simp [bCellsB] at c0 c1
    replace c0 := hk.cell c0 (by simp)
    replace c1 := hk.cell c1 (by simp)
    by_cases hlt : j < es.length
    · have hlt' : (j : Int) < (es.length : Int) := by omega
      obtain ⟨gL, c9, hL, rL⟩ := own_some (h.get 1 rfl) (by omega)
      cases hL
      obtain ⟨gW, c9, hW, rW⟩ := own_some (h.get 2 rfl) (by omega)
      cases hW
      have he : es[j]? = some es[j] := List.getElem?_eq_getElem hlt
      generalize es[j] = x at he
      have hm : x ∈ es := List.mem_of_getElem? he
      have cv := hk.cell ((rL.cell j (by omega)).trans (show (es.map EI.v)[j]? = some x.v by simp [he])) (by simp)
      have cc := hk.cell ((rW.cell j (by omega)).trans (show (es.map EI.c)[j]? = some x.c by simp [he])) (by simp)
      have i1 : w.ownsRow 0 5 1 x.v x.l.length (by8 x.l) := h.all (rowE x.v x.l) (by simp only [BL, List.mem_cons, List.mem_append, List.mem_map]; exact .inr (.inr (.inr (.inl ⟨x, hm, rfl⟩))))
      have i2 : w.ownsRow 0 5 1 x.c x.l.length (by8 x.l) := h.all (rowE x.c x.l) (by simp only [BL, List.mem_cons, List.mem_append, List.mem_map]; exact .inr (.inr (.inr (.inr (.inl ⟨x, hm, rfl⟩)))))
      have HSM := Lib.hid (show ∀ W, Keeps [] wr W → Calls Tryd.prog 80 #[x.v, x.c] W fun e w' => e = .returned (.bool true) ∧ Keeps [] W w' from fun W hk9 => sameB_calls (ownsRow_keeps i1 (hk.trans' hk9) (by simp)) (ownsRow_keeps i2 (hk.trans' hk9) (by simp)) (by have := x.le; omega))
      clear he hm i1 i2 rL rW
      have hS : ∀ W, Keeps [] wr W → W.cell? ⟨b, 0, none⟩ = some (.slice (some ⟨gL, 0, none⟩) es.length cL) ∧ W.cell? ⟨b, 1, none⟩ = some (.slice (some ⟨gW, 0, none⟩) es.length cW) ∧ W.cell? ⟨gL, j, none⟩ = some x.v ∧ W.cell? ⟨gW, j, none⟩ = some x.c ∧ Keeps [] wr W := fun W hk => ⟨hk.cell c0 (by simp), hk.cell c1 (by simp), hk.cell cv (by simp), hk.cell cc (by simp), hk⟩
      go_wp2_with fail
      go_region_held3 (fun W => W.cell? ⟨b, 0, none⟩ = some (.slice (some ⟨gL, 0, none⟩) es.length cL) ∧ W.cell? ⟨b, 1, none⟩ = some (.slice (some ⟨gW, 0, none⟩) es.length cW) ∧ W.cell? ⟨gL, j, none⟩ = some x.v ∧ W.cell? ⟨gW, j, none⟩ = some x.c ∧ Keeps [] wr W) (first | exact hS _ ((Keeps.refl [] wr).drew) | assumption | exact hS _ (((Keeps.refl [] wr).drew).trans' (by assumption))) (first | (go_at_call 80; refine (HSM.out _ ((Keeps.refl [] wr).drew)).mono ?_; rintro e w' ⟨rfl, hk23⟩) | fail)
      all_goals
        go_wp2
        go_roundw
      case rel => exact ⟨j + 1, by omega, by go_num, hk.trans' (((Keeps.refl [] wr).drew).trans' (by assumption))⟩
      case measure => simp [intOf]; omega
    · have hlt' : ¬ (j : Int) < (es.length : Int) := by omega
      go_wp2
      go_ret
      exact ⟨rfl, hk⟩
end Go.Proofs.YtgcpcgcfpjolnaaDoor.G.NB
-- The book of numbers: Keep, Settle.
namespace Go.Proofs.YtgcpcgcfpjolnaaDoor.G.NI
open Go.RowKit Go.Proofs.YtgcpcgcfpjolnaaDoorW.PrintWords Go.Proofs.YtgcpcgcfpjolnaaDoorW.PrintLast Go.Proofs.YtgcpcgcfpjolnaaDoorW.PrintMore
set_option linter.unusedVariables false
set_option linter.unusedSimpArgs false
set_option maxRecDepth 10000
theorem same1 (n : Nat) (x : Value) : same n [x] = List.replicate n x := by
  unfold same
  induction n with
  | zero => rfl
  | succ n ih => rw [List.replicate_succ, List.flatten_cons, ih, List.replicate_succ]; rfl
set_option maxHeartbeats 2000000 in
theorem keep_calls {B b : Nat} {F : List Thing} {w : World} {Lv Wv v : Value} {n : Int} {es : List EI} {l : List Int} (h : Has B w (rowE v l :: BL b Lv Wv n es F))
    (hn0 : 0 ≤ n) (hn1 : n ≤ 1000000000000) (hes : es.length ≤ 1000000) (hl : l.length ≤ 2000000) :
    Calls Tryd.prog 17 #[.pointer (some ⟨b, 0, none⟩), v] w (KeepPost F B b n es.length l w) := by
  have hs := h.get 1 rfl
  have hv := h.get 0 rfl
  have c4 := StrAt.cell hs 2
  have f4 := StrAt.frozen hs 2
  simp [bCellsI] at c4
  have hst := h.store 1 rfl 2 (.int .i64 (n + (l.length + 1)))
  by_cases hbig : 200000 < n + (l.length + 1)
  · obtain ⟨ao, c, rfl⟩ := own_len (xs := ints l) hv
    go_enter Tryd.func17, Tryd.ntmps17
    go_wp2
    go_end0
    exact ⟨rfl, Lv, Wv, n + (l.length + 1), es, hst.1.tail, hst.2, by omega, by omega, by omega⟩
  · have hbig' : ¬ 200000 < n + ((l.length : Int) + 1) := hbig
    obtain ⟨ao, c, rfl⟩ := own_len (xs := ints l) hv
    have hB0 := hst.2
    have H0 : Has B (w.setCell ⟨b, 2, none⟩ (.int .i64 (n + (l.length + 1)))) (rowE (.slice ao l.length c) l :: BL b Lv Wv (n + (l.length + 1)) es F) := hst.1
    clear hst
    have hiv0 := H0.get 0 rfl
    go_enter Tryd.func17, Tryd.ntmps17
    go_wp2_with (at_builtin; refine wp_append_any rfl _ _ 47 3 (.int .i64 0) 1 8 rfl Tryd.underlying47 info3c rfl (by omega) (by omega) (.slice none 0 0) 0 [] (.slice ao l.length c) l.length (ints l) rfl rfl hiv0 (val_one l) (World.ownsRow_nil _ _ _ _) ?c2 ?_)
    case c2 => omega
    intro vc w1 hownc hkc hfc _
    obtain ⟨H1, hB1⟩ := H0.cons (t' := rowE vc l) (by simpa [Value.ownBlock] using hkc) (by simpa [rowE, rowT] using hownc) (rowT_nodup ..) (fun k hk => by have := hfc k (by simpa [rowE, rowT] using hk); simpa [Value.ownBlock] using this)
    clear hownc hkc hfc H0 hiv0 hv hs c4 f4
    have hown1 := H1.get 0 rfl
    obtain ⟨ac, cc, rfl⟩ := own_len (xs := ints l) hown1
    have q2 := StrAt.cell (H1.get 2 rfl) 0
    simp [bCellsI] at q2
    obtain ⟨aL, cL, rfl⟩ := own_len (H1.get 3 rfl)
    go_wp2_with (refine wp_push rfl _ _ 37 47 (.slice none 0 0) 1 24 rfl Tryd.underlying37 infoS rfl (by omega) (by omega) (.slice aL es.length cL) es.length (es.map EI.v) #[.slice ao l.length c] rfl rfl (by simp) rfl ?d1 (H1.get 3 rfl) ?d2 ?_)
    case d1 => simp [Value.oneCell']
    case d2 => omega
    intro vL w2 hownL hkL hfL
    obtain ⟨gL, pL, rfl, _⟩ := own_some hownL (by omega)
    obtain ⟨H2, hB2⟩ := H1.row 3 rfl hownL hkL hfL
    clear hownL hkL hfL H1 hown1 q2
    have q2 := StrAt.cell (H2.get 2 rfl) 0
    have r2 := StrAt.frozen (H2.get 2 rfl) 0
    simp [bCellsI] at q2
    obtain ⟨H3, hB3⟩ := H2.store 2 rfl 0 (.slice (some ⟨gL, 0, none⟩) (es.length + 1) pL)
    have q3 := StrAt.cell (H3.get 2 rfl) 1
    simp [bCellsI] at q3
    obtain ⟨aW, cW, rfl⟩ := own_len (H3.get 4 rfl)
    go_wp2_with (refine wp_push rfl _ _ 37 47 (.slice none 0 0) 1 24 rfl Tryd.underlying37 infoS rfl (by omega) (by omega) (.slice aW es.length cW) es.length (es.map EI.c) #[.slice ac l.length cc] rfl rfl (by simp) rfl ?e1 (H3.get 4 rfl) ?e2 ?_)
    case e1 => simp [Value.oneCell']
    case e2 => omega
    intro vW w3 hownW hkW hfW
    obtain ⟨gW, pW, rfl, _⟩ := own_some hownW (by omega)
    obtain ⟨H4, hB4⟩ := H3.row 4 rfl hownW hkW (fun k e => by simpa using hfW k e)
    clear hownW hkW hfW
    have q4 := StrAt.cell (H4.get 2 rfl) 1
    have r4 := StrAt.frozen (H4.get 2 rfl) 1
    simp [bCellsI] at q4
    obtain ⟨H5, hB5⟩ := H4.store 2 rfl 1 (.slice (some ⟨gW, 0, none⟩) (es.length + 1) pW)
    go_wp2
    go_end0
    refine ⟨rfl, .slice (some ⟨gL, 0, none⟩) (es.length + 1) pL, .slice (some ⟨gW, 0, none⟩) (es.length + 1) pW, n + (l.length + 1), es ++ [⟨.slice ao l.length c, .slice ac l.length cc, l, hl⟩], ?_, hB0.trans (hB1.trans (hB2.trans (hB3.trans (hB4.trans hB5)))), by omega, by omega, by simp⟩
    refine H5.perm ?_
    have := perm_keep (rowE (.slice ac l.length cc) l) (rowE (.slice ao l.length c) l) (strT b (bCellsI (.slice (some ⟨gL, 0, none⟩) (es.length + 1) pL) (.slice (some ⟨gW, 0, none⟩) (es.length + 1) pW) (n + (l.length + 1))) 39 :: rowT (.slice (some ⟨gL, 0, none⟩) (es.length + 1) pL) 47 1 (es.length + 1) (es.map EI.v ++ [.slice ao l.length c]) :: rowT (.slice (some ⟨gW, 0, none⟩) (es.length + 1) pW) 47 1 (es.length + 1) (es.map EI.c ++ [.slice ac l.length cc]) :: []) (es.map (fun e => rowE e.v e.l)) (es.map fun e => rowE e.c e.l) F
    simp only [BL, List.map_append, List.map_cons, List.map_nil, List.length_append, List.length_cons, List.length_nil]
    exact this
def ML (wb : Nat) (cs : Array Value) (Lv : Value) (vs : List Value) (es : List EI) (F : List Thing) : List Thing := strT wb cs 39 :: rowT Lv 47 1 vs.length vs :: (es.map (fun e => rowE e.v e.l) ++ F)
theorem perm_settle {α : Type} (s Lr Wr : α) (V C T : List α) : (s :: Lr :: Wr :: (V ++ (C ++ T))).Perm ((Wr :: C) ++ (s :: Lr :: (V ++ T))) := by
  classical
  rw [List.perm_iff_count]
  intro a
  simp only [List.count_append, List.count_cons, List.count_nil]
  omega
theorem BL_ML {B wb : Nat} {F : List Thing} {w : World} {Lv Wv : Value} {n : Int} {es : List EI} (h : Has B w (BL wb Lv Wv n es F)) : Has B w (ML wb (bCellsI Lv Wv n) Lv (es.map EI.v) es F) := by
  have := (h.perm (perm_settle _ _ _ _ _ _)).drops
  simpa [ML] using this
theorem ML_set (wb : Nat) (cs : Array Value) (Lv : Value) (vs : List Value) (es : List EI) (F : List Thing) (k : Nat) (hk : k < es.length) (e : EI) : (ML wb cs Lv vs es F).set (2 + k) (rowE e.v e.l) = ML wb cs Lv vs (es.set k e) F := by
  unfold ML
  rw [show 2 + k = k + 1 + 1 by omega, List.set_cons_succ, List.set_cons_succ, List.set_append_left _ _ (by simpa using hk), List.map_set]
theorem ML_get (wb : Nat) (cs : Array Value) (Lv : Value) (vs : List Value) (es : List EI) (F : List Thing) (k : Nat) (e : EI) (he : es[k]? = some e) : (ML wb cs Lv vs es F)[2 + k]? = some (rowE e.v e.l) := by
  have hk := (List.getElem?_eq_some_iff.1 he).1
  unfold ML
  rw [show 2 + k = k + 1 + 1 by omega, List.getElem?_cons_succ, List.getElem?_cons_succ, List.getElem?_append_left (by simpa using hk)]
  simp [he]
/-- the lists below the k-th hold their marks -/
def Marked (k : Nat) (es : List EI) : Prop := ∀ (j : Nat) (e : EI), j < k → es[j]? = some e → ∀ x ∈ e.l, x = -1 - (j : Int)
def MRel (w : World) (B wb : Nat) (cs : Array Value) (Lv : Value) (vs : List Value) (F : List Thing) (k : Nat) (es : List EI) (wr : World) : Prop :=
  es.map EI.v = vs ∧ Marked k es ∧ Has B wr (ML wb cs Lv vs es F) ∧ Below B w wr
def SettlePost (B : Nat) (F : List Thing) (w : World) (e : Ending) (w' : World) : Prop :=
  e = .returned (.bool true) ∧ Has B w' F ∧ Below B w w'
theorem int_lit (x : Int) : Value.int .i64 x = .int .i64 x := rfl
/-- one cell of the k-th list is marked -/
theorem MRel.store {w : World} {B wb : Nat} {cs : Array Value} {Lv : Value} {vs : List Value} {F : List Thing} {k : Nat} {es : List EI} {wr : World} (h : MRel w B wb cs Lv vs F k es wr)
    {e : EI} (he : es[k]? = some e) {g cap : Nat} (hv : e.v = .slice (some ⟨g, 0, none⟩) e.l.length cap) (q : Nat) (x : Int) :
    MRel w B wb cs Lv vs F k (es.set k ⟨e.v, e.c, e.l.set q x, by simpa using e.le⟩) (wr.setCell ⟨g, q, none⟩ (.int .i64 x)) := by
  obtain ⟨h1, h2, h3, h4⟩ := h
  have hk := (List.getElem?_eq_some_iff.1 he).1
  have ht : (ML wb cs Lv vs es F)[2 + k]? = some (rowT (.slice (some ⟨g, 0, none⟩) e.l.length cap) 3 1 e.l.length (ints e.l)) := by rw [ML_get _ _ _ _ _ _ _ _ he, hv]; rfl
  obtain ⟨H1, hB1⟩ := h3.storeRow (2 + k) ht q (.int .i64 x)
  refine ⟨?_, ?_, ?_, h4.trans hB1⟩
  · rw [List.map_set]
    refine Eq.trans ?_ h1
    refine List.ext_getElem? fun i => ?_
    by_cases e1 : i = k
    · subst e1; simp [hk]; rw [(List.getElem?_eq_some_iff.1 he).2]
    · rw [List.getElem?_set_ne (by omega)]
  · intro j e' hj he'
    rw [List.getElem?_set_ne (by omega)] at he'
    exact h2 j e' hj he'
  · rw [← ML_set _ _ _ _ _ _ _ hk]
    have e2 : rowE e.v (e.l.set q x) = rowT (.slice (some ⟨g, 0, none⟩) e.l.length cap) 3 1 e.l.length ((ints e.l).set q (.int .i64 x)) := by
      rw [hv]
      simp [rowE, ints, List.map_set]
    show Has B _ ((ML wb cs Lv vs es F).set (2 + k) (rowE e.v (e.l.set q x)))
    rw [e2]
    exact H1
/-- the rounds within the k-th list -/
def InRel (w : World) (B wb : Nat) (cs : Array Value) (Lv : Value) (vs : List Value) (F : List Thing) (k N : Nat) (c : Value) (wr : World) : Prop :=
  ∃ (q : Nat) (es : List EI) (e : EI), q ≤ N ∧ e.l.length = N ∧ c = .int .i64 (q : Int) ∧ es[k]? = some e ∧ (∀ j, j < q → e.l[j]? = some (-1 - (k : Int))) ∧ MRel w B wb cs Lv vs F k es wr
/-- the rounds over the lists -/
def OutRel (w : World) (B wb : Nat) (cs : Array Value) (Lv : Value) (vs : List Value) (F : List Thing) (i : Value) (wr : World) : Prop :=
  ∃ (k : Nat) (es : List EI), k ≤ vs.length ∧ i = .int .i64 (k : Int) ∧ MRel w B wb cs Lv vs F k es wr
/-- the lists that have been lengthened -/
def PL (wb : Nat) (cs : Array Value) (Lv mv : Value) (vs : List Value) (ps : List PI) (es : List EI) (F : List Thing) : List Thing :=
  strT wb cs 39 :: rowT Lv 47 1 vs.length vs :: rowT mv 47 1 ps.length (ps.map PI.g) :: (ps.map (pT 3 1) ++ (es.map (fun e => rowE e.v e.l) ++ F))
def Paired (vs : List Value) (ps : List PI) : Prop := ∀ (j : Nat) (p : PI), ps[j]? = some p → vs[j]? = some p.v ∧ p.x = [.int .i64 (-1 - (j : Int))] ∧ p.m ≤ 2000270
def PRel (w : World) (B wb : Nat) (cs : Array Value) (Lv : Value) (vs : List Value) (es : List EI) (F : List Thing) (mv i : Value) (wr : World) : Prop :=
  ∃ (k : Nat) (ps : List PI), k ≤ vs.length ∧ ps.length = k ∧ i = .int .i64 (k : Int) ∧ Paired vs ps ∧ Has B wr (PL wb cs Lv mv vs ps (es.drop k) F) ∧ Below B w wr
def QRel (w : World) (B wb : Nat) (cs : Array Value) (Lv mv : Value) (vs : List Value) (ps : List PI) (es : List EI) (F : List Thing) (v : Value) (n : Nat) (x : Int) (g c : Value) (wr : World) : Prop :=
  ∃ (m r : Nat), m + r ≤ 2000270 ∧ c = .int .i64 (r : Int) ∧ Has B wr (pT 3 1 ⟨v, g, n, m, [.int .i64 x]⟩ :: PL wb cs Lv mv vs ps es F) ∧ Below B w wr
theorem perm_pair {α : Type} (s Lr M p : α) (P E F : List α) : (p :: s :: Lr :: M :: (P ++ (E ++ F))).Perm (s :: Lr :: M :: ((P ++ [p]) ++ (E ++ F))) := by
  classical
  rw [List.perm_iff_count]
  intro a
  simp only [List.count_append, List.count_cons, List.count_nil]
  omega
theorem perm_rest {α : Type} (s Lr M : α) (P E F : List α) : (s :: Lr :: M :: (P ++ (E ++ F))).Perm ((Lr :: M :: (P ++ E)) ++ (s :: F)) := by
  classical
  rw [List.perm_iff_count]
  intro a
  simp only [List.count_append, List.count_cons, List.count_nil]
  omega
theorem perm_take {α : Type} (s Lr M p : α) (P E F : List α) : (s :: Lr :: M :: (P ++ ((p :: E) ++ F))).Perm (p :: s :: Lr :: M :: (P ++ (E ++ F))) := by
  classical
  rw [List.perm_iff_count]
  intro a
  simp only [List.count_append, List.count_cons, List.count_nil]
  omega

set_option maxHeartbeats 4000000 in
theorem settle_calls {B wb : Nat} {F : List Thing} {w : World} {Lv Wv : Value} {n : Int} {es : List EI} (h : Has B w (BL wb Lv Wv n es F)) (hes : es.length ≤ 900000) :
    Calls Tryd.prog 29 #[.pointer (some ⟨wb, 0, none⟩)] w (SettlePost B F w) := by
  have H0 := BL_ML h
  obtain ⟨aL, cL, rfl⟩ := own_len (h.get 1 rfl)
  have hcs : (bCellsI (.slice aL es.length cL) Wv n)[0]? = some (.slice aL es.length cL) := by simp [bCellsI]
  obtain ⟨vs, hvs⟩ : ∃ vs, vs = es.map EI.v := ⟨_, rfl⟩
  have hN : vs.length = es.length := by simp [hvs]
  rw [← hvs] at H0
  have HV := Lib.hid hvs
  clear hvs
  go_enter Tryd.func29, Tryd.ntmps29
  go_wp2_with fail
  refine (untouched_calls h (by omega)).mono ?_
  rintro e w0 ⟨rfl, hk0⟩
  have H1 := H0.keeps0 hk0
  have hB0 := keeps_below (B := B) hk0 (by simp) h.le
  clear h H0
  generalize bCellsI (.slice aL es.length cL) Wv n = cs at *
  rw [← hN] at hcs H1
  have HS := Lib.hid (show OutRel w B wb cs (.slice aL vs.length cL) vs F (.int .i64 0) w0 from ⟨0, es, by omega, rfl, HV.out.symm, fun j e hj => by omega, H1, hB0⟩)
  clear H1 hB0 hk0 HV
  have hes' : vs.length ≤ 900000 := by omega
  clear hN hes
  go_wp2
  go_loopw [3] (fun i wr => OutRel w B wb cs (.slice aL vs.length cL) vs F i wr) (fun i _ => vs.length - (intOf i).toNat)
  case atStart => exact HS.out
  case round =>
    obtain ⟨k, es, hk, rfl, hM⟩ := hrel
    have H := hM.2.2.1
    have c2 := (StrAt.cell (H.get 0 rfl) 0).trans hcs
    by_cases hlt : k < vs.length
    · have hlt' : (k : Int) < (vs.length : Int) := by omega
      have hl : es.length = vs.length := by rw [← hM.1]; simp
      have he : es[k]? = some es[k] := List.getElem?_eq_getElem (by omega)
      generalize es[k] = e at he
      have HR := Lib.hid (show InRel w B wb cs (.slice aL vs.length cL) vs F k e.l.length (.int .i64 0) wr from ⟨0, es, e, by omega, rfl, rfl, he, fun j hj => by omega, hM⟩)
      have hle := e.le
      generalize e.l.length = N at HR hle
      clear hM H he hl
      go_wp2
      clear c2
      go_loopw [4] (fun c wr => InRel w B wb cs (.slice aL vs.length cL) vs F k N c wr) (fun c _ => N - (intOf c).toNat)
      case atStart => exact HR.out
      case round =>
        obtain ⟨q, es, e, hq, hN, rfl, he, hpre, hM⟩ := hrel
        have H := hM.2.2.1
        have c2 := (StrAt.cell (H.get 0 rfl) 0).trans hcs
        obtain ⟨gL, c9, hL, rL⟩ := own_some (H.get 1 rfl) (by omega)
        cases hL
        have hvk : vs[k]? = some e.v := by rw [← hM.1]; simp [he]
        have cv := (rL.cell k (by omega)).trans hvk
        have hr := H.get (2 + k) (ML_get _ _ _ _ _ _ _ _ he)
        by_cases hlq : q < N
        · have hlq' : (q : Int) < (N : Int) := by omega
          obtain ⟨g, cap, hv, hrow⟩ := own_some hr (by omega)
          have cq := hrow.cell q (by omega)
          have fq := hrow.frozen q
          have hx : (ints e.l)[q]? = some (.int .i64 (e.l[q]'(by omega))) := by simp [ints]
          have hM2 := hM.store he hv q (-1 - (k : Int))
          have HR2 := Lib.hid (show InRel w B wb cs (.slice (some ⟨gL, 0, none⟩) vs.length cL) vs F k N (.int .i64 ((q + 1 : Nat) : Int)) (wr.setCell ⟨g, q, none⟩ (.int .i64 (-1 - (k : Int)))) from ⟨q + 1, es.set k ⟨e.v, e.c, e.l.set q (-1 - (k : Int)), by simpa using e.le⟩, ⟨e.v, e.c, e.l.set q (-1 - (k : Int)), by simpa using e.le⟩, by omega, by simpa using hN, rfl, by rw [List.getElem?_set_self (List.getElem?_eq_some_iff.1 he).1], by
            intro j hj
            by_cases e1 : j = q
            · subst e1; simp only; rw [List.getElem?_set_self (by omega)]
            · simp only; rw [List.getElem?_set_ne (by omega)]; exact hpre j (by omega), hM2⟩)
          clear hM2 hM H hrow hr hpre rL
          rw [hv, hN] at cv
          rw [hx] at cq
          generalize e.l[q]'(by omega) = y at *
          clear hv hx he hvk
          go_wp2
          go_roundw
          case rel => exact HR2.out
          case measure => simp [intOf]; omega
        · have hlq' : ¬ (q : Int) < (N : Int) := by omega
          obtain ⟨ao, cap, hv⟩ := own_len hr
          rw [hv, hN] at cv
          have HO := Lib.hid (show OutRel w B wb cs (.slice (some ⟨gL, 0, none⟩) vs.length cL) vs F (.int .i64 ((k + 1 : Nat) : Int)) wr from ⟨k + 1, es, by omega, rfl, hM.1, by
            intro j e' hj he' x hx
            by_cases e1 : j = k
            · subst e1
              rw [he] at he'
              cases he'
              obtain ⟨i, hi, rfl⟩ := List.getElem_of_mem hx
              have := hpre i (by omega)
              rw [List.getElem?_eq_getElem hi] at this
              simpa using this
            · exact hM.2.1 j e' (by omega) he' x hx, hM.2.2⟩)
          clear hM H hr hpre rL hv he hvk
          go_wp2
          go_roundw
          case rel => exact HO.out
          case measure => simp [intOf]; omega
    · have hlt' : ¬ (k : Int) < (vs.length : Int) := by omega
      obtain rfl : k = vs.length := by omega
      have hm := hM.2.1
      have hB := hM.2.2.2
      have hev := hM.1
      have hP0 := Lib.hid (show PRel w B wb cs (.slice aL vs.length cL) vs es F (.slice none 0 0) (.int .i64 0) wr from by
        obtain ⟨G, hG⟩ := H.cons (t' := rowT (.slice none 0 0) 47 1 0 []) (Keeps.refl _ _) (World.ownsRow_nil _ _ _ _) (rowT_nodup ..) (fun k hk => by simp [rowT, Value.ownBlock] at hk)
        refine ⟨0, [], by omega, rfl, rfl, fun j p hp => by simp at hp, ?_, hB⟩
        refine G.perm ?_
        unfold PL ML
        simp only [List.map_nil, List.nil_append, List.drop_zero, List.length_nil]
        exact (List.Perm.swap _ _ _).trans ((List.Perm.swap _ _ _).cons _))
      clear hM H hB
      have hl : es.length = vs.length := by rw [← hev]; simp
      have HM := Lib.hid hm
      have HE := Lib.hid hev
      clear hm hev
      go_wp2
      clear c2
      go_loopw [5, 6] (fun mv i wr => PRel w B wb cs (.slice aL vs.length cL) vs es F mv i wr) (fun _ i _ => vs.length - (intOf i).toNat)
      case atStart => exact hP0.out
      case round =>
        obtain ⟨k, ps, hk, hpl, rfl, hP, H, hB⟩ := hrel
        have c2 := (StrAt.cell (H.get 0 rfl) 0).trans hcs
        by_cases hlt : k < vs.length
        · have hlt' : (k : Int) < (vs.length : Int) := by omega
          obtain ⟨gL, c9, hL, rL⟩ := own_some (H.get 1 rfl) (by omega)
          cases hL
          have hkes : k < es.length := by omega
          have he : es[k]? = some es[k] := List.getElem?_eq_getElem hkes
          have hd : es.drop k = es[k] :: es.drop (k + 1) := List.drop_eq_getElem_cons hkes
          rw [hd] at H
          generalize es[k] = e at he H
          clear hd
          have hvk : vs[k]? = some e.v := by rw [← HE.out]; simp [he]
          have cv := (rL.cell k (by omega)).trans hvk
          have H2 : Has B wr (rowT e.v 3 1 e.l.length (same e.l.length [.int .i64 (-1 - (k : Int))]) :: PL wb cs (.slice (some ⟨gL, 0, none⟩) vs.length cL) u5 vs ps (es.drop (k + 1)) F) := by
            have e1 : ints e.l = same e.l.length [.int .i64 (-1 - (k : Int))] := by
              rw [same1]
              unfold ints
              rw [List.eq_replicate_iff]
              refine ⟨by simp, fun u hu => ?_⟩
              obtain ⟨x, hx, rfl⟩ := List.mem_map.1 hu
              rw [HM.out k e hlt he x hx]
            rw [← e1]
            exact H.perm (perm_take _ _ _ (rowE e.v e.l) _ _ _)
          have hle := e.le
          obtain ⟨av, cv', hv⟩ := own_len (H2.get 0 rfl)
          rw [hv] at cv
          have HQ : ∀ r : Nat, r ≤ 270 → QRel w B wb cs (.slice (some ⟨gL, 0, none⟩) vs.length cL) u5 vs ps (es.drop (k + 1)) F e.v e.l.length (-1 - (k : Int)) e.v (.int .i64 (r : Int)) wr := fun r hr => ⟨e.l.length, r, by omega, rfl, pT_start H2, hB⟩
          rw [hv] at HQ
          have HV := Lib.hid (show vs[k]? = some (.slice av e.l.length cv') by rw [hvk, hv])
          clear hv hvk H2 H he rL hB
          generalize e.l.length = n at *
          have HQ := Lib.hid HQ
          go_wp2
          all_goals
            clear c2 cv
            go_loopw [7, 8] (fun g c wr => QRel w B wb cs (.slice (some ⟨gL, 0, none⟩) vs.length cL) u5 vs ps (es.drop (k + 1)) F (.slice av n cv') n (-1 - (k : Int)) g c wr) (fun _ c _ => (intOf c).toNat)
            case atStart => first | exact HQ.out 270 (by omega) | (have h9 := HQ.out (n + 70) (by omega); rw [show ((n + 70 : Nat) : Int) = (n : Int) + 70 by omega] at h9; exact h9)
            case round =>
              obtain ⟨m, r, hmr, rfl, H, hB⟩ := hrel
              by_cases hr : 0 < r
              · have hr' : 0 < (r : Int) := by omega
                go_wp2_with (refine wp_push_pair H rfl _ _ 47 rfl Tryd.underlying47 info3c rfl (by omega) (by omega) #[.int .i64 (-1 - (k : Int))] rfl rfl (by simp [Value.oneCell']) rfl rfl ?c1 (by simp only; omega) ?_)
                case c1 => simp
                intro g1 w1 H1 hB1
                have HR2 := Lib.hid (show QRel w B wb cs (.slice (some ⟨gL, 0, none⟩) vs.length cL) u5 vs ps (es.drop (k + 1)) F (.slice av n cv') n (-1 - (k : Int)) g1 (.int .i64 ((r - 1 : Nat) : Int)) w1 from ⟨m + 1, r - 1, by omega, rfl, H1, hB.trans hB1⟩)
                have e1 : (r : Int) - 1 = ((r - 1 : Nat) : Int) := by omega
                clear H1 hB1 H hB
                go_wp2
                go_roundw
                case rel => first | exact HR2.out | (rw [e1]; exact HR2.out)
                case measure => simp [intOf]; omega
              · have hr' : ¬ 0 < (r : Int) := by omega
                obtain rfl : r = 0 := by omega
                obtain ⟨ag, cg, hg⟩ := own_len (H.get 0 rfl).2.1
                simp only at hg
                subst hg
                go_wp2_with (refine wp_push rfl _ _ 37 47 (.slice none 0 0) 1 24 rfl Tryd.underlying37 infoS rfl (by omega) (by omega) u5 ps.length (ps.map PI.g) #[.slice ag m cg] rfl rfl (by simp) rfl ?d1 (H.get 3 rfl) ?d2 ?_)
                case d1 => simp [Value.oneCell']
                case d2 => omega
                intro vL w2 hown hkL hfL
                obtain ⟨H2, hB2⟩ := H.row 3 rfl hown hkL hfL
                have HR := Lib.hid (show PRel w B wb cs (.slice (some ⟨gL, 0, none⟩) vs.length cL) vs es F vL (.int .i64 ((k + 1 : Nat) : Int)) w2 from by
                  refine ⟨k + 1, ps ++ [⟨.slice av n cv', .slice ag m cg, n, m, [.int .i64 (-1 - (k : Int))]⟩], by omega, by simp [hpl], rfl, fun j p hp => ?_, ?_, hB.trans hB2⟩
                  · by_cases hj : j < ps.length
                    · rw [List.getElem?_append_left hj] at hp
                      exact hP j p hp
                    · have hj2 : j = k := by have := (List.getElem?_eq_some_iff.1 hp).1; simp at this; omega
                      subst hj2
                      rw [List.getElem?_append_right (by omega), hpl] at hp
                      simp at hp
                      subst hp
                      exact ⟨HV.out, rfl, by show m ≤ _; omega⟩
                  · have := H2.perm (perm_pair _ _ _ _ _ _ _)
                    unfold PL
                    simp only [List.map_append, List.map_cons, List.map_nil, List.length_append, List.length_cons, List.length_nil, hpl, Nat.zero_add]
                    exact this)
                clear H2 hB2 hown hkL hfL H hB
                go_wp2
                go_roundw
                case rel => exact HR.out
                case measure => simp [intOf]; omega
        · have hlt' : ¬ (k : Int) < (vs.length : Int) := by omega
          obtain rfl : k = vs.length := by omega
          obtain ⟨am, cm, hmv⟩ := own_len (H.get 2 rfl)
          subst hmv
          obtain ⟨w3, hw3⟩ : ∃ w3, w3 = wr := ⟨_, rfl⟩
          have hk3 : Keeps [] w3 wr := by rw [hw3]; exact Keeps.refl _ _
          rw [← hw3] at H hB
          clear hw3
          have HF : Hid (Has B w3 F ∧ Below B w w3) := Lib.hid ⟨((H.perm (perm_rest _ _ _ _ _ _)).drops).tail, hB⟩
          have HP := Lib.hid hP
          have HK := Lib.hid hk3
          clear hP hk3 hB
          rw [hpl]
          go_wp2
          clear c2
          go_loopw [9] (fun i wr => ∃ j : Nat, j ≤ vs.length ∧ i = .int .i64 (j : Int) ∧ Keeps [] w3 wr) (fun i _ => vs.length - (intOf i).toNat)
          case atStart => exact ⟨0, by omega, rfl, HK.out⟩
          case round =>
            obtain ⟨j, hj, rfl, hk⟩ := hrel
            by_cases hlj : j < vs.length
            · have hlj' : (j : Int) < (vs.length : Int) := by omega
              have hp : ps[j]? = some (ps[j]'(by omega)) := List.getElem?_eq_getElem (by omega)
              generalize ps[j]'(by omega) = p at hp
              obtain ⟨hvj, hx, hm9⟩ := HP.out j p hp
              have hpt : (pT 3 1 p).P w3 := H.all (pT 3 1 p) (by simp only [PL, List.mem_cons, List.mem_append, List.mem_map]; exact .inr (.inr (.inr (.inl ⟨p, List.mem_of_getElem? hp, rfl⟩))))
              obtain ⟨o1, o2, _⟩ := hpt
              obtain ⟨gL, c9, hL, rL⟩ := own_some (H.get 1 rfl) (by omega)
              cases hL
              obtain ⟨gM, c9, hM9, rM⟩ := own_some (H.get 2 rfl) (by omega)
              cases hM9
              have kL := (rL.cell j (by omega)).trans hvj
              have kM := (rM.cell j (by omega)).trans (show (ps.map PI.g)[j]? = some p.g by simp [hp])
              have k2 := (StrAt.cell (H.get 0 rfl) 0).trans hcs
              obtain ⟨v, g, n, m, x⟩ := p
              simp only at hvj hx hm9 o1 o2 kL kM
              subst hx
              obtain ⟨av, cv, hv⟩ := own_len o1
              subst hv
              obtain ⟨ag, cg, hg⟩ := own_len o2
              subst hg
              clear rL rM hvj hp
              have C3 := Lib.hid (And.intro k2 (And.intro kL kM))
              have c2 := hk.cell k2 (by simp)
              have cM := hk.cell kM (by simp)
              clear k2 kL kM
              have HK := Lib.hid hk
              clear hk
              have hj9 : ¬ ((j : Int) < 0) := by omega
              go_wp2
              clear c2 cM
              go_loopw [10] (fun c wr => ∃ q : Nat, q ≤ m ∧ c = .int .i64 (q : Int) ∧ Keeps [] w3 wr) (fun c _ => m - (intOf c).toNat)
              case atStart => exact ⟨0, by omega, rfl, HK.out⟩
              case round =>
                obtain ⟨q, hq, rfl, hk⟩ := hrel
                have c2 := hk.cell C3.out.1 (by simp)
                have cL1 := hk.cell C3.out.2.1 (by simp)
                have cM := hk.cell C3.out.2.2 (by simp)
                by_cases hqm : q < m
                · have hqm' : (q : Int) < (m : Int) := by omega
                  obtain ⟨b, c9, hb, rb⟩ := own_some o2 (by omega)
                  cases hb
                  have kg := hk.cell ((rb.cell q (by omega)).trans (show (same m [.int .i64 (-1 - (j : Int))])[q]? = some (.int .i64 (-1 - (j : Int))) by rw [same1]; rw [List.getElem?_replicate, if_pos hqm])) (by simp)
                  by_cases hqn : q < n
                  · have hqn' : (q : Int) < (n : Int) := by omega
                    obtain ⟨b', c9, hb, rb'⟩ := own_some o1 (by omega)
                    cases hb
                    have kv := hk.cell ((rb'.cell q (by omega)).trans (show (same n [.int .i64 (-1 - (j : Int))])[q]? = some (.int .i64 (-1 - (j : Int))) by rw [same1]; rw [List.getElem?_replicate, if_pos hqn])) (by simp)
                    clear rb rb'
                    go_wp2
                    go_roundw
                    case rel => exact ⟨q + 1, by omega, by go_num, hk⟩
                    case measure => simp [intOf]; omega
                  · have hqn' : ¬ (q : Int) < (n : Int) := by omega
                    clear rb
                    go_wp2
                    go_roundw
                    case rel => exact ⟨q + 1, by omega, by go_num, hk⟩
                    case measure => simp [intOf]; omega
                · have hqm' : ¬ (q : Int) < (m : Int) := by omega
                  go_wp2
                  go_roundw
                  case rel => exact ⟨j + 1, by omega, by go_num, hk⟩
                  case measure => simp [intOf]; omega
            · have hlj' : ¬ (j : Int) < (vs.length : Int) := by omega
              go_wp2
              go_ret
              exact ⟨rfl, HF.out.1.keeps0 hk, HF.out.2.trans (keeps_below hk (by simp) HF.out.1.le)⟩
end Go.Proofs.YtgcpcgcfpjolnaaDoor.G.NI
-- The book of byte strings: Keep, Settle.
namespace Go.Proofs.YtgcpcgcfpjolnaaDoor.G.NB
open Go.RowKit Go.Proofs.YtgcpcgcfpjolnaaDoorW.PrintWords Go.Proofs.YtgcpcgcfpjolnaaDoorW.PrintLast Go.Proofs.YtgcpcgcfpjolnaaDoorW.PrintMore
set_option linter.unusedVariables false
set_option linter.unusedSimpArgs false
set_option maxRecDepth 10000
theorem same1 (n : Nat) (x : Value) : same n [x] = List.replicate n x := by
  unfold same
  induction n with
  | zero => rfl
  | succ n ih => rw [List.replicate_succ, List.flatten_cons, ih, List.replicate_succ]; rfl
set_option maxHeartbeats 2000000 in
theorem keep_calls {B b : Nat} {F : List Thing} {w : World} {Lv Wv v : Value} {n : Int} {es : List EI} {l : List Int} (h : Has B w (rowE v l :: BL b Lv Wv n es F))
    (hn0 : 0 ≤ n) (hn1 : n ≤ 1000000000000) (hes : es.length ≤ 1000000) (hl : l.length ≤ 2000000) :
    Calls Tryd.prog 25 #[.pointer (some ⟨b, 0, none⟩), v] w (KeepPost F B b n es.length l w) := by
  have hv := h.get 0 rfl
  obtain ⟨ao, c, rfl⟩ := own_len (xs := by8 l) hv
  have H0 := h
  have hiv0 := H0.get 0 rfl
  · go_enter Tryd.func25, Tryd.ntmps25
    go_wp2_with (at_builtin; refine wp_append_any rfl _ _ 22 5 (.int .u8 0) 1 1 rfl Tryd.underlying22 info5c rfl (by omega) (by omega) (.slice none 0 0) 0 [] (.slice ao l.length c) l.length (by8 l) rfl rfl hiv0 (val_one l) (World.ownsRow_nil _ _ _ _) ?c2 ?_)
    case c2 => omega
    intro vc w1 hownc hkc hfc _
    obtain ⟨H1, hB1⟩ := H0.cons (t' := rowE vc l) (by simpa [Value.ownBlock] using hkc) (by simpa [rowE, rowT] using hownc) (rowT_nodup ..) (fun k hk => by have := hfc k (by simpa [rowE, rowT] using hk); simpa [Value.ownBlock] using this)
    clear hownc hkc hfc H0 hiv0 hv
    have hown1 := H1.get 0 rfl
    obtain ⟨ac, cc, rfl⟩ := own_len (xs := by8 l) hown1
    have q2 := StrAt.cell (H1.get 2 rfl) 0
    simp [bCellsB] at q2
    obtain ⟨aL, cL, rfl⟩ := own_len (H1.get 3 rfl)
    go_wp2_with (refine wp_push rfl _ _ 33 22 (.slice none 0 0) 1 24 rfl Tryd.underlying33 infoS rfl (by omega) (by omega) (.slice aL es.length cL) es.length (es.map EI.v) #[.slice ao l.length c] rfl rfl (by simp) rfl ?d1 (H1.get 3 rfl) ?d2 ?_)
    case d1 => simp [Value.oneCell']
    case d2 => omega
    intro vL w2 hownL hkL hfL
    obtain ⟨gL, pL, rfl, _⟩ := own_some hownL (by omega)
    obtain ⟨H2, hB2⟩ := H1.row 3 rfl hownL hkL hfL
    clear hownL hkL hfL H1 hown1 q2
    have q2 := StrAt.cell (H2.get 2 rfl) 0
    have r2 := StrAt.frozen (H2.get 2 rfl) 0
    simp [bCellsB] at q2
    obtain ⟨H3, hB3⟩ := H2.store 2 rfl 0 (.slice (some ⟨gL, 0, none⟩) (es.length + 1) pL)
    have q3 := StrAt.cell (H3.get 2 rfl) 1
    simp [bCellsB] at q3
    obtain ⟨aW, cW, rfl⟩ := own_len (H3.get 4 rfl)
    go_wp2_with (refine wp_push rfl _ _ 33 22 (.slice none 0 0) 1 24 rfl Tryd.underlying33 infoS rfl (by omega) (by omega) (.slice aW es.length cW) es.length (es.map EI.c) #[.slice ac l.length cc] rfl rfl (by simp) rfl ?e1 (H3.get 4 rfl) ?e2 ?_)
    case e1 => simp [Value.oneCell']
    case e2 => omega
    intro vW w3 hownW hkW hfW
    obtain ⟨gW, pW, rfl, _⟩ := own_some hownW (by omega)
    obtain ⟨H4, hB4⟩ := H3.row 4 rfl hownW hkW (fun k e => by simpa using hfW k e)
    clear hownW hkW hfW
    have q4 := StrAt.cell (H4.get 2 rfl) 1
    have r4 := StrAt.frozen (H4.get 2 rfl) 1
    simp [bCellsB] at q4
    obtain ⟨H5, hB5⟩ := H4.store 2 rfl 1 (.slice (some ⟨gW, 0, none⟩) (es.length + 1) pW)
    go_wp2
    go_end0
    refine ⟨rfl, .slice (some ⟨gL, 0, none⟩) (es.length + 1) pL, .slice (some ⟨gW, 0, none⟩) (es.length + 1) pW, n, es ++ [⟨.slice ao l.length c, .slice ac l.length cc, l, hl⟩], ?_, hB1.trans (hB2.trans (hB3.trans (hB4.trans hB5))), hn0, by omega, by simp⟩
    refine H5.perm ?_
    have := perm_keep (rowE (.slice ac l.length cc) l) (rowE (.slice ao l.length c) l) (strT b (bCellsB (.slice (some ⟨gL, 0, none⟩) (es.length + 1) pL) (.slice (some ⟨gW, 0, none⟩) (es.length + 1) pW) n) 35 :: rowT (.slice (some ⟨gL, 0, none⟩) (es.length + 1) pL) 22 1 (es.length + 1) (es.map EI.v ++ [.slice ao l.length c]) :: rowT (.slice (some ⟨gW, 0, none⟩) (es.length + 1) pW) 22 1 (es.length + 1) (es.map EI.c ++ [.slice ac l.length cc]) :: []) (es.map (fun e => rowE e.v e.l)) (es.map fun e => rowE e.c e.l) F
    simp only [BL, List.map_append, List.map_cons, List.map_nil, List.length_append, List.length_cons, List.length_nil]
    exact this
def mk (j : Nat) : Int := 1 + ((j % 251 : Nat) : Int)
theorem mk_lt (j : Nat) : 1 ≤ mk j ∧ mk j ≤ 251 := by unfold mk; omega
def ML (wb : Nat) (cs : Array Value) (Lv : Value) (vs : List Value) (es : List EI) (F : List Thing) : List Thing := strT wb cs 35 :: rowT Lv 22 1 vs.length vs :: (es.map (fun e => rowE e.v e.l) ++ F)
theorem perm_settle {α : Type} (s Lr Wr : α) (V C T : List α) : (s :: Lr :: Wr :: (V ++ (C ++ T))).Perm ((Wr :: C) ++ (s :: Lr :: (V ++ T))) := by
  classical
  rw [List.perm_iff_count]
  intro a
  simp only [List.count_append, List.count_cons, List.count_nil]
  omega
theorem BL_ML {B wb : Nat} {F : List Thing} {w : World} {Lv Wv : Value} {n : Int} {es : List EI} (h : Has B w (BL wb Lv Wv n es F)) : Has B w (ML wb (bCellsB Lv Wv n) Lv (es.map EI.v) es F) := by
  have := (h.perm (perm_settle _ _ _ _ _ _)).drops
  simpa [ML] using this
theorem ML_set (wb : Nat) (cs : Array Value) (Lv : Value) (vs : List Value) (es : List EI) (F : List Thing) (k : Nat) (hk : k < es.length) (e : EI) : (ML wb cs Lv vs es F).set (2 + k) (rowE e.v e.l) = ML wb cs Lv vs (es.set k e) F := by
  unfold ML
  rw [show 2 + k = k + 1 + 1 by omega, List.set_cons_succ, List.set_cons_succ, List.set_append_left _ _ (by simpa using hk), List.map_set]
theorem ML_get (wb : Nat) (cs : Array Value) (Lv : Value) (vs : List Value) (es : List EI) (F : List Thing) (k : Nat) (e : EI) (he : es[k]? = some e) : (ML wb cs Lv vs es F)[2 + k]? = some (rowE e.v e.l) := by
  have hk := (List.getElem?_eq_some_iff.1 he).1
  unfold ML
  rw [show 2 + k = k + 1 + 1 by omega, List.getElem?_cons_succ, List.getElem?_cons_succ, List.getElem?_append_left (by simpa using hk)]
  simp [he]
/-- the lists below the k-th hold their marks -/
def Marked (k : Nat) (es : List EI) : Prop := ∀ (j : Nat) (e : EI), j < k → es[j]? = some e → ∀ x ∈ e.l, x = mk j
def MRel (w : World) (B wb : Nat) (cs : Array Value) (Lv : Value) (vs : List Value) (F : List Thing) (k : Nat) (es : List EI) (wr : World) : Prop :=
  es.map EI.v = vs ∧ Marked k es ∧ Has B wr (ML wb cs Lv vs es F) ∧ Below B w wr
def SettlePost (B : Nat) (F : List Thing) (w : World) (e : Ending) (w' : World) : Prop :=
  e = .returned (.bool true) ∧ Has B w' F ∧ Below B w w'
theorem int_lit (x : Int) : Value.int .i64 x = .int .i64 x := rfl
/-- one cell of the k-th list is marked -/
theorem MRel.store {w : World} {B wb : Nat} {cs : Array Value} {Lv : Value} {vs : List Value} {F : List Thing} {k : Nat} {es : List EI} {wr : World} (h : MRel w B wb cs Lv vs F k es wr)
    {e : EI} (he : es[k]? = some e) {g cap : Nat} (hv : e.v = .slice (some ⟨g, 0, none⟩) e.l.length cap) (q : Nat) (x : Int) :
    MRel w B wb cs Lv vs F k (es.set k ⟨e.v, e.c, e.l.set q x, by simpa using e.le⟩) (wr.setCell ⟨g, q, none⟩ (.int .u8 x)) := by
  obtain ⟨h1, h2, h3, h4⟩ := h
  have hk := (List.getElem?_eq_some_iff.1 he).1
  have ht : (ML wb cs Lv vs es F)[2 + k]? = some (rowT (.slice (some ⟨g, 0, none⟩) e.l.length cap) 5 1 e.l.length (by8 e.l)) := by rw [ML_get _ _ _ _ _ _ _ _ he, hv]; rfl
  obtain ⟨H1, hB1⟩ := h3.storeRow (2 + k) ht q (.int .u8 x)
  refine ⟨?_, ?_, ?_, h4.trans hB1⟩
  · rw [List.map_set]
    refine Eq.trans ?_ h1
    refine List.ext_getElem? fun i => ?_
    by_cases e1 : i = k
    · subst e1; simp [hk]; rw [(List.getElem?_eq_some_iff.1 he).2]
    · rw [List.getElem?_set_ne (by omega)]
  · intro j e' hj he'
    rw [List.getElem?_set_ne (by omega)] at he'
    exact h2 j e' hj he'
  · rw [← ML_set _ _ _ _ _ _ _ hk]
    have e2 : rowE e.v (e.l.set q x) = rowT (.slice (some ⟨g, 0, none⟩) e.l.length cap) 5 1 e.l.length ((by8 e.l).set q (.int .u8 x)) := by
      rw [hv]
      simp [rowE, by8, List.map_set]
    show Has B _ ((ML wb cs Lv vs es F).set (2 + k) (rowE e.v (e.l.set q x)))
    rw [e2]
    exact H1
/-- the rounds within the k-th list -/
def InRel (w : World) (B wb : Nat) (cs : Array Value) (Lv : Value) (vs : List Value) (F : List Thing) (k N : Nat) (c : Value) (wr : World) : Prop :=
  ∃ (q : Nat) (es : List EI) (e : EI), q ≤ N ∧ e.l.length = N ∧ c = .int .i64 (q : Int) ∧ es[k]? = some e ∧ (∀ j, j < q → e.l[j]? = some (mk k)) ∧ MRel w B wb cs Lv vs F k es wr
/-- the rounds over the lists -/
def OutRel (w : World) (B wb : Nat) (cs : Array Value) (Lv : Value) (vs : List Value) (F : List Thing) (i : Value) (wr : World) : Prop :=
  ∃ (k : Nat) (es : List EI), k ≤ vs.length ∧ i = .int .i64 (k : Int) ∧ MRel w B wb cs Lv vs F k es wr
/-- the lists that have been lengthened -/
def PL (wb : Nat) (cs : Array Value) (Lv mv : Value) (vs : List Value) (ps : List PI) (es : List EI) (F : List Thing) : List Thing :=
  strT wb cs 35 :: rowT Lv 22 1 vs.length vs :: rowT mv 22 1 ps.length (ps.map PI.g) :: (ps.map (pT 5 1) ++ (es.map (fun e => rowE e.v e.l) ++ F))
def Paired (vs : List Value) (ps : List PI) : Prop := ∀ (j : Nat) (p : PI), ps[j]? = some p → vs[j]? = some p.v ∧ p.x = [.int .u8 (mk j)] ∧ p.m ≤ 4000070 ∧ p.n ≤ 2000000
def PRel (w : World) (B wb : Nat) (cs : Array Value) (Lv : Value) (vs : List Value) (es : List EI) (F : List Thing) (mv i : Value) (wr : World) : Prop :=
  ∃ (k : Nat) (ps : List PI), k ≤ vs.length ∧ ps.length = k ∧ i = .int .i64 (k : Int) ∧ Paired vs ps ∧ Has B wr (PL wb cs Lv mv vs ps (es.drop k) F) ∧ Below B w wr
def QRel (w : World) (B wb : Nat) (cs : Array Value) (Lv mv : Value) (vs : List Value) (ps : List PI) (es : List EI) (F : List Thing) (v : Value) (n N2 : Nat) (x : Int) (g : Value) (wr : World) : Prop :=
  ∃ (m : Nat), m ≤ N2 ∧ Has B wr (pT 5 1 ⟨v, g, n, m, [.int .u8 x]⟩ :: PL wb cs Lv mv vs ps es F) ∧ Below B w wr
theorem perm_pair {α : Type} (s Lr M p : α) (P E F : List α) : (p :: s :: Lr :: M :: (P ++ (E ++ F))).Perm (s :: Lr :: M :: ((P ++ [p]) ++ (E ++ F))) := by
  classical
  rw [List.perm_iff_count]
  intro a
  simp only [List.count_append, List.count_cons, List.count_nil]
  omega
theorem perm_rest {α : Type} (s Lr M : α) (P E F : List α) : (s :: Lr :: M :: (P ++ (E ++ F))).Perm ((Lr :: M :: (P ++ E)) ++ (s :: F)) := by
  classical
  rw [List.perm_iff_count]
  intro a
  simp only [List.count_append, List.count_cons, List.count_nil]
  omega
theorem perm_take {α : Type} (s Lr M p : α) (P E F : List α) : (s :: Lr :: M :: (P ++ ((p :: E) ++ F))).Perm (p :: s :: Lr :: M :: (P ++ (E ++ F))) := by
  classical
  rw [List.perm_iff_count]
  intro a
  simp only [List.count_append, List.count_cons, List.count_nil]
  omega

set_option maxHeartbeats 4000000 in
theorem settle_calls {B wb : Nat} {F : List Thing} {w : World} {Lv Wv : Value} {n : Int} {es : List EI} (h : Has B w (BL wb Lv Wv n es F)) (hes : es.length ≤ 900000) :
    Calls Tryd.prog 28 #[.pointer (some ⟨wb, 0, none⟩)] w (SettlePost B F w) := by
  have H0 := BL_ML h
  obtain ⟨aL, cL, rfl⟩ := own_len (h.get 1 rfl)
  have hcs : (bCellsB (.slice aL es.length cL) Wv n)[0]? = some (.slice aL es.length cL) := by simp [bCellsB]
  obtain ⟨vs, hvs⟩ : ∃ vs, vs = es.map EI.v := ⟨_, rfl⟩
  have hN : vs.length = es.length := by simp [hvs]
  rw [← hvs] at H0
  have HV := Lib.hid hvs
  clear hvs
  go_enter Tryd.func28, Tryd.ntmps28
  go_wp2_with fail
  refine (untouched_calls h (by omega)).mono ?_
  rintro e w0 ⟨rfl, hk0⟩
  have H1 := H0.keeps0 hk0
  have hB0 := keeps_below (B := B) hk0 (by simp) h.le
  clear h H0
  generalize bCellsB (.slice aL es.length cL) Wv n = cs at *
  rw [← hN] at hcs H1
  have HS := Lib.hid (show OutRel w B wb cs (.slice aL vs.length cL) vs F (.int .i64 0) w0 from ⟨0, es, by omega, rfl, HV.out.symm, fun j e hj => by omega, H1, hB0⟩)
  clear H1 hB0 hk0 HV
  have hes' : vs.length ≤ 900000 := by omega
  clear hN hes
  go_wp2
  go_loopw [3] (fun i wr => OutRel w B wb cs (.slice aL vs.length cL) vs F i wr) (fun i _ => vs.length - (intOf i).toNat)
  case atStart => exact HS.out
  case round =>
    obtain ⟨k, es, hk, rfl, hM⟩ := hrel
    have H := hM.2.2.1
    have c2 := (StrAt.cell (H.get 0 rfl) 0).trans hcs
    by_cases hlt : k < vs.length
    · have hlt' : (k : Int) < (vs.length : Int) := by omega
      have hl : es.length = vs.length := by rw [← hM.1]; simp
      have he : es[k]? = some es[k] := List.getElem?_eq_getElem (by omega)
      generalize es[k] = e at he
      have HR := Lib.hid (show InRel w B wb cs (.slice aL vs.length cL) vs F k e.l.length (.int .i64 0) wr from ⟨0, es, e, by omega, rfl, rfl, he, fun j hj => by omega, hM⟩)
      have hle := e.le
      generalize e.l.length = N at HR hle
      clear hM H he hl
      go_wp2
      clear c2
      go_loopw [4] (fun c wr => InRel w B wb cs (.slice aL vs.length cL) vs F k N c wr) (fun c _ => N - (intOf c).toNat)
      case atStart => exact HR.out
      case round =>
        obtain ⟨q, es, e, hq, hN, rfl, he, hpre, hM⟩ := hrel
        have H := hM.2.2.1
        have c2 := (StrAt.cell (H.get 0 rfl) 0).trans hcs
        obtain ⟨gL, c9, hL, rL⟩ := own_some (H.get 1 rfl) (by omega)
        cases hL
        have hvk : vs[k]? = some e.v := by rw [← hM.1]; simp [he]
        have cv := (rL.cell k (by omega)).trans hvk
        have hr := H.get (2 + k) (ML_get _ _ _ _ _ _ _ _ he)
        by_cases hlq : q < N
        · have hlq' : (q : Int) < (N : Int) := by omega
          obtain ⟨g, cap, hv, hrow⟩ := own_some hr (by omega)
          have cq := hrow.cell q (by omega)
          have fq := hrow.frozen q
          have hx : (by8 e.l)[q]? = some (.int .u8 (e.l[q]'(by omega))) := by simp [by8]
          have hM2 := hM.store he hv q (mk k)
          have HR2 := Lib.hid (show InRel w B wb cs (.slice (some ⟨gL, 0, none⟩) vs.length cL) vs F k N (.int .i64 ((q + 1 : Nat) : Int)) (wr.setCell ⟨g, q, none⟩ (.int .u8 (mk k))) from ⟨q + 1, es.set k ⟨e.v, e.c, e.l.set q (mk k), by simpa using e.le⟩, ⟨e.v, e.c, e.l.set q (mk k), by simpa using e.le⟩, by omega, by simpa using hN, rfl, by rw [List.getElem?_set_self (List.getElem?_eq_some_iff.1 he).1], by
            intro j hj
            by_cases e1 : j = q
            · subst e1; simp only; rw [List.getElem?_set_self (by omega)]
            · simp only; rw [List.getElem?_set_ne (by omega)]; exact hpre j (by omega), hM2⟩)
          clear hM2 hM H hrow hr hpre rL
          rw [hv, hN] at cv
          rw [hx] at cq
          generalize e.l[q]'(by omega) = y at *
          clear hv hx he hvk
          have t1 : (k : Int).tmod 251 = (k : Int) % 251 := Int.tmod_eq_emod_of_nonneg (by omega)
          have t2 : (1 : Int) + (k : Int) % 251 = mk k := by unfold mk; omega
          have t3 : (mk k) % 256 = mk k := by have := mk_lt k; omega
          have t4 : IntKind.i64.wrap (mk k) = mk k := IntWalk.i64_in _ (by have := mk_lt k; omega)
          go_wp2
          go_roundw
          case rel => exact HR2.out
          case measure => simp [intOf]; omega
        · have hlq' : ¬ (q : Int) < (N : Int) := by omega
          obtain ⟨ao, cap, hv⟩ := own_len hr
          rw [hv, hN] at cv
          have HO := Lib.hid (show OutRel w B wb cs (.slice (some ⟨gL, 0, none⟩) vs.length cL) vs F (.int .i64 ((k + 1 : Nat) : Int)) wr from ⟨k + 1, es, by omega, rfl, hM.1, by
            intro j e' hj he' x hx
            by_cases e1 : j = k
            · subst e1
              rw [he] at he'
              cases he'
              obtain ⟨i, hi, rfl⟩ := List.getElem_of_mem hx
              have := hpre i (by omega)
              rw [List.getElem?_eq_getElem hi] at this
              simpa using this
            · exact hM.2.1 j e' (by omega) he' x hx, hM.2.2⟩)
          clear hM H hr hpre rL hv he hvk
          go_wp2
          go_roundw
          case rel => exact HO.out
          case measure => simp [intOf]; omega
    · have hlt' : ¬ (k : Int) < (vs.length : Int) := by omega
      obtain rfl : k = vs.length := by omega
      have hm := hM.2.1
      have hB := hM.2.2.2
      have hev := hM.1
      have hP0 := Lib.hid (show PRel w B wb cs (.slice aL vs.length cL) vs es F (.slice none 0 0) (.int .i64 0) wr from by
        obtain ⟨G, hG⟩ := H.cons (t' := rowT (.slice none 0 0) 22 1 0 []) (Keeps.refl _ _) (World.ownsRow_nil _ _ _ _) (rowT_nodup ..) (fun k hk => by simp [rowT, Value.ownBlock] at hk)
        refine ⟨0, [], by omega, rfl, rfl, fun j p hp => by simp at hp, ?_, hB⟩
        refine G.perm ?_
        unfold PL ML
        simp only [List.map_nil, List.nil_append, List.drop_zero, List.length_nil]
        exact (List.Perm.swap _ _ _).trans ((List.Perm.swap _ _ _).cons _))
      clear hM H hB
      have hl : es.length = vs.length := by rw [← hev]; simp
      have HM := Lib.hid hm
      have HE := Lib.hid hev
      clear hm hev
      go_wp2
      clear c2
      go_loopw [5, 6] (fun mv i wr => PRel w B wb cs (.slice aL vs.length cL) vs es F mv i wr) (fun _ i _ => vs.length - (intOf i).toNat)
      case atStart => exact hP0.out
      case round =>
        obtain ⟨k, ps, hk, hpl, rfl, hP, H, hB⟩ := hrel
        have c2 := (StrAt.cell (H.get 0 rfl) 0).trans hcs
        by_cases hlt : k < vs.length
        · have hlt' : (k : Int) < (vs.length : Int) := by omega
          obtain ⟨gL, c9, hL, rL⟩ := own_some (H.get 1 rfl) (by omega)
          cases hL
          have hkes : k < es.length := by omega
          have he : es[k]? = some es[k] := List.getElem?_eq_getElem hkes
          have hd : es.drop k = es[k] :: es.drop (k + 1) := List.drop_eq_getElem_cons hkes
          rw [hd] at H
          generalize es[k] = e at he H
          clear hd
          have hvk : vs[k]? = some e.v := by rw [← HE.out]; simp [he]
          have cv := (rL.cell k (by omega)).trans hvk
          have H2 : Has B wr (rowT e.v 5 1 e.l.length (same e.l.length [.int .u8 (mk k)]) :: PL wb cs (.slice (some ⟨gL, 0, none⟩) vs.length cL) u5 vs ps (es.drop (k + 1)) F) := by
            have e1 : by8 e.l = same e.l.length [.int .u8 (mk k)] := by
              rw [same1]
              unfold by8
              rw [List.eq_replicate_iff]
              refine ⟨by simp, fun u hu => ?_⟩
              obtain ⟨x, hx, rfl⟩ := List.mem_map.1 hu
              rw [HM.out k e hlt he x hx]
            rw [← e1]
            exact H.perm (perm_take _ _ _ (rowE e.v e.l) _ _ _)
          have hle := e.le
          obtain ⟨av, cv', hv⟩ := own_len (H2.get 0 rfl)
          rw [hv] at cv
          have HQ : ∀ N2, e.l.length ≤ N2 → QRel w B wb cs (.slice (some ⟨gL, 0, none⟩) vs.length cL) u5 vs ps (es.drop (k + 1)) F e.v e.l.length N2 (mk k) e.v wr := fun N2 hr => ⟨e.l.length, hr, pT_start H2, hB⟩
          rw [hv] at HQ
          have HV := Lib.hid (show vs[k]? = some (.slice av e.l.length cv') by rw [hvk, hv])
          clear hv hvk H2 H he rL hB
          generalize e.l.length = n at *
          obtain ⟨Na, hNa⟩ : ∃ Na, Na = 2 * n := ⟨_, rfl⟩
          obtain ⟨N2, hN2⟩ : ∃ N2, N2 = 2 * n + 70 := ⟨_, rfl⟩
          have HQ := Lib.hid (HQ N2 (by omega))
          have a1 : (2 : Int) * (n : Int) = (Na : Int) := by omega
          have a2 : (Na : Int) + 70 = (N2 : Int) := by omega
          have a3 : IntKind.i64.wrap (Na : Int) = (Na : Int) := IntWalk.i64_in _ (by omega)
          have a4 : IntKind.i64.wrap (N2 : Int) = (N2 : Int) := IntWalk.i64_in _ (by omega)
          have hN2b : N2 ≤ 4000070 := by omega
          clear hNa hN2
          have t1 : (k : Int).tmod 251 = (k : Int) % 251 := Int.tmod_eq_emod_of_nonneg (by omega)
          have t2 : (1 : Int) + (k : Int) % 251 = mk k := by unfold mk; omega
          have t3 : (mk k) % 256 = mk k := by have := mk_lt k; omega
          have t4 : IntKind.i64.wrap (mk k) = mk k := IntWalk.i64_in _ (by have := mk_lt k; omega)
          go_wp2
          clear c2 cv
          go_loopw [7] (fun g wr => QRel w B wb cs (.slice (some ⟨gL, 0, none⟩) vs.length cL) u5 vs ps (es.drop (k + 1)) F (.slice av n cv') n N2 (mk k) g wr) (fun g _ => N2 - lenV g)
          case atStart => exact HQ.out
          case round =>
            obtain ⟨m, hmN, H, hB⟩ := hrel
            obtain ⟨ag, cg, hg⟩ := own_len (H.get 0 rfl).2.1
            simp only at hg
            subst hg
            by_cases hr : m < N2
            · have hr' : (m : Int) < (N2 : Int) := by omega
              go_wp2_with (refine wp_push_pair H rfl _ _ 22 rfl Tryd.underlying22 info5c rfl (by omega) (by omega) #[.int .u8 (mk k)] rfl rfl (by simp [Value.oneCell']) rfl rfl ?c1 (by simp only; omega) ?_)
              case c1 => simp
              intro g1 w1 H1 hB1
              obtain ⟨ag1, cg1, hg1⟩ := own_len (H1.get 0 rfl).2.1
              simp only at hg1
              subst hg1
              have HR2 := Lib.hid (show QRel w B wb cs (.slice (some ⟨gL, 0, none⟩) vs.length cL) u5 vs ps (es.drop (k + 1)) F (.slice av n cv') n N2 (mk k) (.slice ag1 (m + 1) cg1) w1 from ⟨m + 1, by omega, H1, hB.trans hB1⟩)
              clear H1 hB1 H hB
              go_wp2
              go_roundw
              case rel => exact HR2.out
              case measure => simp [lenV]; omega
            · have hr' : ¬ (m : Int) < (N2 : Int) := by omega
              go_wp2_with (refine wp_push rfl _ _ 33 22 (.slice none 0 0) 1 24 rfl Tryd.underlying33 infoS rfl (by omega) (by omega) u5 ps.length (ps.map PI.g) #[.slice ag m cg] rfl rfl (by simp) rfl ?d1 (H.get 3 rfl) ?d2 ?_)
              case d1 => simp [Value.oneCell']
              case d2 => omega
              intro vL w2 hown hkL hfL
              obtain ⟨H2, hB2⟩ := H.row 3 rfl hown hkL hfL
              have HR := Lib.hid (show PRel w B wb cs (.slice (some ⟨gL, 0, none⟩) vs.length cL) vs es F vL (.int .i64 ((k + 1 : Nat) : Int)) w2 from by
                refine ⟨k + 1, ps ++ [⟨.slice av n cv', .slice ag m cg, n, m, [.int .u8 (mk k)]⟩], by omega, by simp [hpl], rfl, fun j p hp => ?_, ?_, hB.trans hB2⟩
                · by_cases hj : j < ps.length
                  · rw [List.getElem?_append_left hj] at hp
                    exact hP j p hp
                  · have hj2 : j = k := by have := (List.getElem?_eq_some_iff.1 hp).1; simp at this; omega
                    subst hj2
                    rw [List.getElem?_append_right (by omega), hpl] at hp
                    simp at hp
                    subst hp
                    exact ⟨HV.out, rfl, by show m ≤ _; omega, by show n ≤ _; omega⟩
                · have := H2.perm (perm_pair _ _ _ _ _ _ _)
                  unfold PL
                  simp only [List.map_append, List.map_cons, List.map_nil, List.length_append, List.length_cons, List.length_nil, hpl, Nat.zero_add]
                  exact this)
              clear H2 hB2 hown hkL hfL H hB
              go_wp2
              go_roundw
              case rel => exact HR.out
              case measure => simp [intOf]; omega
        · have hlt' : ¬ (k : Int) < (vs.length : Int) := by omega
          obtain rfl : k = vs.length := by omega
          obtain ⟨am, cm, hmv⟩ := own_len (H.get 2 rfl)
          subst hmv
          obtain ⟨w3, hw3⟩ : ∃ w3, w3 = wr := ⟨_, rfl⟩
          have hk3 : Keeps [] w3 wr := by rw [hw3]; exact Keeps.refl _ _
          rw [← hw3] at H hB
          clear hw3
          have HF : Hid (Has B w3 F ∧ Below B w w3) := Lib.hid ⟨((H.perm (perm_rest _ _ _ _ _ _)).drops).tail, hB⟩
          have HP := Lib.hid hP
          have HK := Lib.hid hk3
          clear hP hk3 hB
          rw [hpl]
          go_wp2
          clear c2
          go_loopw [9] (fun i wr => ∃ j : Nat, j ≤ vs.length ∧ i = .int .i64 (j : Int) ∧ Keeps [] w3 wr) (fun i _ => vs.length - (intOf i).toNat)
          case atStart => exact ⟨0, by omega, rfl, HK.out⟩
          case round =>
            obtain ⟨j, hj, rfl, hk⟩ := hrel
            by_cases hlj : j < vs.length
            · have hlj' : (j : Int) < (vs.length : Int) := by omega
              have hp : ps[j]? = some (ps[j]'(by omega)) := List.getElem?_eq_getElem (by omega)
              generalize ps[j]'(by omega) = p at hp
              obtain ⟨hvj, hx, hm9, hn9⟩ := HP.out j p hp
              have hpt : (pT 5 1 p).P w3 := H.all (pT 5 1 p) (by simp only [PL, List.mem_cons, List.mem_append, List.mem_map]; exact .inr (.inr (.inr (.inl ⟨p, List.mem_of_getElem? hp, rfl⟩))))
              obtain ⟨o1, o2, _⟩ := hpt
              obtain ⟨gL, c9, hL, rL⟩ := own_some (H.get 1 rfl) (by omega)
              cases hL
              obtain ⟨gM, c9, hM9, rM⟩ := own_some (H.get 2 rfl) (by omega)
              cases hM9
              have kL := (rL.cell j (by omega)).trans hvj
              have kM := (rM.cell j (by omega)).trans (show (ps.map PI.g)[j]? = some p.g by simp [hp])
              have k2 := (StrAt.cell (H.get 0 rfl) 0).trans hcs
              obtain ⟨v, g, n, m, x⟩ := p
              simp only at hvj hx hm9 hn9 o1 o2 kL kM
              subst hx
              rw [same1, show List.replicate n (Value.int .u8 (mk j)) = by8 (List.replicate n (mk j)) by simp [by8]] at o1
              rw [same1, show List.replicate m (Value.int .u8 (mk j)) = by8 (List.replicate m (mk j)) by simp [by8]] at o2
              have HO1 := Lib.hid (show ∀ W, Keeps [] w3 W → Calls Tryd.prog 76 #[v, .int .u8 (mk j)] W fun e w' => e = .returned (.bool true) ∧ Keeps [] W w' from fun W hk9 => only_calls (ownsRow_keeps o1 hk9 (by simp)) (by omega))
              have HO2 := Lib.hid (show ∀ W, Keeps [] w3 W → Calls Tryd.prog 76 #[g, .int .u8 (mk j)] W fun e w' => e = .returned (.bool true) ∧ Keeps [] W w' from fun W hk9 => only_calls (ownsRow_keeps o2 hk9 (by simp)) (by omega))
              clear o1 o2 rL rM hvj hp
              have c2 := hk.cell k2 (by simp)
              have cL1 := hk.cell kL (by simp)
              have HCM := Lib.hid (show ∀ W, Keeps [] w3 W → W.cell? ⟨gM, j, none⟩ = some g from fun W hk9 => hk9.cell kM (by simp))
              clear k2 kL kM
              have HK := Lib.hid hk
              clear hk
              have hj9 : ¬ ((j : Int) < 0) := by omega
              have t1 : (j : Int).tmod 251 = (j : Int) % 251 := Int.tmod_eq_emod_of_nonneg (by omega)
              have t2 : (1 : Int) + (j : Int) % 251 = mk j := by unfold mk; omega
              have t3 : (mk j) % 256 = mk j := by have := mk_lt j; omega
              have t4 : IntKind.i64.wrap (mk j) = mk j := IntWalk.i64_in _ (by have := mk_lt j; omega)
              go_wp2_with (first | (have _z := K5; clear _z; go_at_call 76; refine (HO2.out _ K5.out).mono ?_; rintro e w6 ⟨rfl, k6⟩; have K6 := Lib.hid (K5.out.trans' k6); clear k6) | (go_at_call 76; refine (HO1.out _ HK.out).mono ?_; rintro e w5 ⟨rfl, k5⟩; have K5 := Lib.hid (HK.out.trans' k5); have cM := HCM.out _ K5.out; clear k5 c2 cL1))
              go_roundw
              case rel => exact ⟨j + 1, by omega, by go_num, K6.out⟩
              case measure => simp [intOf]; omega
            · have hlj' : ¬ (j : Int) < (vs.length : Int) := by omega
              have c2 := hk.cell ((StrAt.cell (H.get 0 rfl) 0).trans hcs) (by simp)
              go_wp2
              go_ret
              exact ⟨rfl, HF.out.1.keeps0 hk, HF.out.2.trans (keeps_below hk (by simp) HF.out.1.le)⟩
end Go.Proofs.YtgcpcgcfpjolnaaDoor.G.NB
