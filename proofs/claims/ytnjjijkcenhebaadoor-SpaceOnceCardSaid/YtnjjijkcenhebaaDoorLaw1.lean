/- The law's world of spaces: what lies in it; its book keeps a list that was handed out. -/
import Derived.Test.YtnjjijkcenhebaaDoorKit3
import Derived.Test.YtnjjijkcenhebaaDoorSpace9
set_option linter.unusedVariables false
set_option linter.unusedSimpArgs false
namespace Go.Proofs.YtnjjijkcenhebaaDoor
open Go.RowKit
set_option maxRecDepth 10000
theorem info35 : (Tryd.prog.info? 35).map (fun i => (i.zero, i.size, i.bytes)) = some (some (.pointer none), 1, 8) := by kernel_rfl
theorem info36 : (Tryd.prog.info? 36).map (fun i => (i.zero, i.size, i.bytes)) = some (some (.pointer none), 1, 8) := by kernel_rfl
theorem info49 : (Tryd.prog.info? 49).map (fun i => (i.zero, i.size, i.bytes)) = some (some (.slice none 0 0), 1, 24) := by kernel_rfl

theorem Sp.local {w w' : World} {b g cap fr to : Nat} {is : List Bool} (h : Sp w b g cap fr to is) (hk : ∀ k ∈ [b, g], w'.heap[k]? = w.heap[k]?) : Sp w' b g cap fr to is := by
  obtain ⟨free, low, ws, h⟩ := h
  exact ⟨free, low, ws, h.inv, (hk b (by simp)).trans h.blk, ownsRow_local h.row fun k e => by cases e; exact hk g (by simp), h.ne, h.b0, h.g0, h.lt, h.le⟩
theorem Rf.local {w w' : World} {b g cap fr to : Nat} {is : List Bool} (h : Rf w b g cap fr to is) (hk : ∀ k ∈ [b, g], w'.heap[k]? = w.heap[k]?) : Rf w' b g cap fr to is :=
  ⟨(hk b (by simp)).trans h.blk, ownsRow_local h.row fun k e => by cases e; exact hk g (by simp), h.ne, h.b0, h.g0, h.lt, h.le, h.len⟩

/-- a space, or the document's: where it lies, what is free -/
structure SI where
  b : Nat
  g : Nat
  cap : Nat
  fr : Nat
  to : Nat
  is : List Bool
def spT (x : SI) : Thing where
  fp := [x.b, x.g]
  P := fun w => Sp w x.b x.g x.cap x.fr x.to x.is
  loc := fun h hk => Sp.local h hk
  lt := fun h k hk => by have := Sp.facts h; simp at hk; omega
def rfT (x : SI) : Thing where
  fp := [x.b, x.g]
  P := fun w => Rf w x.b x.g x.cap x.fr x.to x.is
  loc := fun h hk => Rf.local h hk
  lt := fun h k hk => by have := Rf.facts h; simp at hk; omega
def intsT (v : Value) (l : List Int) : Thing := rowT v 3 1 l.length (ints l)
/-- a list of the book, and the copy of it -/
structure EI where
  v : Value
  c : Value
  l : List Int
  le : l.length ≤ 1000000
def ptrs (l : List SI) : List Value := l.map fun x => .pointer (some ⟨x.b, 0, none⟩)
def wCells (Sv Rv Lv Wv : Value) (n : Int) : Array Value := #[Sv, Rv, Lv, Wv, .int .i64 n]
def WL (wb : Nat) (Sv Rv Lv Wv : Value) (n : Int) (ss rs : List SI) (es : List EI) (L : List Thing) : List Thing :=
  strT wb (wCells Sv Rv Lv Wv n) 34 :: rowT Sv 35 1 ss.length (ptrs ss) :: rowT Rv 36 1 rs.length (ptrs rs) :: rowT Lv 49 1 es.length (es.map EI.v) :: rowT Wv 49 1 es.length (es.map EI.c) ::
    (ss.map spT ++ (rs.map rfT ++ (es.map (fun e => intsT e.v e.l) ++ (es.map (fun e => intsT e.c e.l) ++ L))))

theorem perm_keep {α : Type} (c v : α) (H A R V C T : List α) : (c :: v :: (H ++ (A ++ (R ++ (V ++ (C ++ T)))))).Perm (H ++ (A ++ (R ++ ((V ++ [v]) ++ ((C ++ [c]) ++ T))))) := by
  classical
  rw [List.perm_iff_count]
  intro a
  simp only [List.count_append, List.count_cons, List.count_nil]
  omega

def KeepPost (L : List Thing) (B wb : Nat) (Sv Rv : Value) (n : Int) (ss rs : List SI) (ne : Nat) (v : Value) (l : List Int) (w : World) (e : Ending) (w' : World) : Prop :=
  e = .returned (.tuple #[]) ∧ ∃ Lv Wv n' es, Has B w' (WL wb Sv Rv Lv Wv n' ss rs es L) ∧ Below B w w' ∧ n' = n + l.length + 1 ∧ es.length ≤ ne + 1 ∧ IntsAt w' v l

set_option maxHeartbeats 2000000 in
theorem keep_calls {B wb : Nat} {L : List Thing} {w : World} {Sv Rv Lv Wv v : Value} {n : Int} {ss rs : List SI} {es : List EI} {l : List Int} (h : Has B w (intsT v l :: WL wb Sv Rv Lv Wv n ss rs es L))
    (hn0 : 0 ≤ n) (hn1 : n ≤ 1000000000000) (hes : es.length ≤ 1000000) (hl : l.length ≤ 1000000) :
    Calls Tryd.prog 43 #[.pointer (some ⟨wb, 2, none⟩), v] w (KeepPost L B wb Sv Rv n ss rs es.length v l w) := by
  have hs := h.get 1 rfl
  have hv := h.get 0 rfl
  have c4 := StrAt.cell hs 4
  have f4 := StrAt.frozen hs 4
  simp [wCells] at c4
  have hst := h.store 1 rfl 4 (.int .i64 (n + (l.length + 1)))
  by_cases hbig : 200000 < n + (l.length + 1)
  · obtain ⟨ao, c, rfl⟩ := own_len (xs := ints l) hv
    go_enter Tryd.func43, Tryd.ntmps43
    go_wp2
    go_end0
    exact ⟨rfl, Lv, Wv, _, es, hst.1.tail, hst.2, by omega, by omega, hst.1.get 0 rfl⟩
  · have hbig' : ¬ 200000 < n + ((l.length : Int) + 1) := hbig
    have hiv : IntsAt w v l := hv
    obtain ⟨ao, c, rfl⟩ := own_len (xs := ints l) hv
    have hB0 := hst.2
    have H0 : Has B (w.setCell ⟨wb, 4, none⟩ (.int .i64 (n + (l.length + 1)))) (intsT (.slice ao l.length c) l :: WL wb Sv Rv Lv Wv (n + (l.length + 1)) ss rs es L) := hst.1
    clear hst
    have hiv0 := H0.get 0 rfl
    go_enter Tryd.func43, Tryd.ntmps43
    go_wp2_with (at_builtin; refine wp_append_any rfl _ _ 49 3 (.int .i64 0) 1 8 rfl Tryd.underlying49 info3 rfl (by omega) (by omega) (.slice none 0 0) 0 [] (.slice ao l.length c) l.length (ints l) rfl rfl hiv0 ?c1 (World.ownsRow_nil _ _ _ _) ?c2 ?_)
    case c1 => intro u hu; simp [ints] at hu; obtain ⟨x, _, rfl⟩ := hu; rfl
    case c2 => omega
    intro vc w1 hownc hkc hfc _
    obtain ⟨H1, hB1⟩ := H0.cons (t' := intsT vc l) (by simpa [Value.ownBlock] using hkc) (by simpa [intsT, rowT] using hownc) (rowT_nodup ..) (fun k hk => by have := hfc k (by simpa [intsT, rowT] using hk); simpa [Value.ownBlock] using this)
    clear hownc hkc hfc H0 hiv0 hiv hv hs c4 f4
    have hown1 := H1.get 0 rfl
    obtain ⟨ac, cc, rfl⟩ := own_len (xs := ints l) hown1
    have q2 := StrAt.cell (H1.get 2 rfl) 2
    simp [wCells] at q2
    obtain ⟨aL, cL, rfl⟩ := own_len (H1.get 5 rfl)
    go_wp2_with (refine wp_push rfl _ _ 30 49 (.slice none 0 0) 1 24 rfl Tryd.underlying30 info49 rfl (by omega) (by omega) (.slice aL es.length cL) es.length (es.map EI.v) #[.slice ao l.length c] rfl rfl (by simp) rfl ?d1 (H1.get 5 rfl) ?d2 ?_)
    case d1 => simp [Value.oneCell']
    case d2 => omega
    intro vL w2 hownL hkL hfL
    obtain ⟨gL, pL, rfl, _⟩ := own_some hownL (by omega)
    obtain ⟨H2, hB2⟩ := H1.row 5 rfl hownL hkL hfL
    clear hownL hkL hfL H1 hown1 q2
    have q2 := StrAt.cell (H2.get 2 rfl) 2
    have r2 := StrAt.frozen (H2.get 2 rfl) 2
    simp [wCells] at q2
    obtain ⟨H3, hB3⟩ := H2.store 2 rfl 2 (.slice (some ⟨gL, 0, none⟩) (es.length + 1) pL)
    have q3 := StrAt.cell (H3.get 2 rfl) 3
    simp [wCells] at q3
    obtain ⟨aW, cW, rfl⟩ := own_len (H3.get 6 rfl)
    go_wp2_with (refine wp_push rfl _ _ 30 49 (.slice none 0 0) 1 24 rfl Tryd.underlying30 info49 rfl (by omega) (by omega) (.slice aW es.length cW) es.length (es.map EI.c) #[.slice ac l.length cc] rfl rfl (by simp) rfl ?e1 (H3.get 6 rfl) ?e2 ?_)
    case e1 => simp [Value.oneCell']
    case e2 => omega
    intro vW w3 hownW hkW hfW
    obtain ⟨gW, pW, rfl, _⟩ := own_some hownW (by omega)
    obtain ⟨H4, hB4⟩ := H3.row 6 rfl hownW hkW (fun k e => by simpa using hfW k e)
    clear hownW hkW hfW
    have q4 := StrAt.cell (H4.get 2 rfl) 3
    have r4 := StrAt.frozen (H4.get 2 rfl) 3
    simp [wCells] at q4
    obtain ⟨H5, hB5⟩ := H4.store 2 rfl 3 (.slice (some ⟨gW, 0, none⟩) (es.length + 1) pW)
    go_wp2
    go_end0
    refine ⟨rfl, .slice (some ⟨gL, 0, none⟩) (es.length + 1) pL, .slice (some ⟨gW, 0, none⟩) (es.length + 1) pW, n + l.length + 1, es ++ [⟨.slice ao l.length c, .slice ac l.length cc, l, hl⟩], ?_, hB0.trans (hB1.trans (hB2.trans (hB3.trans (hB4.trans hB5)))), rfl, by simp, H5.get 1 rfl⟩
    have e1 : n + ((l.length : Int) + 1) = n + l.length + 1 := by omega
    rw [e1] at H5
    refine H5.perm ?_
    have := perm_keep (intsT (.slice ac l.length cc) l) (intsT (.slice ao l.length c) l) (strT wb (wCells Sv Rv (.slice (some ⟨gL, 0, none⟩) (es.length + 1) pL) (.slice (some ⟨gW, 0, none⟩) (es.length + 1) pW) (n + l.length + 1)) 34 :: rowT Sv 35 1 ss.length (ptrs ss) :: rowT Rv 36 1 rs.length (ptrs rs) :: rowT (.slice (some ⟨gL, 0, none⟩) (es.length + 1) pL) 49 1 (es.length + 1) (es.map EI.v ++ [.slice ao l.length c]) :: rowT (.slice (some ⟨gW, 0, none⟩) (es.length + 1) pW) 49 1 (es.length + 1) (es.map EI.c ++ [.slice ac l.length cc]) :: []) (ss.map spT) (rs.map rfT) (es.map (fun e => intsT e.v e.l)) (es.map fun e => intsT e.c e.l) L
    simp only [WL, List.map_append, List.map_cons, List.map_nil, List.length_append, List.length_cons, List.length_nil]
    exact this
end Go.Proofs.YtnjjijkcenhebaaDoor
