import Derived.Test.YtlcnhhpleiamhaaDoorGx0
import Derived.Test.YtlcnhhpleiamhaaDoorGx2
import Derived.Test.YtlcnhhpleiamhaaDoorGx5
import Derived.Test.YtlcnhhpleiamhaaDoorGx6
import Derived.Lib.IndexLaws
import Derived.Test.YtlcnhhpleiamhaaDoorGxhpathfault
import Derived.Test.YtlcnhhpleiamhaaDoorGx3
import Derived.Test.YtlcnhhpleiamhaaDoorGx4
import Derived.Test.YtlcnhhpleiamhaaDoorGxhkilnlaw5texts
import Derived.Test.YtlcnhhpleiamhaaDoorGx7
import Derived.Test.YtlcnhhpleiamhaaDoorGx8
import Derived.Test.YtlcnhhpleiamhaaDoorGx9
-- Path, the plain law, part 1: bytes, parts, names.
namespace Go.Proofs.YtlcnhhpleiamhaaDoor.G
open Go.RowKit Go.Proofs.YtlcnhhpleiamhaaDoorW.PrintWords Go.Proofs.YtlcnhhpleiamhaaDoorW.PrintLast Go.Proofs.YtlcnhhpleiamhaaDoorW.PrintMore
set_option linter.unusedVariables false
set_option linter.unusedSimpArgs false

abbrev By := List UInt8
def bs (s : ByteArray) : By := s.data.toList
def mk (l : By) : ByteArray := ⟨l.toArray⟩
theorem bs_mk (l : By) : bs (mk l) = l := rfl
theorem mk_bs (s : ByteArray) : mk (bs s) = s := rfl
theorem bs_length (s : ByteArray) : (bs s).length = s.size := Array.length_toList
theorem mk_size (l : By) : (mk l).size = l.length := by rw [← bs_length, bs_mk]
theorem toList_data (s : ByteArray) : s.toList = bs s := Go.Lib.toList_data s
theorem mk_inj {a b : By} (h : mk a = mk b) : a = b := by rw [← bs_mk a, h, bs_mk]
def cI (c : UInt8) : Int := (c.toNat : Int)
theorem cI_inj {a b : UInt8} (h : cI a = cI b) : a = b := by
  have : a.toNat = b.toNat := by unfold cI at h; omega
  exact UInt8.toNat_inj.1 this
theorem cI_bd (c : UInt8) : 0 ≤ cI c ∧ cI c ≤ 255 := by have := c.toNat_lt; unfold cI; omega
theorem cI_eq (c : UInt8) (d : UInt8) : (cI c = cI d) = (c = d) := propext ⟨cI_inj, fun h => by rw [h]⟩
theorem drop_at (s : ByteArray) (i : Int) (h0 : 0 ≤ i) (h : i < (s.size : Int)) : ∃ c, (bs s).drop i.toNat = c :: (bs s).drop (i + 1).toNat ∧ bt s i = cI c := by
  have hi : i.toNat < s.size := by omega
  have hl : i.toNat < (bs s).length := by rw [bs_length]; exact hi
  refine ⟨(bs s)[i.toNat], ?_, ?_⟩
  · rw [show (i + 1).toNat = i.toNat + 1 by omega]
    exact List.drop_eq_getElem_cons hl
  · rw [← bt_at s i hi]; rfl
theorem drop_end (s : ByteArray) (i : Int) (h : (s.size : Int) ≤ i) : (bs s).drop i.toNat = [] := List.drop_eq_nil_of_le (by rw [bs_length]; omega)
theorem bs_extract (s : ByteArray) (a b : Nat) : bs (s.extract a b) = ((bs s).drop a).take (b - a) := by
  unfold bs
  rw [ByteArray.data_extract, Array.toList_extract, List.extract_eq_take_drop]
theorem mk_of (s : ByteArray) (l : By) (h : bs s = l) : s = mk l := by rw [← h, mk_bs]
theorem mk_app (a b : By) : mk a ++ mk b = mk (a ++ b) := by
  apply ByteArray.ext
  rw [ByteArray.data_append]
  exact Array.ext' (by simp [mk])
/-! cut -/
theorem cut_is (a : ByteArray) : kilnlaw5_cut.f a = some (mk ((bs a).take 2000)) := by
  unfold kilnlaw5_cut.f
  by_cases h : (a.size : Int) > 2000
  · rw [if_pos h, if_pos (by decide), if_pos (by omega)]
    congr 1
    exact mk_of _ _ (by rw [bs_extract]; simp)
  · rw [if_neg h, List.take_of_length_le (by rw [bs_length]; omega), mk_bs]
theorem cut_le (a : ByteArray) : (mk ((bs a).take 2000)).size ≤ 2000 := by rw [mk_size, List.length_take]; omega
/-! letters -/
theorem letter_all : ∀ c : Fin 256, path_letter.f (cI (UInt8.ofNat c.val)) = some ((path_letter.f (cI (UInt8.ofNat c.val))).getD false) ∧ kilnref5_may.f (cI (UInt8.ofNat c.val)) = path_letter.f (cI (UInt8.ofNat c.val)) := by decide +kernel
def letB (c : UInt8) : Bool := (path_letter.f (cI c)).getD false
theorem letB_is (c : UInt8) : path_letter.f (cI c) = some (letB c) := by
  have := (letter_all ⟨c.toNat, c.toNat_lt⟩).1
  simp only [UInt8.ofNat_toNat] at this
  exact this
theorem mayB_is (c : UInt8) : kilnref5_may.f (cI c) = some (letB c) := by
  have := (letter_all ⟨c.toNat, c.toNat_lt⟩).2
  simp only [UInt8.ofNat_toNat] at this
  rw [this, letB_is]
/-! parts -/
def partsB : By → List By
  | [] => [[]]
  | c :: l => if c = 47 then [] :: partsB l else match partsB l with
    | [] => [[c]]
    | p :: ps => (c :: p) :: ps
theorem parts_ne : ∀ l, partsB l ≠ [] := by
  intro l
  induction l with
  | nil => simp [partsB]
  | cons c l ih =>
    unfold partsB
    split
    · simp
    · split <;> simp
/-- what stands ahead of the text's first part, put into it -/
def preP (x : By) : List By → List By
  | [] => [x]
  | p :: ps => (x ++ p) :: ps
theorem preP_nil (l : By) : preP [] (partsB l) = partsB l := by
  rcases h : partsB l with _ | ⟨p, ps⟩
  · exact absurd h (parts_ne l)
  · rfl
theorem parts_cons (c : UInt8) (l : By) (h : c ≠ 47) : partsB (c :: l) = preP [c] (partsB l) := by
  rw [partsB, if_neg h]
  rcases partsB l with _ | ⟨p, ps⟩ <;> rfl
theorem preP_preP (x y : By) (l : List By) (h : l ≠ []) : preP x (preP y l) = preP (x ++ y) l := by
  rcases l with _ | ⟨p, ps⟩
  · exact absurd rfl h
  · simp [preP]
theorem parts_pre : ∀ (x l : By), (∀ c ∈ x, c ≠ 47) → partsB (x ++ l) = preP x (partsB l) := by
  intro x
  induction x with
  | nil => intro l _; rw [List.nil_append, preP_nil]
  | cons c x ih =>
    intro l h
    rw [List.cons_append, parts_cons _ _ (h c (by simp)), ih l (fun d hd => h d (List.mem_cons_of_mem _ hd)), preP_preP _ _ _ (parts_ne l)]
    rfl
theorem parts_slash (x l : By) (h : ∀ c ∈ x, c ≠ 47) : partsB (x ++ 47 :: l) = x :: partsB l := by
  rw [parts_pre x _ h, partsB, if_pos rfl]
  simp [preP]
theorem parts_word (x : By) (h : ∀ c ∈ x, c ≠ 47) : partsB x = [x] := by
  have := parts_pre x [] h
  rw [List.append_nil] at this
  rw [this]; simp [partsB, preP]
theorem parts_len : ∀ l, (partsB l).length ≤ l.length + 1 := by
  intro l
  induction l with
  | nil => simp [partsB]
  | cons c l ih =>
    by_cases h : c = 47
    · rw [partsB, if_pos h]; simp; omega
    · rw [parts_cons c l h]
      rcases hp : partsB l with _ | ⟨p, ps⟩
      · exact absurd hp (parts_ne l)
      · rw [hp] at ih; simp [preP] at ih ⊢; omega
theorem parts_mem : ∀ (l : By) p, p ∈ partsB l → (∀ c ∈ p, c ≠ 47) ∧ p.length ≤ l.length := by
  intro l
  induction l with
  | nil => intro p hp; simp [partsB] at hp; subst hp; simp
  | cons c l ih =>
    intro p hp
    by_cases h : c = 47
    · rw [partsB, if_pos h] at hp
      rcases List.mem_cons.1 hp with rfl | hp
      · simp
      · have := ih p hp; exact ⟨this.1, by simp; omega⟩
    · rw [parts_cons c l h] at hp
      rcases hq : partsB l with _ | ⟨q, qs⟩
      · exact absurd hq (parts_ne l)
      · rw [hq] at hp ih
        rcases List.mem_cons.1 hp with rfl | hp
        · have := ih q (by simp)
          refine ⟨fun d hd => ?_, by simp; omega⟩
          rcases List.mem_cons.1 hd with rfl | hd
          · exact h
          · exact this.1 d hd
        · have := ih p (List.mem_cons_of_mem _ hp)
          exact ⟨this.1, by simp; omega⟩
/-- the text of parts -/
def joinP : List By → By
  | [] => []
  | [p] => p
  | p :: q :: ps => p ++ 47 :: joinP (q :: ps)
theorem join_cons (p : By) (ps : List By) (h : ps ≠ []) : joinP (p :: ps) = p ++ 47 :: joinP ps := by
  rcases ps with _ | ⟨q, ps⟩
  · exact absurd rfl h
  · rfl
theorem join_preP (x : By) (l : List By) (h : l ≠ []) : joinP (preP x l) = x ++ joinP l := by
  rcases l with _ | ⟨p, ps⟩
  · exact absurd rfl h
  · rcases ps with _ | ⟨q, ps⟩
    · rfl
    · simp [preP, joinP]
theorem join_parts : ∀ l, joinP (partsB l) = l := by
  intro l
  induction l with
  | nil => rfl
  | cons c l ih =>
    by_cases h : c = 47
    · rw [partsB, if_pos h, join_cons _ _ (parts_ne l), ih, h]; rfl
    · rw [parts_cons c l h, join_preP _ _ (parts_ne l), ih]; rfl
theorem parts_join : ∀ P : List By, P ≠ [] → (∀ p ∈ P, ∀ c ∈ p, c ≠ 47) → partsB (joinP P) = P := by
  intro P
  induction P with
  | nil => intro h; exact absurd rfl h
  | cons p ps ih =>
    intro _ h
    rcases ps with _ | ⟨q, ps⟩
    · exact parts_word p (h p (by simp))
    · rw [join_cons _ _ (by simp), parts_slash p _ (h p (by simp)), ih (by simp) (fun x hx => h x (List.mem_cons_of_mem _ hx))]
theorem parts_inj {a b : By} (h : partsB a = partsB b) : a = b := by rw [← join_parts a, h, join_parts]
/-- Parts, by the document -/
theorem parts_ev (s : ByteArray) (hs : s.size ≤ 1000000000) : ∀ (n : Nat) (out : List ByteArray) (fr i : Int), n = (s.size - i).toNat → 0 ≤ fr → fr ≤ i → i ≤ s.size → (out.length : Int) ≤ fr → (∀ c ∈ ((bs s).drop fr.toNat).take (i - fr).toNat, c ≠ 47) →
    Ev (fun k => kilnref5_Parts.l0 k s out fr i) (out ++ (partsB ((bs s).drop fr.toNat)).map mk) := by
  intro n
  induction n with
  | zero =>
    intro out fr i hn h0 h1 h2 hl hno
    have e : partsB ((bs s).drop fr.toNat) = [(bs s).drop fr.toNat] := by
      refine parts_word _ (fun c hc => hno c ?_)
      rw [List.take_of_length_le (by rw [List.length_drop, bs_length]; omega)]
      exact hc
    have e2 : s.extract fr.toNat s.size = mk ((bs s).drop fr.toNat) := mk_of _ _ (by rw [bs_extract]; exact List.take_of_length_le (by rw [List.length_drop, bs_length]; omega))
    rw [e]
    refine Ev.step (f := fun _ => some (out ++ [mk ((bs s).drop fr.toNat)])) (fun k => ?_) (Ev.now _)
    conv => lhs; unfold kilnref5_Parts.l0
    rw [if_neg (by omega), if_pos h0, if_pos (by omega), if_pos (by omega), e2]
  | succ n ih =>
    intro out fr i hn h0 h1 h2 hl hno
    obtain ⟨c, hd, hb⟩ := drop_at s i (by omega) (by omega)
    have hsplit : (bs s).drop fr.toNat = ((bs s).drop fr.toNat).take (i - fr).toNat ++ (bs s).drop i.toNat := by
      have := (List.take_append_drop (i - fr).toNat ((bs s).drop fr.toNat)).symm
      rw [List.drop_drop, show fr.toNat + (i - fr).toNat = i.toNat by omega] at this
      exact this
    by_cases hc : c = 47
    · subst hc
      have e2 : s.extract fr.toNat i.toNat = mk (((bs s).drop fr.toNat).take (i - fr).toNat) := mk_of _ _ (by rw [bs_extract, show i.toNat - fr.toNat = (i - fr).toNat by omega])
      have := ih (out ++ [mk (((bs s).drop fr.toNat).take (i - fr).toNat)]) (i + 1) (i + 1) (by omega) (by omega) (by omega) (by omega) (by rw [List.length_append, List.length_singleton]; omega) (by simp)
      have hp : partsB ((bs s).drop fr.toNat) = ((bs s).drop fr.toNat).take (i - fr).toNat :: partsB ((bs s).drop (i + 1).toNat) := by
        rw [hd] at hsplit
        have h := parts_slash _ ((bs s).drop (i + 1).toNat) hno
        rw [← hsplit] at h
        exact h
      rw [hp, List.map_cons, ← List.singleton_append, ← List.append_assoc]
      refine Ev.step (f := fun k => kilnref5_Parts.l0 k s (out ++ [mk (((bs s).drop fr.toNat).take (i - fr).toNat)]) (i + 1) (i + 1)) (fun k => ?_) this
      conv => lhs; unfold kilnref5_Parts.l0
      rw [if_pos (by omega), if_pos (by omega), if_pos (by rw [hb]; rfl), if_pos h0, if_pos h1, if_pos (by omega), if_pos (by omega), e2, IntWalk.wrap64_in _ (by omega)]
    · have := ih out fr (i + 1) (by omega) h0 (by omega) (by omega) hl (fun d hd' => by
        rw [show (i + 1 - fr).toNat = (i - fr).toNat + 1 by omega, List.take_add_one, List.getElem?_drop, show fr.toNat + (i - fr).toNat = i.toNat by omega] at hd'
        have e3 : (bs s)[i.toNat]? = some c := by
          have := congrArg List.head? hd
          rw [List.head?_drop] at this
          simpa using this
        rw [e3] at hd'
        rcases List.mem_append.1 hd' with h | h
        · exact hno d h
        · simp at h; rw [h]; exact hc)
      refine Ev.step (f := fun k => kilnref5_Parts.l0 k s out fr (i + 1)) (fun k => ?_) this
      conv => lhs; unfold kilnref5_Parts.l0
      rw [if_pos (by omega), if_pos (by omega), if_neg (by rw [hb]; intro h; exact hc (cI_inj h)), IntWalk.wrap64_in _ (by omega)]
theorem Parts_ev (s : ByteArray) (hs : s.size ≤ 1000000000) : Ev (fun k => kilnref5_Parts.f k s) ((partsB (bs s)).map mk) := by
  have := parts_ev s hs s.size [] 0 0 (by omega) (Int.le_refl _) (Int.le_refl _) (by omega) (by simp) (by simp)
  rw [List.nil_append] at this
  exact this
/-- strings.Split tells the same parts -/
theorem index_no : ∀ l : By, (∀ c ∈ l, c ≠ 47) → Lib.indexByte l 47 = -1 := by
  intro l
  induction l with
  | nil => intro _; rfl
  | cons c l ih =>
    intro h
    have hc : (c == 47) = false := beq_false_of_ne (h c (by simp))
    rw [Lib.indexByte, hc, ih (fun d hd => h d (List.mem_cons_of_mem _ hd))]; rfl
theorem index_at : ∀ (x l : By), (∀ c ∈ x, c ≠ 47) → Lib.indexByte (x ++ 47 :: l) 47 = x.length := by
  intro x
  induction x with
  | nil => intro l _; rfl
  | cons c x ih =>
    intro l h
    have hc : (c == 47) = false := beq_false_of_ne (h c (by simp))
    rw [List.cons_append, Lib.indexByte, hc, ih l (fun d hd => h d (List.mem_cons_of_mem _ hd))]
    simp
theorem indexB_is (s : ByteArray) : Lib.indexB s ⟨#[47]⟩ = Lib.indexByte (bs s) 47 := by
  show Lib.index s.data.toList [47] = _
  rw [Lib.index_one]; rfl
theorem head_part (l : By) : ∃ x, (∀ c ∈ x, c ≠ 47) ∧ ((l = x ∧ partsB l = [x]) ∨ ∃ r, l = x ++ 47 :: r ∧ partsB l = x :: partsB r) := by
  induction l with
  | nil => exact ⟨[], by simp, .inl ⟨rfl, rfl⟩⟩
  | cons c l ih =>
    by_cases h : c = 47
    · exact ⟨[], by simp, .inr ⟨l, by rw [h]; rfl, by rw [partsB, if_pos h]⟩⟩
    · obtain ⟨x, hx, h1⟩ := ih
      refine ⟨c :: x, fun d hd => ?_, ?_⟩
      · rcases List.mem_cons.1 hd with rfl | hd
        · exact h
        · exact hx d hd
      · rcases h1 with ⟨rfl, h2⟩ | ⟨r, rfl, h2⟩
        · exact .inl ⟨rfl, by rw [parts_cons c l h, h2]; rfl⟩
        · exact .inr ⟨r, rfl, by rw [parts_cons c _ h, h2]; rfl⟩
theorem split_is : ∀ (n : Nat) (s : ByteArray), (partsB (bs s)).length = n + 1 → Lib.countB s ⟨#[47]⟩ = n ∧ Lib.splitB ⟨#[47]⟩ 0 n s = (partsB (bs s)).map mk := by
  intro n
  induction n with
  | zero =>
    intro s h
    obtain ⟨x, hx, ⟨h1, h2⟩ | ⟨r, h1, h2⟩⟩ := head_part (bs s)
    · refine ⟨Lib.countB_miss s _ (by rw [indexB_is, h1, index_no x hx]), ?_⟩
      rw [Lib.splitB_zero, h2, ← h1]; rfl
    · rw [h2] at h
      have := List.length_pos_iff.2 (parts_ne r)
      rw [List.length_cons] at h; omega
  | succ n ih =>
    intro s h
    obtain ⟨x, hx, ⟨h1, h2⟩ | ⟨r, h1, h2⟩⟩ := head_part (bs s)
    · rw [h2] at h; simp at h
    · have hi : Lib.indexB s ⟨#[47]⟩ = (x.length : Nat) := by rw [indexB_is, h1, index_at x r hx]
      have hr : s.extract (x.length + (⟨#[47]⟩ : ByteArray).size) s.size = mk r := mk_of _ _ (by
        have e1 : (⟨#[47]⟩ : ByteArray).size = 1 := rfl
        rw [bs_extract, h1, e1]
        have : (x ++ 47 :: r).drop (x.length + 1) = r := by
          rw [show x ++ 47 :: r = (x ++ [47]) ++ r by simp]
          exact List.drop_left' (by simp)
        rw [this]
        refine List.take_of_length_le ?_
        have := congrArg List.length h1
        rw [bs_length] at this
        simp at this
        omega)
      have hx0 : s.extract 0 (x.length + 0) = mk x := mk_of _ _ (by rw [bs_extract, h1]; simp)
      rw [h2] at h
      obtain ⟨g1, g2⟩ := ih (mk r) (by rw [bs_mk]; simpa using h)
      refine ⟨?_, ?_⟩
      · rw [Lib.countB_hit s _ x.length (Nat.le_refl _) hi, hr, g1]
        omega
      · rw [Lib.splitB_hit _ _ _ _ _ hi, hr, hx0, g2, bs_mk, h2]; rfl
theorem Split_is (s : ByteArray) (hs : s.size < 4000000000) : strings_Split.f s ⟨#[47]⟩ = some ((partsB (bs s)).map mk) := by
  unfold strings_Split.f
  rw [if_pos hs, if_pos rfl]
  obtain ⟨n, hn⟩ : ∃ n, (partsB (bs s)).length = n + 1 := ⟨(partsB (bs s)).length - 1, by have := List.length_pos_iff.2 (parts_ne (bs s)); omega⟩
  obtain ⟨g1, g2⟩ := split_is n s hn
  rw [g1, g2]
/-! names -/
def nameB (l : By) : Bool := decide (1 ≤ l.length) && decide (l.length ≤ 64) && (l != [46]) && (l != [46, 46]) && l.all letB
theorem namel_ev (x : ByteArray) (hx : x.size ≤ 1000000) : ∀ (n : Nat) (i : Int), n = (x.size - i).toNat → 0 ≤ i → i ≤ x.size → Ev (fun k => path_Name.l0 k x x.size i) (((bs x).drop i.toNat).all letB) := by
  intro n
  induction n with
  | zero =>
    intro i hn h0 h1
    rw [drop_end x i (by omega)]
    refine Ev.step (f := fun _ => some true) (fun k => ?_) (Ev.now _)
    conv => lhs; unfold path_Name.l0
    rw [if_neg (by omega)]
  | succ n ih =>
    intro i hn h0 h1
    obtain ⟨c, hd, hb⟩ := drop_at x i h0 (by omega)
    rw [hd, List.all_cons]
    have h := ih (i + 1) (by omega) (by omega) (by omega)
    by_cases hc : letB c = true
    · rw [hc, Bool.true_and]
      refine Ev.step (f := fun k => path_Name.l0 k x x.size (i + 1)) (fun k => ?_) h
      conv => lhs; unfold path_Name.l0
      rw [if_pos (by omega), if_pos h0, if_pos (by omega), hb, letB_is, hc, Option.bind_some, if_pos rfl, IntWalk.wrap64_in _ (by omega)]
    · have hc' := Bool.eq_false_iff.2 hc
      rw [hc', Bool.false_and]
      refine Ev.step (f := fun _ => some false) (fun k => ?_) (Ev.now _)
      conv => lhs; unfold path_Name.l0
      rw [if_pos (by omega), if_pos h0, if_pos (by omega), hb, letB_is, hc', Option.bind_some, if_neg (by decide)]
theorem Name_ev (x : ByteArray) : Ev (fun k => path_Name.f k x) (nameB (bs x)) := by
  have hbad : nameB (bs x) = false → Ev (fun k => path_Name.j0 k x true) (nameB (bs x)) := by
    intro h
    rw [h]
    refine Ev.step (f := fun _ => some false) (fun k => ?_) (Ev.now _)
    rw [path_Name.j0, if_pos rfl]
  have hl := bs_length x
  by_cases h1 : (x.size : Int) < 1
  · refine Ev.congr (fun k => by unfold path_Name.f; rw [if_pos h1]) (hbad ?_)
    unfold nameB
    rw [decide_eq_false (by omega)]; rfl
  by_cases h2 : (x.size : Int) > 64
  · refine Ev.congr (fun k => by unfold path_Name.f; rw [if_neg h1, if_pos h2]) (hbad ?_)
    unfold nameB
    rw [decide_eq_false (p := (bs x).length ≤ 64) (by omega)]; simp
  by_cases h3 : bs x = [46]
  · refine Ev.congr (fun k => by unfold path_Name.f; rw [if_neg h1, if_neg h2, toList_data, if_pos h3]) (hbad ?_)
    rw [h3]; rfl
  by_cases h4 : bs x = [46, 46]
  · refine Ev.congr (fun k => by unfold path_Name.f; rw [if_neg h1, if_neg h2, toList_data, if_neg h3, h4]; rfl) (hbad ?_)
    rw [h4]; rfl
  · have hv : nameB (bs x) = (bs x).all letB := by
      unfold nameB
      rw [decide_eq_true (p := 1 ≤ (bs x).length) (by omega), decide_eq_true (p := (bs x).length ≤ 64) (by omega), bne_iff_ne.2 h3, bne_iff_ne.2 h4]; rfl
    rw [hv]
    refine Ev.congr (f := fun k => path_Name.j0 k x false) (fun k => ?_) ?_
    · unfold path_Name.f
      rw [if_neg h1, if_neg h2, toList_data, if_neg h3, beq_false_of_ne h4]
    · have := namel_ev x (by omega) x.size 0 (by omega) (Int.le_refl _) (by omega)
      refine Ev.step (fun k => ?_) this
      rw [path_Name.j0, if_neg (by decide)]
theorem nameRl_ev (x : ByteArray) (hx : x.size ≤ 1000000) : ∀ (n : Nat) (i : Int), n = (x.size - i).toNat → 0 ≤ i → i ≤ x.size → Ev (fun k => kilnref5_Name.l0 k x i) (((bs x).drop i.toNat).all letB) := by
  intro n
  induction n with
  | zero =>
    intro i hn h0 h1
    rw [drop_end x i (by omega)]
    refine Ev.step (f := fun _ => some true) (fun k => ?_) (Ev.now _)
    conv => lhs; unfold kilnref5_Name.l0
    rw [if_neg (by omega)]
  | succ n ih =>
    intro i hn h0 h1
    obtain ⟨c, hd, hb⟩ := drop_at x i h0 (by omega)
    rw [hd, List.all_cons]
    have h := ih (i + 1) (by omega) (by omega) (by omega)
    by_cases hc : letB c = true
    · rw [hc, Bool.true_and]
      refine Ev.step (f := fun k => kilnref5_Name.l0 k x (i + 1)) (fun k => ?_) h
      conv => lhs; unfold kilnref5_Name.l0
      rw [if_pos (by omega), if_pos h0, hb, mayB_is, hc, Option.bind_some, if_pos rfl, IntWalk.wrap64_in _ (by omega)]
    · have hc' := Bool.eq_false_iff.2 hc
      rw [hc', Bool.false_and]
      refine Ev.step (f := fun _ => some false) (fun k => ?_) (Ev.now _)
      conv => lhs; unfold kilnref5_Name.l0
      rw [if_pos (by omega), if_pos h0, hb, mayB_is, hc', Option.bind_some, if_neg (by decide)]
theorem NameR_ev (x : ByteArray) : Ev (fun k => kilnref5_Name.f k x) (nameB (bs x)) := by
  have hbad : nameB (bs x) = false → Ev (fun k => kilnref5_Name.j0 k x true) (nameB (bs x)) := by
    intro h
    rw [h]
    refine Ev.step (f := fun _ => some false) (fun k => ?_) (Ev.now _)
    rw [kilnref5_Name.j0, if_pos rfl]
  have hl := bs_length x
  by_cases h1 : (x.size : Int) < 1
  · refine Ev.congr (fun k => by unfold kilnref5_Name.f; rw [if_pos h1]) (hbad ?_)
    unfold nameB
    rw [decide_eq_false (by omega)]; rfl
  by_cases h2 : (x.size : Int) > 64
  · refine Ev.congr (fun k => by unfold kilnref5_Name.f; rw [if_neg h1, if_pos h2]) (hbad ?_)
    unfold nameB
    rw [decide_eq_false (p := (bs x).length ≤ 64) (by omega)]; simp
  by_cases h3 : bs x = [46]
  · refine Ev.congr (fun k => by unfold kilnref5_Name.f; rw [if_neg h1, if_neg h2, toList_data, if_pos h3]) (hbad ?_)
    rw [h3]; rfl
  by_cases h4 : bs x = [46, 46]
  · refine Ev.congr (fun k => by unfold kilnref5_Name.f; rw [if_neg h1, if_neg h2, toList_data, if_neg h3, h4]; rfl) (hbad ?_)
    rw [h4]; rfl
  · have hv : nameB (bs x) = (bs x).all letB := by
      unfold nameB
      rw [decide_eq_true (p := 1 ≤ (bs x).length) (by omega), decide_eq_true (p := (bs x).length ≤ 64) (by omega), bne_iff_ne.2 h3, bne_iff_ne.2 h4]; rfl
    rw [hv]
    refine Ev.congr (f := fun k => kilnref5_Name.j0 k x false) (fun k => ?_) ?_
    · unfold kilnref5_Name.f
      rw [if_neg h1, if_neg h2, toList_data, if_neg h3, beq_false_of_ne h4]
    · have := nameRl_ev x (by omega) x.size 0 (by omega) (Int.le_refl _) (by omega)
      refine Ev.step (fun k => ?_) this
      rw [kilnref5_Name.j0, if_neg (by decide)]
end Go.Proofs.YtlcnhhpleiamhaaDoor.G

-- Path, the plain law, part 2: the first place that can't be; Parse.
namespace Go.Proofs.YtlcnhhpleiamhaaDoor.G
open Go.RowKit Go.Proofs.YtlcnhhpleiamhaaDoorW.PrintWords Go.Proofs.YtlcnhhpleiamhaaDoorW.PrintLast Go.Proofs.YtlcnhhpleiamhaaDoorW.PrintMore
set_option linter.unusedVariables false
set_option linter.unusedSimpArgs false

/-! one part -/
def firstBad : By → Nat → Option Nat
  | [], _ => none
  | c :: r, i => if letB c = true then (if i = 64 then some i else firstBad r (i + 1)) else some i
def dotP (p : By) : Bool := p == [46] || p == [46, 46]
def wrongB (p : By) : Option Nat := if dotP p = true then some 0 else firstBad p 0
theorem firstBad_ge : ∀ (p : By) (i g : Nat), firstBad p i = some g → i ≤ g ∧ g < i + p.length := by
  intro p
  induction p with
  | nil => intro i g h; cases h
  | cons c r ih =>
    intro i g h
    unfold firstBad at h
    rw [List.length_cons]
    split at h
    · split at h
      · cases h; omega
      · have := ih (i + 1) g h; omega
    · cases h; omega
theorem wrong_lt (p : By) (g : Nat) (h : wrongB p = some g) : g < p.length := by
  unfold wrongB at h
  split at h
  · rename_i hd
    cases h
    unfold dotP at hd
    simp only [Bool.or_eq_true, beq_iff_eq] at hd
    rcases hd with rfl | rfl <;> decide
  · have := firstBad_ge p 0 g h; omega
/-- the first place, part by part -/
def badG : Nat → Nat → List By → Option Nat
  | _, _, [] => none
  | a, j, p :: ps => match wrongB p with
    | some w => some (a + w)
    | none => if p = [] ∨ (j = 15 ∧ ps ≠ []) then some (a + p.length) else badG (a + p.length + 1) (j + 1) ps
theorem badG_ge : ∀ (P : List By) (a j g : Nat), badG a j P = some g → a ≤ g ∧ g ≤ a + (joinP P).length := by
  intro P
  induction P with
  | nil => intro a j g h; cases h
  | cons p ps ih =>
    intro a j g h
    have hlen : (joinP (p :: ps)).length = p.length + (if ps = [] then 0 else 1 + (joinP ps).length) := by
      by_cases hp : ps = []
      · subst hp; simp [joinP]
      · rw [join_cons _ _ hp, if_neg hp]; simp; omega
    rw [hlen]
    unfold badG at h
    cases hw : wrongB p with
    | some w =>
      rw [hw] at h
      simp only [Option.some.injEq] at h
      have := wrong_lt p w hw
      omega
    | none =>
      rw [hw] at h
      simp only at h
      split at h
      · cases h; omega
      · have := ih _ _ _ h
        by_cases hp : ps = []
        · subst hp; cases h
        · rw [if_neg hp]; omega
def faultF (n : Nat) : Option Nat → Int
  | some g => if 255 < n ∧ 255 < g then 255 else (g : Int)
  | none => if 255 < n then 255 else -1
/-- the place of what can't be, or -1 -/
def faultV (l : By) : Int := faultF l.length (badG 0 0 (partsB l))
theorem faultV_bd (l : By) : -1 ≤ faultV l ∧ faultV l ≤ l.length := by
  unfold faultV
  cases h : badG 0 0 (partsB l) with
  | none => unfold faultF; simp only; split <;> omega
  | some g =>
    have := (badG_ge _ _ _ _ h).2
    rw [join_parts] at this
    unfold faultF; simp only; split <;> omega
/-! dots -/
def dl : Nat → By → Bool
  | m, [] => m == 1 || m == 2
  | m, c :: r => if c = 46 then (if m < 3 then dl (m + 1) r else false) else (m == 1 || m == 2) && c == 47
theorem dots_ev (s : ByteArray) (hs : s.size ≤ 1000000) (fr : Int) (h0 : 0 ≤ fr) : ∀ (r : By) (m : Nat), (bs s).drop (fr + m).toNat = r → fr + m ≤ s.size → m ≤ 3 → Ev (fun k => path_dots.l0 k s fr m) (dl m r) := by
  intro r
  induction r with
  | nil =>
    intro m hd hle hm
    have hend : fr + m = s.size := by
      rcases Int.lt_or_le (fr + m) s.size with h | h
      · obtain ⟨c, h1, _⟩ := drop_at s (fr + m) (by omega) h
        rw [h1] at hd; cases hd
      · omega
    refine Ev.step (f := fun _ => some (dl m [])) (fun k => ?_) (Ev.now _)
    conv => lhs; unfold path_dots.l0
    rw [IntWalk.wrap64_in _ (by omega), if_neg (by omega)]
    have hm4 : m = 0 ∨ m = 1 ∨ m = 2 ∨ m = 3 := by omega
    rcases hm4 with rfl | rfl | rfl | rfl
    · rfl
    · rw [if_pos (by decide), if_pos hend]; rfl
    · rw [if_neg (by decide), if_pos (by decide), if_pos hend]; rfl
    · rfl
  | cons c r ih =>
    intro m hd hle hm
    have hlt : fr + m < s.size := by
      rcases Int.lt_or_le (fr + m) s.size with h | h
      · exact h
      · rw [drop_end s _ h] at hd; cases hd
    obtain ⟨c', h1, hb⟩ := drop_at s (fr + m) (by omega) hlt
    rw [h1] at hd
    obtain ⟨rfl, hd2⟩ := List.cons.inj hd
    have hne : ¬ fr + m = (s.size : Int) := by omega
    by_cases hc : c' = 46
    · by_cases hm3 : m < 3
      · have := ih (m + 1) (by rw [← hd2, show (fr + ((m + 1 : Nat) : Int)).toNat = (fr + m + 1).toNat by omega]) (by omega) (by omega)
        refine Ev.step (f := fun k => path_dots.l0 k s fr ((m + 1 : Nat) : Int)) (fun k => ?_) ?_
        · conv => lhs; unfold path_dots.l0
          rw [IntWalk.wrap64_in (fr + m) (by omega), if_pos hlt, if_pos (by omega), hb, if_pos (by rw [hc]; rfl), if_pos (by omega), IntWalk.wrap64_in (m + 1) (by omega)]
          rfl
        · have e : dl m (c' :: r) = dl (m + 1) r := by rw [dl, if_pos hc, if_pos hm3]
          rw [e]; exact this
      · have e : dl m (c' :: r) = false := by rw [dl, if_pos hc, if_neg hm3]
        rw [e]
        refine Ev.step (f := fun _ => some false) (fun k => ?_) (Ev.now _)
        conv => lhs; unfold path_dots.l0
        rw [IntWalk.wrap64_in (fr + m) (by omega), if_pos hlt, if_pos (by omega), hb, if_pos (by rw [hc]; rfl), if_neg (by omega), if_neg (by omega), if_neg (by omega)]
    · have hc2 : ¬ cI c' = 46 := fun h => hc (cI_inj (b := 46) h)
      have e : dl m (c' :: r) = ((m == 1 || m == 2) && c' == 47) := by rw [dl, if_neg hc]
      have e47 : (cI c' == 47) = (c' == 47) := by
        by_cases h : c' = 47
        · rw [h]; rfl
        · rw [beq_false_of_ne h]; exact beq_false_of_ne (fun h' => h (cI_inj (b := 47) h'))
      rw [e]
      refine Ev.step (f := fun _ => some ((m == 1 || m == 2) && c' == 47)) (fun k => ?_) (Ev.now _)
      conv => lhs; unfold path_dots.l0
      rw [IntWalk.wrap64_in (fr + m) (by omega), if_pos hlt, if_pos (by omega), hb, if_neg hc2, e47]
      have hm4 : m = 0 ∨ m = 1 ∨ m = 2 ∨ m = 3 := by omega
      rcases hm4 with rfl | rfl | rfl | rfl
      · rfl
      · rw [if_pos (by decide), if_neg hne]; rfl
      · rw [if_neg (by decide), if_pos (by decide), if_neg hne]; rfl
      · rfl
theorem dl3 : ∀ r, dl 3 r = false := by
  intro r
  cases r with
  | nil => rfl
  | cons c r => unfold dl; split <;> rfl
theorem dl_part (p : By) (hp : ∀ c ∈ p, c ≠ 47) : (∀ r, dl 0 (p ++ 47 :: r) = dotP p) ∧ dl 0 p = dotP p := by
  have key : ∀ t : By, (t = [] ∨ ∃ r, t = 47 :: r) → dl 0 (p ++ t) = dotP p := by
    intro t ht
    have e0 : dl 0 t = false := by rcases ht with rfl | ⟨r, rfl⟩ <;> rfl
    have e1 : dl 1 t = true := by rcases ht with rfl | ⟨r, rfl⟩ <;> rfl
    have e2 : dl 2 t = true := by rcases ht with rfl | ⟨r, rfl⟩ <;> rfl
    rcases p with _ | ⟨a, _ | ⟨b, _ | ⟨c, p⟩⟩⟩
    · rw [List.nil_append, e0]; rfl
    · rw [List.cons_append, List.nil_append, dl]
      by_cases ha : a = 46
      · rw [if_pos ha, if_pos (by decide), e1, ha]; rfl
      · rw [if_neg ha]; simp [dotP, ha]
    · rw [List.cons_append, List.cons_append, List.nil_append, dl]
      by_cases ha : a = 46
      · rw [if_pos ha, if_pos (by decide), dl]
        by_cases hb : b = 46
        · rw [if_pos hb, if_pos (by decide), e2, ha, hb]; rfl
        · have hb7 := hp b (by simp)
          rw [if_neg hb, beq_false_of_ne hb7]; simp [dotP, hb]
      · rw [if_neg ha]; simp [dotP, ha]
    · rw [List.cons_append, List.cons_append, List.cons_append, dl]
      by_cases ha : a = 46
      · rw [if_pos ha, if_pos (by decide), dl]
        by_cases hb : b = 46
        · rw [if_pos hb, if_pos (by decide), dl]
          by_cases hc : c = 46
          · rw [if_pos hc, if_pos (by decide), dl3]; simp [dotP]
          · have hc7 := hp c (by simp)
            rw [if_neg hc, beq_false_of_ne hc7]; simp [dotP]
        · have hb7 := hp b (by simp)
          rw [if_neg hb, beq_false_of_ne hb7]; simp [dotP]
      · rw [if_neg ha]; simp [dotP]
  exact ⟨fun r => key _ (.inr ⟨r, rfl⟩), by have := key [] (.inl rfl); rwa [List.append_nil] at this⟩
/-! fault, by the program -/
theorem faultF_at (n i : Nat) (R : Option Nat) (hR : ∀ g, R = some g → i ≤ g) (h : i = 255 ∧ i < n) : faultF n R = i := by
  cases R with
  | none => unfold faultF; simp only; rw [if_pos (by omega)]; omega
  | some g =>
    have := hR g rfl
    unfold faultF; simp only
    split <;> omega
theorem faultF_some (n i : Nat) (h : i ≤ 255 ∨ n ≤ 255) : faultF n (some i) = i := by
  unfold faultF; simp only
  rw [if_neg (by omega)]
/-- what stands behind the dots' look -/
theorem fault_j2 (s : ByteArray) (hs : s.size ≤ 1000000) (fr cnt i : Int) (h0 : 0 ≤ i) (h1 : i ≤ s.size) (hfr : 0 ≤ fr ∧ fr ≤ i) (hcnt : 0 ≤ cnt ∧ cnt ≤ 1000000) (r : Int) (R : Option Nat) (hR : ∀ g, R = some g → i ≤ g) (hr : r = faultF s.size R) (hi : i ≤ 255 ∨ (s.size : Int) ≤ 255)
    (H : ¬ (i = 255 ∧ i < s.size) → Ev (fun k => path_fault.j2 k s (-1) fr cnt i false) r) : Ev (fun k => path_fault.j1 k s (-1) fr cnt i false) r := by
  by_cases h : i = 255
  · by_cases h2 : i < (s.size : Int)
    · have e : r = i := by
        have := faultF_at s.size i.toNat R (fun g hg => by have := hR g hg; omega) ⟨by omega, by omega⟩
        rw [hr, this]; omega
      refine Ev.step (f := fun k => path_fault.j2 k s (-1) fr cnt i true) (fun k => ?_) ?_
      · rw [path_fault.j1, if_neg (by decide), if_pos h, decide_eq_true h2]
      · rw [e]
        refine Ev.step (f := fun _ => some i) (fun k => ?_) (Ev.now _)
        rw [path_fault.j2, if_pos rfl]
    · refine Ev.step (f := fun k => path_fault.j2 k s (-1) fr cnt i false) (fun k => ?_) (H (by omega))
      rw [path_fault.j1, if_neg (by decide), if_pos h, decide_eq_false h2]
  · refine Ev.step (f := fun k => path_fault.j2 k s (-1) fr cnt i false) (fun k => ?_) (H (by omega))
    rw [path_fault.j1, if_neg (by decide), if_neg h]
/-- within a part: y is what is left of it -/
def restG (fr j : Nat) (p : By) (ps : List By) (y : By) (d : Nat) : Option Nat := match firstBad y d with
  | some w => some (fr + w)
  | none => if p = [] ∨ (j = 15 ∧ ps ≠ []) then some (fr + p.length) else badG (fr + p.length + 1) (j + 1) ps
theorem restG_ge (fr j : Nat) (p : By) (ps : List By) (y : By) (d : Nat) (hd : d + y.length = p.length) (g : Nat) (h : restG fr j p ps y d = some g) : fr + d ≤ g := by
  unfold restG at h
  cases hf : firstBad y d with
  | some w =>
    rw [hf] at h
    have := firstBad_ge y d w hf
    simp only [Option.some.injEq] at h
    omega
  | none =>
    rw [hf] at h
    simp only at h
    split at h
    · cases h; omega
    · have := (badG_ge _ _ _ _ h).1; omega
set_option maxHeartbeats 4000000 in
theorem fault_part (s : ByteArray) (hs : s.size ≤ 1000000) (fr j : Nat) (p : By) (ps : List By) (hj : j ≤ 15) (hfr : fr + (joinP (p :: ps)).length = s.size) (hrest : (bs s).drop fr = joinP (p :: ps)) (hp : ∀ c ∈ p, c ≠ 47)
    (next : ps ≠ [] → p ≠ [] → j ≠ 15 → (fr + p.length + 1 ≤ 255 ∨ s.size ≤ 255) → Ev (fun k => path_fault.l0 k s (-1) ((fr + p.length + 1 : Nat) : Int) ((j + 1 : Nat) : Int) ((fr + p.length + 1 : Nat) : Int)) (faultF s.size (badG (fr + p.length + 1) (j + 1) ps))) :
    ∀ (y x : By), p = x ++ y → (fr + x.length ≤ 255 ∨ s.size ≤ 255) → x.length ≤ 64 → Ev (fun k => path_fault.j1 k s (-1) fr j ((fr + x.length : Nat) : Int) false) (faultF s.size (restG fr j p ps y x.length)) := by
  have hlen : (joinP (p :: ps)).length = p.length + (if ps = [] then 0 else 1 + (joinP ps).length) := by
    by_cases hq : ps = []
    · subst hq; simp [joinP]
    · rw [join_cons _ _ hq, if_neg hq]; simp; omega
  intro y
  induction y with
  | nil =>
    intro x hx hi hx64
    rw [List.append_nil] at hx
    subst hx
    have hge := restG_ge fr j p ps [] p.length (by simp)
    refine fault_j2 s hs fr j _ (by omega) (by omega) (by omega) (by omega) _ (restG fr j p ps [] p.length) (fun g hg => by have := hge g hg; omega) rfl (by omega) (fun hn => ?_)
    have hR : restG fr j p ps [] p.length = if p = [] ∨ (j = 15 ∧ ps ≠ []) then some (fr + p.length) else badG (fr + p.length + 1) (j + 1) ps := rfl
    refine Ev.step (f := fun k => path_fault.j3 k s (-1) fr j ((fr + p.length : Nat) : Int) false) (fun k => ?_) ?_
    · rw [path_fault.j2, if_neg (by decide)]
      by_cases h : ((fr + p.length : Nat) : Int) < (s.size : Int)
      · rw [if_pos h, if_pos (by omega)]
        obtain ⟨c, hd, hb⟩ := drop_at s ((fr + p.length : Nat) : Int) (by omega) h
        have hps : ps ≠ [] := by intro hq; rw [if_pos hq] at hlen; omega
        have : (bs s).drop (fr + p.length) = 47 :: joinP ps := by
          rw [← List.drop_drop, hrest, join_cons _ _ hps]; simp
        rw [Int.toNat_natCast, this] at hd
        have hc := (List.cons.inj hd).1
        rw [hb, ← hc]; rfl
      · rw [if_neg h]
    · by_cases hpe : p = []
      · have e : faultF s.size (restG fr j p ps [] p.length) = ((fr + p.length : Nat) : Int) := by
          rw [hR, if_pos (.inl hpe)]; exact faultF_some _ _ hi
        rw [e]
        refine Ev.step (f := fun _ => some ((fr + p.length : Nat) : Int)) (fun k => ?_) (Ev.now _)
        rw [path_fault.j3, if_neg (by decide), if_pos (by rw [hpe]; simp)]
      · have hpl := List.length_pos_iff.2 hpe
        have hne : ¬ ((fr + p.length : Nat) : Int) = (fr : Int) := by omega
        have hj1 : wrap64 ((j : Int) + 1) = ((j + 1 : Nat) : Int) := by rw [IntWalk.wrap64_in _ (by omega)]; rfl
        have hi1 : wrap64 (((fr + p.length : Nat) : Int) + 1) = ((fr + p.length + 1 : Nat) : Int) := by rw [IntWalk.wrap64_in _ (by omega)]; rfl
        by_cases hps : ps = []
        · -- the text's end
          subst hps
          rw [if_pos rfl] at hlen
          have hR2 : restG fr j p [] [] p.length = none := by rw [hR, if_neg (by simp [hpe])]; rfl
          have hend : (s.size : Int) = ((fr + p.length : Nat) : Int) := by omega
          have e : faultF s.size (restG fr j p [] [] p.length) = -1 := by
            rw [hR2]; unfold faultF; simp only; rw [if_neg (by omega)]
          rw [e]
          have hout : Ev (fun k => path_fault.l0 k s (-1) ((fr + p.length + 1 : Nat) : Int) ((j + 1 : Nat) : Int) ((fr + p.length + 1 : Nat) : Int)) (-1) := by
            refine Ev.step (f := fun _ => some (-1)) (fun k => ?_) (Ev.now _)
            rw [path_fault.l0, if_neg (by omega)]
          refine Ev.step (fun k => ?_) hout
          rw [path_fault.j3, if_neg (by decide), if_neg hne, hj1, hi1]
          by_cases h16 : ((j + 1 : Nat) : Int) = 16
          · rw [if_pos h16, if_neg (by omega)]
          · rw [if_neg h16]
        · rw [if_neg hps] at hlen
          by_cases h15 : j = 15
          · have e : faultF s.size (restG fr j p ps [] p.length) = ((fr + p.length : Nat) : Int) := by
              rw [hR, if_pos (.inr ⟨h15, hps⟩)]; exact faultF_some _ _ hi
            rw [e]
            refine Ev.step (f := fun _ => some ((fr + p.length : Nat) : Int)) (fun k => ?_) (Ev.now _)
            rw [path_fault.j3, if_neg (by decide), if_neg hne, hj1, if_pos (by omega), if_pos (by omega)]
          · have e : restG fr j p ps [] p.length = badG (fr + p.length + 1) (j + 1) ps := by rw [hR, if_neg (by simp [hpe, h15])]
            rw [e]
            refine Ev.step (fun k => ?_) (next hps hpe h15 (by omega))
            rw [path_fault.j3, if_neg (by decide), if_neg hne, hj1, if_neg (by omega), hi1]
  | cons c y ih =>
    intro x hx hi hx64
    have hlp : p.length = x.length + (y.length + 1) := by rw [hx]; simp
    have hge := restG_ge fr j p ps (c :: y) x.length (by rw [hlp]; simp)
    refine fault_j2 s hs fr j _ (by omega) (by omega) (by omega) (by omega) _ (restG fr j p ps (c :: y) x.length) (fun g hg => by have := hge g hg; omega) rfl (by omega) (fun hn => ?_)
    have hlt : ((fr + x.length : Nat) : Int) < (s.size : Int) := by omega
    obtain ⟨c', hd, hb⟩ := drop_at s ((fr + x.length : Nat) : Int) (by omega) hlt
    have hcc : c' = c := by
      have : (bs s).drop (fr + x.length) = c :: (y ++ (if ps = [] then [] else 47 :: joinP ps)) := by
        rw [← List.drop_drop, hrest]
        by_cases hq : ps = []
        · subst hq
          show List.drop x.length p = _
          rw [hx]; simp
        · rw [join_cons _ _ hq, hx, if_neg hq]; simp
      rw [Int.toNat_natCast, this] at hd
      exact (List.cons.inj hd).1.symm
    subst hcc
    have hc7 : c' ≠ 47 := hp c' (by rw [hx]; simp)
    have hc7b : (cI c' != 47) = true := bne_iff_ne.2 (fun h => hc7 (cI_inj (b := 47) h))
    refine Ev.step (f := fun k => path_fault.j3 k s (-1) fr j ((fr + x.length : Nat) : Int) true) (fun k => ?_) ?_
    · rw [path_fault.j2, if_neg (by decide), if_pos hlt, if_pos (by omega), hb, hc7b]
    · have hd64 : wrap64 (((fr + x.length : Nat) : Int) - (fr : Int)) = x.length := by rw [IntWalk.wrap64_in _ (by omega)]; omega
      by_cases hl : letB c' = true
      · by_cases h64 : x.length = 64
        · have e : faultF s.size (restG fr j p ps (c' :: y) x.length) = ((fr + x.length : Nat) : Int) := by
            have : restG fr j p ps (c' :: y) x.length = some (fr + x.length) := by unfold restG firstBad; rw [if_pos hl, if_pos h64]
            rw [this]; exact faultF_some _ _ hi
          rw [e]
          refine Ev.step (f := fun _ => some ((fr + x.length : Nat) : Int)) (fun k => ?_) (Ev.now _)
          rw [path_fault.j3, if_pos rfl, if_pos (by omega), if_pos hlt, hb, letB_is, hl, Option.bind_some, if_pos rfl, hd64, if_pos (by omega)]
        · have e : restG fr j p ps (c' :: y) x.length = restG fr j p ps y (x ++ [c']).length := by
            unfold restG; rw [firstBad, if_pos hl, if_neg h64]; simp
          have := ih (x ++ [c']) (by rw [hx]; simp) (by simp; omega) (by simp; omega)
          rw [e]
          have hi1 : wrap64 (((fr + x.length : Nat) : Int) + 1) = ((fr + (x ++ [c']).length : Nat) : Int) := by rw [IntWalk.wrap64_in _ (by omega)]; simp; omega
          refine Ev.step (f := fun k => path_fault.l0 k s (-1) fr j ((fr + (x ++ [c']).length : Nat) : Int)) (fun k => ?_) ?_
          · have h64' : ¬ ((x.length : Nat) : Int) = 64 := fun h => h64 (by exact Int.ofNat_inj.1 h)
            rw [path_fault.j3, if_pos rfl, if_pos (Int.natCast_nonneg _), if_pos hlt, hb, letB_is, hl, Option.bind_some, if_pos rfl, hd64, if_neg h64', hi1]
          · refine Ev.step (fun k => ?_) this
            have hl1 : (x ++ [c']).length = x.length + 1 := by simp
            rw [path_fault.l0, if_pos (by omega), if_neg (by omega)]
      · have e : faultF s.size (restG fr j p ps (c' :: y) x.length) = ((fr + x.length : Nat) : Int) := by
          have : restG fr j p ps (c' :: y) x.length = some (fr + x.length) := by unfold restG firstBad; rw [if_neg hl]
          rw [this]; exact faultF_some _ _ hi
        rw [e]
        refine Ev.step (f := fun _ => some ((fr + x.length : Nat) : Int)) (fun k => ?_) (Ev.now _)
        rw [path_fault.j3, if_pos rfl, if_pos (by omega), if_pos hlt, hb, letB_is, Bool.eq_false_iff.2 hl, Option.bind_some, if_neg (by decide)]
theorem fault_ev (s : ByteArray) (hs : s.size ≤ 1000000) : ∀ (P : List By) (fr j : Nat), P ≠ [] → (∀ p ∈ P, ∀ c ∈ p, c ≠ 47) → j ≤ 15 → fr + (joinP P).length = s.size → (bs s).drop fr = joinP P → (fr ≤ 255 ∨ s.size ≤ 255) →
    Ev (fun k => path_fault.l0 k s (-1) fr j fr) (faultF s.size (badG fr j P)) := by
  intro P
  induction P with
  | nil => intro _ _ h; exact absurd rfl h
  | cons p ps ih =>
    intro fr j _ hP hj hlen hrest hfr
    have hp := hP p (by simp)
    have hdots : Ev (fun k => path_dots.f k s (fr : Int)) (dotP p) := by
      have h := dots_ev s hs fr (by omega) (joinP (p :: ps)) 0 (by rw [← hrest]; simp) (by omega) (by omega)
      have e : dl 0 (joinP (p :: ps)) = dotP p := by
        by_cases hq : ps = []
        · subst hq; exact (dl_part p hp).2
        · rw [join_cons _ _ hq]; exact (dl_part p hp).1 _
      rw [e] at h
      exact h
    let f : Nat → Option Int := fun k => (path_dots.f k s (fr : Int)).bind fun t => path_fault.j1 k s (-1) fr j fr t
    refine Ev.step (f := f) (fun k => ?_) ?_
    · rw [path_fault.l0, if_pos (by omega), if_pos rfl]
    refine Ev.bind hdots ?_
    by_cases hd : dotP p = true
    · have e : faultF s.size (badG fr j (p :: ps)) = (fr : Int) := by
        have : badG fr j (p :: ps) = some (fr + 0) := by unfold badG wrongB; rw [if_pos hd]
        rw [this]; exact faultF_some _ _ hfr
      rw [hd, e]
      refine Ev.step (f := fun k => path_fault.j2 k s (-1) fr j fr true) (fun k => ?_) ?_
      · rw [path_fault.j1, if_pos rfl]
      · refine Ev.step (f := fun _ => some (fr : Int)) (fun k => ?_) (Ev.now _)
        rw [path_fault.j2, if_pos rfl]
    · have hd' := Bool.eq_false_iff.2 hd
      rw [hd']
      have e : badG fr j (p :: ps) = restG fr j p ps p 0 := by unfold badG restG wrongB; rw [if_neg hd]
      rw [e]
      have := fault_part s hs fr j p ps hj hlen hrest hp (fun hps hpe h15 hle => by
        refine ih (fr + p.length + 1) (j + 1) hps (fun q hq => hP q (List.mem_cons_of_mem _ hq)) (by omega) ?_ ?_ hle
        · rw [join_cons _ _ hps] at hlen; simp at hlen; omega
        · rw [show fr + p.length + 1 = fr + (p.length + 1) by omega, ← List.drop_drop, hrest, join_cons _ _ hps]
          rw [show p ++ 47 :: joinP ps = (p ++ [47]) ++ joinP ps by simp]
          exact List.drop_left' (by simp)) p [] rfl (by simpa using hfr) (by simp)
      simpa using this
theorem Fault_ev (s : ByteArray) (hs : s.size ≤ 1000000) : Ev (fun k => path_fault.f k s) (faultV (bs s)) := by
  have := fault_ev s hs (partsB (bs s)) 0 0 (parts_ne _) (fun p hp => (parts_mem _ p hp).1) (by omega) (by rw [join_parts, bs_length]; omega) (by rw [join_parts]; rfl) (by omega)
  unfold faultV
  rw [bs_length]
  exact this
theorem Parse_ev (s : ByteArray) (hs : s.size ≤ 1000000) : Ev (fun k => path_Parse.f k s) (if faultV (bs s) ≥ 0 then ([], 50, faultV (bs s)) else ((partsB (bs s)).map mk, 0, 0)) := by
  unfold path_Parse.f
  refine Ev.bind (Fault_ev s hs) ?_
  by_cases h : faultV (bs s) ≥ 0
  · have e : (if faultV (bs s) ≥ 0 then (([] : List ByteArray), (50 : Int), faultV (bs s)) else ((partsB (bs s)).map mk, 0, 0)) = ([], 50, faultV (bs s)) := if_pos h
    rw [e]
    refine Ev.congr (f := fun _ => some (([] : List ByteArray), (50 : Int), faultV (bs s))) (fun k => ?_) (Ev.now _)
    simp only [if_pos h]
  · have e : (if faultV (bs s) ≥ 0 then (([] : List ByteArray), (50 : Int), faultV (bs s)) else ((partsB (bs s)).map mk, 0, 0)) = ((partsB (bs s)).map mk, 0, 0) := if_neg h
    rw [e]
    refine Ev.congr (f := fun _ => some ((partsB (bs s)).map mk, (0 : Int), (0 : Int))) (fun k => ?_) (Ev.now _)
    simp only [if_neg h, Split_is s (show s.size < 4000000000 by omega), Option.bind_some]
end Go.Proofs.YtlcnhhpleiamhaaDoor.G

-- Path, the plain law, part 3: Parse by the document; Text; what the laws hold the program against.
namespace Go.Proofs.YtlcnhhpleiamhaaDoor.G
open Go.RowKit Go.Proofs.YtlcnhhpleiamhaaDoorW.PrintWords Go.Proofs.YtlcnhhpleiamhaaDoorW.PrintLast Go.Proofs.YtlcnhhpleiamhaaDoorW.PrintMore
set_option linter.unusedVariables false
set_option linter.unusedSimpArgs false

theorem wrongl_ev (x : ByteArray) (hx : x.size ≤ 1000000) (a : Int) (ha : 0 ≤ a ∧ a ≤ 1000000) : ∀ (n i : Nat), n = x.size - i → i ≤ x.size → i ≤ 64 → Ev (fun k => kilnref5_wrong.l0 k x a i) (match firstBad ((bs x).drop i) i with | some w => a + w | none => -1) := by
  intro n
  induction n with
  | zero =>
    intro i hn hi h64
    have hd : (bs x).drop i = [] := List.drop_eq_nil_of_le (by rw [bs_length]; omega)
    rw [hd]
    refine Ev.step (f := fun _ => some (-1)) (fun k => ?_) (Ev.now _)
    rw [kilnref5_wrong.l0, if_neg (by omega)]
  | succ n ih =>
    intro i hn hi h64
    have hlt : (i : Int) < (x.size : Int) := by omega
    obtain ⟨c, hd, hb⟩ := drop_at x i (by omega) hlt
    rw [Int.toNat_natCast, show ((i : Int) + 1).toNat = i + 1 by omega] at hd
    rw [hd, firstBad]
    have hnn : (0 : Int) ≤ (i : Int) := Int.natCast_nonneg _
    by_cases hc : letB c = true
    · by_cases h : i = 64
      · rw [if_pos hc, if_pos h]
        refine Ev.step (f := fun _ => some (a + (i : Int))) (fun k => ?_) (Ev.now _)
        rw [kilnref5_wrong.l0, if_pos hlt, if_pos hnn, hb, mayB_is, hc, Option.bind_some, if_pos rfl, if_pos (by omega), IntWalk.wrap64_in _ (by omega)]
      · rw [if_pos hc, if_neg h]
        refine Ev.step (f := fun k => kilnref5_wrong.l0 k x a ((i + 1 : Nat) : Int)) (fun k => ?_) (ih (i + 1) (by omega) (by omega) (by omega))
        rw [kilnref5_wrong.l0, if_pos hlt, if_pos hnn, hb, mayB_is, hc, Option.bind_some, if_pos rfl, if_neg (by omega), IntWalk.wrap64_in _ (by omega)]
        rfl
    · rw [if_neg hc]
      refine Ev.step (f := fun _ => some (a + (i : Int))) (fun k => ?_) (Ev.now _)
      rw [kilnref5_wrong.l0, if_pos hlt, if_pos hnn, hb, mayB_is, Bool.eq_false_iff.2 hc, Option.bind_some, if_neg (by decide), IntWalk.wrap64_in _ (by omega)]
def wrongV (a : Int) (p : By) : Int := match wrongB p with | some w => a + w | none => -1
theorem Wrong_ev (x : ByteArray) (hx : x.size ≤ 1000000) (a : Int) (ha : 0 ≤ a ∧ a ≤ 1000000) : Ev (fun k => kilnref5_wrong.f k x a) (wrongV a (bs x)) := by
  have hd : dotP (bs x) = true → Ev (fun k => kilnref5_wrong.j0 k x a true) (wrongV a (bs x)) := by
    intro h
    unfold wrongV wrongB
    rw [if_pos h]
    refine Ev.step (f := fun _ => some (a + ((0 : Nat) : Int))) (fun k => ?_) (Ev.now _)
    rw [kilnref5_wrong.j0, if_pos rfl]; simp
  by_cases h1 : bs x = [46]
  · refine Ev.congr (fun k => by unfold kilnref5_wrong.f; rw [toList_data, if_pos h1]) (hd ?_)
    rw [h1]; rfl
  by_cases h2 : bs x = [46, 46]
  · refine Ev.congr (fun k => by unfold kilnref5_wrong.f; rw [toList_data, if_neg h1, h2]; rfl) (hd ?_)
    rw [h2]; rfl
  · have hdn : dotP (bs x) = false := by unfold dotP; rw [beq_false_of_ne h1, beq_false_of_ne h2]; rfl
    unfold wrongV wrongB
    rw [hdn, if_neg (by decide)]
    refine Ev.congr (f := fun k => kilnref5_wrong.j0 k x a false) (fun k => ?_) ?_
    · unfold kilnref5_wrong.f
      rw [toList_data, if_neg h1, beq_false_of_ne h2]
    · have := wrongl_ev x hx a ha x.size 0 (by omega) (by omega) (by omega)
      refine Ev.step (fun k => ?_) this
      rw [kilnref5_wrong.j0, if_neg (by decide)]; rfl
/-! the least place -/
def least1 (least : Int) (a : Nat) (p : By) : Int := match wrongB p with | some w => if ((a + w : Nat) : Int) < least then ((a + w : Nat) : Int) else least | none => least
def least2 (least : Int) (a j : Nat) (p : By) (ps : List By) : Int := if (p = [] ∨ (j = 15 ∧ ps ≠ [])) ∧ ((a + p.length : Nat) : Int) < least then ((a + p.length : Nat) : Int) else least
def LR : Int → Nat → Nat → List By → Int
  | least, _, _, [] => least
  | least, a, j, p :: ps => LR (least2 (least1 least a p) a j p ps) (a + p.length + 1) (j + 1) ps
theorem LR_small : ∀ (P : List By) (least : Int) (a j : Nat), least ≤ a → LR least a j P = least := by
  intro P
  induction P with
  | nil => intro _ _ _ _; rfl
  | cons p ps ih =>
    intro least a j h
    have h1 : least1 least a p = least := by
      unfold least1
      split
      · rw [if_neg (by omega)]
      · rfl
    have h2 : least2 least a j p ps = least := by unfold least2; rw [if_neg (by omega)]
    rw [LR, h1, h2]
    exact ih _ _ _ (by omega)
theorem LR_badG : ∀ (P : List By) (a j n : Nat), a + (joinP P).length ≤ n → LR ((n : Int) + 1) a j P = (match badG a j P with | some g => (g : Int) | none => (n : Int) + 1) := by
  intro P
  induction P with
  | nil => intro _ _ _ _; rfl
  | cons p ps ih =>
    intro a j n h
    have hlen : (joinP (p :: ps)).length = p.length + (if ps = [] then 0 else 1 + (joinP ps).length) := by
      by_cases hq : ps = []
      · subst hq; simp [joinP]
      · rw [join_cons _ _ hq, if_neg hq]; simp; omega
    rw [LR, badG]
    cases hw : wrongB p with
    | some w =>
      have hwl := wrong_lt p w hw
      have h1 : least1 ((n : Int) + 1) a p = ((a + w : Nat) : Int) := by unfold least1; rw [hw]; simp only; rw [if_pos (by omega)]
      have h2 : least2 ((a + w : Nat) : Int) a j p ps = ((a + w : Nat) : Int) := by unfold least2; rw [if_neg (by omega)]
      rw [h1, h2, LR_small _ _ _ _ (by omega)]
    | none =>
      have h1 : least1 ((n : Int) + 1) a p = (n : Int) + 1 := by unfold least1; rw [hw]
      rw [h1]
      simp only
      by_cases hc : p = [] ∨ (j = 15 ∧ ps ≠ [])
      · have h2 : least2 ((n : Int) + 1) a j p ps = ((a + p.length : Nat) : Int) := by unfold least2; rw [if_pos ⟨hc, by omega⟩]
        rw [h2, if_pos hc, LR_small _ _ _ _ (by omega)]
      · have h2 : least2 ((n : Int) + 1) a j p ps = (n : Int) + 1 := by unfold least2; rw [if_neg (fun h => hc h.1)]
        rw [h2, if_neg hc]
        by_cases hq : ps = []
        · subst hq; rfl
        · rw [if_neg hq] at hlen
          exact ih _ _ _ (by omega)
theorem rd_at (P : List By) (i : Nat) (p : By) (ps : List By) (h : P.drop i = p :: ps) : rdOf ByteArray.empty (P.map mk) (i : Int) = mk p ∧ i < P.length ∧ P.drop (i + 1) = ps := by
  have hl : i < P.length := by
    rcases Nat.lt_or_ge i P.length with hh | hh
    · exact hh
    · rw [List.drop_eq_nil_of_le hh] at h; cases h
  rw [List.drop_eq_getElem_cons hl] at h
  obtain ⟨h1, h2⟩ := List.cons.inj h
  refine ⟨?_, hl, h2⟩
  unfold rdOf
  rw [Int.toNat_natCast, List.getD_eq_getElem?_getD, List.getElem?_map, List.getElem?_eq_getElem hl, h1]; rfl
theorem w_add (a b : Nat) (h : a + b ≤ 1000000) : wrap64 ((a : Int) + (b : Int)) = ((a + b : Nat) : Int) := by rw [IntWalk.wrap64_in _ (by omega)]; omega
theorem parseR_ev (s : ByteArray) (hs : s.size ≤ 100000) (P0 : List By) (hP0 : P0.length ≤ 200000) : ∀ (P : List By) (i a : Nat) (least : Int), P0.drop i = P → a + (joinP P).length ≤ 100000 → 0 ≤ least → least ≤ 1000000 → i ≤ P0.length →
    Ev (fun k => kilnref5_Parse.l0 k s (P0.map mk) least a i) (if (255 < (s.size : Int) ∧ 255 < LR least a i P) then ([], 255) else if LR least a i P ≤ s.size then ([], LR least a i P) else (P0.map mk, -1)) := by
  intro P
  induction P with
  | nil =>
    intro i a least hd ha hl0 hl1 hi
    have hil : i = P0.length := by
      have := congrArg List.length hd
      rw [List.length_drop] at this
      simp at this; omega
    have hLR : LR least a i [] = least := rfl
    rw [hLR]
    have hend : ¬ ((i : Int) < ((P0.map mk).length : Int)) := by rw [List.length_map]; omega
    have hj : ∀ b : Bool, Ev (fun k => kilnref5_Parse.j2 k s (P0.map mk) least b) (if b = true then (if 255 ≤ (s.size : Int) then ([], 255) else (P0.map mk, -1)) else (if least ≤ s.size then ([], least) else (P0.map mk, -1))) := by
      intro b
      cases b with
      | true =>
        refine Ev.step (f := fun _ => some (if 255 ≤ (s.size : Int) then ([], 255) else (P0.map mk, -1))) (fun k => ?_) (Ev.now _)
        rw [kilnref5_Parse.j2, if_pos rfl]
        split <;> rfl
      | false =>
        refine Ev.step (f := fun _ => some (if least ≤ (s.size : Int) then ([], least) else (P0.map mk, -1))) (fun k => ?_) (Ev.now _)
        rw [kilnref5_Parse.j2, if_neg (by decide)]
        split <;> rfl
    by_cases h : (s.size : Int) > 255
    · have := hj (decide (255 < least))
      by_cases h2 : 255 < least
      · rw [decide_eq_true h2, if_pos rfl, if_pos (by omega)] at this
        rw [if_pos ⟨h, h2⟩]
        refine Ev.step (f := fun k => kilnref5_Parse.j2 k s (P0.map mk) least true) (fun k => ?_) this
        rw [kilnref5_Parse.l0, if_neg hend, if_pos h, decide_eq_true h2]
      · rw [decide_eq_false h2, if_neg (by decide)] at this
        rw [if_neg (fun hh => h2 hh.2)]
        refine Ev.step (f := fun k => kilnref5_Parse.j2 k s (P0.map mk) least false) (fun k => ?_) this
        rw [kilnref5_Parse.l0, if_neg hend, if_pos h, decide_eq_false h2]
    · have := hj false
      rw [if_neg (by decide)] at this
      rw [if_neg (fun hh => h hh.1)]
      refine Ev.step (f := fun k => kilnref5_Parse.j2 k s (P0.map mk) least false) (fun k => ?_) this
      rw [kilnref5_Parse.l0, if_neg hend, if_neg h]
  | cons p ps ih =>
    intro i a least hd ha hl0 hl1 hi
    obtain ⟨hr, hlt, hd2⟩ := rd_at P0 i p ps hd
    have hlen : (joinP (p :: ps)).length = p.length + (if ps = [] then 0 else 1 + (joinP ps).length) := by
      by_cases hq : ps = []
      · subst hq; simp [joinP]
      · rw [join_cons _ _ hq, if_neg hq]; simp; omega
    have hpz : (mk p).size ≤ 1000000 := by rw [mk_size]; omega
    have hsm : a + p.length ≤ 1000000 ∧ a + p.length + 1 ≤ 1000000 ∧ i + 1 ≤ 1000000 := by omega
    have haa : 0 ≤ (a : Int) ∧ (a : Int) ≤ 1000000 := by omega
    have hltI : (i : Int) < ((P0.map mk).length : Int) := by rw [List.length_map]; omega
    have hnn : (0 : Int) ≤ (i : Int) := Int.natCast_nonneg _
    have hps : (((i + 1 : Nat) : Int) < ((P0.map mk).length : Int)) ↔ ps ≠ [] := by
      rw [List.length_map, ← hd2]
      constructor
      · intro h hn
        have := congrArg List.length hn
        rw [List.length_drop] at this
        simp at this; omega
      · intro h
        have := List.length_pos_iff.2 h
        rw [List.length_drop] at this
        omega
    have hl1b : 0 ≤ least1 least a p ∧ least1 least a p ≤ 1000000 := by
      unfold least1
      split
      · split <;> omega
      · omega
    -- behind the part
    have hnext : Ev (fun k => kilnref5_Parse.l0 k s (P0.map mk) (least2 (least1 least a p) a i p ps) ((a + p.length + 1 : Nat) : Int) ((i + 1 : Nat) : Int)) (if (255 < (s.size : Int) ∧ 255 < LR least a i (p :: ps)) then ([], 255) else if LR least a i (p :: ps) ≤ s.size then ([], LR least a i (p :: ps)) else (P0.map mk, -1)) := by
      have hl2b : 0 ≤ least2 (least1 least a p) a i p ps ∧ least2 (least1 least a p) a i p ps ≤ 1000000 := by
        unfold least2
        split <;> omega
      by_cases hq : ps = []
      · subst hq
        have e : LR least a i [p] = LR (least2 (least1 least a p) a i p []) (a + p.length + 1) (i + 1) [] := rfl
        rw [e]
        by_cases hbig : a + p.length + 1 ≤ 100000
        · exact ih (i + 1) (a + p.length + 1) _ hd2 (by simp [joinP]; omega) hl2b.1 hl2b.2 (by omega)
        · -- the last place
          have h0 := ih (i + 1) 0 (least2 (least1 least a p) a i p []) hd2 (by simp [joinP]) hl2b.1 hl2b.2 (by omega)
          have e1 : LR (least2 (least1 least a p) a i p []) 0 (i + 1) [] = LR (least2 (least1 least a p) a i p []) (a + p.length + 1) (i + 1) [] := rfl
          rw [e1] at h0
          have hend : ¬ (((i + 1 : Nat) : Int) < ((P0.map mk).length : Int)) := fun h => absurd rfl (hps.1 h)
          have hsame : ∀ k, kilnref5_Parse.l0 k s (P0.map mk) (least2 (least1 least a p) a i p []) ((a + p.length + 1 : Nat) : Int) ((i + 1 : Nat) : Int) = kilnref5_Parse.l0 k s (P0.map mk) (least2 (least1 least a p) a i p []) ((0 : Nat) : Int) ((i + 1 : Nat) : Int) := by
            intro k
            cases k with
            | zero => rfl
            | succ k => rw [kilnref5_Parse.l0, kilnref5_Parse.l0, if_neg hend, if_neg hend]
          exact Ev.congr hsame h0
      · rw [if_neg hq] at hlen
        exact ih (i + 1) (a + p.length + 1) _ hd2 (by omega) hl2b.1 hl2b.2 (by omega)
    -- the part's end
    have hsz : ((mk p).size : Int) = p.length := by rw [mk_size]
    have hw1 : wrap64 ((a : Int) + ((mk p).size : Int)) = ((a + p.length : Nat) : Int) := by rw [hsz]; exact w_add a p.length hsm.1
    have hw2 : wrap64 (((a + p.length : Nat) : Int) + 1) = ((a + p.length + 1 : Nat) : Int) := w_add (a + p.length) 1 hsm.2.1
    have hw3 : wrap64 ((i : Int) + 1) = ((i + 1 : Nat) : Int) := w_add i 1 hsm.2.2
    have hend : ∀ (l1 : Int) (k : Nat), (if ((mk p).size : Int) = 0 then (if ((a + p.length : Nat) : Int) < l1 then (kilnref5_Parse.l0 k s (P0.map mk) ((a + p.length : Nat) : Int) ((a + p.length + 1 : Nat) : Int) ((i + 1 : Nat) : Int)) else (kilnref5_Parse.l0 k s (P0.map mk) l1 ((a + p.length + 1 : Nat) : Int) ((i + 1 : Nat) : Int))) else (if (i : Int) = 15 then (if ((i + 1 : Nat) : Int) < ((P0.map mk).length : Int) then (if ((a + p.length : Nat) : Int) < l1 then (kilnref5_Parse.l0 k s (P0.map mk) ((a + p.length : Nat) : Int) ((a + p.length + 1 : Nat) : Int) ((i + 1 : Nat) : Int)) else (kilnref5_Parse.l0 k s (P0.map mk) l1 ((a + p.length + 1 : Nat) : Int) ((i + 1 : Nat) : Int))) else (kilnref5_Parse.l0 k s (P0.map mk) l1 ((a + p.length + 1 : Nat) : Int) ((i + 1 : Nat) : Int))) else (kilnref5_Parse.l0 k s (P0.map mk) l1 ((a + p.length + 1 : Nat) : Int) ((i + 1 : Nat) : Int)))) = kilnref5_Parse.l0 k s (P0.map mk) (least2 l1 a i p ps) ((a + p.length + 1 : Nat) : Int) ((i + 1 : Nat) : Int) := by
      intro l1 k
      unfold least2
      by_cases hp : p = []
      · rw [if_pos (by rw [hsz, hp]; rfl)]
        by_cases h2 : ((a + p.length : Nat) : Int) < l1
        · rw [if_pos h2, if_pos ⟨.inl hp, h2⟩]
        · rw [if_neg h2, if_neg (fun h => h2 h.2)]
      · have hpl := List.length_pos_iff.2 hp
        have hz : ¬ (p.length : Int) = 0 := fun h => by have := Int.ofNat_inj.1 (h : ((p.length : Nat) : Int) = ((0 : Nat) : Int)); rw [this] at hpl; exact absurd hpl (Nat.lt_irrefl _)
        rw [if_neg (by rw [hsz]; exact hz)]
        by_cases h15 : i = 15
        · rw [if_pos (show (i : Int) = 15 by rw [h15]; rfl)]
          by_cases hq : ps = []
          · rw [if_neg (fun h => hps.1 h hq), if_neg (by simp [hp, hq])]
          · rw [if_pos (hps.2 hq)]
            by_cases h2 : ((a + p.length : Nat) : Int) < l1
            · rw [if_pos h2, if_pos ⟨.inr ⟨h15, hq⟩, h2⟩]
            · rw [if_neg h2, if_neg (fun h => h2 h.2)]
        · have hi15 : ¬ (i : Int) = 15 := fun h => h15 (Int.ofNat_inj.1 (h : ((i : Nat) : Int) = ((15 : Nat) : Int)))
          rw [if_neg hi15, if_neg (by simp [hp, h15])]
    have hj1 : ∀ (w : Int) (b : Bool), Ev (fun k => kilnref5_Parse.l0 k s (P0.map mk) (least2 (if b = true then w else least) a i p ps) ((a + p.length + 1 : Nat) : Int) ((i + 1 : Nat) : Int)) (if (255 < (s.size : Int) ∧ 255 < LR least a i (p :: ps)) then ([], 255) else if LR least a i (p :: ps) ≤ s.size then ([], LR least a i (p :: ps)) else (P0.map mk, -1)) → Ev (fun k => kilnref5_Parse.j1 k s (P0.map mk) least a i w b) (if (255 < (s.size : Int) ∧ 255 < LR least a i (p :: ps)) then ([], 255) else if LR least a i (p :: ps) ≤ s.size then ([], LR least a i (p :: ps)) else (P0.map mk, -1)) := by
      intro w b h
      refine Ev.step (fun k => ?_) h
      rw [← hend, kilnref5_Parse.j1, hr, hw1, hw2, hw3]
      cases b with
      | true => rw [if_pos rfl, if_pos hnn, if_pos hltI]; rfl
      | false => rw [if_neg (by decide), if_pos hnn, if_pos hltI]; rfl
    let f : Nat → Option (List ByteArray × Int) := fun k => (kilnref5_wrong.f k (mk p) (a : Int)).bind fun t118 => (if t118 ≥ 0 then (kilnref5_Parse.j1 k s (P0.map mk) least a i t118 (decide (t118 < least))) else (kilnref5_Parse.j1 k s (P0.map mk) least a i t118 false))
    refine Ev.step (f := f) (fun k => ?_) ?_
    · rw [kilnref5_Parse.l0, if_pos hltI, if_pos hnn, hr]
    refine Ev.bind (Wrong_ev (mk p) hpz a haa) ?_
    rw [bs_mk]
    cases hw : wrongB p with
    | none =>
      have e : wrongV (a : Int) p = -1 := by unfold wrongV; rw [hw]
      rw [e]
      refine Ev.congr (fun k => if_neg (by decide)) (hj1 _ false ?_)
      have e1 : least1 least a p = least := by unfold least1; rw [hw]
      rw [e1] at hnext
      exact hnext
    | some w =>
      have e : wrongV (a : Int) p = ((a + w : Nat) : Int) := by unfold wrongV; rw [hw]; simp
      rw [e]
      refine Ev.congr (fun k => if_pos (Int.natCast_nonneg _)) (hj1 _ _ ?_)
      have e1 : least1 least a p = if decide (((a + w : Nat) : Int) < least) = true then ((a + w : Nat) : Int) else least := by
        unfold least1; rw [hw]; simp only
        by_cases hh : ((a + w : Nat) : Int) < least
        · rw [if_pos hh, if_pos (decide_eq_true hh)]
        · rw [if_neg hh, if_neg (by rw [decide_eq_false hh]; decide)]
      rw [e1] at hnext
      exact hnext
theorem ParseR_ev (s : ByteArray) (hs : s.size ≤ 10000) : Ev (fun k => kilnref5_Parse.f k s) (if faultV (bs s) ≥ 0 then ([], faultV (bs s)) else ((partsB (bs s)).map mk, -1)) := by
  unfold kilnref5_Parse.f
  refine Ev.bind (Parts_ev s (by omega)) ?_
  have hpl := parts_len (bs s)
  rw [bs_length] at hpl
  have h := parseR_ev s (by omega) (partsB (bs s)) (by omega) (partsB (bs s)) 0 0 ((s.size : Int) + 1) rfl (by rw [join_parts, bs_length]; omega) (by omega) (by omega) (by omega)
  have hLR := LR_badG (partsB (bs s)) 0 0 s.size (by rw [join_parts, bs_length]; omega)
  have hw : wrap64 ((s.size : Int) + 1) = (s.size : Int) + 1 := IntWalk.wrap64_in _ (by omega)
  rw [hw]
  have hbd := fun g hg => (badG_ge (partsB (bs s)) 0 0 g hg).2
  rw [join_parts, bs_length] at hbd
  have e : (if (255 < (s.size : Int) ∧ 255 < LR ((s.size : Int) + 1) 0 0 (partsB (bs s))) then (([] : List ByteArray), (255 : Int)) else if LR ((s.size : Int) + 1) 0 0 (partsB (bs s)) ≤ s.size then ([], LR ((s.size : Int) + 1) 0 0 (partsB (bs s))) else ((partsB (bs s)).map mk, -1)) = (if faultV (bs s) ≥ 0 then ([], faultV (bs s)) else ((partsB (bs s)).map mk, -1)) := by
    unfold faultV
    rw [bs_length, hLR]
    cases hg : badG 0 0 (partsB (bs s)) with
    | none =>
      unfold faultF; simp only
      by_cases h255 : 255 < s.size
      · rw [if_pos (by omega), if_pos h255, if_pos (by decide)]
      · rw [if_neg (by omega), if_neg (by omega), if_neg h255, if_neg (by decide)]
    | some g =>
      have := hbd g hg
      unfold faultF; simp only
      by_cases h255 : 255 < s.size ∧ 255 < g
      · rw [if_pos (by omega), if_pos h255, if_pos (by decide)]
      · rw [if_neg (by omega), if_pos (by omega), if_neg h255, if_pos (by omega)]
  rw [e] at h
  exact h
theorem same_ev (l : List ByteArray) (hn : l.length ≤ 1000000000) : Ev (fun k => kilnref5_Same.f k l l) true := by
  obtain ⟨k, h⟩ := same_self l (by omega)
  exact Ev.of (fun k => kilnref5_Same.mono l l k) h
theorem parses_ev (s : ByteArray) (hs : s.size ≤ 10000) : Ev (fun k => kilnlaw5_parses.f k s) true := by
  unfold kilnlaw5_parses.f
  refine Ev.bind (Parse_ev s (by omega)) ?_
  refine Ev.bind (ParseR_ev s hs) ?_
  by_cases h : faultV (bs s) ≥ 0
  · have e1 : (if faultV (bs s) ≥ 0 then (([] : List ByteArray), (50 : Int), faultV (bs s)) else ((partsB (bs s)).map mk, 0, 0)) = ([], 50, faultV (bs s)) := if_pos h
    have e2 : (if faultV (bs s) ≥ 0 then (([] : List ByteArray), faultV (bs s)) else ((partsB (bs s)).map mk, -1)) = ([], faultV (bs s)) := if_pos h
    rw [e1, e2]
    refine Ev.congr (f := fun _ => some true) (fun k => ?_) (Ev.now _)
    simp only [if_pos h]
    simp
  · have e1 : (if faultV (bs s) ≥ 0 then (([] : List ByteArray), (50 : Int), faultV (bs s)) else ((partsB (bs s)).map mk, 0, 0)) = ((partsB (bs s)).map mk, 0, 0) := if_neg h
    have e2 : (if faultV (bs s) ≥ 0 then (([] : List ByteArray), faultV (bs s)) else ((partsB (bs s)).map mk, -1)) = ((partsB (bs s)).map mk, -1) := if_neg h
    rw [e1, e2]
    refine Ev.congr (fun k => if_neg (show ¬ (-1 : Int) ≥ 0 by decide)) ?_
    refine Ev.congr (fun k => if_pos rfl) ?_
    refine Ev.congr (fun k => if_pos rfl) ?_
    have hpl := parts_len (bs s)
    rw [bs_length] at hpl
    exact Ev.bind (f := fun _ t => some t) (same_ev _ (by rw [List.length_map]; omega)) (Ev.now _)
end Go.Proofs.YtlcnhhpleiamhaaDoor.G

-- Path, the plain law, part 4: Order and Under.
namespace Go.Proofs.YtlcnhhpleiamhaaDoor.G
open Go.RowKit Go.Proofs.YtlcnhhpleiamhaaDoorW.PrintWords Go.Proofs.YtlcnhhpleiamhaaDoorW.PrintLast Go.Proofs.YtlcnhhpleiamhaaDoorW.PrintMore
set_option linter.unusedVariables false
set_option linter.unusedSimpArgs false

def wc (c : UInt8) : Int := if c = 47 then 1 else 2 + cI c
theorem wc_pos (c : UInt8) : 1 ≤ wc c := by have := cI_bd c; unfold wc; split <;> omega
theorem wc_47 : wc 47 = 1 := rfl
theorem wc_ne {c : UInt8} (h : c ≠ 47) : wc c = 2 + cI c := if_neg h
theorem wc_inj {c d : UInt8} (h : wc c = wc d) : c = d := by
  have h1 := cI_bd c
  have h2 := cI_bd d
  unfold wc at h
  by_cases e1 : c = 47
  · by_cases e2 : d = 47
    · rw [e1, e2]
    · rw [if_pos e1, if_neg e2] at h; omega
  · by_cases e2 : d = 47
    · rw [if_neg e1, if_pos e2] at h; omega
    · rw [if_neg e1, if_neg e2] at h; exact cI_inj (by omega)
def cmpW : By → By → Int
  | [], [] => 0
  | [], _ :: _ => -1
  | _ :: _, [] => 1
  | a :: x, b :: y => if wc a < wc b then -1 else if wc a > wc b then 1 else cmpW x y
def wtL : By → Int
  | [] => 0
  | c :: _ => wc c
theorem weight_is (s : ByteArray) (i : Int) (h0 : 0 ≤ i) : path_weight.f s i = some (wtL ((bs s).drop i.toNat)) := by
  unfold path_weight.f
  by_cases h : i ≥ (s.size : Int)
  · rw [if_pos h, drop_end s i h]; rfl
  · obtain ⟨c, hd, hb⟩ := drop_at s i h0 (by omega)
    rw [if_neg h, if_pos h0, if_pos (by omega), hb, hd]
    have hbd := cI_bd c
    show (if cI c = 47 then some 1 else some (wrap64 (2 + wrap64 (cI c)))) = some (wc c)
    by_cases hc : c = 47
    · rw [if_pos (by rw [hc]; rfl), hc]; rfl
    · have h47 : ¬ cI c = 47 := fun h => hc (cI_inj (b := 47) h)
      rw [if_neg h47, wc_ne hc, IntWalk.wrap64_in (cI c) (by omega), IntWalk.wrap64_in _ (by omega)]
theorem order_ev (a b : ByteArray) (ha : a.size ≤ 1000000) (hb : b.size ≤ 1000000) : ∀ (n : Nat) (i : Int), n = a.size + b.size - 2 * i.toNat → 0 ≤ i → (i ≤ a.size ∨ i ≤ b.size) → Ev (fun k => path_Order.l0 k a b i) (cmpW ((bs a).drop i.toNat) ((bs b).drop i.toNat)) := by
  have hj : ∀ (i : Int), 0 ≤ i → (i < a.size ∨ i < b.size) → Ev (fun k => path_Order.l0 k a b (i + 1)) (cmpW ((bs a).drop (i + 1).toNat) ((bs b).drop (i + 1).toNat)) → Ev (fun k => path_Order.j1 k a b i true) (cmpW ((bs a).drop i.toNat) ((bs b).drop i.toNat)) := by
    intro i h0 hor hrec
    have hw : wrap64 (i + 1) = i + 1 := IntWalk.wrap64_in _ (by omega)
    have hstep : ∀ k, path_Order.j1 (k + 1) a b i true = (if wtL ((bs a).drop i.toNat) < wtL ((bs b).drop i.toNat) then some (-1) else (if wtL ((bs a).drop i.toNat) > wtL ((bs b).drop i.toNat) then some 1 else path_Order.l0 k a b (i + 1))) := by
      intro k
      rw [path_Order.j1, if_pos rfl, weight_is a i h0, weight_is b i h0, Option.bind_some, Option.bind_some, hw]
    by_cases h1 : i < (a.size : Int)
    · obtain ⟨c, hd, _⟩ := drop_at a i h0 h1
      by_cases h2 : i < (b.size : Int)
      · obtain ⟨d, he, _⟩ := drop_at b i h0 h2
        rw [hd, he] at hstep ⊢
        rw [cmpW]
        by_cases l1 : wc c < wc d
        · rw [if_pos l1]
          exact Ev.step (f := fun _ => some (-1)) (fun k => by rw [hstep]; exact if_pos l1) (Ev.now _)
        · rw [if_neg l1]
          by_cases l2 : wc c > wc d
          · rw [if_pos l2]
            exact Ev.step (f := fun _ => some 1) (fun k => by rw [hstep]; exact (if_neg l1).trans (if_pos l2)) (Ev.now _)
          · rw [if_neg l2]
            exact Ev.step (fun k => by rw [hstep]; exact (if_neg l1).trans (if_neg l2)) hrec
      · rw [drop_end b i (by omega), hd] at hstep ⊢
        have := wc_pos c
        have l1 : ¬ wtL (c :: (bs a).drop (i + 1).toNat) < wtL [] := by show ¬ wc c < 0; omega
        have l2 : wtL (c :: (bs a).drop (i + 1).toNat) > wtL [] := by show wc c > 0; omega
        exact Ev.step (f := fun _ => some 1) (fun k => by rw [hstep]; exact (if_neg l1).trans (if_pos l2)) (Ev.now _)
    · have h2 : i < (b.size : Int) := by omega
      obtain ⟨d, he, _⟩ := drop_at b i h0 h2
      rw [drop_end a i (by omega), he] at hstep ⊢
      have := wc_pos d
      have l1 : wtL [] < wtL (d :: (bs b).drop (i + 1).toNat) := by show 0 < wc d; omega
      exact Ev.step (f := fun _ => some (-1)) (fun k => by rw [hstep]; exact if_pos l1) (Ev.now _)
  have hend : ∀ i : Int, 0 ≤ i → (a.size : Int) ≤ i → (b.size : Int) ≤ i → Ev (fun k => path_Order.l0 k a b i) (cmpW ((bs a).drop i.toNat) ((bs b).drop i.toNat)) := by
    intro i h0 h1 h2
    rw [drop_end a i h1, drop_end b i h2]
    refine Ev.step (f := fun k => path_Order.j1 k a b i false) (fun k => ?_) (Ev.step (f := fun _ => some 0) (fun k => ?_) (Ev.now _))
    · rw [path_Order.l0, if_neg (by omega), decide_eq_false (by omega)]
    · rw [path_Order.j1, if_neg (by decide)]
  intro n
  induction n using Nat.strongRecOn with
  | _ n ih =>
    intro i hn h0 hor
    by_cases hlt : i < a.size ∨ i < b.size
    · have hrec : Ev (fun k => path_Order.l0 k a b (i + 1)) (cmpW ((bs a).drop (i + 1).toNat) ((bs b).drop (i + 1).toNat)) := by
        by_cases hin : i + 1 < a.size ∨ i + 1 < b.size
        · by_cases hboth : 2 * (i + 1).toNat ≤ a.size + b.size
          · exact ih _ (by omega) (i + 1) rfl (by omega) (by omega)
          · -- one of them is past its end: go by what is left of the longer one
            have key : ∀ (m : Nat) (i : Int), m = (max a.size b.size : Nat) - i.toNat → 0 ≤ i → Ev (fun k => path_Order.l0 k a b i) (cmpW ((bs a).drop i.toNat) ((bs b).drop i.toNat)) := by
              intro m
              induction m with
              | zero => intro i hm hi; exact hend i hi (by omega) (by omega)
              | succ m ihm =>
                intro i hm hi
                have hor2 : i < a.size ∨ i < b.size := by omega
                have := hj i hi hor2 (ihm (i + 1) (by omega) (by omega))
                refine Ev.step (fun k => ?_) this
                rw [path_Order.l0]
                by_cases h : i < (a.size : Int)
                · rw [if_pos h]
                · rw [if_neg h, decide_eq_true (by omega)]
            exact key _ (i + 1) rfl (by omega)
        · exact hend (i + 1) (by omega) (by omega) (by omega)
      have := hj i h0 hlt hrec
      refine Ev.step (fun k => ?_) this
      rw [path_Order.l0]
      by_cases h : i < (a.size : Int)
      · rw [if_pos h]
      · rw [if_neg h, decide_eq_true (by omega)]
    · exact hend i h0 (by omega) (by omega)
theorem Order_ev (a b : ByteArray) (ha : a.size ≤ 1000000) (hb : b.size ≤ 1000000) : Ev (fun k => path_Order.f k a b) (cmpW (bs a) (bs b)) :=
  order_ev a b ha hb _ 0 rfl (Int.le_refl _) (.inl (by omega))
/-! the document's order -/
def cmpB : By → By → Int
  | [], [] => 0
  | [], _ :: _ => -1
  | _ :: _, [] => 1
  | a :: x, b :: y => if cI a < cI b then -1 else if cI a > cI b then 1 else cmpB x y
def cmpP : List By → List By → Int
  | [], [] => 0
  | [], _ :: _ => -1
  | _ :: _, [] => 1
  | p :: x, q :: y => if cmpB p q = 0 then cmpP x y else cmpB p q
theorem bytew_ev (a b : ByteArray) (ha : a.size ≤ 1000000) (hb : b.size ≤ 1000000) : ∀ (n : Nat) (i : Int), n = (a.size - i).toNat → 0 ≤ i → i ≤ a.size → i ≤ b.size → Ev (fun k => kilnref5_bytewise.l0 k a b i) (cmpB ((bs a).drop i.toNat) ((bs b).drop i.toNat)) := by
  have hj : ∀ i : Int, 0 ≤ i → i ≤ a.size → i ≤ b.size → (i = a.size ∨ i = b.size) → Ev (fun k => kilnref5_bytewise.j1 k a b i false) (cmpB ((bs a).drop i.toNat) ((bs b).drop i.toNat)) := by
    intro i h0 h1 h2 hor
    refine Ev.step (f := fun _ => some (cmpB ((bs a).drop i.toNat) ((bs b).drop i.toNat))) (fun k => ?_) (Ev.now _)
    rw [kilnref5_bytewise.j1, if_neg (by decide)]
    by_cases e1 : i = a.size
    · rw [drop_end a i (by omega)]
      by_cases e2 : i = b.size
      · rw [drop_end b i (by omega), if_neg (by omega), if_neg (by omega)]; rfl
      · obtain ⟨d, he, _⟩ := drop_at b i h0 (by omega)
        rw [he, if_pos (by omega)]; rfl
    · obtain ⟨c, hd, _⟩ := drop_at a i h0 (by omega)
      rw [hd, drop_end b i (by omega), if_neg (by omega), if_pos (by omega)]; rfl
  intro n
  induction n with
  | zero =>
    intro i hn h0 h1 h2
    refine Ev.step (fun k => ?_) (hj i h0 h1 h2 (.inl (by omega)))
    rw [kilnref5_bytewise.l0, if_neg (by omega)]
  | succ n ih =>
    intro i hn h0 h1 h2
    have hlt : i < (a.size : Int) := by omega
    by_cases hb2 : i < (b.size : Int)
    · obtain ⟨c, hd, hbc⟩ := drop_at a i h0 hlt
      obtain ⟨d, he, hbd⟩ := drop_at b i h0 hb2
      refine Ev.step (f := fun k => kilnref5_bytewise.j1 k a b i true) (fun k => ?_) ?_
      · rw [kilnref5_bytewise.l0, if_pos hlt, decide_eq_true hb2]
      have hrec := ih (i + 1) (by omega) (by omega) (by omega) (by omega)
      have hw : wrap64 (i + 1) = i + 1 := IntWalk.wrap64_in _ (by omega)
      have hstep : ∀ k, kilnref5_bytewise.j1 (k + 1) a b i true = (if cI c < cI d then some (-1) else (if cI c > cI d then some 1 else kilnref5_bytewise.l0 k a b (i + 1))) := by
        intro k
        rw [kilnref5_bytewise.j1, if_pos rfl, if_pos h0, if_pos hlt, if_pos hb2, hbc, hbd, hw]
      rw [hd, he, cmpB]
      by_cases l1 : cI c < cI d
      · rw [if_pos l1]
        exact Ev.step (f := fun _ => some (-1)) (fun k => by rw [hstep]; exact if_pos l1) (Ev.now _)
      · rw [if_neg l1]
        by_cases l2 : cI c > cI d
        · rw [if_pos l2]
          exact Ev.step (f := fun _ => some 1) (fun k => by rw [hstep]; exact (if_neg l1).trans (if_pos l2)) (Ev.now _)
        · rw [if_neg l2]
          exact Ev.step (fun k => by rw [hstep]; exact (if_neg l1).trans (if_neg l2)) hrec
    · refine Ev.step (fun k => ?_) (hj i h0 h1 h2 (.inr (by omega)))
      rw [kilnref5_bytewise.l0, if_pos hlt, decide_eq_false hb2]
theorem Bytew_ev (a b : ByteArray) (ha : a.size ≤ 1000000) (hb : b.size ≤ 1000000) : Ev (fun k => kilnref5_bytewise.f k a b) (cmpB (bs a) (bs b)) :=
  bytew_ev a b ha hb _ 0 rfl (Int.le_refl _) (by omega) (by omega)
theorem rd_mk (P : List By) (i : Nat) (p : By) (ps : List By) (h : P.drop i = p :: ps) : rdOf ByteArray.empty (P.map mk) (i : Int) = mk p := (rd_at P i p ps h).1
theorem drop_len {α : Type} (P : List α) (i : Nat) (hi : i ≤ P.length) : (P.drop i = [] ↔ i = P.length) := by
  constructor
  · intro h
    have := congrArg List.length h
    rw [List.length_drop] at this
    simp at this; omega
  · intro h; exact List.drop_eq_nil_of_le (by omega)
theorem orderP_ev (P Q : List By) (hP : P.length ≤ 1000000) (hQ : Q.length ≤ 1000000) (hPs : ∀ p ∈ P, p.length ≤ 1000000) (hQs : ∀ p ∈ Q, p.length ≤ 1000000) : ∀ (X Y : List By) (i : Nat), P.drop i = X → Q.drop i = Y → i ≤ P.length → i ≤ Q.length → Ev (fun k => kilnref5_Order.l0 k (P.map mk) (Q.map mk) i) (cmpP X Y) := by
  have hj : ∀ (X Y : List By) (i : Nat), P.drop i = X → Q.drop i = Y → i ≤ P.length → i ≤ Q.length → (X = [] ∨ Y = []) → Ev (fun k => kilnref5_Order.j1 k (P.map mk) (Q.map mk) i false) (cmpP X Y) := by
    intro X Y i hX hY hi1 hi2 hor
    have l1 := congrArg List.length hX
    have l2 := congrArg List.length hY
    rw [List.length_drop] at l1 l2
    refine Ev.step (f := fun _ => some (cmpP X Y)) (fun k => ?_) (Ev.now _)
    rw [kilnref5_Order.j1, if_neg (by decide), List.length_map, List.length_map]
    cases X with
    | nil =>
      cases Y with
      | nil => simp at l1 l2; rw [if_neg (by omega), if_neg (by omega)]; rfl
      | cons q Y => simp at l1 l2; rw [if_pos (by omega)]; rfl
    | cons p X =>
      cases Y with
      | nil => simp at l1 l2; rw [if_neg (by omega), if_pos (by omega)]; rfl
      | cons q Y => rcases hor with h | h <;> cases h
  intro X
  induction X with
  | nil =>
    intro Y i hX hY hi1 hi2
    have := (drop_len P i hi1).1 hX
    refine Ev.step (fun k => ?_) (hj [] Y i hX hY hi1 hi2 (.inl rfl))
    rw [kilnref5_Order.l0, List.length_map, if_neg (by omega)]
  | cons p X ih =>
    intro Y i hX hY hi1 hi2
    obtain ⟨hr, hlt, hX2⟩ := rd_at P i p X hX
    have hltI : (i : Int) < ((P.map mk).length : Int) := by rw [List.length_map]; omega
    cases Y with
    | nil =>
      have := (drop_len Q i hi2).1 hY
      refine Ev.step (fun k => ?_) (hj (p :: X) [] i hX hY hi1 hi2 (.inr rfl))
      rw [kilnref5_Order.l0, if_pos hltI, decide_eq_false (by rw [List.length_map]; omega)]
    | cons q Y =>
      obtain ⟨hr2, hlt2, hY2⟩ := rd_at Q i q Y hY
      have hltI2 : (i : Int) < ((Q.map mk).length : Int) := by rw [List.length_map]; omega
      have hrec := ih Y (i + 1) hX2 hY2 (by omega) (by omega)
      have hp : p ∈ P := by have : p ∈ P.drop i := by rw [hX]; simp
                            exact List.mem_of_mem_drop this
      have hq : q ∈ Q := by have : q ∈ Q.drop i := by rw [hY]; simp
                            exact List.mem_of_mem_drop this
      refine Ev.step (f := fun k => kilnref5_Order.j1 k (P.map mk) (Q.map mk) i true) (fun k => ?_) ?_
      · rw [kilnref5_Order.l0, if_pos hltI, decide_eq_true hltI2]
      have hw : wrap64 ((i : Int) + 1) = ((i + 1 : Nat) : Int) := w_add i 1 (by omega)
      let f : Nat → Option Int := fun k => (kilnref5_bytewise.f k (mk p) (mk q)).bind fun t182 => (if t182 = 0 then (kilnref5_Order.l0 k (P.map mk) (Q.map mk) ((i + 1 : Nat) : Int)) else (some t182))
      refine Ev.step (f := f) (fun k => ?_) ?_
      · rw [kilnref5_Order.j1, if_pos rfl, if_pos (Int.natCast_nonneg _), if_pos hltI, if_pos hltI2, hr, hr2, hw]
      refine Ev.bind (Bytew_ev (mk p) (mk q) (by rw [mk_size]; exact hPs p hp) (by rw [mk_size]; exact hQs q hq)) ?_
      rw [bs_mk, bs_mk, cmpP]
      by_cases h : cmpB p q = 0
      · rw [if_pos h]; exact Ev.congr (fun k => if_pos h) hrec
      · rw [if_neg h]; exact Ev.congr (f := fun _ => some (cmpB p q)) (fun k => if_neg h) (Ev.now _)
theorem parts_47 (l : By) : partsB (47 :: l) = [] :: partsB l := by rw [partsB, if_pos rfl]
theorem cmp_eq : ∀ a b : By, cmpP (partsB a) (partsB b) = cmpW a b := by
  have ne0 : ∀ l : By, ∃ p ps, partsB l = p :: ps := fun l => by
    rcases h : partsB l with _ | ⟨p, ps⟩
    · exact absurd h (parts_ne l)
    · exact ⟨p, ps, rfl⟩
  intro a
  induction a with
  | nil =>
    intro b
    rcases b with _ | ⟨c, b⟩
    · rfl
    · obtain ⟨p, ps, hp⟩ := ne0 b
      by_cases h : c = 47
      · rw [h, parts_47, hp]; rfl
      · rw [parts_cons c b h, hp]; rfl
  | cons d a ih =>
    intro b
    obtain ⟨p, ps, hp⟩ := ne0 a
    rcases b with _ | ⟨c, b⟩
    · by_cases h : d = 47
      · rw [h, parts_47, hp]; rfl
      · rw [parts_cons d a h, hp]; rfl
    · obtain ⟨q, qs, hq⟩ := ne0 b
      have i1 := ih b
      rw [cmpW]
      have b1 := cI_bd c
      have b2 := cI_bd d
      by_cases h1 : d = 47
      · by_cases h2 : c = 47
        · rw [h1, h2, if_neg (by omega), if_neg (by omega), ← i1, parts_47, parts_47]; rfl
        · rw [h1, wc_47, wc_ne h2, if_pos (by omega), parts_47, parts_cons c b h2, hq]; rfl
      · by_cases h2 : c = 47
        · rw [h2, wc_47, wc_ne h1, if_neg (by omega), if_pos (by omega), parts_cons d a h1, hp, parts_47]; rfl
        · rw [wc_ne h1, wc_ne h2, parts_cons d a h1, parts_cons c b h2, hp, hq]
          rw [hp, hq] at i1
          have hs : ∀ x : UInt8, preP [x] (p :: ps) = (x :: p) :: ps := fun _ => rfl
          have hs2 : ∀ x : UInt8, preP [x] (q :: qs) = (x :: q) :: qs := fun _ => rfl
          rw [hs, hs2, cmpP, cmpB]
          by_cases l1 : cI d < cI c
          · rw [if_pos l1, if_neg (show ¬ (-1 : Int) = 0 by decide), if_pos (show 2 + cI d < 2 + cI c by omega)]
          · by_cases l2 : cI d > cI c
            · rw [if_neg l1, if_pos l2, if_neg (show ¬ (1 : Int) = 0 by decide), if_neg (show ¬ 2 + cI d < 2 + cI c by omega), if_pos (show 2 + cI d > 2 + cI c by omega)]
            · rw [if_neg l1, if_neg l2, if_neg (show ¬ 2 + cI d < 2 + cI c by omega), if_neg (show ¬ 2 + cI d > 2 + cI c by omega), ← i1, cmpP]
theorem OrderR_ev (a b : ByteArray) (ha : a.size ≤ 100000) (hb : b.size ≤ 100000) : Ev (fun k => kilnref5_Order.f k a b) (cmpW (bs a) (bs b)) := by
  unfold kilnref5_Order.f
  refine Ev.bind (Parts_ev a (by omega)) ?_
  refine Ev.bind (Parts_ev b (by omega)) ?_
  have l1 := parts_len (bs a)
  have l2 := parts_len (bs b)
  rw [bs_length] at l1 l2
  have h := orderP_ev (partsB (bs a)) (partsB (bs b)) (by omega) (by omega) (fun p hp => by have := (parts_mem _ p hp).2; rw [bs_length] at this; omega) (fun p hp => by have := (parts_mem _ p hp).2; rw [bs_length] at this; omega) _ _ 0 rfl rfl (by omega) (by omega)
  have e : cmpP ((partsB (bs a)).drop 0) ((partsB (bs b)).drop 0) = cmpW (bs a) (bs b) := cmp_eq _ _
  rw [e] at h
  exact h
/-! Under -/
def underB (a b : By) : Bool := a == [] || a == b || (a ++ [47]).isPrefixOf b
theorem pre_iff (a b : By) : (a ++ [47]).isPrefixOf b = true ↔ b.length > a.length ∧ b[a.length]? = some 47 ∧ b.take a.length = a := by
  rw [List.isPrefixOf_iff_prefix]
  constructor
  · rintro ⟨r, rfl⟩
    simp
  · rintro ⟨h1, h2, h3⟩
    refine ⟨b.drop (a.length + 1), ?_⟩
    have e : b.drop a.length = 47 :: b.drop (a.length + 1) := by
      rw [List.drop_eq_getElem_cons h1]
      rw [List.getElem?_eq_getElem h1] at h2
      rw [Option.some.inj h2]
    have := List.take_append_drop a.length b
    rw [h3, e] at this
    simpa using this
theorem Under_is (a b : ByteArray) : path_Under.f a b = some (underB (bs a) (bs b)) := by
  unfold path_Under.f underB
  rw [toList_data, toList_data]
  by_cases h1 : bs a = []
  · rw [if_pos h1, h1]; rfl
  by_cases h2 : bs a = bs b
  · rw [if_neg h1, if_pos h2, h2]; simp
  rw [if_neg h1, if_neg h2, beq_false_of_ne h1, beq_false_of_ne h2]
  simp only [Bool.false_or]
  have la := bs_length a
  have lb := bs_length b
  by_cases h3 : (b.size : Int) > (a.size : Int)
  · obtain ⟨c, hd, hb⟩ := drop_at b (a.size : Int) (by omega) h3
    rw [if_pos h3, if_pos (by omega), if_pos h3, hb]
    have hc : (bs b)[(bs a).length]? = some c := by
      rw [Int.toNat_natCast] at hd
      have := congrArg List.head? hd
      rw [List.head?_drop] at this
      rw [la]; simpa using this
    by_cases h4 : c = 47
    · rw [if_pos (by rw [h4]; rfl), if_pos (by omega), Int.toNat_natCast, toList_data, bs_extract]
      congr 1
      simp only [List.drop_zero, Nat.sub_zero]
      have hp := pre_iff (bs a) (bs b)
      rw [hc, h4, la] at hp
      by_cases h5 : (bs b).take a.size = bs a
      · rw [h5, beq_self_eq_true]
        exact (hp.2 ⟨by omega, rfl, h5⟩).symm
      · rw [beq_false_of_ne h5]
        exact (Bool.eq_false_iff.2 (fun h => h5 (hp.1 h).2.2)).symm
    · have h47 : ¬ cI c = 47 := fun h => h4 (cI_inj (b := 47) h)
      rw [if_neg h47]
      congr 1
      refine (Bool.eq_false_iff.2 (fun h => ?_)).symm
      have := ((pre_iff (bs a) (bs b)).1 h).2.1
      rw [hc] at this
      exact h4 (Option.some.inj this)
  · rw [if_neg h3]
    congr 1
    refine (Bool.eq_false_iff.2 (fun h => ?_)).symm
    have := ((pre_iff (bs a) (bs b)).1 h).1
    omega
def preL : List By → List By → Bool
  | [], _ => true
  | _ :: _, [] => false
  | p :: ps, q :: qs => (p == q) && preL ps qs
theorem preL_len : ∀ (x y : List By), preL x y = true → x.length ≤ y.length := by
  intro x
  induction x with
  | nil => intro y _; simp
  | cons p x ih =>
    intro y h
    cases y with
    | nil => cases h
    | cons q y =>
      rw [preL, Bool.and_eq_true] at h
      have := ih y h.2
      simp; omega
theorem preL_parts : ∀ a b : By, preL (partsB a) (partsB b) = (a == b || (a ++ [47]).isPrefixOf b) := by
  have ne0 : ∀ l : By, ∃ p ps, partsB l = p :: ps := fun l => by
    rcases h : partsB l with _ | ⟨p, ps⟩
    · exact absurd h (parts_ne l)
    · exact ⟨p, ps, rfl⟩
  intro a
  induction a with
  | nil =>
    intro b
    rcases b with _ | ⟨c, b⟩
    · rfl
    · obtain ⟨p, ps, hp⟩ := ne0 b
      by_cases h : c = 47
      · rw [h, parts_47]; simp [partsB, preL, List.isPrefixOf]
      · have e0 : partsB [] = [[]] := rfl
        rw [e0, parts_cons c b h, hp]
        have : (47 == c) = false := beq_false_of_ne (fun e => h e.symm)
        simp [preL, preP, List.isPrefixOf, this]
  | cons d a ih =>
    intro b
    obtain ⟨p, ps, hp⟩ := ne0 a
    rcases b with _ | ⟨c, b⟩
    · by_cases h : d = 47
      · rw [h, parts_47, hp]; simp [partsB, preL, List.isPrefixOf]
      · rw [parts_cons d a h, hp]; simp [partsB, preL, preP, List.isPrefixOf]
    · obtain ⟨q, qs, hq⟩ := ne0 b
      have i1 := ih b
      by_cases h1 : d = 47
      · by_cases h2 : c = 47
        · rw [h1, h2, parts_47, parts_47, preL, i1]; simp [List.isPrefixOf]
        · rw [h1, parts_47, parts_cons c b h2, hq]
          have : (47 == c) = false := beq_false_of_ne (fun e => h2 e.symm)
          have h3 : ¬ (47 = c) := fun e => h2 e.symm
          simp [preL, preP, List.isPrefixOf, this, h3]
      · by_cases h2 : c = 47
        · rw [parts_cons d a h1, hp, h2, parts_47]
          have : (d == 47) = false := beq_false_of_ne h1
          simp [preL, preP, List.isPrefixOf, this, h1]
        · rw [parts_cons d a h1, parts_cons c b h2, hp, hq]
          rw [hp, hq] at i1
          by_cases h3 : d = c
          · subst h3
            have : preL (preP [d] (p :: ps)) (preP [d] (q :: qs)) = preL (p :: ps) (q :: qs) := by simp [preP, preL]
            rw [this, i1]; simp [List.isPrefixOf]
          · have : (d == c) = false := beq_false_of_ne h3
            simp [preL, preP, List.isPrefixOf, this, h3]
theorem underP_ev (P Q : List By) (hP : P.length ≤ 1000000) (hle : P.length ≤ Q.length) : ∀ (X Y : List By) (i : Nat), P.drop i = X → Q.drop i = Y → i ≤ P.length → Ev (fun k => kilnref5_Under.l0 k (P.map mk) (Q.map mk) i) (preL X Y) := by
  intro X
  induction X with
  | nil =>
    intro Y i hX hY hi1
    have := (drop_len P i hi1).1 hX
    refine Ev.step (f := fun _ => some true) (fun k => ?_) (Ev.now _)
    rw [kilnref5_Under.l0, List.length_map, if_neg (by omega)]
  | cons p X ih =>
    intro Y i hX hY hi1
    obtain ⟨hr, hlt, hX2⟩ := rd_at P i p X hX
    have hltI : (i : Int) < ((P.map mk).length : Int) := by rw [List.length_map]; omega
    have hltI2 : (i : Int) < ((Q.map mk).length : Int) := by rw [List.length_map]; omega
    cases Y with
    | nil =>
      have := congrArg List.length hY
      rw [List.length_drop] at this
      simp at this; omega
    | cons q Y =>
      obtain ⟨hr2, hlt2, hY2⟩ := rd_at Q i q Y hY
      have hrec := ih Y (i + 1) hX2 hY2 (by omega)
      have hw : wrap64 ((i : Int) + 1) = ((i + 1 : Nat) : Int) := w_add i 1 (by omega)
      rw [preL]
      by_cases h : p = q
      · rw [h, beq_self_eq_true, Bool.true_and]
        refine Ev.step (fun k => ?_) hrec
        rw [kilnref5_Under.l0, if_pos hltI, if_pos (Int.natCast_nonneg _), if_pos hltI2, hr, hr2, hw, h, if_pos rfl]
      · rw [beq_false_of_ne h, Bool.false_and]
        refine Ev.step (f := fun _ => some false) (fun k => ?_) (Ev.now _)
        rw [kilnref5_Under.l0, if_pos hltI, if_pos (Int.natCast_nonneg _), if_pos hltI2, hr, hr2, toList_data, toList_data, if_neg (show ¬ bs (mk p) = bs (mk q) from h)]
theorem UnderR_ev (a b : ByteArray) (ha : a.size ≤ 100000) (hb : b.size ≤ 100000) : Ev (fun k => kilnref5_Under.f k a b) (underB (bs a) (bs b)) := by
  by_cases h1 : bs a = []
  · have e : underB (bs a) (bs b) = true := by rw [h1]; rfl
    rw [e]
    refine Ev.congr (f := fun _ => some true) (fun k => ?_) (Ev.now _)
    unfold kilnref5_Under.f
    rw [toList_data, if_pos h1]
  · have e : underB (bs a) (bs b) = preL (partsB (bs a)) (partsB (bs b)) := by
      rw [preL_parts]; unfold underB; rw [beq_false_of_ne h1, Bool.false_or]
    rw [e]
    have l1 := parts_len (bs a)
    have l2 := parts_len (bs b)
    rw [bs_length] at l1 l2
    let f : Nat → Option Bool := fun k => (kilnref5_Parts.f k a).bind fun t183 => ((kilnref5_Parts.f k b).bind fun t186 => (if (t183.length : Int) > (t186.length : Int) then (some false) else (kilnref5_Under.l0 k t183 t186 0)))
    refine Ev.congr (f := f) (fun k => ?_) ?_
    · unfold kilnref5_Under.f
      rw [toList_data, if_neg h1]
    refine Ev.bind (Parts_ev a (by omega)) ?_
    refine Ev.bind (Parts_ev b (by omega)) ?_
    by_cases hl : (partsB (bs a)).length > (partsB (bs b)).length
    · have e2 : preL (partsB (bs a)) (partsB (bs b)) = false := Bool.eq_false_iff.2 (fun h => by have := preL_len _ _ h; omega)
      rw [e2]
      exact Ev.congr (f := fun _ => some false) (fun k => if_pos (by rw [List.length_map, List.length_map]; omega)) (Ev.now _)
    · have h := underP_ev (partsB (bs a)) (partsB (bs b)) (by omega) (by omega) _ _ 0 rfl rfl (by omega)
      exact Ev.congr (fun k => if_neg (by rw [List.length_map, List.length_map]; omega)) h
end Go.Proofs.YtlcnhhpleiamhaaDoor.G

-- Path, the plain law, part 5: Text; what each law asks first.
namespace Go.Proofs.YtlcnhhpleiamhaaDoor.G
open Go.RowKit Go.Proofs.YtlcnhhpleiamhaaDoorW.PrintWords Go.Proofs.YtlcnhhpleiamhaaDoorW.PrintLast Go.Proofs.YtlcnhhpleiamhaaDoorW.PrintMore
set_option linter.unusedVariables false
set_option linter.unusedSimpArgs false

def sumL : List By → Nat
  | [] => 0
  | p :: ps => p.length + sumL ps
theorem join_len : ∀ L : List By, L ≠ [] → (joinP L).length + 1 = sumL L + L.length := by
  intro L
  induction L with
  | nil => intro h; exact absurd rfl h
  | cons p ps ih =>
    intro _
    by_cases hq : ps = []
    · subst hq; simp [joinP, sumL]
    · have := ih hq
      rw [join_cons _ _ hq, sumL]; simp; omega
theorem join_is : ∀ (r : List By) (x : By), Lib.join (x :: r) [47] = joinP (x :: r) := by
  intro r
  induction r with
  | nil => intro x; rw [Lib.join_one]; rfl
  | cons y r ih =>
    intro x
    have h := ih y
    rw [Lib.join_cons] at h ⊢
    rw [join_cons _ _ (by simp), ← h]
    simp [Lib.joinTail]
theorem map_bs (L : List By) : (L.map mk).map (·.data.toList) = L := by
  rw [List.map_map]
  exact (List.map_congr_left (fun x _ => rfl)).trans (List.map_id L)
theorem Join_is (L : List By) (h0 : L ≠ []) (h1 : L.length ≤ 1000000) (h2 : (joinP L).length ≤ 1000000000) : strings_Join.f (L.map mk) ⟨#[47]⟩ = some (mk (joinP L)) := by
  have e : Lib.join ((L.map mk).map (·.data.toList)) (⟨#[47]⟩ : ByteArray).data.toList = joinP L := by
    rw [map_bs]
    rcases L with _ | ⟨x, r⟩
    · exact absurd rfl h0
    · exact join_is r x
  unfold strings_Join.f
  rw [if_pos (by rw [List.length_map]; exact h1), e, if_pos h2]; rfl
theorem name_len {p : By} (h : nameB p = true) : 1 ≤ p.length ∧ p.length ≤ 64 := by
  unfold nameB at h
  simp only [Bool.and_eq_true, decide_eq_true_eq] at h
  exact ⟨h.1.1.1.1, h.1.1.1.2⟩
theorem name_slash {p : By} (h : nameB p = true) : ∀ c ∈ p, c ≠ 47 := by
  unfold nameB at h
  simp only [Bool.and_eq_true] at h
  intro c hc e
  have := List.all_eq_true.1 h.2 c hc
  rw [e] at this
  exact absurd this (by decide)
def badT : ByteArray × Int := (⟨#[]⟩, 50)
def textV (L : List By) : ByteArray × Int := if L = [] ∨ 16 < L.length then badT else if L.all nameB = true then (if 255 < (joinP L).length then badT else (mk (joinP L), 0)) else badT
theorem textl_ev (L : List By) (h0 : L ≠ []) (h16 : L.length ≤ 16) : ∀ (X : List By) (i n : Nat), L.drop i = X → i ≤ L.length → n + sumL X = (joinP L).length → n ≤ 16 + 64 * i →
    Ev (fun k => path_Text.l0 k (L.map mk) (n : Int) (L.map mk) ((L.map mk).length : Int) (i : Int)) (if X.all nameB = true then (if 255 < (joinP L).length then badT else (mk (joinP L), 0)) else badT) := by
  intro X
  induction X with
  | nil =>
    intro i n hX hi hn hn2
    have hl := (drop_len L i hi).1 hX
    have hnn : n = (joinP L).length := by simpa [sumL] using hn
    refine Ev.step (f := fun _ => some (if 255 < (joinP L).length then badT else (mk (joinP L), 0))) (fun k => ?_) (Ev.now _)
    rw [path_Text.l0, if_neg (by rw [List.length_map]; omega)]
    by_cases h : 255 < (joinP L).length
    · rw [if_pos h, if_pos (by omega)]; rfl
    · rw [if_neg h, if_neg (by omega), Join_is L h0 (by omega) (by omega)]; rfl
  | cons p X ih =>
    intro i n hX hi hn hn2
    obtain ⟨hr, hlt, hX2⟩ := rd_at L i p X hX
    have hltI : (i : Int) < ((L.map mk).length : Int) := by rw [List.length_map]; omega
    let f : Nat → Option (ByteArray × Int) := fun k => (path_Name.f k (mk p)).bind fun t135 => (if t135 = true then (path_Text.l0 k (L.map mk) (wrap64 ((n : Int) + ((mk p).size : Int))) (L.map mk) ((L.map mk).length : Int) (wrap64 ((i : Int) + 1))) else (some ((⟨#[]⟩ : ByteArray), 50)))
    refine Ev.step (f := f) (fun k => ?_) ?_
    · rw [path_Text.l0, if_pos hltI, if_pos (Int.natCast_nonneg _), if_pos hltI, hr]
    refine Ev.bind (Name_ev (mk p)) ?_
    rw [bs_mk, List.all_cons]
    by_cases hp : nameB p = true
    · have hpl := name_len hp
      have hw1 : wrap64 ((n : Int) + ((mk p).size : Int)) = ((n + p.length : Nat) : Int) := by rw [mk_size]; exact w_add n p.length (by omega)
      have hw2 : wrap64 ((i : Int) + 1) = ((i + 1 : Nat) : Int) := w_add i 1 (by omega)
      rw [hp, Bool.true_and, hw1, hw2]
      exact Ev.congr (fun k => if_pos rfl) (ih (i + 1) (n + p.length) hX2 (by omega) (by rw [sumL] at hn; omega) (by omega))
    · rw [Bool.eq_false_iff.2 hp, Bool.false_and]
      exact Ev.congr (f := fun _ => some badT) (fun k => if_neg (by decide)) (Ev.now _)
theorem Text_ev (L : List By) (hL : L.length ≤ 1000000000) : Ev (fun k => path_Text.f k (L.map mk)) (textV L) := by
  have hbad : ∀ L' : List ByteArray, Ev (fun k => path_Text.j0 k L' true) badT := fun L' =>
    Ev.step (f := fun _ => some badT) (fun k => by rw [path_Text.j0, if_pos rfl]; rfl) (Ev.now _)
  unfold textV
  by_cases h0 : L = []
  · rw [if_pos (.inl h0)]
    exact Ev.congr (fun k => by unfold path_Text.f; rw [if_pos (by rw [h0]; rfl)]) (hbad _)
  have hl0 := List.length_pos_iff.2 h0
  by_cases h16 : 16 < L.length
  · rw [if_pos (.inr h16)]
    exact Ev.congr (fun k => by unfold path_Text.f; rw [if_neg (by rw [List.length_map]; omega), decide_eq_true (by rw [List.length_map]; omega)]) (hbad _)
  · rw [if_neg (by simp [h0]; omega)]
    have hjl := join_len L h0
    have h := textl_ev L h0 (by omega) L 0 (L.length - 1) rfl (by omega) (by omega) (by omega)
    have hw : wrap64 (((L.map mk).length : Int) - 1) = ((L.length - 1 : Nat) : Int) := by rw [List.length_map, IntWalk.wrap64_in _ (by omega)]; omega
    refine Ev.congr (f := fun k => path_Text.j0 k (L.map mk) false) (fun k => ?_) ?_
    · unfold path_Text.f
      rw [if_neg (by rw [List.length_map]; omega), decide_eq_false (by rw [List.length_map]; omega)]
    · refine Ev.step (fun k => ?_) h
      rw [path_Text.j0, if_neg (by decide), hw]; rfl
/-! Text, by the document -/
def badR : ByteArray × Bool := (⟨#[]⟩, false)
def textR (L : List By) : ByteArray × Bool := if L = [] ∨ 16 < L.length then badR else if L.all nameB = true then (if 255 < (joinP L).length then badR else (mk (joinP L), true)) else badR
theorem textRl_ev (L : List By) (h0 : L ≠ []) (h16 : L.length ≤ 16) : ∀ (X : List By) (i : Nat) (S : By), L.drop i = X → i ≤ L.length → S.length ≤ 65 * i → (X = [] → S = joinP L) → (X ≠ [] → (if i = 0 then S ++ joinP X else S ++ 47 :: joinP X) = joinP L) →
    Ev (fun k => kilnref5_Text.l0 k (L.map mk) (mk S) (i : Int)) (if X.all nameB = true then (if 255 < (joinP L).length then badR else (mk (joinP L), true)) else badR) := by
  intro X
  induction X with
  | nil =>
    intro i S hX hi hS h1 h2
    have hl := (drop_len L i hi).1 hX
    refine Ev.step (f := fun _ => some (if 255 < (joinP L).length then badR else (mk (joinP L), true))) (fun k => ?_) (Ev.now _)
    rw [kilnref5_Text.l0, if_neg (by rw [List.length_map]; omega), h1 rfl]
    by_cases h : 255 < (joinP L).length
    · rw [if_pos h, if_pos (by rw [mk_size]; omega)]; rfl
    · rw [if_neg h, if_neg (by rw [mk_size]; omega)]
  | cons p X ih =>
    intro i S hX hi hS h1 h2
    obtain ⟨hr, hlt, hX2⟩ := rd_at L i p X hX
    have hltI : (i : Int) < ((L.map mk).length : Int) := by rw [List.length_map]; omega
    have h2 := h2 (by simp)
    let f : Nat → Option (ByteArray × Bool) := fun k => (kilnref5_Name.f k (mk p)).bind fun t139 => (if t139 = true then (if (i : Int) > 0 then (if (mk S).size + 1 ≤ 9223372036854775807 then (if (mk S ++ (⟨#[47]⟩ : ByteArray)).size + (mk p).size ≤ 9223372036854775807 then (kilnref5_Text.l0 k (L.map mk) ((mk S ++ (⟨#[47]⟩ : ByteArray)) ++ (mk p)) (wrap64 ((i : Int) + 1))) else (none)) else (none)) else (if (mk S).size + (mk p).size ≤ 9223372036854775807 then (kilnref5_Text.l0 k (L.map mk) (mk S ++ (mk p)) (wrap64 ((i : Int) + 1))) else (none))) else (some ((⟨#[]⟩ : ByteArray), false)))
    refine Ev.step (f := f) (fun k => ?_) ?_
    · rw [kilnref5_Text.l0, if_pos hltI, if_pos (Int.natCast_nonneg _), hr]
    refine Ev.bind (NameR_ev (mk p)) ?_
    rw [bs_mk, List.all_cons]
    by_cases hp : nameB p = true
    · have hpl := name_len hp
      have hw2 : wrap64 ((i : Int) + 1) = ((i + 1 : Nat) : Int) := w_add i 1 (by omega)
      rw [hp, Bool.true_and, hw2]
      refine Ev.congr (fun k => if_pos rfl) ?_
      by_cases hi0 : i = 0
      · rw [if_pos hi0] at h2
        refine Ev.congr (fun k => if_neg (by omega)) ?_
        have e : mk S ++ mk p = mk (S ++ p) := mk_app S p
        rw [e]
        refine Ev.congr (fun k => if_pos (by rw [mk_size, mk_size]; omega)) ?_
        refine ih (i + 1) (S ++ p) hX2 (by omega) (by rw [List.length_append]; omega) (fun hn => ?_) (fun hn => ?_)
        · rw [← h2, hn]; rfl
        · rw [if_neg (by omega), ← h2, join_cons _ _ hn]; simp
      · rw [if_neg hi0] at h2
        refine Ev.congr (fun k => if_pos (by omega)) ?_
        refine Ev.congr (fun k => if_pos (by rw [mk_size]; omega)) ?_
        have e1 : mk S ++ (⟨#[47]⟩ : ByteArray) = mk (S ++ [47]) := mk_app S [47]
        have e : mk (S ++ [47]) ++ mk p = mk (S ++ [47] ++ p) := mk_app _ p
        rw [e1, e]
        refine Ev.congr (fun k => if_pos (by rw [mk_size, mk_size, List.length_append]; simp; omega)) ?_
        refine ih (i + 1) (S ++ [47] ++ p) hX2 (by omega) (by rw [List.length_append, List.length_append]; simp; omega) (fun hn => ?_) (fun hn => ?_)
        · rw [← h2, hn]; simp [joinP]
        · rw [if_neg (by omega), ← h2, join_cons _ _ hn]; simp
    · rw [Bool.eq_false_iff.2 hp, Bool.false_and]
      exact Ev.congr (f := fun _ => some badR) (fun k => if_neg (by decide)) (Ev.now _)
theorem TextR_ev (L : List By) (hL : L.length ≤ 1000000000) : Ev (fun k => kilnref5_Text.f k (L.map mk)) (textR L) := by
  have hbad : ∀ L' : List ByteArray, Ev (fun k => kilnref5_Text.j0 k L' true) badR := fun L' =>
    Ev.step (f := fun _ => some badR) (fun k => by rw [kilnref5_Text.j0, if_pos rfl]; rfl) (Ev.now _)
  unfold textR
  by_cases h0 : L = []
  · rw [if_pos (.inl h0)]
    exact Ev.congr (fun k => by unfold kilnref5_Text.f; rw [if_pos (by rw [h0]; decide)]) (hbad _)
  have hl0 := List.length_pos_iff.2 h0
  by_cases h16 : 16 < L.length
  · rw [if_pos (.inr h16)]
    exact Ev.congr (fun k => by unfold kilnref5_Text.f; rw [if_neg (by rw [List.length_map]; omega), decide_eq_true (by rw [List.length_map]; omega)]) (hbad _)
  · rw [if_neg (by simp [h0]; omega)]
    have h := textRl_ev L h0 (by omega) L 0 [] rfl (by omega) (by simp) (fun h => absurd h h0) (fun _ => by simp)
    refine Ev.congr (f := fun k => kilnref5_Text.j0 k (L.map mk) false) (fun k => ?_) ?_
    · unfold kilnref5_Text.f
      rw [if_neg (by rw [List.length_map]; omega), decide_eq_false (by rw [List.length_map]; omega)]
    · refine Ev.step (fun k => ?_) h
      rw [kilnref5_Text.j0, if_neg (by decide)]; rfl
theorem text_both (L : List By) : ((textV L).1 = (textR L).1 ∧ ((textR L).2 = true ∧ (textV L).2 = 0 ∨ (textR L).2 = false ∧ (textV L).2 = 50)) := by
  unfold textV textR
  split
  · exact ⟨rfl, .inr ⟨rfl, rfl⟩⟩
  · split
    · split
      · exact ⟨rfl, .inr ⟨rfl, rfl⟩⟩
      · exact ⟨rfl, .inl ⟨rfl, rfl⟩⟩
    · exact ⟨rfl, .inr ⟨rfl, rfl⟩⟩
theorem texts_ev (L : List By) (hL : L.length ≤ 1000000000) : Ev (fun k => kilnlaw5_texts.f k (L.map mk)) true := by
  unfold kilnlaw5_texts.f
  refine Ev.congr (fun k => if_pos (by rw [List.length_map]; exact hL)) ?_
  refine Ev.bind (Text_ev L hL) ?_
  refine Ev.bind (TextR_ev L hL) ?_
  obtain ⟨h1, h2⟩ := text_both L
  refine Ev.congr (fun k => if_pos (by rw [h1])) ?_
  rcases h2 with ⟨h2, h3⟩ | ⟨h2, h3⟩
  · exact Ev.congr (f := fun _ => some true) (fun k => by rw [if_pos h2, h3]; rfl) (Ev.now _)
  · exact Ev.congr (f := fun _ => some true) (fun k => by rw [h2, if_neg (by decide), h3]; rfl) (Ev.now _)
theorem Told_ev : Ev (fun k => kilnlaw5_Told.f k) true := by
  unfold kilnlaw5_Told.f
  refine Ev.bind (parses_ev _ (by decide)) ?_
  refine Ev.congr (fun k => if_pos rfl) ?_
  refine Ev.bind (parses_ev _ (by decide)) ?_
  refine Ev.congr (fun k => if_pos rfl) ?_
  refine Ev.bind (texts_ev [[97], [98]] (by decide)) ?_
  refine Ev.congr (fun k => if_pos rfl) ?_
  refine Ev.bind (texts_ev [] (by decide)) ?_
  refine Ev.congr (fun k => if_pos rfl) ?_
  have e1 : cmpW (bs ⟨#[97, 47, 98]⟩) (bs ⟨#[97, 46, 98]⟩) = -1 := by decide
  have e2 : path_Under.f ⟨#[97]⟩ ⟨#[97, 47, 98]⟩ = some true := by rw [Under_is]; decide
  have e3 : nameB (bs ⟨#[97]⟩) = true := by decide
  have e4 : nameB (bs ⟨#[46, 46]⟩) = false := by decide
  refine Ev.bind (Order_ev _ _ (by decide) (by decide)) ?_
  rw [e1]
  refine Ev.congr (fun k => if_pos rfl) ?_
  rw [e2]
  refine Ev.bind (Ev.now true) ?_
  refine Ev.congr (fun k => if_pos rfl) ?_
  refine Ev.bind (Name_ev _) ?_
  rw [e3]
  refine Ev.congr (fun k => if_pos rfl) ?_
  refine Ev.bind (Name_ev _) ?_
  rw [e4]
  exact Ev.now _
end Go.Proofs.YtlcnhhpleiamhaaDoor.G

-- Path, the plain law, part 6: the order's own laws.
namespace Go.Proofs.YtlcnhhpleiamhaaDoor.G
open Go.RowKit Go.Proofs.YtlcnhhpleiamhaaDoorW.PrintWords Go.Proofs.YtlcnhhpleiamhaaDoorW.PrintLast Go.Proofs.YtlcnhhpleiamhaaDoorW.PrintMore
set_option linter.unusedVariables false
set_option linter.unusedSimpArgs false

theorem cmp_self : ∀ a : By, cmpW a a = 0 := by
  intro a
  induction a with
  | nil => rfl
  | cons c a ih => rw [cmpW, if_neg (by omega), if_neg (by omega), ih]
theorem cmp_range : ∀ a b : By, cmpW a b = -1 ∨ cmpW a b = 0 ∨ cmpW a b = 1 := by
  intro a
  induction a with
  | nil => intro b; cases b <;> simp [cmpW]
  | cons c a ih =>
    intro b
    cases b with
    | nil => simp [cmpW]
    | cons d b =>
      rw [cmpW]
      split
      · simp
      · split
        · simp
        · exact ih b
theorem cmp_anti : ∀ a b : By, cmpW a b = - cmpW b a := by
  intro a
  induction a with
  | nil => intro b; cases b <;> simp [cmpW]
  | cons c a ih =>
    intro b
    cases b with
    | nil => simp [cmpW]
    | cons d b =>
      rw [cmpW, cmpW]
      by_cases h1 : wc c < wc d
      · rw [if_pos h1, if_neg (by omega), if_pos (by omega)]
      · by_cases h2 : wc c > wc d
        · rw [if_neg h1, if_pos h2, if_pos (by omega)]; rfl
        · rw [if_neg h1, if_neg h2, if_neg (by omega), if_neg (by omega), ih b]
theorem cmp_zero : ∀ a b : By, cmpW a b = 0 → a = b := by
  intro a
  induction a with
  | nil => intro b h; cases b <;> simp [cmpW] at h; rfl
  | cons c a ih =>
    intro b h
    cases b with
    | nil => simp [cmpW] at h
    | cons d b =>
      rw [cmpW] at h
      by_cases h1 : wc c < wc d
      · rw [if_pos h1] at h; exact absurd h (by decide)
      · by_cases h2 : wc c > wc d
        · rw [if_neg h1, if_pos h2] at h; exact absurd h (by decide)
        · rw [if_neg h1, if_neg h2] at h
          rw [wc_inj (show wc c = wc d by omega), ih b h]
theorem cmp_le : ∀ {c d : UInt8} {a b : By}, cmpW (c :: a) (d :: b) ≤ 0 → wc c < wc d ∨ (c = d ∧ cmpW a b ≤ 0) := by
  intro c d a b h
  rw [cmpW] at h
  by_cases h1 : wc c < wc d
  · exact .inl h1
  · by_cases h2 : wc c > wc d
    · rw [if_neg h1, if_pos h2] at h; exact absurd h (by decide)
    · rw [if_neg h1, if_neg h2] at h
      exact .inr ⟨wc_inj (by omega), h⟩
theorem cmp_trans : ∀ a b c : By, cmpW a b ≤ 0 → cmpW b c ≤ 0 → cmpW a c ≤ 0 ∧ (cmpW a c = 0 → cmpW a b = 0 ∧ cmpW b c = 0) := by
  intro a
  induction a with
  | nil =>
    intro b c h1 h2
    cases c with
    | nil =>
      cases b with
      | nil => simp [cmpW]
      | cons d b => simp [cmpW] at h2
    | cons e c => simp [cmpW]
  | cons d a ih =>
    intro b c h1 h2
    cases b with
    | nil => simp [cmpW] at h1
    | cons e b =>
      cases c with
      | nil => simp [cmpW] at h2
      | cons f c =>
        have l1 := cmp_le h1
        have l2 := cmp_le h2
        rcases l1 with l1 | ⟨rfl, l1⟩
        · rcases l2 with l2 | ⟨rfl, l2⟩
          · rw [cmpW, if_pos (show wc d < wc f by omega)]; exact ⟨by decide, fun h => absurd h (by decide)⟩
          · rw [cmpW, if_pos l1]; exact ⟨by decide, fun h => absurd h (by decide)⟩
        · rcases l2 with l2 | ⟨rfl, l2⟩
          · rw [cmpW, if_pos l2]; exact ⟨by decide, fun h => absurd h (by decide)⟩
          · have := ih b c l1 l2
            rw [cmpW, cmpW, cmpW, if_neg (by omega), if_neg (by omega), if_neg (by omega), if_neg (by omega), if_neg (by omega), if_neg (by omega)]
            exact this
/-! what lies under a text stands together -/
theorem under_cons (e : UInt8) (x : By) (a : By) : ((e :: x) ++ [47]).isPrefixOf a = true ↔ ∃ a', a = e :: a' ∧ (x ++ [47]).isPrefixOf a' = true := by
  rw [List.isPrefixOf_iff_prefix]
  constructor
  · rintro ⟨r, rfl⟩
    exact ⟨x ++ [47] ++ r, by simp, by rw [List.isPrefixOf_iff_prefix]; exact ⟨r, rfl⟩⟩
  · rintro ⟨a', rfl, h⟩
    rw [List.isPrefixOf_iff_prefix] at h
    obtain ⟨r, rfl⟩ := h
    exact ⟨r, by simp⟩
def und (x a : By) : Prop := a = x ∨ (x ++ [47]).isPrefixOf a = true
theorem und_cons (e : UInt8) (x a : By) : und (e :: x) a ↔ ∃ a', a = e :: a' ∧ und x a' := by
  unfold und
  rw [under_cons]
  constructor
  · rintro (rfl | ⟨a', h1, h2⟩)
    · exact ⟨x, rfl, .inl rfl⟩
    · exact ⟨a', h1, .inr h2⟩
  · rintro ⟨a', rfl, rfl | h⟩
    · exact .inl rfl
    · exact .inr ⟨a', rfl, h⟩
theorem und_nil (a : By) : und [] a ↔ a = [] ∨ ∃ r, a = 47 :: r := by
  unfold und
  rw [List.isPrefixOf_iff_prefix]
  constructor
  · rintro (h | ⟨r, h⟩)
    · exact .inl h
    · exact .inr ⟨r, h.symm⟩
  · rintro (h | ⟨r, h⟩)
    · exact .inl h
    · exact .inr ⟨r, h.symm⟩
theorem und_between : ∀ x a b c : By, und x a → und x c → cmpW a b ≤ 0 → cmpW b c ≤ 0 → und x b := by
  intro x
  induction x with
  | nil =>
    intro a b c ha hc h1 h2
    rw [und_nil] at hc ⊢
    cases b with
    | nil => exact .inl rfl
    | cons d b =>
      by_cases hd : d = 47
      · exact .inr ⟨b, by rw [hd]⟩
      · exfalso
        rcases hc with rfl | ⟨r, rfl⟩
        · simp [cmpW] at h2
        · have hb := cI_bd d
          rcases cmp_le h2 with h | ⟨h, _⟩
          · rw [wc_47, wc_ne hd] at h; omega
          · exact hd h
  | cons e x ih =>
    intro a b c ha hc h1 h2
    obtain ⟨a', rfl, ha'⟩ := (und_cons e x a).1 ha
    obtain ⟨c', rfl, hc'⟩ := (und_cons e x c).1 hc
    cases b with
    | nil => simp [cmpW] at h1
    | cons d b =>
      have l1 := cmp_le h1
      have l2 := cmp_le h2
      have hed : e = d ∧ cmpW a' b ≤ 0 ∧ cmpW b c' ≤ 0 := by
        rcases l1 with l1 | ⟨rfl, l1⟩
        · rcases l2 with l2 | ⟨rfl, l2⟩
          · omega
          · omega
        · rcases l2 with l2 | ⟨_, l2⟩
          · omega
          · exact ⟨rfl, l1, l2⟩
      obtain ⟨rfl, l1, l2⟩ := hed
      exact (und_cons e x (e :: b)).2 ⟨b, rfl, ih a' b c' ha' hc' l1 l2⟩
theorem underB_iff (x a : By) : underB x a = true ↔ x = [] ∨ und x a := by
  unfold underB und
  simp only [Bool.or_eq_true, beq_iff_eq]
  constructor
  · rintro ((h | h) | h)
    · exact .inl h
    · exact .inr (.inl h.symm)
    · exact .inr (.inr h)
  · rintro (h | h | h)
    · exact .inl (.inl h)
    · exact .inl (.inr h.symm)
    · exact .inr h
theorem und_less : ∀ x a : By, und x a → a ≠ x → cmpW x a = -1 := by
  intro x
  induction x with
  | nil =>
    intro a h hne
    cases a with
    | nil => exact absurd rfl hne
    | cons c a => rfl
  | cons e x ih =>
    intro a h hne
    obtain ⟨a', rfl, ha'⟩ := (und_cons e x a).1 h
    rw [cmpW, if_neg (by omega), if_neg (by omega)]
    exact ih a' ha' (fun h => hne (by rw [h]))
theorem under_less (x a : By) (h : underB x a = true) (hne : a ≠ x) : cmpW x a = -1 := by
  rcases (underB_iff x a).1 h with rfl | h
  · cases a with
    | nil => exact absurd rfl hne
    | cons c a => rfl
  · exact und_less x a h hne
theorem under_between (x a b c : By) (ha : underB x a = true) (hc : underB x c = true) (h1 : cmpW a b ≤ 0) (h2 : cmpW b c ≤ 0) : underB x b = true := by
  rw [underB_iff] at ha hc ⊢
  by_cases hx : x = []
  · exact .inl hx
  · exact .inr (und_between x a b c (ha.resolve_left hx) (hc.resolve_left hx) h1 h2)
end Go.Proofs.YtlcnhhpleiamhaaDoor.G
