/-
 frisketref05.Lines and frisketref37.read, by the plain law: the reference cuts a text as the program does. Conditions: the bounds that are written out.
-/
import Derived.Test.YtghlfhgmnhhmnaaGreatDoorPieces
import Derived.Test.YtghlfhgmnhhmnaaGreatDoorQTidyx5
import Derived.Test.YtghlfhgmnhhmnaaGreatDoorQTidyx6
namespace Go.Proofs.YtghlfhgmnhhmnaaGreatDoor.QTidy
open Go.RowKit Go.Proofs.YtghlfhgmnhhmnaaGreatDoorW.PrintWords Go.Proofs.YtghlfhgmnhhmnaaGreatDoorW.PrintLast Go.Proofs.YtghlfhgmnhhmnaaGreatDoorW.PrintMore
set_option linter.unusedVariables false
set_option linter.unusedSimpArgs false

/-- A last piece that is empty is no line. -/
def dropE : List (List UInt8) → List (List UInt8)
 | [] => []
 | [x] => if x = [] then [] else [x]
 | x :: y :: r => x :: dropE (y :: r)
theorem dropE_snoc : ∀ X : List (List UInt8), dropE (X ++ [[]]) = X
 | [] => rfl
 | [x] => rfl
 | x :: y :: r => by
  have := dropE_snoc (y :: r)
  rw [List.cons_append, List.cons_append, dropE]
  rw [List.cons_append] at this
  rw [this]
theorem pieces_snoc : ∀ t : List UInt8, pieces (t ++ [10]) = pieces t ++ [[]]
 | [] => rfl
 | b :: t => by
  have ih := pieces_snoc t
  obtain ⟨p, r, h⟩ := pieces_ne t
  by_cases c : b = 10
  ·subst c; rw [List.cons_append, pieces_cons_eq, pieces_cons_eq, ih]; rfl
  ·rw [h] at ih
   rw [List.cons_append, pieces_cons_ne c h, pieces_cons_ne c (p := p) (r := r ++ [[]]) (by rw [ih]; rfl)]; rfl
theorem dropE_keep : ∀ s : List UInt8, s ≠ [] → s.getLast? ≠ some 10 → dropE (pieces s) = pieces s
 | [], h, _ => absurd rfl h
 | [b], _, h => by
  have hb : b ≠ 10 := fun e => h (by simp [e])
  rw [pieces_one [b] (by simpa using Ne.symm hb)]; rfl
 | b :: c :: l, _, h => by
  have ih := dropE_keep (c :: l) (by simp) (by simpa using h)
  obtain ⟨p, r, hp⟩ := pieces_ne (c :: l)
  by_cases e : b = 10
  ·subst e
   rw [pieces_cons_eq, hp, dropE, ← hp, ih]
  ·rw [pieces_cons_ne e hp]
   rw [hp] at ih
   cases r with
   | nil => rfl
   | cons q r =>
    rw [dropE] at ih ⊢
    injection ih with _ ih
    rw [ih]
theorem getLast_snoc {s : List UInt8} (h : s.getLast? = some 10) : ∃ t, s = t ++ [10] := by
 have hne : s ≠ [] := fun e => by simp [e] at h
 refine ⟨s.dropLast, ?_⟩
 have := List.dropLast_concat_getLast hne
 rw [List.getLast?_eq_some_getLast hne] at h
 rw [Option.some.inj h] at this
 exact this.symm
theorem pieces_trim (s : List UInt8) (h : s ≠ []) : pieces (Lib.trimSuffix s [10]) = dropE (pieces s) := by
 by_cases c : s.getLast? = some 10
 ·obtain ⟨t, rfl⟩ := getLast_snoc c
  rw [trim_end, pieces_snoc, dropE_snoc]
 ·have hn : Lib.hasSuffix s [10] = false := by
   unfold Lib.hasSuffix
   cases hh : ([10] : List UInt8).isSuffixOf s with
   | false => rfl
   | true =>
    obtain ⟨t, ht⟩ := List.isSuffixOf_iff_suffix.1 hh
    exact absurd (by rw [← ht]; simp) c
  rw [Lib.trimSuffix, if_neg (by rw [hn]; simp), dropE_keep s h c]

/-- The lines of a text. -/
def linesL8 (s : List UInt8) : List (List UInt8) := dropE (pieces s)
def plines (s : ByteArray) : List ByteArray := (linesL8 s.data.toList).map fun l => ⟨l.toArray⟩
theorem plines_cut (s : ByteArray) (h : s.toList ≠ []) : cutLines s = plines s := by
 rw [cut_eq, plines, linesL8, pieces_trim _ (by rw [← Lib.toList_data]; exact h)]
theorem plines_nil (s : ByteArray) (h : s.toList = []) : plines s = [] := by
 rw [Lib.toList_data] at h
 rw [plines, linesL8, h]; rfl
/-- tidy.lines. -/
theorem tidy_lines_eq (s : ByteArray) (h : s.size ≤ 60000) : tidy_lines.f s = some (plines s, !(plines s).any longB) := by
 unfold tidy_lines.f
 rw [if_neg (by omega)]
 by_cases c : s.toList = []
 ·rw [if_pos c, plines_nil s c]; rfl
 ·rw [if_neg c, plines_cut s c]

/-- The lines, with a part of the first one read. -/
def linesA (cur : List UInt8) : List UInt8 → List (List UInt8)
 | [] => if cur = [] then [] else [cur]
 | b :: l => if b = 10 then cur :: linesA [] l else linesA (cur ++ [b]) l
theorem linesA_eq : ∀ (l cur p : List UInt8) (r : List (List UInt8)), pieces l = p :: r → linesA cur l = dropE ((cur ++ p) :: r)
 | [], cur, p, r, h => by
  injection h with h1 h2
  subst h1; subst h2
  simp [linesA, dropE]
 | b :: l, cur, p, r, h => by
  obtain ⟨p', r', hp⟩ := pieces_ne l
  by_cases c : b = 10
  ·subst c
   rw [pieces_cons_eq, hp] at h
   injection h with h1 h2
   subst h1; subst h2
   rw [linesA, if_pos rfl, linesA_eq l [] p' r' hp, List.append_nil, List.nil_append, dropE]
  ·rw [pieces_cons_ne c hp] at h
   injection h with h1 h2
   subst h1; subst h2
   rw [linesA, if_neg c, linesA_eq l _ p' r' hp]
   simp
theorem linesA_nil (l : List UInt8) : linesA [] l = linesL8 l := by
 obtain ⟨p, r, h⟩ := pieces_ne l
 rw [linesA_eq l [] p r h, linesL8, h]; rfl

theorem wrap_small (i : Nat) (h : i < 4611686018427387904) : wrap64 ((i : Int) + 1) = ((i + 1 : Nat) : Int) := by simp [wrap64, IntKind.wrap, IntKind.signed, IntKind.bits]; omega
theorem bt_get (s : ByteArray) (i : Nat) (h : i < s.size) : bt s (i : Int) = (s.data.toList[i]'(by rwa [← Lib.size_eq])).toNat := by
 have h1 := bt_at s (i : Int) (by simpa using h)
 rw [← h1]; simp; rfl
theorem ba_mk (s : ByteArray) : (⟨s.data.toList.toArray⟩ : ByteArray) = s := by obtain ⟨⟨l⟩⟩ := s; rfl

/-- The reference's loop over a text's bytes. -/
theorem refLines_loop (s : ByteArray) (hs : s.size < 8796093022208) : ∀ (n k i fr : Nat) (done : List ByteArray), i + n = s.size → n < k → fr ≤ i → done.length ≤ i →
  frisketref05_Lines.l0 k s done (fr : Int) (i : Int) = some (done ++ (linesA ((s.data.toList.drop fr).take (i - fr)) (s.data.toList.drop i)).map fun l => ⟨l.toArray⟩) := by
 have hsz : s.size = s.data.toList.length := Lib.size_eq s
 intro n
 induction n with
 | zero =>
  intro k i fr done hi hk hf hd
  obtain ⟨k, rfl⟩ : ∃ k', k = k' + 1 := ⟨k - 1, by omega⟩
  rw [frisketref05_Lines.l0, if_neg (by omega), List.drop_of_length_le (by omega : s.data.toList.length ≤ i), linesA, List.take_of_length_le (by simp; omega)]
  by_cases c : fr < s.size
  ·rw [if_pos (by omega), if_pos (by omega), if_pos (by omega), if_pos (by omega), if_neg (by intro e; have := congrArg List.length e; simp at this; omega)]
   congr 2
   simp only [List.map_cons, List.map_nil]
   congr 1
   rw [← ba_mk (s.extract _ _), Lib.extract_data]
   simp
   rw [List.take_of_length_le (by simp)]
  ·rw [if_neg (by omega), if_pos (by apply List.drop_of_length_le; omega)]; simp
 | succ n ih =>
  intro k i fr done hi hk hf hd
  obtain ⟨k, rfl⟩ : ∃ k', k = k' + 1 := ⟨k - 1, by omega⟩
  have hlt : i < s.data.toList.length := by omega
  rw [frisketref05_Lines.l0, if_pos (by omega), if_pos (by omega), bt_get s i (by omega), List.drop_eq_getElem_cons hlt, wrap_small i (by omega)]
  by_cases c : s.data.toList[i] = 10
  ·rw [if_pos (by rw [c]; rfl), if_pos (by omega), if_pos (by omega), if_pos (by omega), if_pos (by omega), ih k (i + 1) (i + 1) _ (by omega) (by omega) (by omega) (by simp; omega), linesA, if_pos c]
   have hx : s.extract ((fr : Int)).toNat ((i : Int)).toNat = ⟨((s.data.toList.drop fr).take (i - fr)).toArray⟩ := by
    rw [← ba_mk (s.extract _ _), Lib.extract_data]; simp
   rw [hx]
   simp
  ·have c2 : ¬ ((s.data.toList[i].toNat : Nat) : Int) = 10 := by
    intro e
    apply c
    apply UInt8.toNat_inj.1
    show s.data.toList[i].toNat = 10
    omega
   rw [if_neg c2, ih k (i + 1) fr done (by omega) (by omega) (by omega) (by omega), linesA, if_neg c]
   have ht : (s.data.toList.drop fr).take (i + 1 - fr) = (s.data.toList.drop fr).take (i - fr) ++ [s.data.toList[i]] := by
    rw [show i + 1 - fr = (i - fr) + 1 by omega, List.take_succ_eq_append_getElem (by simp; omega)]
    simp [show fr + (i - fr) = i by omega]
   rw [ht]
theorem refLines_eq (s : ByteArray) (hs : s.size < 8796093022208) (k : Nat) (hk : s.size < k) : frisketref05_Lines.f k s = some (plines s) := by
 unfold frisketref05_Lines.f
 have := refLines_loop s hs s.size k 0 0 [] (by omega) hk (by omega) (by simp)
 simp only [Int.ofNat_zero, List.drop_zero, List.nil_append, Nat.sub_self, List.take_zero] at this
 have h0 : frisketref05_Lines.l0 k s [] 0 0 = _ := this
 rw [h0, linesA_nil]; rfl

/-- The reference's read: a text whose lines are short. -/
theorem read_loop (s : ByteArray) (L : List ByteArray) (hL : L.any longB = false) (hs : s.size ≤ 60000) (hn : L.length < 4611686018427387904) : ∀ (n k i : Nat), i + n = L.length → n < k → frisketref37_read.l0 k s L (i : Int) = some (L, 0) := by
 intro n
 induction n with
 | zero =>
  intro k i hi hk
  obtain ⟨k, rfl⟩ : ∃ k', k = k' + 1 := ⟨k - 1, by omega⟩
  rw [frisketref37_read.l0, if_neg (by omega), if_neg (by omega)]
 | succ n ih =>
  intro k i hi hk
  obtain ⟨k, rfl⟩ : ∃ k', k = k' + 1 := ⟨k - 1, by omega⟩
  have hlt : i < L.length := by omega
  have hrd : rdOf ByteArray.empty L (i : Int) = L[i] := by simp [rdOf, hlt]
  have hsm : longB L[i] = false := by
   rw [List.any_eq_false] at hL
   simpa using hL L[i] (List.getElem_mem _)
  have h2 : ¬ ((L[i].size : Nat) : Int) > 2000 := by simp [longB] at hsm; omega
  rw [frisketref37_read.l0, if_pos (by omega), if_pos (by omega), hrd, if_neg h2, wrap_small i (by omega), ih k (i + 1) (by omega) (by omega)]
theorem read_eq (s : ByteArray) (hs : s.size ≤ 60000) (hL : (plines s).any longB = false) (k : Nat) (hk : s.size + (plines s).length < k) (hn : (plines s).length < 4611686018427387904) : frisketref37_read.f k s = some (plines s, 0) := by
 unfold frisketref37_read.f
 rw [refLines_eq s (by omega) k (by omega)]
 have := read_loop s (plines s) hL hs hn (plines s).length k 0 (by omega) (by omega)
 exact this
end Go.Proofs.YtghlfhgmnhhmnaaGreatDoor.QTidy
