/-
 The program's and the reference's functions on texts (words, blanks, backslashes, signs, control lines, definitions) as plain functions on lists of bytes. Conditions: texts shorter than 2^30 bytes, and enough rounds.
-/
import Derived.Test.YtghlfhgmnhhmnaaGreatDoorWord
import Derived.Lib.SlTrimSet
import Derived.Lib.IndexAny
import Derived.Lib.SplitLaws
import Derived.Lib.Replace
import Derived.Lib.CountLaws
import Derived.Lib.TrimByte
import Derived.Test.YtghlfhgmnhhmnaaGreatDoorRefLines
import Derived.Test.YtghlfhgmnhhmnaaGreatDoorQTidyx1
import Derived.Test.YtghlfhgmnhhmnaaGreatDoorQTidyx1
import Derived.Test.YtghlfhgmnhhmnaaGreatDoorQTidyx2
import Derived.Test.YtghlfhgmnhhmnaaGreatDoorQTidyx9
import Derived.Test.YtghlfhgmnhhmnaaGreatDoorQTidyx11
import Derived.Test.YtghlfhgmnhhmnaaGreatDoorQTidyx12
import Derived.Test.YtghlfhgmnhhmnaaGreatDoorQTidyx7
import Derived.Test.YtghlfhgmnhhmnaaGreatDoorQTidyx6
import Derived.Test.YtghlfhgmnhhmnaaGreatDoorQTidyx6
import Derived.Test.YtghlfhgmnhhmnaaGreatDoorQTidyx3
import Derived.Test.YtghlfhgmnhhmnaaGreatDoorQTidyx9
import Derived.Test.YtghlfhgmnhhmnaaGreatDoorQTidyx4
namespace Go.Proofs.YtghlfhgmnhhmnaaGreatDoor.QTidy
open Go.RowKit Go.Proofs.YtghlfhgmnhhmnaaGreatDoorW.PrintWords Go.Proofs.YtghlfhgmnhhmnaaGreatDoorW.PrintLast Go.Proofs.YtghlfhgmnhhmnaaGreatDoorW.PrintMore
set_option linter.unusedVariables false
set_option linter.unusedSimpArgs false

/-! ### Plain lists of bytes -/
def blk (b : UInt8) : Bool := b == 32 || b == 9
def nb (b : UInt8) : Bool := !blk b
theorem blk_has (b : UInt8) : ([32, 9] : List UInt8).contains b = blk b := by simp [blk, Bool.beq_eq_decide_eq]
theorem trimL_eq (l : List UInt8) : Lib.trimLeftS l [32, 9] = l.dropWhile blk := by
 unfold Lib.trimLeftS
 congr 1
 funext b
 exact blk_has b
theorem index_eq : ∀ l : List UInt8, Lib.indexAny l [32, 9] = if l.any blk = true then ((l.takeWhile nb).length : Int) else -1
 | [] => rfl
 | b :: l => by
  rw [Lib.indexAny, blk_has, index_eq l]
  cases hb : blk b with
  | true => simp [hb, nb]
  | false =>
   by_cases h : l.any blk = true
   ·simp only [h, hb, nb, List.any_cons, Bool.or_true, if_true, Bool.not_false, List.takeWhile_cons, List.length_cons, Bool.false_eq_true, if_false]
    rw [if_neg (by simp)]
    push_cast; try rfl
   ·simp [h, hb, nb]
theorem take_nb : ∀ l : List UInt8, l.any blk = false → l.takeWhile nb = l ∧ l.dropWhile nb = []
 | [], _ => ⟨rfl, rfl⟩
 | b :: l, h => by
  simp only [List.any_cons, Bool.or_eq_false_iff] at h
  obtain ⟨h1, h2⟩ := take_nb l h.2
  simp [List.takeWhile_cons, List.dropWhile_cons, nb, h.1, h1, h2]
theorem cut_eq2 (l : List UInt8) : l.take (l.takeWhile nb).length = l.takeWhile nb ∧ l.drop (l.takeWhile nb).length = l.dropWhile nb := by
 induction l with
 | nil => exact ⟨rfl, rfl⟩
 | cons b l ih =>
  cases hb : nb b <;> simp [List.takeWhile_cons, List.dropWhile_cons, hb, ih]

theorem wordL_len : ∀ (n : Nat) (l : List UInt8) (q : Bool) (out : List UInt8), l.length ≤ n → (wordL l q out).2.length ≤ l.length := by
 intro n
 induction n with
 | zero => intro l q out h; obtain rfl : l = [] := List.eq_nil_of_length_eq_zero (by omega); simp [wordL]
 | succ n ih =>
  intro l q out h
  match l with
  | [] => simp [wordL]
  | [c] => unfold wordL; split; simp; split <;> simp
  | c :: d :: l =>
   simp only [List.length_cons] at h
   rw [wordL]
   split
   ·have := ih l q (out ++ [c, d]) (by omega); simp; omega
   ·split
    ·split
     ·have := ih l q (out ++ [d]) (by omega); simp; omega
     ·have := ih (d :: l) false out (by simp; omega); simp at this ⊢; omega
    ·split
     ·simp
     ·have := ih (d :: l) q (out ++ [c]) (by simp; omega); simp at this ⊢; omega
theorem drop_len (l : List UInt8) : (l.dropWhile blk).length ≤ l.length := (List.dropWhile_sublist _).length_le
theorem wordS_cons (c : UInt8) (l : List UInt8) : wordS (c :: l) = if c = 34 then wordL l true [] else wordL (c :: l) false [] := rfl
/-- A word takes a byte at least, with the blanks behind it. -/
theorem wordS_len (c : UInt8) (l : List UInt8) : ((wordS (c :: l)).2.dropWhile blk).length ≤ l.length := by
 rw [wordS_cons]
 by_cases h34 : c = 34
 ·rw [if_pos h34]; exact Nat.le_trans (drop_len _) (wordL_len _ l true [] (Nat.le_refl _))
 ·rw [if_neg h34]
  match l with
  | [] =>
   rw [wordL, if_neg (by simp)]
   split
   ·rename_i h; rcases h.2 with rfl | rfl <;> simp [blk, List.dropWhile]
   ·simp
  | d :: l =>
   rw [wordL]
   split
   ·refine Nat.le_trans (drop_len _) ?_
    have := wordL_len _ l false ([] ++ [c, d]) (Nat.le_refl _); simp at this ⊢; omega
   ·rw [if_neg (by simp)]
    split
    ·rename_i h
     have hb : blk c = true := by rcases h.2 with rfl | rfl <;> rfl
     rw [List.dropWhile_cons, if_pos hb]
     exact drop_len _
    ·exact Nat.le_trans (drop_len _) (wordL_len _ (d :: l) false _ (Nat.le_refl _))

/-- The words of a text whose blanks ahead are left out; at most n. -/
def wordsN : Nat → List UInt8 → List (List UInt8)
 | 0, _ => []
 | _ + 1, [] => []
 | n + 1, c :: l => (wordS (c :: l)).1 :: wordsN n ((wordS (c :: l)).2.dropWhile blk)
def words (s : List UInt8) : List (List UInt8) := wordsN s.length (s.dropWhile blk)
theorem wordsN_more : ∀ (n : Nat) (s : List UInt8), s.length ≤ n → ∀ m, s.length ≤ m → wordsN n s = wordsN m s := by
 intro n
 induction n with
 | zero =>
  intro s h m _
  obtain rfl : s = [] := List.eq_nil_of_length_eq_zero (by omega)
  cases m <;> rfl
 | succ n ih =>
  intro s h m hm
  cases s with
  | nil => cases m <;> rfl
  | cons c l =>
   simp only [List.length_cons] at h hm
   obtain ⟨m, rfl⟩ : ∃ m', m = m' + 1 := ⟨m - 1, by omega⟩
   have := wordS_len c l
   rw [wordsN, wordsN, ih _ (by omega) m (by omega)]
theorem words_eq (s : List UInt8) (n : Nat) (h : (s.dropWhile blk).length ≤ n) : words s = wordsN n (s.dropWhile blk) :=
 wordsN_more _ _ (drop_len s) _ h
theorem wordsN_len : ∀ (n : Nat) (s : List UInt8), (wordsN n s).length ≤ n
 | 0, _ => Nat.le_refl _
 | _ + 1, [] => Nat.zero_le _
 | n + 1, c :: l => by rw [wordsN]; have := wordsN_len n ((wordS (c :: l)).2.dropWhile blk); simp; omega
theorem words_len (s : List UInt8) : (words s).length ≤ s.length := wordsN_len _ _
theorem words_drop (s : List UInt8) : words (s.dropWhile blk) = words s := by
 rw [words_eq s _ (Nat.le_refl _), words_eq (s.dropWhile blk) (s.dropWhile blk).length (drop_len _)]
 congr 1
 cases h : s.dropWhile blk with
 | nil => rfl
 | cons c l =>
  have hb : blk c = false := by
   have := List.head_dropWhile_not (p := blk) (l := s) (by simp [h])
   simpa [h] using this
  simp [List.dropWhile_cons, hb]
theorem words_blank (b : UInt8) (s : List UInt8) (h : blk b = true) : words (b :: s) = words s := by
 have : (b :: s).dropWhile blk = s.dropWhile blk := by rw [List.dropWhile_cons, if_pos h]
 rw [← words_drop, this, words_drop]
/-- How long all words are together. -/
def sumLen (L : List (List UInt8)) : Nat := (L.map List.length).sum
theorem wordL_sum : ∀ (n : Nat) (l : List UInt8) (q : Bool) (out : List UInt8), l.length ≤ n → (wordL l q out).1.length + (wordL l q out).2.length ≤ out.length + l.length := by
 intro n
 induction n with
 | zero => intro l q out h; obtain rfl : l = [] := List.eq_nil_of_length_eq_zero (by omega); simp [wordL]
 | succ n ih =>
  intro l q out h
  match l with
  | [] => simp [wordL]
  | [c] => unfold wordL; split; simp; split <;> simp
  | c :: d :: l =>
   simp only [List.length_cons] at h
   rw [wordL]
   split
   ·have := ih l q (out ++ [c, d]) (by omega); simp at this ⊢; omega
   ·split
    ·split
     ·have := ih l q (out ++ [d]) (by omega); simp at this ⊢; omega
     ·have := ih (d :: l) false out (by simp; omega); simp at this ⊢; omega
    ·split
     ·simp
     ·have := ih (d :: l) q (out ++ [c]) (by simp; omega); simp at this ⊢; omega
theorem wordS_sum (s : List UInt8) : (wordS s).1.length + (wordS s).2.length ≤ s.length := by
 match s with
 | [] => simp [wordS]
 | c :: l =>
  rw [wordS_cons]
  by_cases h : c = 34
  ·rw [if_pos h]; have := wordL_sum _ l true [] (Nat.le_refl _); simp at this ⊢; omega
  ·rw [if_neg h]; have := wordL_sum _ (c :: l) false [] (Nat.le_refl _); simp at this ⊢; omega
theorem wordsN_sum : ∀ (n : Nat) (s : List UInt8), sumLen (wordsN n s) ≤ s.length
 | 0, _ => Nat.zero_le _
 | _ + 1, [] => Nat.zero_le _
 | n + 1, c :: l => by
  have h1 := wordS_sum (c :: l)
  have h2 := wordsN_sum n ((wordS (c :: l)).2.dropWhile blk)
  have h3 := drop_len (wordS (c :: l)).2
  rw [wordsN]
  unfold sumLen at *
  rw [List.map_cons, List.sum_cons]
  omega
theorem words_sum (s : List UInt8) : sumLen (words s) ≤ s.length := Nat.le_trans (wordsN_sum _ _) (drop_len s)
theorem sum_mem : ∀ {L : List (List UInt8)} {w : List UInt8}, w ∈ L → w.length ≤ sumLen L
 | [], _, h => by cases h
 | x :: L, w, h => by
  unfold sumLen
  rw [List.map_cons, List.sum_cons]
  rcases List.mem_cons.1 h with rfl | h
  ·omega
  ·have := sum_mem (L := L) h; unfold sumLen at this; omega

/-! Backslashes at the end. -/
def tailN (l : List UInt8) : Nat := (l.reverse.takeWhile (· == 92)).length
theorem tailN_trim (l : List UInt8) : l.length - (Lib.trimRightB l 92).length = tailN l ∧ (Lib.trimRightB l 92).length ≤ l.length := by
 unfold Lib.trimRightB tailN
 have h : (l.reverse.takeWhile (· == 92)).length + (l.reverse.dropWhile (· == 92)).length = l.length := by
  rw [← List.length_append, List.takeWhile_append_dropWhile, List.length_reverse]
 rw [List.length_reverse]
 omega
theorem tailN_le (l : List UInt8) : tailN l ≤ l.length := by have := tailN_trim l; omega
def tbs : Nat → List UInt8 → Nat
 | n, [] => n
 | n, c :: l => if c = 92 then tbs (n + 1) l else tbs 0 l
theorem tbs_snoc (c : UInt8) : ∀ (l : List UInt8) (n : Nat), tbs n (l ++ [c]) = if c = 92 then tbs n l + 1 else 0
 | [], n => by simp [tbs]
 | d :: l, n => by
  rw [List.cons_append, tbs, tbs]
  split
  ·exact tbs_snoc c l (n + 1)
  ·exact tbs_snoc c l 0
theorem tbs_tail : ∀ (n : Nat) (l : List UInt8), l.length = n → tbs 0 l = tailN l
 | 0, l, h => by obtain rfl := List.eq_nil_of_length_eq_zero h; rfl
 | n + 1, l, h => by
  have hne : l ≠ [] := fun e => by simp [e] at h
  have e := (List.dropLast_concat_getLast hne)
  have ih := tbs_tail n l.dropLast (by simp; omega)
  rw [← e, tbs_snoc]
  unfold tailN at ih ⊢
  rw [List.reverse_append, List.reverse_singleton, List.singleton_append, List.takeWhile_cons]
  by_cases hc : l.getLast hne = 92
  ·rw [if_pos hc, if_pos (by simpa using hc), ih]; simp
  ·rw [if_neg hc, if_neg (by simpa using hc)]; simp

/-! A word as it is written. -/
def dbl (l : List UInt8) : List UInt8 := l.flatMap fun c => if c = 34 then [34, 34] else [c]
def plainW (a : List UInt8) : Bool := decide (a ≠ []) && !a.any blk && decide (a.head? ≠ some 34) && decide (tailN a % 2 = 0)
def shownL (a : List UInt8) : List UInt8 := if plainW a = true then a else 34 :: dbl a ++ [34]
theorem dbl_len (l : List UInt8) : (dbl l).length ≤ 2 * l.length := by
 unfold dbl
 induction l with
 | nil => simp
 | cons c l ih =>
  rw [List.flatMap_cons, List.length_append]
  split <;> simp at ih ⊢ <;> omega
theorem shown_len (a : List UInt8) : (shownL a).length ≤ 2 * a.length + 2 := by
 unfold shownL
 have := dbl_len a
 split
 ·omega
 ·simp; omega
theorem repl_dbl : ∀ s : List UInt8, Lib.replaceK [34] [34, 34] (Lib.count s [34]) s = dbl s
 | [] => by rw [Lib.count_miss (by simp [Lib.index])]; rfl
 | b :: l => by
  have ih := repl_dbl l
  by_cases h : b = 34
  ·subst h
   have hix : Lib.index (34 :: l) [34] = (0 : Nat) := by rw [Lib.index]; simp [List.isPrefixOf]
   rw [Lib.count_cons_eq, Nat.add_comm, Lib.replaceK_hit _ _ _ _ 0 hix]
   simp [dbl] at ih ⊢
   exact ih
  ·have hpre : ([34] : List UInt8).isPrefixOf (b :: l) = false := by simp [List.isPrefixOf, Ne.symm h]
   have hix : Lib.index (b :: l) [34] = if Lib.index l [34] == -1 then -1 else Lib.index l [34] + 1 := by rw [Lib.index, hpre]; simp
   have hd : dbl (b :: l) = b :: dbl l := by simp [dbl, h]
   rw [Lib.count_cons_ne b 34 l h, hd, ← ih]
   cases hk : Lib.count l [34] with
   | zero => rfl
   | succ k =>
    rw [hk] at ih
    obtain ⟨i, hi⟩ := Lib.index_of_count (s := l) (old := [34]) (by omega)
    have hix' : Lib.index (b :: l) [34] = ((i + 1 : Nat) : Int) := by rw [hix, if_neg (by rw [hi]; simp), hi]; push_cast; rfl
    rw [Lib.replaceK_hit _ _ _ _ i hi, Lib.replaceK_hit _ _ _ _ (i + 1) hix']
    simp [Nat.add_right_comm]
theorem repl_all (s : List UInt8) : Lib.replaceAll s [34] [34, 34] = dbl s := by
 unfold Lib.replaceAll Lib.replace Lib.replaceNum
 rw [if_neg (by decide), if_pos (by left; decide)]
 exact repl_dbl s
/-- The words as they are written, each with a blank ahead. -/
def writ (L : List (List UInt8)) : List UInt8 := L.flatMap fun a => 32 :: shownL a
theorem writ_snoc (L : List (List UInt8)) (a : List UInt8) : writ (L ++ [a]) = writ L ++ 32 :: shownL a := by simp [writ]
theorem writ_len : ∀ L : List (List UInt8), (writ L).length ≤ 2 * sumLen L + 3 * L.length
 | [] => by simp [writ]
 | a :: L => by
  have := writ_len L
  have h2 := shown_len a
  unfold writ sumLen at *
  rw [List.flatMap_cons, List.length_append, List.map_cons, List.sum_cons]
  simp at this ⊢
  omega

/-! Blanks at the end. -/
def endB (l : List UInt8) : List UInt8 := (l.reverse.dropWhile (· == 32)).reverse
def trimE (l : List UInt8) : List UInt8 := if endB l ≠ l ∧ (endB l).getLast? = some 92 then l else endB l
theorem endB_idem (l : List UInt8) : endB (endB l) = endB l := by
 unfold endB
 rw [List.reverse_reverse]
 congr 1
 cases h : l.reverse.dropWhile (· == 32) with
 | nil => rfl
 | cons c m =>
  have := List.head_dropWhile_not (p := (· == (32 : UInt8))) (l := l.reverse) (by simp [h])
  simp only [h, List.head_cons] at this
  rw [List.dropWhile_cons, if_neg (by simpa using this)]
theorem trimE_idem (l : List UInt8) : trimE (trimE l) = trimE l := by
 unfold trimE
 by_cases h : endB l ≠ l ∧ (endB l).getLast? = some 92
 ·rw [if_pos h, if_pos h]
 ·rw [if_neg h, if_neg (by rw [endB_idem]; simp), endB_idem]
theorem endB_prefix (l : List UInt8) : endB l <+: l := by
 unfold endB
 have h := List.dropWhile_suffix (l := l.reverse) (p := (· == (32 : UInt8)))
 have := List.reverse_prefix.2 h
 rwa [List.reverse_reverse] at this
theorem trimE_prefix (l : List UInt8) : trimE l <+: l := by
 unfold trimE
 split
 ·exact List.prefix_refl _
 ·exact endB_prefix l

/-! ### The program's functions on lists of bytes -/
abbrev ba (l : List UInt8) : ByteArray := ⟨l.toArray⟩
theorem ba_sz (l : List UInt8) : (ba l).size = l.length := by simp [ba, ByteArray.size]
theorem ba_ls (l : List UInt8) : (ba l).toList = l := by rw [Lib.toList_data]
theorem ba_dt (l : List UInt8) : (ba l).data.toList = l := rfl
theorem ba_app (a b : List UInt8) : ba a ++ ba b = ba (a ++ b) := by
 apply ByteArray.ext
 apply Array.toList_inj.1
 rw [ByteArray.data_append, Array.toList_append]
theorem ba_ex (l : List UInt8) (a b : Nat) : (ba l).extract a b = ba ((l.drop a).take (b - a)) := Lib.extract_mk l a b
theorem ba_of (x : ByteArray) : ba x.data.toList = x := ba_eta x
theorem ba_inj {a b : List UInt8} (h : ba a = ba b) : a = b := by
 have := congrArg (fun x : ByteArray => x.data.toList) h
 exact this
theorem bt_ba (l : List UInt8) (i : Nat) (h : i < l.length) : bt (ba l) (i : Int) = (l[i].toNat : Int) := bt_get (ba l) i (by rw [ba_sz]; exact h)
theorem wrapm (i : Nat) (h : i < 4611686018427387904) : wrap64 ((i : Int) - 1) = (i : Int) - 1 := by simp [wrap64, IntKind.wrap, IntKind.signed, IntKind.bits]; omega
theorem wrapi (i : Int) (h : -9223372036854775808 ≤ i ∧ i < 9223372036854775808) : wrap64 i = i := by simp [wrap64, IntKind.wrap, IntKind.signed, IntKind.bits]; omega
theorem u8_eq (c : UInt8) (n : Nat) (h : n < 256) : ((c.toNat : Int) = (n : Int)) ↔ c = UInt8.ofNat n := by
 constructor
 ·intro e
  apply UInt8.toNat_inj.1
  simp
  omega
 ·intro e
  subst e
  simp
  omega
theorem back8 (c : UInt8) : ((c.toNat : Int)).toNat.toUInt8 = c := by simp

theorem p_trimL (l : List UInt8) : strings_TrimLeft.f (ba l) (⟨#[32, 9]⟩ : ByteArray) = some (ba (l.dropWhile blk)) := by
 unfold strings_TrimLeft.f
 rw [if_pos ⟨by decide, by decide⟩]
 exact congrArg some (congrArg ba (trimL_eq l))
theorem p_index (l : List UInt8) (h : l.length < 4294967281) : strings_IndexAny.f (ba l) (⟨#[32, 9]⟩ : ByteArray) = some (if l.any blk = true then ((l.takeWhile nb).length : Int) else -1) := by
 unfold strings_IndexAny.f
 rw [if_pos ⟨⟨by rw [ba_sz]; exact h, by decide⟩, by decide⟩]
 exact congrArg some (index_eq l)
theorem p_word (c : UInt8) (l : List UInt8) (h : l.length < 4294967281) : request_word.f (ba (c :: l)) = some (ba (wordS (c :: l)).1, ba (wordS (c :: l)).2) := by
 unfold request_word.f
 rw [if_pos ⟨by rw [ba_sz]; simp, by rw [ba_sz]; simp; omega⟩]
 rfl
theorem p_words0 : ∀ (n : Nat) (s : List UInt8) (acc : List ByteArray) (k : Nat), s.length ≤ n → n < k → s.length < 4294967281 → acc.length + n < 8796093022208 → request_Words.l0 k (ba s) acc = some (acc ++ (wordsN n s).map ba) := by
 intro n
 induction n with
 | zero =>
  intro s acc k h hk hs ha
  obtain rfl : s = [] := List.eq_nil_of_length_eq_zero (by omega)
  obtain ⟨k, rfl⟩ : ∃ k', k = k' + 1 := ⟨k - 1, by omega⟩
  rw [request_Words.l0, if_pos (ba_ls [])]; simp [wordsN]
 | succ n ih =>
  intro s acc k h hk hs ha
  obtain ⟨k, rfl⟩ : ∃ k', k = k' + 1 := ⟨k - 1, by omega⟩
  cases s with
  | nil => rw [request_Words.l0, if_pos (ba_ls [])]; simp [wordsN]
  | cons c l =>
   simp only [List.length_cons] at h hs
   have hl := wordS_len c l
   rw [request_Words.l0, if_neg (by rw [ba_ls]; simp), p_word c l (by omega)]
   simp only [Option.bind_some]
   rw [if_pos (by omega), p_trimL]
   simp only [Option.bind_some]
   rw [ih _ _ k (by omega) (by omega) (by omega) (by simp; omega), wordsN]
   simp
theorem p_words (s : List UInt8) (k : Nat) (hk : s.length < k) (hs : s.length < 4294967281) : request_Words.f k (ba s) = some ((words s).map ba) := by
 unfold request_Words.f
 rw [p_trimL]
 simp only [Option.bind_some]
 rw [p_words0 s.length _ [] k (drop_len s) hk (Nat.lt_of_le_of_lt (drop_len s) hs) (by simp; omega)]
 simp [words]

theorem p_hasSuf (y : List UInt8) (hy : y.length < 4294967281) : strings_HasSuffix.f (ba y) (⟨#[92]⟩ : ByteArray) = some (decide (y.getLast? = some 92)) := by
 unfold strings_HasSuffix.f stringslite_HasSuffix.f
 rw [ba_sz]
 have h1 : (⟨#[92]⟩ : ByteArray).size = 1 := rfl
 rw [h1]
 by_cases h : y = []
 ·subst h; simp
 ·have hp : 0 < y.length := List.length_pos_iff.2 h
  rw [if_pos (by omega), wrapi _ (by omega), if_pos (by omega), if_pos (by omega)]
  simp only [Option.bind_some]
  congr 1
  rw [ba_ex, ba_ls]
  have e : ((y.length : Int) - ((1 : Nat) : Int)).toNat = y.length - 1 := by omega
  rw [e]
  have e2 : (⟨#[92]⟩ : ByteArray).toList = [92] := by rw [Lib.toList_data]
  rw [e2, List.getLast?_eq_some_getLast h]
  have e3 : (y.drop (y.length - 1)).take (y.length - (y.length - 1)) = [y.getLast h] := by
   have e4 := List.dropLast_concat_getLast h
   have : y.drop (y.length - 1) = [y.getLast h] := by
    conv => lhs; rw [← e4]
    rw [List.drop_append]
    simp
   rw [this]
   have e6 : y.length - (y.length - 1) = 1 := by omega
   rw [e6]; rfl
  rw [e3]
  by_cases c : y.getLast h = 92 <;> simp [c]

theorem endB_snoc (z : List UInt8) (c : UInt8) : endB (z ++ [c]) = if c = 32 then endB z else z ++ [c] := by
 unfold endB
 rw [List.reverse_append, List.reverse_singleton, List.singleton_append, List.dropWhile_cons]
 by_cases h : c = 32
 ·rw [if_pos h, if_pos (by simpa using h)]
 ·rw [if_neg h, if_neg (by simpa using h)]; simp
theorem p_trimmed0 (x : List UInt8) (hx : x.length < 4294967281) : ∀ (n : Nat) (y : List UInt8) (k : Nat), y.length = n → n < k → y.length ≤ x.length → endB y = endB x → tidy_trimmed.l0 k (ba x) (⟨#[32]⟩ : ByteArray) (ba y) = some (ba (trimE x)) := by
 have fin : ∀ y : List UInt8, y.length ≤ x.length → endB y = endB x → endB y = y → (if (ba y).toList = (ba x).toList then some (ba y) else (strings_HasSuffix.f (ba y) (⟨#[92]⟩ : ByteArray)).bind fun t => if t = true then some (ba x) else some (ba y)) = some (ba (trimE x)) := by
  intro y hl he hy
  rw [ba_ls, ba_ls, p_hasSuf y (by omega)]
  simp only [Option.bind_some]
  rw [hy] at he
  unfold trimE
  by_cases c : y = x
  ·subst c
   rw [if_pos rfl, ← he, if_neg (by simp)]
  ·rw [if_neg c, ← he]
   by_cases d : y.getLast? = some 92
   ·simp [c, d]
   ·simp [d]
 intro n
 induction n with
 | zero =>
  intro y k hy hk hl he
  obtain rfl : y = [] := List.eq_nil_of_length_eq_zero hy
  obtain ⟨k, rfl⟩ : ∃ k', k = k' + 1 := ⟨k - 1, by omega⟩
  rw [tidy_trimmed.l0, if_pos (ba_ls [])]
  exact fin [] hl he rfl
 | succ n ih =>
  intro y k hy hk hl he
  obtain ⟨k, rfl⟩ : ∃ k', k = k' + 1 := ⟨k - 1, by omega⟩
  have hne : y ≠ [] := fun e => by simp [e] at hy
  have ey := (List.dropLast_concat_getLast hne)
  generalize y.getLast hne = c at ey
  generalize hz : y.dropLast = z at ey
  subst ey
  simp only [List.length_append, List.length_singleton] at hy hl
  have hzl : z.length = n := by omega
  have hw : wrap64 (((ba (z ++ [c])).size : Int) - 1) = (z.length : Int) := by rw [ba_sz, wrapi _ (by simp; omega)]; simp
  rw [tidy_trimmed.l0, if_neg (by rw [ba_ls]; simp), hw, if_pos (by omega), if_pos (by rw [ba_sz]; simp; omega), bt_ba _ _ (by simp)]
  have hc : (z ++ [c])[z.length]'(by simp) = c := by simp
  rw [hc]
  unfold strings_IndexByte.f
  simp only [Option.bind_some, back8]
  have hd : (⟨#[32]⟩ : ByteArray).data.toList = [32] := rfl
  rw [hd, endB_snoc] at *
  by_cases h : c = 32
  ·rw [if_pos h] at he
   subst h
   rw [if_pos (by decide), if_pos (by rw [ba_sz]; simp; omega), ba_ex]
   have e2 : ((z ++ [(32 : UInt8)]).drop 0).take ((z.length : Int).toNat - 0) = z := by simp
   rw [e2]
   exact ih z k hzl (by omega) (by omega) he
  ·rw [if_neg h] at he
   have hx2 : Lib.indexByte [32] c = -1 := by
    rw [Lib.indexByte, if_neg (by simpa using fun e => h e.symm)]; rfl
   rw [hx2, if_neg (by decide)]
   exact fin (z ++ [c]) (by simp; omega) (by rw [endB_snoc, if_neg h]; exact he) (by rw [endB_snoc, if_neg h])
theorem p_trimmed (x : List UInt8) (hx : x.length < 4294967281) (k : Nat) (hk : x.length < k) : tidy_trimmed.f k (ba x) (⟨#[32]⟩ : ByteArray) = some (ba (trimE x)) := by
 unfold tidy_trimmed.f
 exact p_trimmed0 x hx x.length x k rfl hk (Nat.le_refl _) rfl

theorem p_trimR (l : List UInt8) (h : l.length < 4294967281) : strings_TrimRight.f (ba l) (⟨#[92]⟩ : ByteArray) = some (ba (Lib.trimRightB l 92)) := by
 show (if (92 : UInt8).toNat < 128 ∧ (ba l).size ≤ 9223372036854775807 then some (⟨(Lib.trimRightB (ba l).data.toList 92).toArray⟩ : ByteArray) else none) = _
 rw [if_pos ⟨by decide, by rw [ba_sz]; omega⟩]
theorem odd_eq (l : List UInt8) (h : l.length < 4294967281) : Int.tmod (wrap64 (((ba l).size : Int) - ((ba (Lib.trimRightB l 92)).size : Int))) 2 = ((tailN l % 2 : Nat) : Int) := by
 obtain ⟨h1, h2⟩ := tailN_trim l
 rw [ba_sz, ba_sz, wrapi _ (by omega)]
 have : (l.length : Int) - ((Lib.trimRightB l 92).length : Int) = (tailN l : Int) := by omega
 rw [this]
 rfl
theorem p_joins (l : List UInt8) (h : l.length < 4294967281) : tidy_joins.f (ba l) = some (decide (tailN l % 2 = 1)) := by
 unfold tidy_joins.f
 rw [p_trimR l h]
 simp only [Option.bind_some]
 rw [odd_eq l h]
 congr 1
 by_cases c : tailN l % 2 = 1
 ·rw [c]; rfl
 ·have : tailN l % 2 = 0 := by omega
  rw [this]; rfl
theorem p_repl (l : List UInt8) (h : l.length < 1073741824) : strings_ReplaceAll.f (ba l) (⟨#[34]⟩ : ByteArray) (⟨#[34, 34]⟩ : ByteArray) = some (ba (dbl l)) := by
 unfold strings_ReplaceAll.f
 have hc := Lib.countB_le (⟨#[34]⟩ : ByteArray) (by decide) _ (ba l) (Nat.le_refl _)
 rw [ba_sz] at hc
 have h2 : (⟨#[34, 34]⟩ : ByteArray).size = 2 := rfl
 rw [if_pos ⟨by rw [ba_sz]; omega, by decide, by rw [ba_sz, h2]; omega⟩]
 exact congrArg some (congrArg ba (repl_all l))
theorem p_shown (a : List UInt8) (h : a.length < 1073741824) : request_shown.f (ba a) = some (ba (shownL a)) := by
 have hq : (strings_ReplaceAll.f (ba a) (⟨#[34]⟩ : ByteArray) (⟨#[34, 34]⟩ : ByteArray)).bind (fun t => if 1 + t.size ≤ 9223372036854775807 then (if ((⟨#[34]⟩ : ByteArray) ++ t).size + 1 ≤ 9223372036854775807 then some (((⟨#[34]⟩ : ByteArray) ++ t) ++ (⟨#[34]⟩ : ByteArray)) else none) else none) = some (ba (34 :: dbl a ++ [34])) := by
  have hl := dbl_len a
  rw [p_repl a h]
  simp only [Option.bind_some]
  have e : (⟨#[34]⟩ : ByteArray) ++ ba (dbl a) = ba (34 :: dbl a) := ba_app [34] (dbl a)
  rw [e, if_pos (by rw [ba_sz]; omega), if_pos (by rw [ba_sz]; simp; omega)]
  exact congrArg some (ba_app (34 :: dbl a) [34])
 unfold request_shown.f
 rw [p_trimR a (by omega)]
 simp only [Option.bind_some]
 rw [odd_eq a (by omega), ba_ls]
 by_cases h0 : a = []
 ·rw [if_pos h0, hq]; simp [shownL, plainW, h0]
 ·rw [if_neg h0]
  have hcA : strings_ContainsAny.f (ba a) (⟨#[32, 9]⟩ : ByteArray) = some (a.any blk) := by
   unfold strings_ContainsAny.f
   rw [if_pos ⟨⟨by rw [ba_sz]; omega, by decide⟩, by decide⟩]
   have e : Lib.containsAny (ba a).data.toList (⟨#[32, 9]⟩ : ByteArray).data.toList = a.any blk := by
    show decide (0 ≤ Lib.indexAny a [32, 9]) = _
    rw [index_eq]
    by_cases c : a.any blk = true
    ·rw [if_pos c, c]; simp
    ·rw [if_neg c]; simp at c ⊢; exact c
   rw [e]
  rw [hcA]
  simp only [Option.bind_some]
  by_cases h1 : a.any blk = true
  ·rw [if_pos h1, hq]; simp only [shownL, plainW, h1]; simp
  ·rw [if_neg h1]
   obtain ⟨c, l, rfl⟩ : ∃ c l, a = c :: l := by cases a with | nil => exact absurd rfl h0 | cons c l => exact ⟨c, l, rfl⟩
   have hb := bt_ba (c :: l) 0 (by simp)
   rw [if_pos (by rw [ba_sz]; simp)]
   have hb0 : bt (ba (c :: l)) 0 = (c.toNat : Int) := hb
   have h1' : (c :: l).any blk = false := by simpa using h1
   rw [hb0]
   by_cases h2 : c = 34
   ·have h2' : (c.toNat : Int) = 34 := by subst h2; rfl
    rw [if_pos h2', hq]; simp [shownL, plainW, h2]
   ·have h2' : ¬ (c.toNat : Int) = 34 := fun e => h2 ((u8_eq c 34 (by decide)).1 e)
    rw [if_neg h2']
    by_cases h3 : tailN (c :: l) % 2 = 1
    ·rw [if_pos (by rw [h3]; rfl), hq]; simp [shownL, plainW, h3]
    ·have h4 : tailN (c :: l) % 2 = 0 := by omega
     rw [if_neg (by rw [h4]; decide)]
     simp only [shownL, plainW, h1', h4]
     simp [h2]

theorem e9 {c : UInt8} (h : c = 9) : (c.toNat : Int) = 9 := by subst h; rfl
theorem n9 {c : UInt8} (h : ¬ c = 9) : ¬ (c.toNat : Int) = 9 := fun e => h ((u8_eq c 9 (by decide)).1 e)
theorem e10 {c : UInt8} (h : c = 10) : (c.toNat : Int) = 10 := by subst h; rfl
theorem n10 {c : UInt8} (h : ¬ c = 10) : ¬ (c.toNat : Int) = 10 := fun e => h ((u8_eq c 10 (by decide)).1 e)
theorem e32 {c : UInt8} (h : c = 32) : (c.toNat : Int) = 32 := by subst h; rfl
theorem n32 {c : UInt8} (h : ¬ c = 32) : ¬ (c.toNat : Int) = 32 := fun e => h ((u8_eq c 32 (by decide)).1 e)
theorem e34 {c : UInt8} (h : c = 34) : (c.toNat : Int) = 34 := by subst h; rfl
theorem n34 {c : UInt8} (h : ¬ c = 34) : ¬ (c.toNat : Int) = 34 := fun e => h ((u8_eq c 34 (by decide)).1 e)
theorem e39 {c : UInt8} (h : c = 39) : (c.toNat : Int) = 39 := by subst h; rfl
theorem n39 {c : UInt8} (h : ¬ c = 39) : ¬ (c.toNat : Int) = 39 := fun e => h ((u8_eq c 39 (by decide)).1 e)
theorem e46 {c : UInt8} (h : c = 46) : (c.toNat : Int) = 46 := by subst h; rfl
theorem n46 {c : UInt8} (h : ¬ c = 46) : ¬ (c.toNat : Int) = 46 := fun e => h ((u8_eq c 46 (by decide)).1 e)
theorem e92 {c : UInt8} (h : c = 92) : (c.toNat : Int) = 92 := by subst h; rfl
theorem n92 {c : UInt8} (h : ¬ c = 92) : ¬ (c.toNat : Int) = 92 := fun e => h ((u8_eq c 92 (by decide)).1 e)

/-! ### The reference's functions on lists of bytes -/
theorem dropC {s r : List UInt8} {c : UInt8} {p : Nat} (h : s.drop p = c :: r) : p < s.length ∧ s.drop (p + 1) = r ∧ p + 1 + r.length = s.length ∧ bt (ba s) (p : Int) = (c.toNat : Int) ∧ (ba s).extract p (p + 1) = ba [c] := by
 have hp : p < s.length := by
  apply Classical.byContradiction
  intro e
  rw [List.drop_of_length_le (by omega)] at h
  cases h
 rw [List.drop_eq_getElem_cons hp] at h
 injection h with h1 h2
 have hl := congrArg List.length h2
 rw [List.length_drop] at hl
 refine ⟨hp, h2, by omega, by rw [bt_ba s p hp, h1], ?_⟩
 rw [ba_ex, List.drop_eq_getElem_cons hp, h1]
 simp
theorem dropCC {s r : List UInt8} {c d : UInt8} {p : Nat} (h : s.drop p = c :: d :: r) : s.drop (p + 2) = r ∧ p + 2 + r.length = s.length ∧ bt (ba s) ((p + 1 : Nat) : Int) = (d.toNat : Int) ∧ (ba s).extract p (p + 2) = ba [c, d] ∧ (ba s).extract (p + 1) (p + 2) = ba [d] := by
 obtain ⟨h1, h2, h3, h4, h5⟩ := dropC h
 obtain ⟨g1, g2, g3, g4, g5⟩ := dropC h2
 refine ⟨g2, g3, g4, ?_, g5⟩
 rw [ba_ex, h]
 simp
theorem dropE0 {s : List UInt8} {p : Nat} (h : s.drop p = []) (hp : p ≤ s.length) : p = s.length := by
 have := List.drop_eq_nil_iff.1 h
 omega
theorem sufDrop {r s : List UInt8} (h : r <:+ s) : s.drop (s.length - r.length) = r ∧ s.length - r.length + r.length = s.length := by
 have := h.length_le
 exact ⟨(List.suffix_iff_eq_drop.1 h).symm, by omega⟩
theorem dropSuf {r s : List UInt8} {p : Nat} (h : s.drop p = r) : r <:+ s := h ▸ List.drop_suffix p s

theorem wordL_out : ∀ (n : Nat) (l : List UInt8) (q : Bool) (out : List UInt8), l.length ≤ n → wordL l q out = (out ++ (wordL l q []).1, (wordL l q []).2) := by
 intro n
 induction n with
 | zero => intro l q out h; obtain rfl : l = [] := List.eq_nil_of_length_eq_zero (by omega); simp [wordL]
 | succ n ih =>
  intro l q out h
  match l with
  | [] => simp [wordL]
  | [c] =>
   rw [wordL, wordL]
   split
   ·simp
   ·split <;> simp
  | c :: d :: l =>
   simp only [List.length_cons] at h
   rw [wordL, wordL]
   split
   ·rw [ih l q (out ++ [c, d]) (by omega), ih l q ([] ++ [c, d]) (by omega)]; simp
   ·split
    ·split
     ·rw [ih l q (out ++ [d]) (by omega), ih l q ([] ++ [d]) (by omega)]; simp
     ·rw [ih (d :: l) false out (by simp; omega)]
    ·split
     ·simp
     ·rw [ih (d :: l) q (out ++ [c]) (by simp; omega), ih (d :: l) q ([] ++ [c]) (by simp; omega)]; simp
theorem wordL_suf : ∀ (n : Nat) (l : List UInt8) (q : Bool) (out : List UInt8), l.length ≤ n → (wordL l q out).2 <:+ l := by
 intro n
 induction n with
 | zero => intro l q out h; obtain rfl : l = [] := List.eq_nil_of_length_eq_zero (by omega); simp [wordL]
 | succ n ih =>
  intro l q out h
  match l with
  | [] => simp [wordL]
  | [c] => rw [wordL]; split; simp; split <;> simp
  | c :: d :: l =>
   simp only [List.length_cons] at h
   rw [wordL]
   split
   ·exact (ih l q (out ++ [c, d]) (by omega)).trans ((List.suffix_cons d l).trans (List.suffix_cons c _))
   ·split
    ·split
     ·exact (ih l q (out ++ [d]) (by omega)).trans ((List.suffix_cons d l).trans (List.suffix_cons c _))
     ·exact (ih (d :: l) false out (by simp; omega)).trans (List.suffix_cons c _)
    ·split
     ·simp
     ·exact (ih (d :: l) q (out ++ [c]) (by simp; omega)).trans (List.suffix_cons c _)

theorem r_blank (c : UInt8) : frisketref06_blank.f (c.toNat : Int) = some (blk c) := by
 unfold frisketref06_blank.f blk
 by_cases h : c = 32
 ·subst h; rfl
 ·rw [if_neg (n32 h)]
  by_cases h2 : c = 9
  ·subst h2; rfl
  ·have e1 : ((c.toNat : Int) == 9) = false := beq_eq_false_iff_ne.2 (n9 h2)
   rw [e1]; simp [h, h2]
theorem r_skip (s : List UInt8) (hs : s.length < 4294967281) : ∀ (r : List UInt8) (p k : Nat), s.drop p = r → p ≤ s.length → r.length < k → frisketref06_skip.l0 k (ba s) (p : Int) = some ((s.length - (r.dropWhile blk).length : Nat) : Int) := by
 intro r
 induction r with
 | nil =>
  intro p k h hp hk
  obtain ⟨k, rfl⟩ : ∃ k', k = k' + 1 := ⟨k - 1, by omega⟩
  obtain rfl := dropE0 h hp
  rw [frisketref06_skip.l0, if_neg (by rw [ba_sz]; omega)]; simp
 | cons c r ih =>
  intro p k h hp hk
  obtain ⟨k, rfl⟩ : ∃ k', k = k' + 1 := ⟨k - 1, by omega⟩
  obtain ⟨h1, h2, h3, h4, h5⟩ := dropC h
  simp only [List.length_cons] at hk
  rw [frisketref06_skip.l0, if_pos (by rw [ba_sz]; omega), if_pos (by omega), h4, r_blank]
  simp only [Option.bind_some]
  rw [List.dropWhile_cons]
  by_cases hb : blk c = true
  ·rw [if_pos hb, if_pos hb, wrap_small p (by omega), ih (p + 1) k h2 (by omega) (by omega)]
  ·rw [if_neg hb, if_neg hb]
   congr 2
   simp only [List.length_cons]
   omega

theorem wrap_two (i : Nat) (h : i < 4611686018427387904) : wrap64 ((i : Int) + 2) = ((i + 2 : Nat) : Int) := by rw [wrapi _ (by omega)]; push_cast; rfl
theorem r_tail (s : List UInt8) (hs : s.length < 4294967281) : ∀ (n : Nat) (r out : List UInt8) (p k : Nat), r.length ≤ n → s.drop p = r → p ≤ s.length → 2 * r.length + 2 ≤ k → out.length ≤ p →
  frisketref06_tail.l0 k (ba s) (p : Int) (ba out) = some (ba (wordL r false out).1, ((s.length - (wordL r false out).2.length : Nat) : Int)) := by
 intro n
 induction n with
 | zero =>
  intro r out p k hn h hp hk ho
  obtain rfl : r = [] := List.eq_nil_of_length_eq_zero (by omega)
  obtain ⟨k, rfl⟩ : ∃ k', k = k' + 2 := ⟨k - 2, by omega⟩
  obtain rfl := dropE0 h hp
  rw [frisketref06_tail.l0, if_neg (by rw [ba_sz]; omega), frisketref06_tail.j1, if_neg (by simp), wordL]; simp
 | succ n ih =>
  intro r out p k hn h hp hk ho
  cases r with
  | nil =>
   obtain ⟨k, rfl⟩ : ∃ k', k = k' + 2 := ⟨k - 2, by omega⟩
   obtain rfl := dropE0 h hp
   rw [frisketref06_tail.l0, if_neg (by rw [ba_sz]; omega), frisketref06_tail.j1, if_neg (by simp), wordL]; simp
  | cons c r =>
   simp only [List.length_cons] at hn hk
   obtain ⟨k, rfl⟩ : ∃ k', k = k' + 2 := ⟨k - 2, by omega⟩
   obtain ⟨h1, h2, h3, h4, h5⟩ := dropC h
   rw [frisketref06_tail.l0, if_pos (by rw [ba_sz]; omega), if_pos (by omega), h4, r_blank]
   simp only [Option.bind_some]
   rw [frisketref06_tail.j1]
   by_cases hb : blk c = true
   ·have hb2 : c = 32 ∨ c = 9 := by simpa [blk] using hb
    have h92 : c ≠ 92 := by rintro rfl; simp at hb2
    rw [hb, if_neg (by simp), wordL_end c r out h92 hb2]
    simp only [List.length_cons]
    congr 3
    omega
   ·have hb2 : ¬ (c = 32 ∨ c = 9) := fun e => hb (by simpa [blk] using e)
    have hbf : blk c = false := by simpa using hb
    have sz1 : (ba out).size + (ba [c]).size ≤ 9223372036854775807 := by rw [ba_sz, ba_sz]; simp; omega
    have one : (if (p : Int) ≤ wrap64 ((p : Int) + 1) then (if wrap64 ((p : Int) + 1) ≤ ((ba s).size : Int) then (if (ba out).size + ((ba s).extract ((p : Int)).toNat (wrap64 ((p : Int) + 1)).toNat).size ≤ 9223372036854775807 then frisketref06_tail.l0 k (ba s) (wrap64 ((p : Int) + 1)) (ba out ++ (ba s).extract ((p : Int)).toNat (wrap64 ((p : Int) + 1)).toNat) else none) else none) else none) = frisketref06_tail.l0 k (ba s) ((p + 1 : Nat) : Int) (ba (out ++ [c])) := by
     rw [wrap_small p (by omega), if_pos (by omega), if_pos (by rw [ba_sz]; omega), Int.toNat_natCast, Int.toNat_natCast, h5, if_pos sz1, ba_app]
    rw [hbf, if_pos (by simp), if_pos (by omega), if_pos (by rw [ba_sz]; omega)]
    by_cases h92 : c = 92
    ·rw [h4, if_pos (e92 h92)]
     cases r with
     | nil =>
      rw [if_neg (by rw [wrap_small p (by omega), ba_sz]; simp at h3; omega), one, ih [] _ (p + 1) k (by simp) h2 (by omega) (by simp at hk ⊢; omega) (by simp; omega)]
      rw [wordL, wordL, if_neg (by simp), if_neg (by simpa using hb2)]
     | cons d r =>
      obtain ⟨g1, g2, g3, g4, g5⟩ := dropCC h
      simp only [List.length_cons] at hn hk h3
      rw [if_pos (by rw [wrap_small p (by omega), ba_sz]; omega), wrap_two p (by omega), if_pos (by omega), if_pos (by rw [ba_sz]; omega), Int.toNat_natCast, Int.toNat_natCast, g4, if_pos (by rw [ba_sz, ba_sz]; simp; omega), ba_app, ih r _ (p + 2) k (by omega) g1 (by omega) (by omega) (by simp; omega)]
      rw [h92, wordL_pair]
    ·rw [h4, if_neg (n92 h92), one, ih r _ (p + 1) k (by omega) h2 (by omega) (by omega) (by simp; omega)]
     rw [wordL_one c r false out (fun e => absurd e h92) (by simp) (by simpa using hb2)]

theorem r_quot (s : List UInt8) (hs : s.length < 4294967281) (acc : List ByteArray) (hacc : acc.length < 8796093022207) (R : List ByteArray) :
  ∀ (n : Nat) (r out : List UInt8) (p k : Nat), r.length ≤ n → s.drop p = r → p ≤ s.length → 4 * r.length + 13 ≤ k → out.length ≤ p →
  (∀ k', 4 * ((wordL r true out).2.dropWhile blk).length + 10 ≤ k' → frisketref06_Words.l0 k' (ba s) (acc ++ [ba (wordL r true out).1]) ((s.length - ((wordL r true out).2.dropWhile blk).length : Nat) : Int) = some R) →
  frisketref06_Words.l1 k (ba s) acc (p : Int) (ba out) = some R := by
 intro n
 -- behind the last quote: the tail, the blanks, the next word
 have after : ∀ (r out : List UInt8) (p k : Nat), s.drop p = r → p ≤ s.length → 4 * r.length + 10 ≤ k → out.length ≤ p →
   (∀ k', 4 * ((wordL r false out).2.dropWhile blk).length + 10 ≤ k' → frisketref06_Words.l0 k' (ba s) (acc ++ [ba (wordL r false out).1]) ((s.length - ((wordL r false out).2.dropWhile blk).length : Nat) : Int) = some R) →
   ((frisketref06_tail.f k (ba s) (p : Int)).bind fun b => if (ba out).size + b.1.size ≤ 9223372036854775807 then (if acc.length < 8796093022208 then (frisketref06_skip.f k (ba s) b.2).bind fun t => frisketref06_Words.l0 k (ba s) (acc ++ [ba out ++ b.1]) t else none) else none) = some R := by
  intro r out p k h hp hk ho hn
  have hsum := wordL_sum _ r false [] (Nat.le_refl _)
  have hlen : p + r.length = s.length := by rw [← h, List.length_drop]; omega
  unfold frisketref06_tail.f
  have e0 : (⟨#[]⟩ : ByteArray) = ba [] := rfl
  rw [e0, r_tail s hs r.length r [] p k (Nat.le_refl _) h hp (by omega) (by simp)]
  simp only [Option.bind_some]
  have hsuf : (wordL r false []).2 <:+ s := (wordL_suf _ r false [] (Nat.le_refl _)).trans (dropSuf h)
  obtain ⟨d1, d2⟩ := sufDrop hsuf
  have hdl := drop_len (wordL r false []).2
  simp only [List.length_nil] at hsum
  rw [if_pos (by rw [ba_sz, ba_sz]; omega), if_pos (by omega)]
  unfold frisketref06_skip.f
  rw [r_skip s hs _ _ k d1 (by omega) (by omega)]
  simp only [Option.bind_some]
  have ho2 := wordL_out _ r false out (Nat.le_refl _)
  rw [ho2] at hn
  rw [ba_app]
  exact hn k (by simp only; omega)
 induction n with
 | zero =>
  intro r out p k hn h hp hk ho hnx
  obtain rfl : r = [] := List.eq_nil_of_length_eq_zero (by omega)
  obtain ⟨k, rfl⟩ : ∃ k', k = k' + 1 := ⟨k - 1, by omega⟩
  obtain rfl := dropE0 h hp
  rw [frisketref06_Words.l1, if_neg (by rw [ba_sz]; omega)]
  exact after [] out _ k h hp (by simp at hk ⊢; omega) ho (by simpa [wordL] using hnx)
 | succ n ih =>
  intro r out p k hn h hp hk ho hnx
  cases r with
  | nil =>
   obtain ⟨k, rfl⟩ : ∃ k', k = k' + 1 := ⟨k - 1, by omega⟩
   obtain rfl := dropE0 h hp
   rw [frisketref06_Words.l1, if_neg (by rw [ba_sz]; omega)]
   exact after [] out _ k h hp (by simp at hk ⊢; omega) ho (by simpa [wordL] using hnx)
  | cons c r =>
   simp only [List.length_cons] at hn hk
   obtain ⟨k, rfl⟩ : ∃ k', k = k' + 2 := ⟨k - 2, by omega⟩
   obtain ⟨h1, h2, h3, h4, h5⟩ := dropC h
   have hp4 : p < 4611686018427387904 := by omega
   have hp5 : p + 1 < 4611686018427387904 := by omega
   -- one byte more
   have one : out.length + 1 ≤ p + 1 → (∀ k', 4 * ((wordL r true (out ++ [c])).2.dropWhile blk).length + 10 ≤ k' → frisketref06_Words.l0 k' (ba s) (acc ++ [ba (wordL r true (out ++ [c])).1]) ((s.length - ((wordL r true (out ++ [c])).2.dropWhile blk).length : Nat) : Int) = some R) →
     (if (p : Int) ≤ wrap64 ((p : Int) + 1) then (if wrap64 ((p : Int) + 1) ≤ ((ba s).size : Int) then (if (ba out).size + ((ba s).extract ((p : Int)).toNat (wrap64 ((p : Int) + 1)).toNat).size ≤ 9223372036854775807 then frisketref06_Words.l1 k (ba s) acc (wrap64 ((p : Int) + 1)) (ba out ++ (ba s).extract ((p : Int)).toNat (wrap64 ((p : Int) + 1)).toNat) else none) else none) else none) = some R := by
    intro ho1 hn1
    rw [wrap_small p hp4, if_pos (by omega), if_pos (by rw [ba_sz]; omega), Int.toNat_natCast, Int.toNat_natCast, h5, if_pos (by rw [ba_sz, ba_sz]; simp; omega), ba_app]
    exact ih r _ (p + 1) k (by omega) h2 (by omega) (by omega) (by simp; omega) hn1
   rw [frisketref06_Words.l1, if_pos (by rw [ba_sz]; omega), if_pos (by omega), h4]
   by_cases c34 : c = 34
   ·have e34 : (c.toNat : Int) = 34 := by subst c34; rfl
    rw [if_pos e34, wrap_small p hp4]
    cases r with
    | nil =>
     simp only [List.length_nil] at h3 hk
     rw [if_pos (by rw [ba_sz]; omega), frisketref06_Words.j2, if_pos rfl, wrap_small p hp4]
     refine after [] out (p + 1) k h2 (by omega) (by simp; omega) (by omega) ?_
     rw [wordL, if_pos ⟨rfl, c34⟩] at hnx
     simpa [wordL] using hnx
    | cons d r =>
     obtain ⟨g1, g2, g3, g4, g5⟩ := dropCC h
     simp only [List.length_cons] at h3 hk hn
     rw [if_neg (by rw [ba_sz]; omega), if_pos (by omega), if_pos (by rw [ba_sz]; omega), g3]
     by_cases d34 : d = 34
     ·have ed : ((d.toNat : Int) != 34) = false := by subst d34; rfl
      rw [ed, frisketref06_Words.j2, if_neg (by simp), if_pos (by omega), if_pos (by rw [ba_sz]; omega), h4, if_pos e34, wrap_small p hp4, wrap_small (p + 1) hp5, if_pos (by omega), if_pos (by omega), if_pos (by rw [ba_sz]; omega), Int.toNat_natCast, Int.toNat_natCast, g5, if_pos (by rw [ba_sz, ba_sz]; simp; omega), ba_app]
      subst c34; subst d34
      rw [wordL_dbl] at hnx
      exact ih r _ (p + 2) k (by omega) g1 (by omega) (by omega) (by simp; omega) hnx
     ·have ed : ((d.toNat : Int) != 34) = true := by simpa using n34 d34
      rw [ed, frisketref06_Words.j2, if_pos rfl, wrap_small p hp4]
      subst c34
      rw [wordL_close (d :: r) out (by simpa using d34)] at hnx
      exact after (d :: r) out (p + 1) k h2 (by omega) (by simp; omega) (by omega) hnx
   ·have e34 : ¬ (c.toNat : Int) = 34 := n34 c34
    rw [if_neg e34, frisketref06_Words.j2, if_neg (by simp), if_pos (by omega), if_pos (by rw [ba_sz]; omega), h4, if_neg e34]
    by_cases h92 : c = 92
    ·rw [if_pos (e92 h92)]
     cases r with
     | nil =>
      simp only [List.length_nil] at h3
      rw [if_neg (by rw [wrap_small p hp4, ba_sz]; omega)]
      refine one (by omega) ?_
      rw [wordL_one c [] true out (fun _ => rfl) (fun e => c34 e.2) (by simp)] at hnx
      exact hnx
     | cons d r =>
      obtain ⟨g1, g2, g3, g4, g5⟩ := dropCC h
      simp only [List.length_cons] at h3 hk hn
      rw [if_pos (by rw [wrap_small p hp4, ba_sz]; omega), wrap_two p hp4, if_pos (by omega), if_pos (by rw [ba_sz]; omega), Int.toNat_natCast, Int.toNat_natCast, g4, if_pos (by rw [ba_sz, ba_sz]; simp; omega), ba_app]
      subst h92
      rw [wordL_pair] at hnx
      exact ih r _ (p + 2) k (by omega) g1 (by omega) (by omega) (by simp; omega) hnx
    ·rw [if_neg (n92 h92)]
     refine one (by omega) ?_
     rw [wordL_one c r true out (fun e => absurd e h92) (fun e => c34 e.2) (by simp)] at hnx
     exact hnx

theorem r_words0 (s : List UInt8) (hs : s.length < 4294967281) : ∀ (n : Nat) (r : List UInt8) (acc : List ByteArray) (p k : Nat), r.length ≤ n → s.drop p = r → p ≤ s.length → 4 * r.length + 10 ≤ k → acc.length + n < 8796093022207 → acc.length + r.length ≤ 4294967281 →
  frisketref06_Words.l0 k (ba s) acc (p : Int) = some (acc ++ (wordsN n r).map ba) := by
 intro n
 induction n with
 | zero =>
  intro r acc p k hn h hp hk ha _
  obtain rfl : r = [] := List.eq_nil_of_length_eq_zero (by omega)
  obtain ⟨k, rfl⟩ : ∃ k', k = k' + 1 := ⟨k - 1, by omega⟩
  obtain rfl := dropE0 h hp
  rw [frisketref06_Words.l0, if_neg (by rw [ba_sz]; omega)]; simp [wordsN]
 | succ n ih =>
  intro r acc p k hn h hp hk ha hb
  obtain ⟨k, rfl⟩ : ∃ k', k = k' + 1 := ⟨k - 1, by omega⟩
  cases r with
  | nil =>
   obtain rfl := dropE0 h hp
   rw [frisketref06_Words.l0, if_neg (by rw [ba_sz]; omega)]; simp [wordsN]
  | cons c r =>
   simp only [List.length_cons] at hn hk hb
   obtain ⟨h1, h2, h3, h4, h5⟩ := dropC h
   have hlen := wordS_len c r
   have hnext : ∀ k', 4 * ((wordS (c :: r)).2.dropWhile blk).length + 10 ≤ k' → frisketref06_Words.l0 k' (ba s) (acc ++ [ba (wordS (c :: r)).1]) ((s.length - ((wordS (c :: r)).2.dropWhile blk).length : Nat) : Int) = some (acc ++ (wordsN (n + 1) (c :: r)).map ba) := by
    intro k' hk'
    have hsuf : (wordS (c :: r)).2.dropWhile blk <:+ s := by
     refine List.IsSuffix.trans (List.dropWhile_suffix _) (List.IsSuffix.trans ?_ (dropSuf h))
     rw [wordS_cons]
     split
     ·exact (wordL_suf _ r true [] (Nat.le_refl _)).trans (List.suffix_cons c r)
     ·exact wordL_suf _ (c :: r) false [] (Nat.le_refl _)
    obtain ⟨d1, d2⟩ := sufDrop hsuf
    rw [ih _ _ _ k' (by omega) d1 (by omega) (by omega) (by simp; omega) (by simp; omega), wordsN]
    simp
   rw [frisketref06_Words.l0, if_pos (by rw [ba_sz]; omega), if_pos (by omega), h4]
   by_cases c34 : c = 34
   ·rw [if_pos (e34 c34), wrap_small p (by omega)]
    rw [wordS_cons, if_pos c34] at hnext
    exact r_quot s hs acc (by omega) _ r.length r [] (p + 1) k (Nat.le_refl _) h2 (by omega) (by omega) (by simp) hnext
   ·rw [if_neg (n34 c34)]
    rw [wordS_cons, if_neg c34] at hnext
    have hsum := wordL_sum _ (c :: r) false [] (Nat.le_refl _)
    unfold frisketref06_tail.f
    have e0 : (⟨#[]⟩ : ByteArray) = ba [] := rfl
    rw [e0, r_tail s hs (r.length + 1) (c :: r) [] p k (by simp) h hp (by simp only [List.length_cons]; omega) (by simp)]
    simp only [Option.bind_some]
    have hsuf : (wordL (c :: r) false []).2 <:+ s := (wordL_suf _ (c :: r) false [] (Nat.le_refl _)).trans (dropSuf h)
    obtain ⟨d1, d2⟩ := sufDrop hsuf
    have hdl := drop_len (wordL (c :: r) false []).2
    simp only [List.length_nil, List.length_cons] at hsum
    rw [if_pos (by rw [ba_sz]; omega), if_pos (by omega)]
    unfold frisketref06_skip.f
    rw [r_skip s hs _ _ k d1 (by omega) (by omega)]
    simp only [Option.bind_some]
    rw [ba_app, List.nil_append]
    rw [wordS_cons, if_neg c34] at hlen
    exact hnext k (by omega)
theorem r_words (s : List UInt8) (k : Nat) (hk : 4 * s.length + 10 ≤ k) (hs : s.length < 4294967270) : frisketref06_Words.f k (ba s) = some ((words s).map ba) := by
 unfold frisketref06_Words.f frisketref06_skip.f
 have h0 : frisketref06_skip.l0 k (ba s) 0 = _ := r_skip s (by omega) s 0 k (by simp) (by omega) (by omega)
 rw [h0]
 simp only [Option.bind_some]
 have hdl := drop_len s
 obtain ⟨d1, d2⟩ := sufDrop (List.dropWhile_suffix (l := s) blk)
 rw [r_words0 s (by omega) s.length (s.dropWhile blk) [] _ k hdl d1 (by omega) (by omega) (by simp; omega) (by simp; omega)]
 simp [words]

/-! ### A word as the reference writes it -/
theorem r_q1 (s : List UInt8) (hs : s.length < 1073741824) : ∀ (r out : List UInt8) (p k : Nat), s.drop p = r → p ≤ s.length → r.length < k → out.length ≤ 2 * p + 1 → frisketref06_quoted.l1 k (ba s) (ba out) (p : Int) = some (ba (out ++ dbl r ++ [34])) := by
 intro r
 induction r with
 | nil =>
  intro out p k h hp hk ho
  obtain ⟨k, rfl⟩ : ∃ k', k = k' + 1 := ⟨k - 1, by omega⟩
  obtain rfl := dropE0 h hp
  rw [frisketref06_quoted.l1, if_neg (by rw [ba_sz]; omega), if_pos (by rw [ba_sz]; omega)]
  have e : ba out ++ (⟨#[34]⟩ : ByteArray) = ba (out ++ [34]) := ba_app out [34]
  rw [e]; simp [dbl]
 | cons c r ih =>
  intro out p k h hp hk ho
  obtain ⟨k, rfl⟩ : ∃ k', k = k' + 1 := ⟨k - 1, by omega⟩
  obtain ⟨h1, h2, h3, h4, h5⟩ := dropC h
  simp only [List.length_cons] at hk
  have hw := wrap_small p (by omega)
  rw [frisketref06_quoted.l1, if_pos (by rw [ba_sz]; omega), if_pos (by omega), h4]
  by_cases c34 : c = 34
  ·have e : ba out ++ (⟨#[34]⟩ : ByteArray) = ba (out ++ [34]) := ba_app out [34]
   rw [if_pos (e34 c34), if_pos (by rw [ba_sz]; omega), hw, if_pos (by omega), if_pos (by rw [ba_sz]; omega), Int.toNat_natCast, Int.toNat_natCast, h5, e, if_pos (by rw [ba_sz, ba_sz]; simp; omega), ba_app, ih _ (p + 1) k h2 (by omega) (by omega) (by simp; omega)]
   subst c34; simp [dbl]
  ·rw [if_neg (n34 c34), hw, if_pos (by omega), if_pos (by rw [ba_sz]; omega), Int.toNat_natCast, Int.toNat_natCast, h5, if_pos (by rw [ba_sz, ba_sz]; simp; omega), ba_app, ih _ (p + 1) k h2 (by omega) (by omega) (by simp; omega)]
   simp [dbl, c34]
theorem r_q0 (s : List UInt8) (hs : s.length < 1073741824) : ∀ (r : List UInt8) (inn : Bool) (n p m : Nat), s.drop p = r → p ≤ s.length → n ≤ p → frisketref06_quoted.l0 (r.length + 1 + m) (ba s) inn (n : Int) (p : Int) = frisketref06_quoted.j2 m (ba s) (!(inn || r.any blk) && decide (tbs n r % 2 = 0)) := by
 intro r
 induction r with
 | nil =>
  intro inn n p m h hp hn
  obtain rfl := dropE0 h hp
  have e : ([] : List UInt8).length + 1 + m = m + 1 := by simp; omega
  rw [e, frisketref06_quoted.l0, if_neg (by rw [ba_sz]; omega)]
  cases inn with
  | true => simp
  | false =>
   rw [if_neg (by simp)]
   have e2 : (Int.tmod (n : Int) 2) = ((n % 2 : Nat) : Int) := rfl
   rw [e2]
   congr 1
   by_cases c : n % 2 = 0
   ·simp [tbs, c]
   ·have : n % 2 = 1 := by omega
    simp [tbs, this]
 | cons c r ih =>
  intro inn n p m h hp hn
  have e : (c :: r).length + 1 + m = (r.length + 1 + m) + 1 := by simp; omega
  obtain ⟨h1, h2, h3, h4, h5⟩ := dropC h
  have hp4 : p < 4611686018427387904 := by omega
  have hn4 : n < 4611686018427387904 := by omega
  rw [e, frisketref06_quoted.l0, if_pos (by rw [ba_sz]; omega), List.any_cons, tbs]
  cases inn with
  | true =>
   rw [if_pos rfl, if_pos (by omega), h4, wrap_small p hp4, wrap_small n hn4]
   by_cases h92 : c = 92
   ·rw [if_pos (e92 h92), if_pos h92, ih true (n + 1) (p + 1) m h2 (by omega) (by omega)]; simp
   ·have := ih true 0 (p + 1) m h2 (by omega) (by omega)
    rw [if_neg (n92 h92), if_neg h92]
    rw [show ((0 : Nat) : Int) = 0 from rfl] at this
    rw [this]; simp
  | false =>
   rw [if_neg (by simp), if_pos (by omega), h4, r_blank]
   simp only [Option.bind_some]
   rw [wrap_small p hp4, wrap_small n hn4]
   by_cases h92 : c = 92
   ·rw [if_pos (e92 h92), if_pos h92, ih (blk c) (n + 1) (p + 1) m h2 (by omega) (by omega)]; simp
   ·have := ih (blk c) 0 (p + 1) m h2 (by omega) (by omega)
    rw [if_neg (n92 h92), if_neg h92]
    rw [show ((0 : Nat) : Int) = 0 from rfl] at this
    rw [this]; simp
theorem r_quoted (s : List UInt8) (hs : s.length < 1073741824) (k : Nat) (hk : 2 * s.length + 10 ≤ k) : frisketref06_quoted.f k (ba s) = some (ba (shownL s)) := by
 have fin : ∀ (b : Bool) (m : Nat), s.length + 4 ≤ m → frisketref06_quoted.j2 m (ba s) b = some (ba (if b = true then s else 34 :: dbl s ++ [34])) := by
  intro b m hm
  obtain ⟨m, rfl⟩ : ∃ m', m = m' + 1 := ⟨m - 1, by omega⟩
  rw [frisketref06_quoted.j2]
  cases b with
  | true => simp
  | false =>
   rw [if_neg (by simp), if_neg (by simp)]
   exact r_q1 s hs s [34] 0 m rfl (by omega) (by omega) (by simp)
 have go : ∀ (inn : Bool) (k : Nat), 2 * s.length + 9 ≤ k → frisketref06_quoted.j0 k (ba s) inn = some (ba (if (!(inn || s.any blk) && decide (tailN s % 2 = 0)) = true then s else 34 :: dbl s ++ [34])) := by
  intro inn k hk
  obtain ⟨k, rfl⟩ : ∃ k', k = k' + 1 := ⟨k - 1, by omega⟩
  rw [frisketref06_quoted.j0]
  have e : k = s.length + 1 + (k - s.length - 1) := by omega
  have := r_q0 s hs s inn 0 0 (k - s.length - 1) rfl (by omega) (by omega)
  rw [← e] at this
  rw [show ((0 : Nat) : Int) = 0 from rfl] at this
  rw [this, fin _ _ (by omega), tbs_tail _ s rfl]
 unfold frisketref06_quoted.f
 rw [ba_ls]
 by_cases h0 : s = []
 ·rw [if_pos h0, go true k (by omega)]; simp [shownL, plainW, h0]
 ·rw [if_neg h0]
  obtain ⟨c, l, rfl⟩ : ∃ c l, s = c :: l := by cases s with | nil => exact absurd rfl h0 | cons c l => exact ⟨c, l, rfl⟩
  have hb0 : bt (ba (c :: l)) 0 = (c.toNat : Int) := bt_ba (c :: l) 0 (by simp)
  rw [if_pos (by rw [ba_sz]; simp), hb0, go _ k (by omega)]
  by_cases h2 : c = 34
  ·subst h2; simp [shownL, plainW]
  ·have e1 : ((c.toNat : Int) == 34) = false := beq_eq_false_iff_ne.2 (n34 h2)
   rw [e1]; simp [shownL, plainW, h2]

/-! ### Lists that are compared -/
def noNL (l : List UInt8) : Bool := !l.contains 10
theorem rd_map (W : List (List UInt8)) (i : Nat) (h : i < W.length) : rdOf ByteArray.empty (W.map ba) (i : Int) = ba W[i] := by simp [rdOf, h]
theorem eqLoop_p (A B : List (List UInt8)) (hl : A.length = B.length) (hb : A.length < 4611686018427387904) : ∀ (n i k : Nat), i + n = A.length → n < k → slices_Equal_string_string.l0 k (A.map ba) (B.map ba) (A.length : Int) (i : Int) = some (decide (A.drop i = B.drop i)) := by
 intro n
 induction n with
 | zero =>
  intro i k hi hk
  obtain ⟨k, rfl⟩ : ∃ k', k = k' + 1 := ⟨k - 1, by omega⟩
  rw [slices_Equal_string_string.l0, if_neg (by omega), List.drop_of_length_le (by omega), List.drop_of_length_le (by omega)]; simp
 | succ n ih =>
  intro i k hi hk
  obtain ⟨k, rfl⟩ : ∃ k', k = k' + 1 := ⟨k - 1, by omega⟩
  have ha : i < A.length := by omega
  have hb' : i < B.length := by omega
  rw [slices_Equal_string_string.l0, if_pos (by omega), if_pos (by omega), if_pos (by simp; omega), if_pos (by simp; omega), rd_map A i ha, rd_map B i hb', ba_ls, ba_ls, wrap_small i (by omega), List.drop_eq_getElem_cons ha, List.drop_eq_getElem_cons hb']
  by_cases c : A[i] = B[i]
  ·rw [if_pos c, ih (i + 1) k (by omega) (by omega), c]
   congr 1
   exact decide_eq_decide.2 ⟨fun e => by rw [e], fun e => by injection e⟩
  ·rw [if_neg c]
   congr 1
   exact (decide_eq_false (fun e => c (by injection e))).symm
theorem eq_p (A B : List (List UInt8)) (hb : A.length < 4611686018427387904) (k : Nat) (hk : A.length < k) : slices_Equal_string_string.f k (A.map ba) (B.map ba) = some (decide (A = B)) := by
 unfold slices_Equal_string_string.f
 by_cases c : A.length = B.length
 ·rw [if_pos (by simp [c])]
  have := eqLoop_p A B c hb A.length 0 k (by omega) hk
  simp only [List.length_map] at this ⊢
  exact this
 ·rw [if_neg (by simp; omega)]
  have : A ≠ B := fun e => c (by rw [e])
  simp [this]
theorem eqLoop_r (A B : List (List UInt8)) (hl : A.length = B.length) (hb : A.length < 4611686018427387904) : ∀ (n i k : Nat), i + n = A.length → n < k → frisketref37_same.l0 k (A.map ba) (B.map ba) (i : Int) = some (decide (A.drop i = B.drop i)) := by
 intro n
 induction n with
 | zero =>
  intro i k hi hk
  obtain ⟨k, rfl⟩ : ∃ k', k = k' + 1 := ⟨k - 1, by omega⟩
  rw [frisketref37_same.l0, if_neg (by simp; omega), List.drop_of_length_le (by omega), List.drop_of_length_le (by omega)]; simp
 | succ n ih =>
  intro i k hi hk
  obtain ⟨k, rfl⟩ : ∃ k', k = k' + 1 := ⟨k - 1, by omega⟩
  have ha : i < A.length := by omega
  have hb' : i < B.length := by omega
  rw [frisketref37_same.l0, if_pos (by simp; omega), if_pos (by omega), if_pos (by simp; omega), rd_map A i ha, rd_map B i hb', ba_ls, ba_ls, wrap_small i (by omega), List.drop_eq_getElem_cons ha, List.drop_eq_getElem_cons hb']
  by_cases c : A[i] = B[i]
  ·rw [if_pos c, ih (i + 1) k (by omega) (by omega), c]
   congr 1
   exact decide_eq_decide.2 ⟨fun e => by rw [e], fun e => by injection e⟩
  ·rw [if_neg c]
   congr 1
   exact (decide_eq_false (fun e => c (by injection e))).symm
theorem eq_r (A B : List (List UInt8)) (hb : A.length < 4611686018427387904) (k : Nat) (hk : A.length < k) : frisketref37_same.f k (A.map ba) (B.map ba) = some (decide (A = B)) := by
 unfold frisketref37_same.f
 by_cases c : A.length = B.length
 ·rw [if_pos (by simp [c])]
  exact eqLoop_r A B c hb A.length 0 k (by omega) hk
 ·rw [if_neg (by simp; omega)]
  have : A ≠ B := fun e => c (by rw [e])
  simp [this]

/-! ### Control lines -/
def isC (c : UInt8) : Bool := c == 46 || c == 39
/-- A control line's byte, name, and what is behind the name. -/
def ctl : List UInt8 → Option (UInt8 × List UInt8 × List UInt8)
 | [] => none
 | c :: l => if isC c = true then some (c, (l.dropWhile blk).takeWhile nb, (l.dropWhile blk).dropWhile nb) else none
theorem isC_iff (c : UInt8) : isC c = true ↔ c = 46 ∨ c = 39 := by simp [isC]
theorem ctl_some {x : List UInt8} {c : UInt8} {n r : List UInt8} (h : ctl x = some (c, n, r)) : ∃ l, x = c :: l ∧ isC c = true ∧ n = (l.dropWhile blk).takeWhile nb ∧ r = (l.dropWhile blk).dropWhile nb := by
 cases x with
 | nil => cases h
 | cons d l =>
  rw [ctl] at h
  split at h
  ·rename_i hc
   injection h with h
   injection h with h1 h2
   injection h2 with h2 h3
   subst h1
   exact ⟨l, rfl, hc, h2.symm, h3.symm⟩
  ·cases h
theorem mem_tw {p : UInt8 → Bool} : ∀ {l : List UInt8} {b : UInt8}, b ∈ l.takeWhile p → p b = true
 | [], _, h => by cases h
 | c :: l, b, h => by
  rw [List.takeWhile_cons] at h
  split at h
  ·rename_i hc
   rcases List.mem_cons.1 h with rfl | h
   ·exact hc
   ·exact mem_tw h
  ·cases h
theorem ctl_parts {x : List UInt8} {c : UInt8} {n r : List UInt8} (h : ctl x = some (c, n, r)) : 1 + n.length + r.length ≤ x.length ∧ (∀ b ∈ n, b ∈ x ∧ nb b = true) ∧ (∀ b ∈ r, b ∈ x) ∧ (r = [] ∨ ∃ b t, r = b :: t ∧ blk b = true) := by
 obtain ⟨l, rfl, hc, rfl, rfl⟩ := ctl_some h
 have hd := drop_len l
 have hj : ((l.dropWhile blk).takeWhile nb).length + ((l.dropWhile blk).dropWhile nb).length = (l.dropWhile blk).length := by
  rw [← List.length_append, List.takeWhile_append_dropWhile]
 have hsub : ∀ b ∈ l.dropWhile blk, b ∈ l := fun b hb => (List.dropWhile_sublist blk).subset hb
 refine ⟨by simp; omega, fun b hb => ⟨?_, ?_⟩, fun b hb => ?_, ?_⟩
 ·exact List.mem_cons_of_mem _ (hsub b ((List.takeWhile_sublist nb).subset hb))
 ·exact mem_tw hb
 ·exact List.mem_cons_of_mem _ (hsub b ((List.dropWhile_sublist nb).subset hb))
 ·cases hr : (l.dropWhile blk).dropWhile nb with
  | nil => exact .inl rfl
  | cons b t =>
   refine .inr ⟨b, t, rfl, ?_⟩
   have := List.head_dropWhile_not (p := nb) (l := l.dropWhile blk) (by simp [hr])
   simp only [hr, List.head_cons] at this
   simpa [nb] using this
theorem takeW_all : ∀ (n r : List UInt8), (∀ b ∈ n, nb b = true) → (r = [] ∨ ∃ b t, r = b :: t ∧ blk b = true) → (n ++ r).takeWhile nb = n ∧ (n ++ r).dropWhile nb = r
 | [], r, _, hr => by
  rcases hr with rfl | ⟨b, t, rfl, hb⟩
  ·exact ⟨rfl, rfl⟩
  ·simp [List.takeWhile_cons, List.dropWhile_cons, nb, hb]
 | b :: n, r, hn, hr => by
  obtain ⟨h1, h2⟩ := takeW_all n r (fun x hx => hn x (by simp [hx])) hr
  have hb := hn b (by simp)
  simp [List.takeWhile_cons, List.dropWhile_cons, hb, h1, h2]
/-- A line that is put together of a name and what is behind it is read so again. -/
theorem ctl_mk (c : UInt8) (n r : List UInt8) (hc : isC c = true) (hn : ∀ b ∈ n, nb b = true) (h0 : n ≠ []) (hr : r = [] ∨ ∃ b t, r = b :: t ∧ blk b = true) : ctl (c :: (n ++ r)) = some (c, n, r) := by
 obtain ⟨h1, h2⟩ := takeW_all n r hn hr
 have hd : (n ++ r).dropWhile blk = n ++ r := by
  cases n with
  | nil => exact absurd rfl h0
  | cons b n =>
   have := hn b (by simp)
   rw [List.cons_append, List.dropWhile_cons, if_neg (by simpa [nb] using this)]
 rw [ctl, if_pos hc, hd, h1, h2]

theorem r_blank37 (c : UInt8) : frisketref37_blank.f (c.toNat : Int) = some (blk c) := r_blank c
theorem r_c1 (s : List UInt8) (hs : s.length < 4294967281) (c : UInt8) (h1 : (ba s).extract 0 1 = ba [c]) (h0 : 1 ≤ s.length) : ∀ (r m : List UInt8) (q p k : Nat), s.drop q = m ++ r → p = q + m.length → p ≤ s.length → r.length < k → frisketref37_control.l1 k (ba s) (p : Int) (q : Int) = some (ba [c], ba (m ++ r.takeWhile nb), ba (r.dropWhile nb), true) := by
 have hx : ∀ (r m : List UInt8) (q p : Nat), s.drop q = m ++ r → p = q + m.length → (ba s).extract q p = ba m ∧ (ba s).extract p s.length = ba r := by
  intro r m q p h e
  subst e
  refine ⟨?_, ?_⟩
  ·rw [ba_ex, h]; simp
  ·rw [ba_ex, ← List.drop_drop, h]; simp
   have hl := congrArg List.length h
   simp at hl
   exact List.take_of_length_le (by omega)
 intro r
 induction r with
 | nil =>
  intro m q p k h e hp hk
  obtain ⟨k, rfl⟩ : ∃ k', k = k' + 1 := ⟨k - 1, by omega⟩
  have hl := congrArg List.length h
  simp at hl
  obtain ⟨x1, x2⟩ := hx [] m q p h e
  rw [frisketref37_control.l1, if_neg (by rw [ba_sz]; omega), if_pos (by omega), if_pos (by rw [ba_sz]; omega), if_pos (by omega), if_pos (by omega), if_pos (by rw [ba_sz]; omega), if_pos (by omega), h1, Int.toNat_natCast, Int.toNat_natCast, x1, ba_sz, x2]
  simp
 | cons b r ih =>
  intro m q p k h e hp hk
  obtain ⟨k, rfl⟩ : ∃ k', k = k' + 1 := ⟨k - 1, by omega⟩
  have hd : s.drop p = b :: r := by rw [e, ← List.drop_drop, h]; simp
  obtain ⟨d1, d2, d3, d4, d5⟩ := dropC hd
  obtain ⟨x1, x2⟩ := hx (b :: r) m q p h e
  simp only [List.length_cons] at hk
  rw [frisketref37_control.l1, if_pos (by rw [ba_sz]; omega), if_pos (by omega), d4, r_blank37]
  simp only [Option.bind_some]
  by_cases hb : blk b = true
  ·rw [if_pos hb, if_pos (by omega), if_pos (by rw [ba_sz]; omega), if_pos (by omega), if_pos (by omega), if_pos (by rw [ba_sz]; omega), h1, Int.toNat_natCast, Int.toNat_natCast, x1, ba_sz, x2]
   simp [List.takeWhile_cons, List.dropWhile_cons, nb, hb]
  ·have hbf : blk b = false := by simpa using hb
   rw [if_neg hb, wrap_small p (by omega), ih (m ++ [b]) q (p + 1) k (by rw [h]; simp) (by simp; omega) (by omega) (by omega)]
   simp [List.takeWhile_cons, List.dropWhile_cons, nb, hbf]
theorem r_c0 (s : List UInt8) (hs : s.length < 4294967281) (c : UInt8) (h1 : (ba s).extract 0 1 = ba [c]) (h0 : 1 ≤ s.length) : ∀ (r : List UInt8) (p k : Nat), s.drop p = r → p ≤ s.length → r.length + 2 < k → frisketref37_control.l0 k (ba s) (p : Int) = some (ba [c], ba ((r.dropWhile blk).takeWhile nb), ba ((r.dropWhile blk).dropWhile nb), true) := by
 intro r
 induction r with
 | nil =>
  intro p k h hp hk
  obtain ⟨k, rfl⟩ : ∃ k', k = k' + 2 := ⟨k - 2, by omega⟩
  obtain rfl := dropE0 h hp
  rw [frisketref37_control.l0, if_neg (by rw [ba_sz]; omega), frisketref37_control.j2]
  exact r_c1 s hs c h1 h0 [] [] s.length s.length k (by simp) (by simp) (by omega) (by simp at hk ⊢; omega)
 | cons b r ih =>
  intro p k h hp hk
  obtain ⟨k, rfl⟩ : ∃ k', k = k' + 2 := ⟨k - 2, by omega⟩
  obtain ⟨d1, d2, d3, d4, d5⟩ := dropC h
  simp only [List.length_cons] at hk
  rw [frisketref37_control.l0, if_pos (by rw [ba_sz]; omega), if_pos (by omega), d4, r_blank37]
  simp only [Option.bind_some]
  by_cases hb : blk b = true
  ·rw [if_pos hb, wrap_small p (by omega), ih (p + 1) (k + 1) d2 (by omega) (by omega), List.dropWhile_cons, if_pos hb]
  ·rw [if_neg hb, frisketref37_control.j2, List.dropWhile_cons, if_neg hb]
   have := r_c1 s hs c h1 h0 (b :: r) [] p p k (by simpa using h) (by simp) (by omega) (by simp; omega)
   simpa using this
theorem r_control (s : List UInt8) (hs : s.length < 4294967281) (k : Nat) (hk : s.length + 5 < k) : frisketref37_control.f k (ba s) = some (match ctl s with
  | none => (ba [], ba [], ba [], false)
  | some (c, n, r) => (ba [c], ba n, ba r, true)) := by
 obtain ⟨k, rfl⟩ : ∃ k', k = k' + 1 := ⟨k - 1, by omega⟩
 unfold frisketref37_control.f
 rw [ba_ls]
 cases s with
 | nil => rw [if_pos rfl, frisketref37_control.j0, if_pos rfl]; rfl
 | cons c l =>
  have hb0 : bt (ba (c :: l)) 0 = (c.toNat : Int) := bt_ba (c :: l) 0 (by simp)
  have h1 : (ba (c :: l)).extract 0 1 = ba [c] := by rw [ba_ex]; rfl
  simp only [List.length_cons] at hk hs
  have go := r_c0 (c :: l) (by simp; omega) c h1 (by simp) l 1 k rfl (by simp) (by omega)
  rw [show ((1 : Nat) : Int) = 1 from rfl] at go
  rw [if_neg (by simp), if_pos (by rw [ba_sz]; simp), hb0, ctl]
  by_cases h46 : c = 46
  ·rw [if_pos (e46 h46), frisketref37_control.j0, if_neg (by simp), go, if_pos ((isC_iff c).2 (.inl h46))]
  ·rw [if_neg (n46 h46)]
   by_cases h39 : c = 39
   ·have e : ((c.toNat : Int) != 39) = false := by subst h39; rfl
    rw [e, frisketref37_control.j0, if_neg (by simp), go, if_pos ((isC_iff c).2 (.inr h39))]
   ·have e : ((c.toNat : Int) != 39) = true := by simpa using n39 h39
    rw [e, frisketref37_control.j0, if_pos rfl, if_neg (fun x => by rcases (isC_iff c).1 x with x | x; exact h46 x; exact h39 x)]

/-! ### A sign alone, or with blanks behind it -/
def op (s sign : List UInt8) : Bool := decide (s.take sign.length = sign) && (match s.drop sign.length with
 | [] => true
 | c :: _ => blk c)
theorem len1 (e : List UInt8) (h : e.length < 4294967281) : wrap64 (((ba e).size : Int) + 1) = (((46 :: e).length : Nat) : Int) := by rw [ba_sz, wrap_small _ (by omega)]; rfl
theorem r_begins (s e : List UInt8) (hs : s.length < 4294967281) (he : e.length < 4294967281) : frisketref37_begins.f (ba s) (ba e) = some (op s (46 :: e)) := by
 unfold frisketref37_begins.f op
 rw [len1 e he, ba_sz s]
 by_cases hl : (46 :: e).length ≤ s.length
 ·have hm : (⟨#[46]⟩ : ByteArray) ++ ba e = ba (46 :: e) := ba_app [46] e
  rw [if_pos (by omega), if_pos (by omega), if_pos (by omega), if_pos (by rw [ba_sz]; omega), hm, ba_ls, ba_ex, ba_ls, Int.toNat_natCast, List.drop_zero, Nat.sub_zero]
  by_cases c : s.take (46 :: e).length = 46 :: e
  ·rw [if_pos c, decide_eq_true c, Bool.true_and]
   cases hd : s.drop (46 :: e).length with
   | nil =>
    have := dropE0 hd hl
    rw [if_pos (by omega)]
   | cons b t =>
    obtain ⟨d1, d2, d3, d4, d5⟩ := dropC hd
    rw [if_neg (by omega), if_pos (by omega), d4, r_blank37]; rfl
  ·rw [if_neg c, decide_eq_false c]; rfl
 ·rw [if_neg (by omega), decide_eq_false (fun e => by have := congrArg List.length e; rw [List.length_take] at this; omega)]; rfl
def nds (s e : List UInt8) : Bool := if e = [46] then decide (s = [46, 46]) else decide (s = [46, 46]) || op s (46 :: e)
theorem r_ends (s e : List UInt8) (hs : s.length < 4294967281) (he : e.length < 4294967281) : frisketref37_ends.f (ba s) (ba e) = some (nds s e) := by
 unfold frisketref37_ends.f nds
 rw [ba_ls, ba_ls]
 by_cases c : e = [46]
 ·rw [if_pos c, if_pos c]
  by_cases d : s = [46, 46] <;> simp [d]
 ·rw [if_neg c, if_neg c]
  by_cases d : s = [46, 46]
  ·rw [if_pos d]; simp [d]
  ·rw [if_neg d, r_begins s e hs he]; simp [d]
theorem p_opens (s sign : List UInt8) (hs : s.length < 4294967281) (hl : sign.length < 4294967281) : tidy_opens.f (ba s) (ba sign) = some (op s sign) := by
 have hcp : strings_CutPrefix.f (ba s) (ba sign) = some (if s.take sign.length = sign then (ba (s.drop sign.length), true) else (ba s, false)) := by
  unfold strings_CutPrefix.f stringslite_CutPrefix.f stringslite_HasPrefix.f
  rw [ba_sz, ba_sz]
  by_cases h : sign.length ≤ s.length
  ·rw [if_pos (by omega), if_pos (by omega), if_pos (by omega), ba_ex, ba_ls, ba_ls, Int.toNat_natCast, List.drop_zero, Nat.sub_zero]
   simp only [Option.bind_some]
   by_cases c : s.take sign.length = sign
   ·rw [if_pos c, if_pos (by simpa using c), if_pos (by omega), if_pos (by omega), ba_ex]
    simp
    exact List.take_of_length_le (by simp)
   ·rw [if_neg c, if_neg (by simpa using c)]; rfl
  ·rw [if_neg (by omega)]
   simp only [Option.bind_some, Bool.false_eq_true, if_false]
   rw [if_neg (fun e => by have := congrArg List.length e; rw [List.length_take] at this; omega)]
 unfold tidy_opens.f op
 rw [hcp]
 simp only [Option.bind_some]
 by_cases c : s.take sign.length = sign
 ·rw [if_pos c, if_pos rfl, decide_eq_true c, Bool.true_and, ba_ls]
  cases hd : s.drop sign.length with
  | nil => rw [if_pos rfl]
  | cons b t =>
   have hb0 : bt (ba (b :: t)) 0 = (b.toNat : Int) := bt_ba (b :: t) 0 (by simp)
   rw [if_neg (by simp), if_pos (by rw [ba_sz]; simp), hb0]
   unfold strings_IndexByte.f
   simp only [Option.bind_some, back8]
   congr 1
   rw [← blk_has b, Lib.contains_iff_indexByte]
 ·rw [if_neg c, decide_eq_false c]; rfl

/-! ### joins, by the reference -/
theorem r_joins0 (s : List UInt8) (hs : s.length < 4294967281) : ∀ (r : List UInt8) (i k : Nat), s.reverse.drop i = r → i ≤ s.length → r.length < k → frisketref37_joins.l0 k (ba s) (i : Int) = some (decide ((i + (r.takeWhile (· == 92)).length) % 2 = 1)) := by
 have fin : ∀ i : Nat, (some ((Int.tmod (i : Int) 2) == 1) : Option Bool) = some (decide (i % 2 = 1)) := by
  intro i
  have e : Int.tmod (i : Int) 2 = ((i % 2 : Nat) : Int) := rfl
  rw [e]
  congr 1
  by_cases c : i % 2 = 1
  ·rw [c]; rfl
  ·have : i % 2 = 0 := by omega
   rw [this]; rfl
 intro r
 induction r with
 | nil =>
  intro i k h hi hk
  obtain ⟨k, rfl⟩ : ∃ k', k = k' + 1 := ⟨k - 1, by omega⟩
  have := List.drop_eq_nil_iff.1 h
  simp at this
  rw [frisketref37_joins.l0, if_neg (by rw [ba_sz]; omega), fin, List.takeWhile_nil, List.length_nil, Nat.add_zero]
 | cons c r ih =>
  intro i k h hi hk
  obtain ⟨k, rfl⟩ : ∃ k', k = k' + 1 := ⟨k - 1, by omega⟩
  simp only [List.length_cons] at hk
  have hl := congrArg List.length h
  simp at hl
  have hlt : i < s.length := by omega
  have hlr : i < s.reverse.length := by simpa using hlt
  rw [List.drop_eq_getElem_cons hlr] at h
  injection h with hc hr
  have hp : s.length - 1 - i < s.length := by omega
  have hg : s[s.length - 1 - i] = c := by rw [← hc, List.getElem_reverse]
  have hw : wrap64 (wrap64 (((ba s).size : Int) - 1) - (i : Int)) = ((s.length - 1 - i : Nat) : Int) := by
   rw [ba_sz, wrapi ((s.length : Int) - 1) (by omega), wrapi _ (by omega)]; omega
  rw [frisketref37_joins.l0, if_pos (by rw [ba_sz]; omega), hw, if_pos (Int.natCast_nonneg _), if_pos (by rw [ba_sz]; exact Int.ofNat_lt.2 hp), bt_ba s _ hp, hg]
  clear hw
  by_cases c92 : c = 92
  ·rw [if_pos (e92 c92), wrap_small i (by omega), ih (i + 1) k hr (by omega) (by omega), List.takeWhile_cons, if_pos (by simpa using c92)]
   congr 2
   simp
   omega
  ·rw [if_neg (n92 c92), fin, List.takeWhile_cons, if_neg (by simpa using c92), List.length_nil, Nat.add_zero]
theorem r_joins (s : List UInt8) (hs : s.length < 4294967281) (k : Nat) (hk : s.length < k) : frisketref37_joins.f k (ba s) = some (decide (tailN s % 2 = 1)) := by
 unfold frisketref37_joins.f
 have := r_joins0 s hs s.reverse 0 k rfl (by omega) (by simpa using hk)
 rw [show ((0 : Nat) : Int) = 0 from rfl] at this
 rw [this, Nat.zero_add]; rfl

/-! ### Lines that begin a definition -/
def defn (s : List UInt8) : Option (List UInt8) := match ctl s with
 | none => none
 | some (_, n, r) => if n = [100, 101] ∨ n = [97, 109] then (match words r with
   | [] => none
   | [_] => some [46]
   | _ :: x :: _ => some x)
  else if n = [105, 103] then (match words r with
   | [] => some [46]
   | x :: _ => some x)
  else none
def defB (s : List UInt8) : ByteArray × Bool := (ba ((defn s).getD []), (defn s).isSome)
theorem p_control (s : List UInt8) : tidy_control.f (ba s) = some (ctl s).isSome := by
 unfold tidy_control.f
 rw [ba_ls]
 cases s with
 | nil => rfl
 | cons c l =>
  have hb0 : bt (ba (c :: l)) 0 = (c.toNat : Int) := bt_ba (c :: l) 0 (by simp)
  rw [if_neg (by simp), if_pos (by rw [ba_sz]; simp), hb0, ctl]
  by_cases h46 : c = 46
  ·rw [if_pos (e46 h46), if_pos ((isC_iff c).2 (.inl h46))]; rfl
  ·rw [if_neg (n46 h46)]
   by_cases h39 : c = 39
   ·rw [if_pos ((isC_iff c).2 (.inr h39))]; subst h39; rfl
   ·rw [if_neg (fun x => by rcases (isC_iff c).1 x with x | x; exact h46 x; exact h39 x)]
    have e : ((c.toNat : Int) == 39) = false := beq_eq_false_iff_ne.2 (n39 h39)
    rw [e]; rfl
theorem any_take (b : List UInt8) : b.any blk = true → (b.takeWhile nb).length < b.length := by
 induction b with
 | nil => intro h; cases h
 | cons c b ih =>
  intro h
  rw [List.takeWhile_cons]
  cases hc : blk c with
  | true => simp [nb, hc]
  | false =>
   rw [List.any_cons, hc, Bool.false_or] at h
   have := ih h
   simp [nb, hc]; omega
theorem p_cut (b : List UInt8) (h : b.length < 4294967281) : request_cut.f (ba b) = some (ba (b.takeWhile nb), ba (b.dropWhile nb)) := by
 unfold request_cut.f
 rw [p_index b h]
 simp only [Option.bind_some]
 by_cases c : b.any blk = true
 ·have hl := any_take b c
  obtain ⟨x1, x2⟩ := cut_eq2 b
  rw [if_pos c, if_pos (by omega), if_pos (by omega), if_pos (by rw [ba_sz]; omega), ba_ex, ba_ex, Int.toNat_natCast, List.drop_zero, Nat.sub_zero, x1, ba_sz, x2]
  congr 3
  rw [← x2]
  exact List.take_of_length_le (by simp)
 ·obtain ⟨x1, x2⟩ := take_nb b (by simpa using c)
  rw [if_neg c, if_neg (by decide), x1, x2]
theorem idx_no {l : List UInt8} {c : UInt8} (h : l.contains c = false) : ¬ (0 : Int) ≤ Lib.indexByte l c := by
 have := Lib.contains_iff_indexByte l c
 rw [h] at this
 exact of_decide_eq_false this.symm
theorem idx_yes {l : List UInt8} {c : UInt8} (h : l.contains c = true) : (0 : Int) ≤ Lib.indexByte l c := by
 have := Lib.contains_iff_indexByte l c
 rw [h] at this
 exact of_decide_eq_true this.symm
theorem p_has10 (s : List UInt8) : strings_Contains.f (ba s) (⟨#[10]⟩ : ByteArray) = some (!noNL s) := by
 show some (decide (0 ≤ Lib.indexByte s 10)) = _
 congr 1
 unfold noNL
 rw [Bool.not_not]
 exact (Lib.contains_iff_indexByte s 10).symm
theorem p_begins (s : List UInt8) (h2 : s.length ≤ 2000) (h10 : noNL s = true) (k : Nat) (hk : 5000 ≤ k) : tidy_begins.f k (ba s) = some (defB s) := by
 unfold tidy_begins.f
 rw [p_control]
 simp only [Option.bind_some]
 cases hc : ctl s with
 | none => simp [defB, defn, hc]
 | some p =>
  obtain ⟨c, n, r⟩ := p
  obtain ⟨l, rfl, hC, rfl, rfl⟩ := ctl_some hc
  simp only [Option.isSome_some, if_true]
  have hsp : ∃ x q, request_Split.f k (ba (c :: l)) 46 39 = some (ba ((l.dropWhile blk).takeWhile nb), (words ((l.dropWhile blk).dropWhile nb)).map ba, x, q, true, 0) := by
   unfold request_Split.f request_fits.f
   simp only [List.length_cons] at h2
   rw [if_pos (by rw [ba_sz]; simp; omega), p_has10, h10]
   have hq1 : request_controls.f 46 = some true := rfl
   have hq2 : request_controls.f 39 = some true := rfl
   simp only [Option.bind_some, Bool.not_true, Bool.not_false, if_true, hq1, hq2]
   obtain ⟨k, rfl⟩ : ∃ k', k = k' + 2 := ⟨k - 2, by omega⟩
   have hb0 : bt (ba (c :: l)) 0 = (c.toNat : Int) := bt_ba (c :: l) 0 (by simp)
   have hj : request_Split.j0 (k + 2) (ba (c :: l)) 46 39 ((46 : Int) == 39) = request_Split.j1 (k + 1) (ba (c :: l)) 39 false := by
    rw [request_Split.j0, if_neg (by decide), if_neg (by rw [ba_ls]; simp), if_pos (by rw [ba_sz]; simp), hb0]
    rcases (isC_iff c).1 hC with rfl | rfl
    ·rfl
    ·rfl
   rw [hj, request_Split.j1, if_neg (by simp), if_pos (by rw [ba_sz]; simp), if_pos (by rw [ba_sz]; simp; omega)]
   have hx : (ba (c :: l)).extract 1 (ba (c :: l)).size = ba l := by
    rw [ba_ex, ba_sz]; simp
   have hdl := drop_len l
   rw [hx, p_trimL]
   simp only [Option.bind_some]
   rw [p_cut _ (by omega)]
   simp only [Option.bind_some]
   have hr : ((l.dropWhile blk).dropWhile nb).length ≤ (l.dropWhile blk).length := (List.dropWhile_sublist _).length_le
   cases hd : (l.dropWhile blk).dropWhile nb with
   | nil =>
    rw [if_pos (ba_ls []), p_words [] k (by simp; omega) (by simp)]
    exact ⟨_, _, rfl⟩
   | cons b t =>
    have hb : blk b = true := by
     have := List.head_dropWhile_not (p := nb) (l := l.dropWhile blk) (by simp [hd])
     simp only [hd, List.head_cons] at this
     simpa [nb] using this
    rw [hd] at hr
    simp only [List.length_cons] at hr
    have hx2 : (ba (b :: t)).extract 1 (ba (b :: t)).size = ba t := by
     rw [ba_ex, ba_sz]; simp
    rw [if_neg (by rw [ba_ls]; simp), if_pos (by rw [ba_sz]; simp; omega), hx2, p_words t k (by omega) (by omega), words_blank b t hb]
    exact ⟨_, _, rfl⟩
  obtain ⟨x, q, hsp⟩ := hsp
  rw [hsp]
  simp only [Option.bind_some]
  obtain ⟨k, rfl⟩ : ∃ k', k = k' + 1 := ⟨k - 1, by omega⟩
  have hdf : defn (c :: l) = (if (l.dropWhile blk).takeWhile nb = [100, 101] ∨ (l.dropWhile blk).takeWhile nb = [97, 109] then (match words ((l.dropWhile blk).dropWhile nb) with
   | [] => none
   | [_] => some [46]
   | _ :: x :: _ => some x)
  else if (l.dropWhile blk).takeWhile nb = [105, 103] then (match words ((l.dropWhile blk).dropWhile nb) with
   | [] => some [46]
   | x :: _ => some x)
  else none) := by
   unfold defn
   rw [hc]
  unfold defB
  rw [hdf, ba_ls]
  clear hdf hsp hc
  generalize (l.dropWhile blk).takeWhile nb = n
  generalize words ((l.dropWhile blk).dropWhile nb) = W
  by_cases c1 : n = [100, 101]
  ·rw [if_pos c1, if_pos (.inl c1), c1, tidy_begins.j0, if_pos (by decide)]
   match W with
   | [] => rfl
   | [a] => rfl
   | a :: b :: W => rw [if_neg (by simp; omega), if_pos (by simp; omega), if_pos (by decide), if_pos (by simp; omega)]; rfl
  ·rw [if_neg c1]
   by_cases c2 : n = [97, 109]
   ·rw [if_pos (.inr c2), c2, tidy_begins.j0, if_pos (by decide)]
    match W with
    | [] => rfl
    | [a] => rfl
    | a :: b :: W => rw [if_neg (by simp; omega), if_pos (by simp; omega), if_pos (by decide), if_pos (by simp; omega)]; rfl
   ·rw [if_neg (by simp [c1, c2]), tidy_begins.j0, if_neg (by simpa using c2), ba_ls]
    by_cases c3 : n = [105, 103]
    ·rw [if_pos c3, if_pos c3]
     match W with
     | [] => rfl
     | a :: W => rw [if_pos (by simp), if_pos (by simp)]; rfl
    ·rw [if_neg c3, if_neg c3]; rfl
theorem r_definition (s : List UInt8) (h2 : s.length ≤ 2000) (k : Nat) (hk : 10000 ≤ k) : frisketref37_definition.f k (ba s) = some (defB s) := by
 unfold frisketref37_definition.f
 rw [r_control s (by omega) k (by omega)]
 simp only [Option.bind_some]
 cases hc : ctl s with
 | none => simp [defB, defn, hc]
 | some p =>
  obtain ⟨c, n, r⟩ := p
  obtain ⟨hl, _, _, _⟩ := ctl_parts hc
  rw [if_pos rfl, r_words r k (by omega) (by omega)]
  simp only [Option.bind_some]
  unfold defB
  have hdf : defn s = (if n = [100, 101] ∨ n = [97, 109] then (match words r with
   | [] => none
   | [_] => some [46]
   | _ :: x :: _ => some x)
  else if n = [105, 103] then (match words r with
   | [] => some [46]
   | x :: _ => some x)
  else none) := by
   unfold defn
   rw [hc]
  rw [hdf, ba_ls]
  clear hdf hc hl
  generalize words r = W
  obtain ⟨k, rfl⟩ : ∃ k', k = k' + 1 := ⟨k - 1, by omega⟩
  by_cases c1 : n = [100, 101]
  ·rw [if_pos c1, if_pos (.inl c1), c1, frisketref37_definition.j0, if_pos (by decide)]
   match W with
   | [] => rfl
   | [a] => rfl
   | a :: b :: W => rw [if_neg (by simp; omega), if_pos (by simp; omega)]; rfl
  ·rw [if_neg c1]
   by_cases c2 : n = [97, 109]
   ·rw [if_pos (.inr c2), c2, frisketref37_definition.j0, if_pos (by decide)]
    match W with
    | [] => rfl
    | [a] => rfl
    | a :: b :: W => rw [if_neg (by simp; omega), if_pos (by simp; omega)]; rfl
   ·rw [if_neg (by simp [c1, c2]), frisketref37_definition.j0, if_neg (by simpa using c2), ba_ls]
    by_cases c3 : n = [105, 103]
    ·rw [if_pos c3, if_pos c3]
     match W with
     | [] => rfl
     | a :: W => rw [if_pos (by simp), if_pos (by decide)]; rfl
    ·rw [if_neg c3, if_neg c3]; rfl
end Go.Proofs.YtghlfhgmnhhmnaaGreatDoor.QTidy
