/-
 The lines of a text as a list of lists of bytes: 'pieces'; it is what strings.Split hands back.
-/
import Derived.Test.YtghlfhgmnhhmnaaGreatDoorLines
import Derived.Lib.SplitLaws
import Derived.Lib.Join
namespace Go.Proofs.YtghlfhgmnhhmnaaGreatDoor.QTidy
open Go.RowKit

/-- A text cut at every line's end. -/
def pieces : List UInt8 → List (List UInt8)
 | [] => [[]]
 | b :: l => if b = 10 then [] :: pieces l else match pieces l with
  | [] => [[b]]
  | p :: r => (b :: p) :: r
theorem pieces_cons_eq (l : List UInt8) : pieces (10 :: l) = [] :: pieces l := by rw [pieces, if_pos rfl]
theorem pieces_ne : ∀ l : List UInt8, ∃ p r, pieces l = p :: r
 | [] => ⟨_, _, rfl⟩
 | b :: l => by
  obtain ⟨p, r, h⟩ := pieces_ne l
  by_cases c : b = 10
  ·exact ⟨_, _, by rw [pieces, if_pos c]⟩
  ·exact ⟨_, _, by rw [pieces, if_neg c, h]⟩
theorem pieces_cons_ne {b : UInt8} (c : b ≠ 10) {l : List UInt8} {p : List UInt8} {r : List (List UInt8)} (h : pieces l = p :: r) : pieces (b :: l) = (b :: p) :: r := by rw [pieces, if_neg c, h]

theorem split_pieces : ∀ s : List UInt8, Lib.splitK [10] 0 (Lib.count s [10]) s = pieces s
 | [] => by rw [Lib.count_miss (by simp [Lib.index])]; rfl
 | b :: l => by
  have ih := split_pieces l
  by_cases h : b = 10
  ·subst h
   have hix : Lib.index (10 :: l) [10] = 0 := by rw [Lib.index]; simp [List.isPrefixOf]
   rw [Lib.count_cons_eq, Nat.add_comm, Lib.splitK, if_neg (by rw [hix]; decide), hix, pieces_cons_eq, ← ih]
   rfl
  ·obtain ⟨p, r, hp⟩ := pieces_ne l
   have hpre : ([10] : List UInt8).isPrefixOf (b :: l) = false := by simp [List.isPrefixOf, Ne.symm h]
   have hix : Lib.index (b :: l) [10] = if Lib.index l [10] == -1 then -1 else Lib.index l [10] + 1 := by rw [Lib.index, hpre]; simp
   rw [Lib.count_cons_ne b 10 l h]
   rw [hp] at ih
   rw [pieces_cons_ne h hp]
   cases hk : Lib.count l [10] with
   | zero =>
    rw [hk] at ih
    simp only [Lib.splitK] at ih ⊢
    injection ih with e1 e2
    rw [← e1, ← e2]
   | succ k =>
    rw [hk] at ih
    rw [Lib.splitK] at ih ⊢
    by_cases hm : Lib.index l [10] = -1
    ·rw [if_pos (beq_iff_eq.2 hm)] at ih
     rw [if_pos (by rw [hix, if_pos (beq_iff_eq.2 hm)]; rfl)]
     injection ih with e1 e2
     rw [← e1, ← e2]
    ·have hge := Lib.index_ge l [10]
     obtain ⟨j, hj⟩ : ∃ j : Nat, Lib.index l [10] = j := ⟨(Lib.index l [10]).toNat, by omega⟩
     have hix' : Lib.index (b :: l) [10] = ((j + 1 : Nat) : Int) := by rw [hix, if_neg (fun e => hm (beq_iff_eq.1 e)), hj]; omega
     rw [if_neg (fun e => hm (beq_iff_eq.1 e)), hj] at ih
     rw [if_neg (by rw [hix']; simp; omega), hix']
     injection ih with e1 e2
     rw [← e1, ← e2]
     simp

theorem cut_pieces (s : ByteArray) : (cutLines s).map (·.data.toList) = pieces (Lib.trimSuffix s.data.toList [10]) := by
 unfold cutLines
 rw [Lib.splitB_data, ← split_pieces]
theorem cut_eq (s : ByteArray) : cutLines s = (pieces (Lib.trimSuffix s.data.toList [10])).map fun l => ⟨l.toArray⟩ := by
 rw [← cut_pieces, List.map_map]
 exact ((List.map_congr_left (fun x _ => by obtain ⟨⟨l⟩⟩ := x; rfl)).trans (List.map_id _)).symm

/-- Lines put together: each with its end. -/
def flat (L : List (List UInt8)) : List UInt8 := L.flatMap (· ++ [10])
theorem flat_nil : flat [] = [] := rfl
theorem flat_cons (x : List UInt8) (L : List (List UInt8)) : flat (x :: L) = x ++ (10 :: flat L) := by simp [flat]
theorem flat_append (L M : List (List UInt8)) : flat (L ++ M) = flat L ++ flat M := by simp [flat]
theorem join_flat (x : List UInt8) (L : List (List UInt8)) : Lib.join (x :: L) [10] ++ [10] = flat (x :: L) := by
 rw [Lib.join_cons]
 induction L generalizing x with
 | nil => simp [Lib.joinTail, flat]
 | cons y L ih =>
  have := ih y
  rw [flat_cons] at this ⊢
  rw [flat_cons, ← this]
  simp [Lib.joinTail]
theorem pieces_app : ∀ (x : List UInt8) (t : List UInt8), 10 ∉ x → pieces (x ++ 10 :: t) = x :: pieces t
 | [], t, _ => pieces_cons_eq t
 | b :: x, t, h => by
  have hb : b ≠ 10 := fun e => h (by simp [e])
  exact pieces_cons_ne hb (pieces_app x t (fun e => h (by simp [e])))
theorem pieces_one : ∀ (x : List UInt8), 10 ∉ x → pieces x = [x]
 | [], _ => rfl
 | b :: x, h => by
  have hb : b ≠ 10 := fun e => h (by simp [e])
  exact pieces_cons_ne hb (pieces_one x (fun e => h (by simp [e])))
theorem pieces_join (x : List UInt8) (L : List (List UInt8)) (hx : 10 ∉ x) (hL : ∀ y ∈ L, 10 ∉ y) : pieces (Lib.join (x :: L) [10]) = x :: L := by
 rw [Lib.join_cons]
 induction L generalizing x with
 | nil => simp [Lib.joinTail, pieces_one x hx]
 | cons y L ih =>
  have h1 : Lib.joinTail [10] (y :: L) = 10 :: (y ++ Lib.joinTail [10] L) := by simp [Lib.joinTail]
  rw [h1, pieces_app x _ hx, ih y (hL y (by simp)) (fun z hz => hL z (by simp [hz]))]
theorem trim_end (l : List UInt8) : Lib.trimSuffix (l ++ [10]) [10] = l := by
 have h : Lib.hasSuffix (l ++ [10]) [10] = true := by simp [Lib.hasSuffix]
 rw [Lib.trimSuffix, if_pos h]; simp
/-- Lines that were put together are cut again. -/
theorem cut_flat (x : List UInt8) (L : List (List UInt8)) (hx : 10 ∉ x) (hL : ∀ y ∈ L, 10 ∉ y) (s : ByteArray) (hs : s.data.toList = flat (x :: L)) : cutLines s = (x :: L).map fun l => ⟨l.toArray⟩ := by
 rw [cut_eq, hs, ← join_flat, trim_end, pieces_join x L hx hL]
end Go.Proofs.YtghlfhgmnhhmnaaGreatDoor.QTidy
