/-
  A text cut at its lines' ends: strings.Split and the reference's Cut give the same pieces. Conditions: texts shorter than 2^32 bytes, and enough rounds.
-/
import Derived.Test.YtjgalagflhmhdaaGreatDoorPipeLeft
import Derived.Lib.SplitLaws
import Derived.Lib.TrimByte
namespace Go.Proofs.YtjgalagflhmhdaaGreatDoor.QPipe
open Go.RowKit Go.Proofs.YtjgalagflhmhdaaGreatDoorW.PrintWords Go.Proofs.YtjgalagflhmhdaaGreatDoorW.PrintLast Go.Proofs.YtjgalagflhmhdaaGreatDoorW.PrintMore
set_option linter.unusedVariables false
set_option linter.unusedSimpArgs false
theorem ba_eta (t : ByteArray) : (⟨t.data.toList.toArray⟩ : ByteArray) = t := by cases t; simp

/-- A text cut at every line's end. -/
def pieces : List UInt8 → List (List UInt8)
  | [] => [[]]
  | b :: l => if b = 10 then [] :: pieces l else match pieces l with
    | [] => [[b]]
    | p :: r => (b :: p) :: r
theorem pieces_cons_eq (l : List UInt8) : pieces (10 :: l) = [] :: pieces l := by rw [pieces, if_pos rfl]
theorem pieces_ne : ∀ l : List UInt8, ∃ p r, pieces l = p :: r
  | [] => ⟨_, _, rfl⟩
  | b :: l => by
    obtain ⟨p, r, h⟩ := pieces_ne l
    by_cases c : b = 10
    · exact ⟨_, _, by rw [pieces, if_pos c]⟩
    · exact ⟨_, _, by rw [pieces, if_neg c, h]⟩
theorem pieces_cons_ne {b : UInt8} (c : b ≠ 10) {l : List UInt8} {p : List UInt8} {r : List (List UInt8)} (h : pieces l = p :: r) : pieces (b :: l) = (b :: p) :: r := by rw [pieces, if_neg c, h]

theorem split_pieces : ∀ s : List UInt8, Lib.splitK [10] 0 (Lib.count s [10]) s = pieces s
  | [] => by rw [Lib.count_miss (by simp [Lib.index])]; rfl
  | b :: l => by
    have ih := split_pieces l
    by_cases h : b = 10
    · subst h
      have hix : Lib.index (10 :: l) [10] = 0 := by rw [Lib.index]; simp [List.isPrefixOf]
      rw [Lib.count_cons_eq, Nat.add_comm, Lib.splitK, if_neg (by rw [hix]; decide), hix, pieces_cons_eq, ← ih]
      rfl
    · obtain ⟨p, r, hp⟩ := pieces_ne l
      have hpre : ([10] : List UInt8).isPrefixOf (b :: l) = false := by simp [List.isPrefixOf, Ne.symm h]
      have hix : Lib.index (b :: l) [10] = if Lib.index l [10] == -1 then -1 else Lib.index l [10] + 1 := by rw [Lib.index, hpre]; simp
      rw [Lib.count_cons_ne b 10 l h]
      rw [hp] at ih
      rw [pieces_cons_ne h hp]
      cases hk : Lib.count l [10] with
      | zero =>
        rw [hk] at ih
        simp only [Lib.splitK] at ih ⊢
        injection ih with e1 e2
        rw [← e1, ← e2]
      | succ k =>
        rw [hk] at ih
        rw [Lib.splitK] at ih ⊢
        by_cases hm : Lib.index l [10] = -1
        · rw [if_pos (beq_iff_eq.2 hm)] at ih
          rw [if_pos (by rw [hix, if_pos (beq_iff_eq.2 hm)]; rfl)]
          injection ih with e1 e2
          rw [← e1, ← e2]
        · have hge := Lib.index_ge l [10]
          obtain ⟨j, hj⟩ : ∃ j : Nat, Lib.index l [10] = j := ⟨(Lib.index l [10]).toNat, by omega⟩
          have hix' : Lib.index (b :: l) [10] = ((j + 1 : Nat) : Int) := by rw [hix, if_neg (fun e => hm (beq_iff_eq.1 e)), hj]; omega
          rw [if_neg (fun e => hm (beq_iff_eq.1 e)), hj] at ih
          rw [if_neg (by rw [hix']; simp; omega), hix']
          injection ih with e1 e2
          rw [← e1, ← e2]
          simp

theorem wrap_small (i : Nat) (h : i < 4611686018427387904) : wrap64 ((i : Int) + 1) = ((i + 1 : Nat) : Int) := by simp [wrap64, IntKind.wrap, IntKind.signed, IntKind.bits]; omega
theorem bt_get (s : ByteArray) (i : Nat) (h : i < s.size) : bt s (i : Int) = (s.data.toList[i]'(by rwa [← Lib.size_eq])).toNat := by
  have h1 := bt_at s (i : Int) (by simpa using h)
  rw [← h1]; simp; rfl
theorem ba_mk (s : ByteArray) : (⟨s.data.toList.toArray⟩ : ByteArray) = s := by obtain ⟨⟨l⟩⟩ := s; rfl

abbrev ba (l : List UInt8) : ByteArray := ⟨l.toArray⟩
theorem ba_sz (l : List UInt8) : (ba l).size = l.length := by simp [ba, ByteArray.size]
theorem ba_ls (l : List UInt8) : (ba l).toList = l := by rw [Lib.toList_data]
theorem ba_dt (l : List UInt8) : (ba l).data.toList = l := rfl
theorem ba_app (a b : List UInt8) : ba a ++ ba b = ba (a ++ b) := by
  apply ByteArray.ext
  apply Array.toList_inj.1
  rw [ByteArray.data_append, Array.toList_append]
theorem ba_ex (l : List UInt8) (a b : Nat) : (ba l).extract a b = ba ((l.drop a).take (b - a)) := Lib.extract_mk l a b
theorem ba_of (x : ByteArray) : ba x.data.toList = x := ba_eta x
theorem ba_inj {a b : List UInt8} (h : ba a = ba b) : a = b := by
  have := congrArg (fun x : ByteArray => x.data.toList) h
  exact this
theorem bt_ba (l : List UInt8) (i : Nat) (h : i < l.length) : bt (ba l) (i : Int) = (l[i].toNat : Int) := bt_get (ba l) i (by rw [ba_sz]; exact h)
theorem wrapm (i : Nat) (h : i < 4611686018427387904) : wrap64 ((i : Int) - 1) = (i : Int) - 1 := by simp [wrap64, IntKind.wrap, IntKind.signed, IntKind.bits]; omega
theorem wrapi (i : Int) (h : -9223372036854775808 ≤ i ∧ i < 9223372036854775808) : wrap64 i = i := by simp [wrap64, IntKind.wrap, IntKind.signed, IntKind.bits]; omega
theorem u8_eq (c : UInt8) (n : Nat) (h : n < 256) : ((c.toNat : Int) = (n : Int)) ↔ c = UInt8.ofNat n := by
  constructor
  · intro e
    apply UInt8.toNat_inj.1
    simp
    omega
  · intro e
    subst e
    simp
    omega
theorem back8 (c : UInt8) : ((c.toNat : Int)).toNat.toUInt8 = c := by simp

theorem e10 {c : UInt8} (h : c = 10) : (c.toNat : Int) = 10 := by subst h; rfl
theorem n10 {c : UInt8} (h : ¬ c = 10) : ¬ (c.toNat : Int) = 10 := fun e => h ((u8_eq c 10 (by decide)).1 e)
theorem dropC {s r : List UInt8} {c : UInt8} {p : Nat} (h : s.drop p = c :: r) : p < s.length ∧ s.drop (p + 1) = r ∧ p + 1 + r.length = s.length ∧ bt (ba s) (p : Int) = (c.toNat : Int) ∧ (ba s).extract p (p + 1) = ba [c] := by
  have hp : p < s.length := by
    apply Classical.byContradiction
    intro e
    rw [List.drop_of_length_le (by omega)] at h
    cases h
  rw [List.drop_eq_getElem_cons hp] at h
  injection h with h1 h2
  have hl := congrArg List.length h2
  rw [List.length_drop] at hl
  refine ⟨hp, h2, by omega, by rw [bt_ba s p hp, h1], ?_⟩
  rw [ba_ex, List.drop_eq_getElem_cons hp, h1]
  simp
theorem dropE0 {s : List UInt8} {p : Nat} (h : s.drop p = []) (hp : p ≤ s.length) : p = s.length := by
  have := List.drop_eq_nil_iff.1 h
  omega
theorem rd_map (W : List (List UInt8)) (i : Nat) (h : i < W.length) : rdOf ByteArray.empty (W.map ba) (i : Int) = ba W[i] := by simp [rdOf, h]

/-- strings.Split at a line's end. -/
theorem p_split (s : List UInt8) (h : s.length < 4294967281) : strings_Split.f (ba s) (⟨#[10]⟩ : ByteArray) = some ((pieces s).map ba) := by
  unfold strings_Split.f
  rw [if_pos ⟨by rw [ba_sz]; exact h, by decide⟩]
  congr 1
  have e : (Lib.splitB (⟨#[10]⟩ : ByteArray) 0 (Lib.countB (ba s) ⟨#[10]⟩) (ba s)).map (·.data.toList) = pieces s := by
    rw [Lib.splitB_data, ← split_pieces]
  rw [← e, List.map_map]
  exact ((List.map_congr_left (fun x _ => (ba_of x).symm)).trans rfl |>.symm.trans (List.map_id _)).symm

/-- The pieces, with a part of the first one read. -/
def piecesA (cur l : List UInt8) : List (List UInt8) := match pieces l with
  | [] => [cur]
  | p :: r => (cur ++ p) :: r
theorem r_cut0 (s : List UInt8) (hs : s.length < 4294967281) : ∀ (r : List UInt8) (fr p k : Nat) (done : List ByteArray), s.drop p = r → p ≤ s.length → r.length < k → fr ≤ p → done.length ≤ p →
    frisketref07_Cut.l0 k (ba s) 10 done (fr : Int) (p : Int) = some (done ++ (piecesA ((s.drop fr).take (p - fr)) r).map ba) := by
  intro r
  induction r with
  | nil =>
    intro fr p k done h hp hk hf hd
    obtain ⟨k, rfl⟩ : ∃ k', k = k' + 1 := ⟨k - 1, by omega⟩
    obtain rfl := dropE0 h hp
    rw [frisketref07_Cut.l0, if_neg (by rw [ba_sz]; omega), if_pos (by omega), if_pos (by rw [ba_sz]; omega), if_pos (by omega), Int.toNat_natCast, ba_ex, ba_sz]
    simp [piecesA, pieces]
  | cons c r ih =>
    intro fr p k done h hp hk hf hd
    obtain ⟨k, rfl⟩ : ∃ k', k = k' + 1 := ⟨k - 1, by omega⟩
    obtain ⟨h1, h2, h3, h4, h5⟩ := dropC h
    simp only [List.length_cons] at hk
    rw [frisketref07_Cut.l0, if_pos (by rw [ba_sz]; omega), if_pos (by omega), h4]
    by_cases c10 : c = 10
    · rw [if_pos (e10 c10), if_pos (by omega), if_pos (by omega), if_pos (by rw [ba_sz]; omega), if_pos (by omega), wrap_small p (by omega), Int.toNat_natCast, Int.toNat_natCast, ba_ex, ih (p + 1) (p + 1) k _ h2 (by omega) (by omega) (by omega) (by simp; omega)]
      subst c10
      obtain ⟨q, t, hq⟩ := pieces_ne r
      simp [piecesA, pieces_cons_eq, hq]
    · rw [if_neg (n10 c10), wrap_small p (by omega), ih fr (p + 1) k _ h2 (by omega) (by omega) (by omega) (by omega)]
      obtain ⟨q, t, hq⟩ := pieces_ne r
      have ht : (s.drop fr).take (p + 1 - fr) = (s.drop fr).take (p - fr) ++ [c] := by
        have hl : p - fr < (s.drop fr).length := by simp; omega
        rw [show p + 1 - fr = (p - fr) + 1 by omega, List.take_succ_eq_append_getElem hl]
        congr 2
        have hg : (s.drop fr)[p - fr] = s[p] := by simp [show fr + (p - fr) = p by omega]
        rw [hg]
        rw [List.drop_eq_getElem_cons h1] at h
        injection h
      simp [piecesA, pieces_cons_ne c10 hq, hq, ht]
theorem r_cut (s : List UInt8) (hs : s.length < 4294967281) (k : Nat) (hk : s.length < k) : frisketref07_Cut.f k (ba s) 10 = some ((pieces s).map ba) := by
  unfold frisketref07_Cut.f
  have := r_cut0 s hs s 0 0 k [] rfl (by omega) hk (by omega) (by simp)
  rw [show ((0 : Nat) : Int) = 0 from rfl] at this
  rw [this]
  obtain ⟨q, t, hq⟩ := pieces_ne s
  simp [piecesA, hq]
theorem pieces_len (s : List UInt8) : (pieces s).length ≤ s.length + 1 := by
  induction s with
  | nil => simp [pieces]
  | cons b l ih =>
    obtain ⟨q, t, hq⟩ := pieces_ne l
    by_cases c : b = 10
    · subst c; rw [pieces_cons_eq]; simp; omega
    · rw [pieces_cons_ne c hq]; rw [hq] at ih; simp at ih ⊢; omega
end Go.Proofs.YtjgalagflhmhdaaGreatDoor.QPipe
