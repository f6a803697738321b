/-
  Texts made of numbers: 'Text' of the statements 23 and 29 gives some text, not too long. No condition but enough rounds.
-/
import Derived.Test.YtjgalagflhmhdaaGreatDoorPipeLines
import Derived.Test.YtjgalagflhmhdaaGreatDoorQPipex5
namespace Go.Proofs.YtjgalagflhmhdaaGreatDoor.QPipe
open Go.RowKit Go.Proofs.YtjgalagflhmhdaaGreatDoorW.PrintWords Go.Proofs.YtjgalagflhmhdaaGreatDoorW.PrintLast Go.Proofs.YtjgalagflhmhdaaGreatDoorW.PrintMore
set_option linter.unusedVariables false
set_option linter.unusedSimpArgs false

theorem u64_nn (x : Int) : 0 ≤ IntKind.u64.wrap x := by simp [IntKind.wrap, IntKind.signed, IntKind.bits]; omega
theorem tm_rng (x : Int) (n : Nat) (hn : 0 < n) : 0 ≤ Int.tmod (IntKind.u64.wrap x) (n : Int) ∧ Int.tmod (IntKind.u64.wrap x) (n : Int) < (n : Int) := by
  rw [Int.tmod_eq_emod_of_nonneg (u64_nn x)]
  exact ⟨Int.emod_nonneg _ (by omega), Int.emod_lt_of_pos _ (by omega)⟩
theorem pickS (L : List ByteArray) (P : Int) (h0 : 0 ≤ P) (h1 : P < (L.length : Int)) (hs : ∀ x ∈ L, x.size ≤ 100) : (rdOf ByteArray.empty L P).size ≤ 100 := by
  have hl : P.toNat < L.length := by omega
  unfold rdOf
  rw [List.getD_eq_getElem?_getD, List.getElem?_eq_getElem hl]
  exact hs _ (List.getElem_mem hl)
def Small (o : Option ByteArray) (m : Nat) : Prop := ∃ t, o = some t ∧ t.size ≤ m
theorem pick_two (m : Nat) (L : List ByteArray) (n : Nat) (P : Int) (h0 : 0 ≤ P) (hn : P < (n : Int)) (hL : L.length = n) (hs : ∀ x ∈ L, x.size ≤ 100) (pre post s : ByteArray) (a b : Nat) (ha : pre.size = a) (hb : post.size = b) (ha2 : a ≤ 100) (hb2 : b ≤ 100) (hsz : s.size ≤ 1000000) (F : ByteArray → Option ByteArray) (hF : ∀ x : ByteArray, x.size ≤ 5000 → Small (F x) m) :
    Small ((some L : Option (List ByteArray)).bind fun y => (if 0 ≤ P then (if P < (y.length : Int) then (if a + (rdOf ByteArray.empty y P).size ≤ 9223372036854775807 then (if (pre ++ (rdOf ByteArray.empty y P)).size + b ≤ 9223372036854775807 then (if s.size + ((pre ++ (rdOf ByteArray.empty y P)) ++ post).size ≤ 9223372036854775807 then F ((pre ++ (rdOf ByteArray.empty y P)) ++ post) else (none)) else (none)) else (none)) else (none)) else (none))) m := by
  have h1 : P < (L.length : Int) := by rw [hL]; exact hn
  have hp := pickS L P h0 h1 hs
  simp only [Option.bind_some]
  rw [if_pos h0, if_pos h1, if_pos (by omega), if_pos (by rw [ByteArray.size_append]; omega), if_pos (by rw [ByteArray.size_append, ByteArray.size_append]; omega)]
  exact hF _ (by rw [ByteArray.size_append, ByteArray.size_append]; omega)
theorem pick_one (m : Nat) (L : List ByteArray) (n : Nat) (P : Int) (h0 : 0 ≤ P) (hn : P < (n : Int)) (hL : L.length = n) (hs : ∀ x ∈ L, x.size ≤ 100) (post s : ByteArray) (hb : post.size = 1) (hsz : s.size ≤ 1000000) (F : ByteArray → Option ByteArray) (hF : ∀ x : ByteArray, x.size ≤ 5000 → Small (F x) m) :
    Small ((some L : Option (List ByteArray)).bind fun y => (if 0 ≤ P then (if P < (y.length : Int) then (if (rdOf ByteArray.empty y P).size + 1 ≤ 9223372036854775807 then (if s.size + ((rdOf ByteArray.empty y P) ++ post).size ≤ 9223372036854775807 then F ((rdOf ByteArray.empty y P) ++ post) else (none)) else (none)) else (none)) else (none))) m := by
  have h1 : P < (L.length : Int) := by rw [hL]; exact hn
  have hp := pickS L P h0 h1 hs
  simp only [Option.bind_some]
  rw [if_pos h0, if_pos h1, if_pos (by omega), if_pos (by rw [ByteArray.size_append]; omega)]
  exact hF _ (by rw [ByteArray.size_append]; omega)

def bits23 : List ByteArray := (frisketlaw23_bits.f).getD []
theorem bits23_some : frisketlaw23_bits.f = some bits23 := rfl
theorem bits23_len : bits23.length = 54 := rfl
theorem bits23_size : ∀ x ∈ bits23, x.size ≤ 100 := by decide +kernel
theorem text23_loop (l : List Int) (hl : l.length ≤ 3) : ∀ (d i k : Nat) (s : ByteArray), i + d = l.length → 2 * d + 2 ≤ k → s.size ≤ 5000 * i → Small (frisketlaw23_Text.l0 k l bits23 s (i : Int)) 15000 := by
  intro d
  induction d with
  | zero =>
    intro i k s hi hk hs
    obtain ⟨k, rfl⟩ : ∃ k', k = k' + 2 := ⟨k - 2, by omega⟩
    refine ⟨s, ?_, by omega⟩
    rw [frisketlaw23_Text.l0, if_neg (by omega), frisketlaw23_Text.j1, if_neg (by simp)]
  | succ d ih =>
    intro i k s hi hk hs
    obtain ⟨k, rfl⟩ : ∃ k', k = k' + 2 := ⟨k - 2, by omega⟩
    have step : ∀ x : ByteArray, x.size ≤ 5000 → Small (frisketlaw23_Text.l0 k l bits23 (s ++ x) (wrap64 ((i : Int) + 1))) 15000 := by
      intro x hx
      rw [wrap_small i (by omega)]
      exact ih (i + 1) k _ (by omega) (by omega) (by rw [ByteArray.size_append]; omega)
    rw [frisketlaw23_Text.l0, if_pos (by omega), decide_eq_true (by omega), frisketlaw23_Text.j1, if_pos rfl, if_pos (by omega), if_pos (by omega)]
    by_cases c : Int.tmod (IntKind.u64.wrap (rd l (i : Int))) 3 > 0
    · rw [if_pos c]
      obtain ⟨p0, p1⟩ := tm_rng (Int.tdiv (IntKind.u64.wrap (rd l (i : Int))) 3) 17 (by decide)
      refine pick_one 15000 _ 17 _ p0 p1 ?_ ?_ _ s ?_ (by omega) (fun x => frisketlaw23_Text.l0 k l bits23 (s ++ x) (wrap64 ((i : Int) + 1))) step
      · rfl
      · decide +kernel
      · rfl
    · obtain ⟨p0, p1⟩ := tm_rng (Int.tdiv (IntKind.u64.wrap (rd l (i : Int))) 3) 54 (by decide)
      have hw : IntKind.u64.wrap ((bits23.length : Int)) = ((54 : Nat) : Int) := by rw [bits23_len]; decide
      have hp := pickS bits23 _ p0 (by rw [bits23_len]; exact p1) bits23_size
      rw [if_neg c, hw, if_neg (by decide), if_pos p0, if_pos (by rw [bits23_len]; exact p1), if_pos (by omega), if_pos (by rw [ByteArray.size_append]; have : (⟨#[32]⟩ : ByteArray).size = 1 := rfl; omega)]
      exact step _ (by rw [ByteArray.size_append]; have : (⟨#[32]⟩ : ByteArray).size = 1 := rfl; omega)
theorem text23 (l : List Int) (hl : l.length ≤ 3) (k : Nat) (hk : 20 ≤ k) : Small (frisketlaw23_Text.f k l) 15000 := by
  unfold frisketlaw23_Text.f
  rw [bits23_some]
  simp only [Option.bind_some]
  have := text23_loop l hl l.length 0 k ⟨#[]⟩ (by omega) (by omega) (by simp [ByteArray.size])
  exact this

theorem text29_loop (l : List Int) : ∀ (d i k : Nat) (s : ByteArray), i + d = min l.length 14 → 2 * d + 30 ≤ k → s.size ≤ 16000 * i → Small (frisketlaw29_Text.l0 k l s (i : Int)) 224000 := by
  intro d
  induction d with
  | zero =>
    intro i k s hi hk hs
    obtain ⟨k, rfl⟩ : ∃ k', k = k' + 2 := ⟨k - 2, by omega⟩
    refine ⟨s, ?_, by omega⟩
    rw [frisketlaw29_Text.l0]
    by_cases c : (i : Int) < (l.length : Int)
    · rw [if_pos c, decide_eq_false (by omega), frisketlaw29_Text.j1, if_neg (by simp)]
    · rw [if_neg c, frisketlaw29_Text.j1, if_neg (by simp)]
  | succ d ih =>
    intro i k s hi hk hs
    obtain ⟨k, rfl⟩ : ∃ k', k = k' + 2 := ⟨k - 2, by omega⟩
    have step0 : ∀ x : ByteArray, x.size ≤ 16000 → Small (frisketlaw29_Text.l0 k l (s ++ x) (wrap64 ((i : Int) + 1))) 224000 := by
      intro x hx
      rw [wrap_small i (by omega)]
      exact ih (i + 1) k _ (by omega) (by omega) (by rw [ByteArray.size_append]; omega)
    have step : ∀ x : ByteArray, x.size ≤ 5000 → Small (frisketlaw29_Text.l0 k l (s ++ x) (wrap64 ((i : Int) + 1))) 224000 := fun x hx => step0 x (by omega)
    have none_ : Small (frisketlaw29_Text.l0 k l s (wrap64 ((i : Int) + 1))) 224000 := by
      rw [wrap_small i (by omega)]
      exact ih (i + 1) k s (by omega) (by omega) (by omega)
    rw [frisketlaw29_Text.l0, if_pos (by omega), decide_eq_true (by omega), frisketlaw29_Text.j1, if_pos rfl, if_pos (by omega), if_pos (by omega)]
    have q6 := tm_rng (Int.tdiv (IntKind.u64.wrap (rd l (i : Int))) 12) 6 (by decide)
    have q4 := tm_rng (Int.tdiv (IntKind.u64.wrap (rd l (i : Int))) 12) 4 (by decide)
    have q9 := tm_rng (Int.tdiv (IntKind.u64.wrap (rd l (i : Int))) 12) 9 (by decide)
    have q3 := tm_rng (Int.tdiv (IntKind.u64.wrap (rd l (i : Int))) 12) 3 (by decide)
    generalize Int.tmod (IntKind.u64.wrap (rd l (i : Int))) 12 = m
    by_cases c0 : m = 0
    · rw [if_pos c0, if_pos (by omega)]; exact step _ (by decide +kernel)
    rw [if_neg c0]
    by_cases c1 : m = 1
    · rw [if_pos c1]
      obtain ⟨t, t1, t2⟩ := text23 [wrap64 (IntKind.u64.wrap (Int.tdiv (IntKind.u64.wrap (rd l (i : Int))) 12)), wrap64 (IntKind.u64.wrap (Int.tdiv (IntKind.u64.wrap (rd l (i : Int))) 36)), wrap64 (IntKind.u64.wrap (Int.tdiv (IntKind.u64.wrap (rd l (i : Int))) 60))] (by simp) k (by omega)
      have z1 : (⟨#[46, 69, 81, 10]⟩ : ByteArray).size = 4 := rfl
      have z2 : (⟨#[10, 46, 69, 78, 10]⟩ : ByteArray).size = 5 := rfl
      rw [t1]
      simp only [Option.bind_some]
      rw [if_pos (by omega), if_pos (by rw [ByteArray.size_append]; omega), if_pos (by rw [ByteArray.size_append, ByteArray.size_append]; omega)]
      exact step0 _ (by rw [ByteArray.size_append, ByteArray.size_append]; omega)
    rw [if_neg c1]
    by_cases c2 : m = 2
    · rw [if_pos c2, if_pos (by omega)]; exact step _ (by decide +kernel)
    rw [if_neg c2]
    by_cases c3 : m = 3
    · rw [if_pos c3, if_pos (by omega)]; exact step _ (by decide +kernel)
    rw [if_neg c3]
    by_cases c4 : m = 4
    · rw [if_pos c4]; refine pick_two 224000 _ 6 _ q6.1 q6.2 ?_ ?_ _ _ s 4 5 ?_ ?_ (by decide) (by decide) (by omega) (fun x => frisketlaw29_Text.l0 k l (s ++ x) (wrap64 ((i : Int) + 1))) step
      · rfl
      · decide +kernel
      · rfl
      · rfl
    rw [if_neg c4]
    by_cases c5 : m = 5
    · rw [if_pos c5]; refine pick_two 224000 _ 4 _ q4.1 q4.2 ?_ ?_ _ _ s 4 5 ?_ ?_ (by decide) (by decide) (by omega) (fun x => frisketlaw29_Text.l0 k l (s ++ x) (wrap64 ((i : Int) + 1))) step
      · rfl
      · decide +kernel
      · rfl
      · rfl
    rw [if_neg c5]
    by_cases c6 : m = 6
    · rw [if_pos c6]; refine pick_two 224000 _ 4 _ q4.1 q4.2 ?_ ?_ _ _ s 3 4 ?_ ?_ (by decide) (by decide) (by omega) (fun x => frisketlaw29_Text.l0 k l (s ++ x) (wrap64 ((i : Int) + 1))) step
      · rfl
      · decide +kernel
      · rfl
      · rfl
    rw [if_neg c6]
    by_cases c7 : m = 7
    · rw [if_pos c7, if_pos (by omega)]; exact step _ (by decide +kernel)
    rw [if_neg c7]
    by_cases c8 : m = 8
    · rw [if_pos c8]; refine pick_two 224000 _ 4 _ q4.1 q4.2 ?_ ?_ _ _ s 4 5 ?_ ?_ (by decide) (by decide) (by omega) (fun x => frisketlaw29_Text.l0 k l (s ++ x) (wrap64 ((i : Int) + 1))) step
      · rfl
      · decide +kernel
      · rfl
      · rfl
    rw [if_neg c8]
    by_cases c9 : m = 9
    · rw [if_pos c9]; refine pick_one 224000 _ 9 _ q9.1 q9.2 ?_ ?_ _ s ?_ (by omega) (fun x => frisketlaw29_Text.l0 k l (s ++ x) (wrap64 ((i : Int) + 1))) step
      · rfl
      · decide +kernel
      · rfl
    rw [if_neg c9]
    by_cases c10 : m = 10
    · rw [if_pos c10]; refine pick_two 224000 _ 3 _ q3.1 q3.2 ?_ ?_ _ _ s 4 5 ?_ ?_ (by decide) (by decide) (by omega) (fun x => frisketlaw29_Text.l0 k l (s ++ x) (wrap64 ((i : Int) + 1))) step
      · rfl
      · decide +kernel
      · rfl
      · rfl
    rw [if_neg c10]
    by_cases c11 : m = 11
    · rw [if_pos c11, if_pos (by omega)]; exact step _ (by decide +kernel)
    rw [if_neg c11]
    exact none_
theorem text29 (l : List Int) (k : Nat) (hk : 60 ≤ k) : ∃ t, frisketlaw29_Text.f k l = some t ∧ t.size ≤ 224000 := by
  unfold frisketlaw29_Text.f
  have := text29_loop l (min l.length 14) 0 k ⟨#[]⟩ (by omega) (by omega) (by simp [ByteArray.size])
  exact this
end Go.Proofs.YtjgalagflhmhdaaGreatDoor.QPipe
