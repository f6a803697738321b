/-
 The plain law of texts: where the program and the reference agree on each line, and on each step of the kinds, 'same' answers true. Conditions: those of 'TextOK'.
-/
import Derived.Test.YtghlfhgmnhhmnaaGreatDoorRefLines
import Derived.Test.YtghlfhgmnhhmnaaGreatDoorQTidyx14
namespace Go.Proofs.YtghlfhgmnhhmnaaGreatDoor.QTidy
open Go.RowKit Go.Proofs.YtghlfhgmnhhmnaaGreatDoorW.PrintWords Go.Proofs.YtghlfhgmnhhmnaaGreatDoorW.PrintLast Go.Proofs.YtghlfhgmnhhmnaaGreatDoorW.PrintMore
set_option linter.unusedVariables false
set_option linter.unusedSimpArgs false

theorem up {α : Type} {f : Nat → Option α} (hm : ∀ k, LeO (f k) (f (k + 1))) {r : α} {k : Nat} (h : f k = some r) : ∀ d, f (k + d) = some r
 | 0 => h
 | d + 1 => hm (k + d) r (up hm h d)
theorem up' {α : Type} {f : Nat → Option α} (hm : ∀ k, LeO (f k) (f (k + 1))) {r : α} {k k' : Nat} (h : f k = some r) (hk : k ≤ k') : f k' = some r := by
 have := up hm h (k' - k)
 rwa [show k + (k' - k) = k' by omega] at this

/-- The kinds agree where the steps do. -/
theorem kinds_agree (K : Nat) (G : ByteArray → Prop) (R : ByteArray → ByteArray → Bool → Int → ByteArray → Prop)
  (hj : ∀ x, G x → ∃ j, tidy_joins.f x = some j ∧ frisketref37_joins.f K x = some j)
  (hq : ∀ x d b wi wn e, G x → R d b wi wn e → stepR K x true wn e = some (if wi = true then 1 else if b.toList = [] then 3 else 2, wn, e))
  (hs : ∀ x d b wi wn e, G x → R d b wi wn e → ∃ n d' b' wi' wn' e', stepF K x d b wi = some (n, d', b', wi') ∧ stepR K x false wn e = some (n, wn', e') ∧ R d' b' wi' wn' e') :
  ∀ (L : List ByteArray) (bh : Bool) (d b : ByteArray) (wi : Bool) (wn : Int) (e : ByteArray), (∀ x ∈ L, G x) → R d b wi wn e → ∃ ks, kindsL K L bh d b wi = some ks ∧ kindsR K L bh wn e = some ks ∧ ks.length = L.length
 | [], _, _, _, _, _, _, _, _ => ⟨[], rfl, rfl, rfl⟩
 | x :: L, bh, d, b, wi, wn, e, hG, hR => by
  have hx := hG x (by simp)
  have hL : ∀ y ∈ L, G y := fun y hy => hG y (by simp [hy])
  obtain ⟨j, h1, h2⟩ := hj x hx
  by_cases c : bh = true ∨ j = true
  ·obtain ⟨ks, k1, k2, k3⟩ := kinds_agree K G R hj hq hs L j d b wi wn e hL hR
   have hjb : (j || bh) = true := by rcases c with c | c <;> simp [c]
   refine ⟨(if wi = true then 1 else if b.toList = [] then 3 else 2) :: ks, ?_, ?_, by simp [k3]⟩
   ·rw [kindsL, h1]; simp only [Option.bind_some]; rw [if_pos c, k1]; rfl
   ·rw [kindsR, h2]; simp only [Option.bind_some]; rw [hjb, hq x d b wi wn e hx hR]; simp only [Option.bind_some]; rw [k2]; rfl
  ·obtain ⟨n, d', b', wi', wn', e', s1, s2, hR'⟩ := hs x d b wi wn e hx hR
   obtain ⟨ks, k1, k2, k3⟩ := kinds_agree K G R hj hq hs L j d' b' wi' wn' e' hL hR'
   have hjb : (j || bh) = false := by
    cases j <;> cases bh <;> simp at c ⊢
   refine ⟨n :: ks, ?_, ?_, by simp [k3]⟩
   ·rw [kindsL, h1]; simp only [Option.bind_some]; rw [if_neg c, s1]; simp only [Option.bind_some]; rw [k1]; rfl
   ·rw [kindsR, h2]; simp only [Option.bind_some]; rw [hjb, s2]; simp only [Option.bind_some]; rw [k2]; rfl

/-- What a line becomes. -/
def lineB (K : Nat) (x : ByteArray) : ByteArray := (tidy_line.f K x).getD ⟨#[]⟩
def becomes (K : Nat) : List Int → List ByteArray → List ByteArray
 | n :: ks, x :: L => (if n = 0 then lineB K x else x) :: becomes K ks L
 | _, _ => []
theorem becomes_len (K : Nat) : ∀ (ks : List Int) (L : List ByteArray), ks.length = L.length → (becomes K ks L).length = L.length
 | [], [], _ => rfl
 | n :: ks, x :: L, h => by simp at h; simp [becomes, becomes_len K ks L h]
theorem becomes_get (K : Nat) : ∀ (ks : List Int) (L : List ByteArray) (h : ks.length = L.length) (i : Nat) (hi : i < L.length) (hk : i < ks.length) (hm : i < (becomes K ks L).length), (becomes K ks L)[i] = if ks[i] = 0 then lineB K L[i] else L[i]
 | n :: ks, x :: L, h, 0, _, _, _ => rfl
 | n :: ks, x :: L, h, i + 1, hi, hk, hm => by
  simp at h hi hk
  simpa [becomes] using becomes_get K ks L h i hi hk (by rw [becomes_len K ks L h]; exact hi)

section
variable (K : Nat) (L : List ByteArray) (ks : List Int) (hl : ks.length = L.length) (hL : L.length < 100000)
 (hp : ∀ x ∈ L, tidy_line.f K x = some (lineB K x))

theorem tidied_becomes (hl : ks.length = L.length) (hL : L.length < 100000) (hp : ∀ x ∈ L, tidy_line.f K x = some (lineB K x)) :
  ∀ n i k, i + n = L.length → K + n + 1 ≤ k → tidy_tidied.l0 k L ((becomes K ks L).take i) ks (ks.length : Int) i = some (becomes K ks L) := by
 intro n
 induction n with
 | zero =>
  intro i k hi hk
  obtain ⟨k, rfl⟩ : ∃ k', k = k' + 1 := ⟨k - 1, by omega⟩
  rw [tidy_tidied.l0, if_neg (by omega), List.take_of_length_le (by rw [becomes_len K ks L hl]; omega)]
 | succ n ih =>
  intro i k hi hk
  obtain ⟨k, rfl⟩ : ∃ k', k = k' + 1 := ⟨k - 1, by omega⟩
  have hlt : i < L.length := by omega
  have hkl : i < ks.length := by omega
  have hml : i < (becomes K ks L).length := by rw [becomes_len K ks L hl]; exact hlt
  have hrd : rdOf ByteArray.empty L (i : Int) = L[i] := by simp [rdOf, hlt]
  have hrk : rd ks (i : Int) = ks[i] := by simp [rd, hkl]
  have hg := becomes_get K ks L hl i hlt hkl hml
  have htk : (becomes K ks L).take i ++ [(becomes K ks L)[i]] = (becomes K ks L).take (i + 1) := (List.take_succ_eq_append_getElem hml).symm
  have hln : ((becomes K ks L).take i).length < 8796093022208 := by simp; omega
  have ih' := ih (i + 1) k (by omega) (by omega)
  rw [tidy_tidied.l0, if_pos (by omega), if_pos (by omega), if_pos (by omega), hrk]
  by_cases c : ks[i] = 0
  ·rw [if_pos c] at hg
   rw [if_pos c, if_pos (by omega), hrd, up' (tidy_line.mono _) (hp L[i] (List.getElem_mem _)) (show K ≤ k by omega)]
   simp only [Option.bind_some]
   rw [if_pos hln, wrap_small i (by omega), ← hg, htk, ih']
  ·rw [if_neg c] at hg
   rw [if_neg c, if_pos (by omega), if_pos hln, wrap_small i (by omega), hrd, ← hg, htk, ih']

/-- The lines that change. -/
def chg (L M : List ByteArray) : Nat → Nat → List Int
 | 0, _ => []
 | n + 1, i => if (M.getD i ByteArray.empty).toList = (L.getD i ByteArray.empty).toList then chg L M n (i + 1) else (i : Int) :: chg L M n (i + 1)
theorem chg_len (L M : List ByteArray) : ∀ n i, (chg L M n i).length ≤ n
 | 0, _ => Nat.le_refl _
 | n + 1, i => by
  have := chg_len L M n (i + 1)
  unfold chg
  split <;> simp <;> omega
theorem tidyChanged_loop (hL : L.length < 100000) (M : List ByteArray) (hM : M.length = L.length) :
  ∀ n i k (acc : List Int), i + n = L.length → n < k → acc.length ≤ i → tidy_Changed.l0 k L acc M (M.length : Int) i = some (acc ++ chg L M n i, 0) := by
 intro n
 induction n with
 | zero =>
  intro i k acc hi hk hacc
  obtain ⟨k, rfl⟩ : ∃ k', k = k' + 1 := ⟨k - 1, by omega⟩
  rw [tidy_Changed.l0, if_neg (by omega), chg, List.append_nil]
 | succ n ih =>
  intro i k acc hi hk hacc
  obtain ⟨k, rfl⟩ : ∃ k', k = k' + 1 := ⟨k - 1, by omega⟩
  rw [tidy_Changed.l0, if_pos (by omega), if_pos (by omega), if_pos (by omega), if_pos (by omega), wrap_small i (by omega), chg]
  have h1 : rdOf ByteArray.empty M (i : Int) = M.getD i ByteArray.empty := rfl
  have h2 : rdOf ByteArray.empty L (i : Int) = L.getD i ByteArray.empty := rfl
  rw [h1, h2]
  by_cases c : (M.getD i ByteArray.empty).toList = (L.getD i ByteArray.empty).toList
  ·rw [if_pos c, if_pos c, ih (i + 1) k acc (by omega) (by omega) (by omega)]
  ·rw [if_neg c, if_neg c, if_pos (by omega), ih (i + 1) k _ (by omega) (by omega) (by simp; omega)]; simp
end

theorem numbers_same (l : List Int) (hl : l.length < 4611686018427387904) : ∀ n i k, i + n = l.length → n < k → frisketlaw37_numbers.l0 k l l i = some true := by
 intro n
 induction n with
 | zero =>
  intro i k hi hk
  obtain ⟨k, rfl⟩ : ∃ k', k = k' + 1 := ⟨k - 1, by omega⟩
  rw [frisketlaw37_numbers.l0, if_neg (by omega)]
 | succ n ih =>
  intro i k hi hk
  obtain ⟨k, rfl⟩ : ∃ k', k = k' + 1 := ⟨k - 1, by omega⟩
  rw [frisketlaw37_numbers.l0, if_pos (by omega), if_pos (by omega), if_pos (by omega), if_pos rfl, wrap_small i (by omega), ih (i + 1) k (by omega) (by omega)]
theorem numbers_eq (l : List Int) (hl : l.length < 4611686018427387904) (k : Nat) (hk : l.length < k) : frisketlaw37_numbers.f k l l = some true := by
 unfold frisketlaw37_numbers.f
 rw [if_pos rfl]
 exact numbers_same l hl l.length 0 k (by omega) hk
end Go.Proofs.YtghlfhgmnhhmnaaGreatDoor.QTidy
