/-
 frisketlaw37.TidyTwice: the kinds of lines, lines that are written, what becomes of a line and of a text; the plain law, and what the program answers. Conditions: those written out at each theorem; at the last none but the given row's.
-/
import Derived.Test.YtghlfhgmnhhmnaaGreatDoorTwOne
import Derived.Test.YtghlfhgmnhhmnaaGreatDoorTwTexts
import Derived.Test.YtghlfhgmnhhmnaaGreatDoorRefKinds
import Derived.Test.YtghlfhgmnhhmnaaGreatDoorQTidyx12
import Derived.Test.YtghlfhgmnhhmnaaGreatDoorQTidyx2
import Derived.Test.YtghlfhgmnhhmnaaGreatDoorQTidyx12
import Derived.Test.YtghlfhgmnhhmnaaGreatDoorQTidyx10
import Derived.Test.YtghlfhgmnhhmnaaGreatDoorQTidyx2
import Derived.Test.YtghlfhgmnhhmnaaGreatDoorQTidyx14
namespace Go.Proofs.YtghlfhgmnhhmnaaGreatDoor.QTidy
open Go.RowKit Go.Proofs.YtghlfhgmnhhmnaaGreatDoorW.PrintWords Go.Proofs.YtghlfhgmnhhmnaaGreatDoorW.PrintLast Go.Proofs.YtghlfhgmnhhmnaaGreatDoorW.PrintMore
set_option linter.unusedVariables false
set_option linter.unusedSimpArgs false

/-! ### The kinds agree -/
theorem op_second {s e : List UInt8} {c d : UInt8} (h : op s (c :: d :: e) = true) : s[1]? = some d := by
 unfold op at h
 rw [Bool.and_eq_true] at h
 have := of_decide_eq_true h.1
 match s with
 | [] => cases this
 | [a] => simp at this
 | a :: b :: s =>
  simp at this
  simp [this.2.1]
def sgnOf (x : MapEntry) : List UInt8 := (keyS x).data.toList
theorem oB_eq (s : List UInt8) (hs : s.length < 4294967281) (x : MapEntry) (hx : x ∈ endsMap.toList) : tidy_opens.f (ba s) (keyS x) = some (op s (sgnOf x)) := by
 have h : ∀ x ∈ endsMap.toList, (sgnOf x).length < 10 := by decide
 have hk : keyS x = ba (sgnOf x) := (ba_of (keyS x)).symm
 rw [hk]
 exact p_opens s (sgnOf x) hs (by have := h x hx; omega)
theorem ends_second : ∀ x ∈ endsMap.toList, ∀ y ∈ endsMap.toList, (sgnOf x)[1]? = (sgnOf y)[1]? → x.born = y.born := by decide
theorem ends_two : ∀ x ∈ endsMap.toList, (sgnOf x)[1]?.isSome = true := by decide
theorem filt_le {α : Type} (p : α → Bool) : ∀ l : List α, l.Nodup → (∀ x ∈ l, ∀ y ∈ l, p x = true → p y = true → x = y) → (l.filter p).length ≤ 1
 | [], _, _ => Nat.zero_le _
 | a :: l, hn, h => by
  have hn2 := List.nodup_cons.1 hn
  have ih := filt_le p l hn2.2 (fun x hx y hy => h x (by simp [hx]) y (by simp [hy]))
  rw [List.filter_cons]
  by_cases c : p a = true
  ·rw [if_pos c]
   have : l.filter p = [] := by
    rw [List.filter_eq_nil_iff]
    intro x hx hp
    have := h a (by simp) x (by simp [hx]) c hp
    subst this
    exact hn2.1 hx
   rw [this]; simp
  ·rw [if_neg c]; exact ih
theorem ends_nd : endsMap.toList.Nodup := by
 have h := ends_nodup
 rw [List.nodup_iff_pairwise_ne] at h ⊢
 rw [List.pairwise_map] at h
 exact h.imp (fun {a b} e hab => e (by rw [hab]))
theorem second_of {s g : List UInt8} (hg : g[1]?.isSome = true) (h : op s g = true) : s[1]? = g[1]? := by
 match g with
 | [] => cases hg
 | [a] => cases hg
 | a :: b :: g => rw [op_second h]; rfl
theorem blkL_congr (o o' : MapEntry → Bool) : ∀ l : List MapEntry, (∀ x ∈ l, o x = o' x) → blkL o l = blkL o' l
 | [], _ => rfl
 | a :: l, h => by rw [blkL, blkL, h a (by simp), blkL_congr o o' l (fun x hx => h x (by simp [hx]))]
theorem p_blk (s : List UInt8) (hs : s.length < 4294967281) : blkF (ba s) = some (blkL (fun x => op s (sgnOf x)) endsMap.toList) := by
 have hoB : ∀ x ∈ endsMap.toList, oB (ba s) x = op s (sgnOf x) := fun x hx => by unfold oB; rw [oB_eq s hs x hx]; rfl
 have hfl : endsMap.toList.filter (oB (ba s)) = endsMap.toList.filter (fun x => op s (sgnOf x)) := List.filter_congr hoB
 unfold blkF
 rw [if_pos]
 ·exact congrArg some (blkL_congr _ _ _ hoB)
 ·refine ⟨?_, ?_⟩
  ·rw [List.all_eq_true]
   intro x hx
   rw [oB_eq s hs x hx]; rfl
  ·rw [hfl]
   refine filt_le _ _ ends_nd (fun x hx y hy px py => ?_)
   have h1 := second_of (ends_two x hx) px
   have h2 := second_of (ends_two y hy) py
   exact ends_born x hx y hy (ends_second x hx y hy (by rw [← h1, ← h2]))
theorem blk_rel (s : List UInt8) (hs : s.length < 4294967281) (e : ByteArray) : ∃ b' wn' e', blkF (ba s) = some b' ∧ blkR (ba s) blkPairs 0 e = some (wn', e') ∧
  ((wn' = 0 ∧ b' = ⟨#[]⟩) ∨ (wn' = 2 ∧ ∃ x : List UInt8, e' = ba x ∧ b' = ba (46 :: x) ∧ x.length ≤ 2)) := by
 have k1 : op s [46, 84, 83] = true → s[1]? = some 84 := fun h => op_second h
 have k2 : op s [46, 69, 81] = true → s[1]? = some 69 := fun h => op_second h
 have k3 : op s [46, 80, 83] = true → s[1]? = some 80 := fun h => op_second h
 have k4 : op s [46, 71, 49] = true → s[1]? = some 71 := fun h => op_second h
 have k5 : op s [46, 67, 72] = true → s[1]? = some 67 := fun h => op_second h
 have k6 : op s [46, 91] = true → s[1]? = some 91 := fun h => op_second h
 have hL : blkF (ba s) = some (if op s [46, 84, 83] = true then ba [46, 84, 69] else if op s [46, 69, 81] = true then ba [46, 69, 78] else if op s [46, 80, 83] = true then ba [46, 80, 69] else if op s [46, 71, 49] = true then ba [46, 71, 50] else if op s [46, 67, 72] = true then ba [46, 67, 69] else if op s [46, 91] = true then ba [46, 93] else ⟨#[]⟩) := p_blk s hs
 have hR : blkR (ba s) blkPairs 0 e = some (if op s [46, 91] = true then (2, ba [93]) else if op s [46, 67, 72] = true then (2, ba [67, 69]) else if op s [46, 71, 49] = true then (2, ba [71, 50]) else if op s [46, 80, 83] = true then (2, ba [80, 69]) else if op s [46, 69, 81] = true then (2, ba [69, 78]) else if op s [46, 84, 83] = true then (2, ba [84, 69]) else (0, e)) := by
  have g1 : frisketref37_begins.f (ba s) ⟨#[84, 83]⟩ = some (op s [46, 84, 83]) := r_begins s [84, 83] hs (by decide)
  have g2 : frisketref37_begins.f (ba s) ⟨#[69, 81]⟩ = some (op s [46, 69, 81]) := r_begins s [69, 81] hs (by decide)
  have g3 : frisketref37_begins.f (ba s) ⟨#[80, 83]⟩ = some (op s [46, 80, 83]) := r_begins s [80, 83] hs (by decide)
  have g4 : frisketref37_begins.f (ba s) ⟨#[71, 49]⟩ = some (op s [46, 71, 49]) := r_begins s [71, 49] hs (by decide)
  have g5 : frisketref37_begins.f (ba s) ⟨#[67, 72]⟩ = some (op s [46, 67, 72]) := r_begins s [67, 72] hs (by decide)
  have g6 : frisketref37_begins.f (ba s) ⟨#[91]⟩ = some (op s [46, 91]) := r_begins s [91] hs (by decide)
  simp only [blkPairs, blkR, g1, g2, g3, g4, g5, g6, Option.bind_some]
  generalize op s [46, 84, 83] = a1
  generalize op s [46, 69, 81] = a2
  generalize op s [46, 80, 83] = a3
  generalize op s [46, 71, 49] = a4
  generalize op s [46, 67, 72] = a5
  generalize op s [46, 91] = a6
  cases a6 <;> cases a5 <;> cases a4 <;> cases a3 <;> cases a2 <;> cases a1 <;> rfl
 rw [hL, hR]
 have no : ∀ {a b : UInt8}, a ≠ b → s[1]? = some a → s[1]? = some b → False := fun h h1 h2 => h (by rw [h1] at h2; injection h2)
 by_cases c1 : op s [46, 84, 83] = true
 ·have s1 := k1 c1
  have f2 : ¬ op s [46, 69, 81] = true := fun h => no (by decide) s1 (k2 h)
  have f3 : ¬ op s [46, 80, 83] = true := fun h => no (by decide) s1 (k3 h)
  have f4 : ¬ op s [46, 71, 49] = true := fun h => no (by decide) s1 (k4 h)
  have f5 : ¬ op s [46, 67, 72] = true := fun h => no (by decide) s1 (k5 h)
  have f6 : ¬ op s [46, 91] = true := fun h => no (by decide) s1 (k6 h)
  rw [if_pos c1, if_neg f6, if_neg f5, if_neg f4, if_neg f3, if_neg f2, if_pos c1]
  exact ⟨_, _, _, rfl, rfl, .inr ⟨rfl, [84, 69], rfl, rfl, by decide⟩⟩
 by_cases c2 : op s [46, 69, 81] = true
 ·have s1 := k2 c2
  have f3 : ¬ op s [46, 80, 83] = true := fun h => no (by decide) s1 (k3 h)
  have f4 : ¬ op s [46, 71, 49] = true := fun h => no (by decide) s1 (k4 h)
  have f5 : ¬ op s [46, 67, 72] = true := fun h => no (by decide) s1 (k5 h)
  have f6 : ¬ op s [46, 91] = true := fun h => no (by decide) s1 (k6 h)
  rw [if_neg c1, if_pos c2, if_neg f6, if_neg f5, if_neg f4, if_neg f3, if_pos c2]
  exact ⟨_, _, _, rfl, rfl, .inr ⟨rfl, [69, 78], rfl, rfl, by decide⟩⟩
 by_cases c3 : op s [46, 80, 83] = true
 ·have s1 := k3 c3
  have f4 : ¬ op s [46, 71, 49] = true := fun h => no (by decide) s1 (k4 h)
  have f5 : ¬ op s [46, 67, 72] = true := fun h => no (by decide) s1 (k5 h)
  have f6 : ¬ op s [46, 91] = true := fun h => no (by decide) s1 (k6 h)
  rw [if_neg c1, if_neg c2, if_pos c3, if_neg f6, if_neg f5, if_neg f4, if_pos c3]
  exact ⟨_, _, _, rfl, rfl, .inr ⟨rfl, [80, 69], rfl, rfl, by decide⟩⟩
 by_cases c4 : op s [46, 71, 49] = true
 ·have s1 := k4 c4
  have f5 : ¬ op s [46, 67, 72] = true := fun h => no (by decide) s1 (k5 h)
  have f6 : ¬ op s [46, 91] = true := fun h => no (by decide) s1 (k6 h)
  rw [if_neg c1, if_neg c2, if_neg c3, if_pos c4, if_neg f6, if_neg f5, if_pos c4]
  exact ⟨_, _, _, rfl, rfl, .inr ⟨rfl, [71, 50], rfl, rfl, by decide⟩⟩
 by_cases c5 : op s [46, 67, 72] = true
 ·have s1 := k5 c5
  have f6 : ¬ op s [46, 91] = true := fun h => no (by decide) s1 (k6 h)
  rw [if_neg c1, if_neg c2, if_neg c3, if_neg c4, if_pos c5, if_neg f6, if_pos c5]
  exact ⟨_, _, _, rfl, rfl, .inr ⟨rfl, [67, 69], rfl, rfl, by decide⟩⟩
 by_cases c6 : op s [46, 91] = true
 ·rw [if_neg c1, if_neg c2, if_neg c3, if_neg c4, if_neg c5, if_pos c6, if_pos c6]
  exact ⟨_, _, _, rfl, rfl, .inr ⟨rfl, [93], rfl, rfl, by decide⟩⟩
 ·rw [if_neg c1, if_neg c2, if_neg c3, if_neg c4, if_neg c5, if_neg c6, if_neg c6, if_neg c5, if_neg c4, if_neg c3, if_neg c2, if_neg c1]
  exact ⟨_, _, _, rfl, rfl, .inl ⟨rfl, rfl⟩⟩

/-- A line that the laws speak of. -/
def GoodL (x : ByteArray) : Prop := ∃ s : List UInt8, x = ba s ∧ s.length ≤ 2000 ∧ noNL s = true
/-- The states that belong together. -/
def RelT (d b : ByteArray) (wi : Bool) (wn : Int) (e : ByteArray) : Prop :=
 (wi = true ∧ wn = 1 ∧ b = ⟨#[]⟩ ∧ ∃ x : List UInt8, d = ba x ∧ e = ba x ∧ x.length ≤ 2000) ∨ (wi = false ∧ wn = 2 ∧ ∃ x : List UInt8, e = ba x ∧ b = ba (46 :: x) ∧ x.length ≤ 2) ∨ (wi = false ∧ wn = 0 ∧ b = ⟨#[]⟩)
theorem nilT2 : (⟨#[]⟩ : ByteArray).toList = [] := by rw [Lib.toList_data]
theorem relT_join (K : Nat) (x d b : ByteArray) (wi : Bool) (wn : Int) (e : ByteArray) (h : RelT d b wi wn e) : stepR K x true wn e = some (if wi = true then 1 else if b.toList = [] then 3 else 2, wn, e) := by
 unfold stepR
 rcases h with ⟨rfl, rfl, _, _⟩ | ⟨rfl, rfl, y, rfl, rfl, _⟩ | ⟨rfl, rfl, rfl⟩
 ·simp
 ·rw [if_neg (by decide), if_pos rfl, if_pos rfl, if_neg (by decide), if_neg (by rw [ba_ls]; simp)]
 ·rw [if_neg (by decide), if_neg (by decide), if_pos rfl, if_pos rfl]; simp [nilT2]
theorem defn_len {s y : List UInt8} (h : defn s = some y) (hs : s.length ≤ 2000) : y.length ≤ 2000 := by
 unfold defn at h
 cases hc : ctl s with
 | none => rw [hc] at h; cases h
 | some p =>
  obtain ⟨c, n, r⟩ := p
  obtain ⟨hl, _, _, _⟩ := ctl_parts hc
  rw [hc] at h
  simp only at h
  have hsum := words_sum r
  have hm : ∀ w ∈ words r, w.length ≤ 2000 := fun w hw => by have := sum_mem hw; omega
  split at h
  ·split at h
   ·cases h
   ·injection h with h; subst h; decide
   ·injection h with h; subst h; rename_i e; exact hm _ (by rw [e]; simp)
  ·split at h
   ·split at h
    ·injection h with h; subst h; decide
    ·injection h with h; subst h; rename_i e; exact hm _ (by rw [e]; simp)
   ·cases h
theorem relT_step (K : Nat) (hK : 10000 ≤ K) (x : ByteArray) (hx : GoodL x) (d b : ByteArray) (wi : Bool) (wn : Int) (e : ByteArray) (h : RelT d b wi wn e) :
  ∃ n d' b' wi' wn' e', stepF K x d b wi = some (n, d', b', wi') ∧ stepR K x false wn e = some (n, wn', e') ∧ RelT d' b' wi' wn' e' := by
 obtain ⟨s, rfl, h2, h10⟩ := hx
 rcases h with ⟨rfl, rfl, rfl, y, rfl, rfl, hy⟩ | ⟨rfl, rfl, y, rfl, rfl, hy⟩ | ⟨rfl, rfl, rfl⟩
 ·unfold stepF stepR
  rw [if_pos rfl, if_pos rfl, if_neg (show ¬ ((false : Bool) = true) by simp), r_ends s y (by omega) (by omega), ba_ls, ba_ls]
  simp only [Option.bind_some]
  unfold nds
  have hm : (⟨#[46]⟩ : ByteArray) ++ ba y = ba (46 :: y) := ba_app [46] y
  by_cases c : s = [46, 46]
  ·rw [if_pos c]
   have e1 : (if y = [46] then decide (s = [46, 46]) else decide (s = [46, 46]) || op s (46 :: y)) = true := by simp [c]
   rw [e1, if_pos rfl]
   exact ⟨_, _, _, _, _, _, rfl, rfl, .inr (.inr ⟨rfl, rfl, rfl⟩)⟩
  ·rw [if_neg c]
   by_cases c2 : y = [46]
   ·rw [if_pos c2, if_pos c2, decide_eq_false c, if_neg (by simp)]
    exact ⟨_, _, _, _, _, _, rfl, rfl, .inl ⟨rfl, rfl, rfl, y, rfl, rfl, hy⟩⟩
   ·rw [if_neg c2, if_neg c2, decide_eq_false c, Bool.false_or, if_pos (by rw [ba_sz]; omega), hm, p_opens s (46 :: y) (by omega) (by simp; omega)]
    simp only [Option.bind_some]
    cases op s (46 :: y) with
    | true => exact ⟨_, _, _, _, _, _, rfl, rfl, .inr (.inr ⟨rfl, rfl, rfl⟩)⟩
    | false => exact ⟨_, _, _, _, _, _, rfl, rfl, .inl ⟨rfl, rfl, rfl, y, rfl, rfl, hy⟩⟩
 ·unfold stepF stepR
  rw [if_neg (by simp), if_neg (by rw [ba_ls]; simp), if_neg (by decide), if_pos rfl, if_neg (by simp), p_opens s (46 :: y) (by omega) (by simp; omega), r_begins s y (by omega) (by omega)]
  simp only [Option.bind_some]
  cases op s (46 :: y) with
  | true => exact ⟨_, _, _, _, _, _, rfl, rfl, .inr (.inr ⟨rfl, rfl, rfl⟩)⟩
  | false => exact ⟨_, _, _, _, _, _, rfl, rfl, .inr (.inl ⟨rfl, rfl, y, rfl, rfl, hy⟩)⟩
 ·unfold stepF stepR
  rw [if_neg (by simp), if_pos nilT2, if_neg (by decide), if_neg (by decide), if_pos rfl, if_neg (by simp), p_begins s h2 h10 K (by omega), r_definition s h2 K hK]
  simp only [Option.bind_some]
  unfold defB
  cases hd : defn s with
  | some y =>
   have := defn_len hd h2
   exact ⟨_, _, _, _, _, _, rfl, rfl, .inl ⟨rfl, rfl, rfl, y, rfl, rfl, this⟩⟩
  | none =>
   obtain ⟨b', wn', e', hb, hr, hrel⟩ := blk_rel s (by omega) e
   rw [if_neg (by simp), if_neg (by simp), hb, hr]
   rcases hrel with ⟨rfl, rfl⟩ | ⟨rfl, y, rfl, rfl, hy⟩
   ·exact ⟨_, _, _, _, _, _, rfl, rfl, .inr (.inr ⟨rfl, rfl, rfl⟩)⟩
   ·exact ⟨_, _, _, _, _, _, rfl, rfl, .inr (.inl ⟨rfl, rfl, y, rfl, rfl, hy⟩)⟩
theorem good_joins (K : Nat) (hK : 10000 ≤ K) (x : ByteArray) (hx : GoodL x) : ∃ j, tidy_joins.f x = some j ∧ frisketref37_joins.f K x = some j := by
 obtain ⟨s, rfl, h2, h10⟩ := hx
 exact ⟨_, p_joins s (by omega), r_joins s (by omega) K (by omega)⟩
/-- The kinds of good lines: the program's and the reference's. -/
theorem kinds_good (K : Nat) (hK : 10000 ≤ K) (L : List ByteArray) (hL : ∀ x ∈ L, GoodL x) : ∃ ks, kindsL K L false ⟨#[]⟩ ⟨#[]⟩ false = some ks ∧ kindsR K L false 0 ⟨#[]⟩ = some ks ∧ ks.length = L.length :=
 kinds_agree K GoodL RelT (good_joins K hK) (fun x d b wi wn e _ h => relT_join K x d b wi wn e h) (fun x d b wi wn e hx h => relT_step K hK x hx d b wi wn e h) L false ⟨#[]⟩ ⟨#[]⟩ false 0 ⟨#[]⟩ hL (.inr (.inr ⟨rfl, rfl, rfl⟩))

/-! ### Control lines that are written -/
def wok (n : List UInt8) (W : List (List UInt8)) : Bool := decide (n ≠ []) && (!n.any blk && (noNL n && (noNL (writ W) && decide (words (writ W) = W))))
def wrt (n : List UInt8) (W : List (List UInt8)) : ByteArray × Int := if wok n W = true then (if 1 + n.length + (writ W).length > 2000 then (⟨#[]⟩, 1) else (ba (46 :: n ++ writ W), 0)) else (⟨#[]⟩, 4)
theorem noNL_app (a b : List UInt8) : noNL (a ++ b) = (noNL a && noNL b) := by unfold noNL; rw [List.contains_eq_any_beq, List.contains_eq_any_beq, List.contains_eq_any_beq, List.any_append, Bool.not_or]
theorem noNL_mem {a : List UInt8} : noNL a = true ↔ ∀ b ∈ a, b ≠ 10 := by
 unfold noNL
 rw [Bool.not_eq_true', ← Bool.not_eq_true, List.contains_iff_mem]
 exact ⟨fun h b hb e => h (e ▸ hb), fun h hm => h 10 hm rfl⟩
theorem has_blk10 (n : List UInt8) : decide (0 ≤ Lib.indexAny n [32, 9, 10]) = (n.any blk || !noNL n) := by
 induction n with
 | nil => rfl
 | cons b n ih =>
  have hge := Lib.indexAny_ge [32, 9, 10] n
  have hb : ([32, 9, 10] : List UInt8).contains b = (blk b || (10 == b)) := by
   simp only [List.contains_cons, blk, List.contains_nil, Bool.or_false]
   have e : (b == 10) = ((10 : UInt8) == b) := by rw [Bool.eq_iff_iff, beq_iff_eq, beq_iff_eq]; exact eq_comm
   rw [e, Bool.or_assoc]
  have h2 : (n.any blk || !noNL n) = decide (0 ≤ Lib.indexAny n [32, 9, 10]) := ih.symm
  have hn : noNL (b :: n) = (!(10 == b) && noNL n) := by unfold noNL; rw [List.contains_cons, Bool.not_or]
  rw [Lib.indexAny, hb, List.any_cons, hn]
  cases h3 : blk b with
  | true => simp
  | false =>
   cases h4 : (10 == b) with
   | true => simp
   | false =>
    simp only [Bool.or_false, Bool.false_or, Bool.not_false, Bool.true_and, Bool.false_eq_true, if_false]
    rw [h2]
    by_cases hm : Lib.indexAny n [32, 9, 10] = -1
    ·rw [if_pos (by simpa using hm), hm]
    ·rw [if_neg (by simpa using hm)]
     exact decide_eq_decide.2 (by omega)

theorem p_writ (n : List UInt8) (W : List (List UInt8)) (hW : ∀ a ∈ W, a.length < 10000) (hn : n.length < 10000) (hWl : W.length < 10000) (hB : ∀ m, (writ (W.take m)).length < 20000) : ∀ (d i k : Nat), i + d = W.length → 100000 + d < k →
  request_Write.l0 k (ba n) (W.map ba) (ba (writ (W.take i))) (W.map ba) (W.length : Int) (i : Int) = some (if noNL (writ W) = true ∧ words (writ W) = W then (if 1 + n.length + (writ W).length > 2000 then (⟨#[]⟩, 1) else (ba (46 :: n ++ writ W), 0)) else (⟨#[]⟩, 4)) := by
 have fin : ∀ (b : Bool) (x : List UInt8) (k : Nat), x.length < 20000 → 0 < k → request_Write.j2 k (ba n) (ba x) b = some (if b = true then (⟨#[]⟩, 4) else if 1 + n.length + x.length > 2000 then (⟨#[]⟩, 1) else (ba (46 :: n ++ x), 0)) := by
  intro b x k hx hk
  obtain ⟨k, rfl⟩ : ∃ k', k = k' + 1 := ⟨k - 1, by omega⟩
  rw [request_Write.j2]
  cases b with
  | true => rfl
  | false =>
   have e1 : (⟨#[46]⟩ : ByteArray) ++ ba n = ba (46 :: n) := ba_app [46] n
   simp only [Bool.false_eq_true, if_false]
   rw [if_pos (by rw [ba_sz]; omega), e1, if_pos (by rw [ba_sz, ba_sz]; simp; omega), ba_app, ba_sz]
   by_cases c : 1 + n.length + x.length > 2000
   ·rw [if_pos c, if_pos (by simp; omega)]
   ·rw [if_neg c, if_neg (by simp; omega)]
 intro d
 induction d with
 | zero =>
  intro i k hi hk
  obtain ⟨k, rfl⟩ : ∃ k', k = k' + 1 := ⟨k - 1, by omega⟩
  have hb := hB W.length
  rw [List.take_of_length_le (Nat.le_refl _)] at hb
  rw [request_Write.l0, if_neg (by omega), List.take_of_length_le (by omega), p_has10]
  simp only [Option.bind_some]
  cases h10 : noNL (writ W) with
  | false => rw [if_pos (by simp), fin _ _ k hb (by omega), if_pos rfl, if_neg (by simp)]
  | true =>
   rw [if_neg (by simp), p_words _ k (by omega) (by omega)]
   simp only [Option.bind_some]
   have hwl := words_len (writ W)
   rw [eq_p _ _ (by omega) k (by omega)]
   simp only [Option.bind_some]
   rw [fin _ _ k hb (by omega)]
   by_cases c : words (writ W) = W
   ·simp [c]
   ·simp [c]
 | succ d ih =>
  intro i k hi hk
  obtain ⟨k, rfl⟩ : ∃ k', k = k' + 1 := ⟨k - 1, by omega⟩
  have hlt : i < W.length := by omega
  have hb := hB i
  have hs := hW W[i] (List.getElem_mem hlt)
  have hsl := shown_len W[i]
  have e1 : (⟨#[32]⟩ : ByteArray) ++ ba (shownL W[i]) = ba (32 :: shownL W[i]) := ba_app [32] _
  have e2 : writ (W.take i) ++ 32 :: shownL W[i] = writ (W.take (i + 1)) := by rw [List.take_succ_eq_append_getElem hlt, writ_snoc]
  rw [request_Write.l0, if_pos (by omega), if_pos (by omega), if_pos (by simp; omega), rd_map W i hlt, p_shown _ (by omega)]
  simp only [Option.bind_some]
  rw [if_pos (by rw [ba_sz]; omega), e1, if_pos (by rw [ba_sz, ba_sz]; simp; omega), ba_app, e2, wrap_small i (by omega), ih (i + 1) k (by omega) (by omega)]
theorem p_write (n : List UInt8) (W : List (List UInt8)) (hW : ∀ a ∈ W, a.length < 10000) (hn : n.length < 10000) (hWl : W.length < 10000) (hB : ∀ m, (writ (W.take m)).length < 20000) (k : Nat) (hk : 120000 < k) : request_Write.f k (ba n) (W.map ba) = some (wrt n W) := by
 obtain ⟨k, rfl⟩ : ∃ k', k = k' + 1 := ⟨k - 1, by omega⟩
 unfold request_Write.f wrt wok
 rw [ba_ls]
 by_cases h0 : n = []
 ·rw [if_pos h0, request_Write.j0, if_pos rfl]; simp [h0]
 ·have hcA : strings_ContainsAny.f (ba n) (⟨#[32, 9, 10]⟩ : ByteArray) = some (n.any blk || !noNL n) := by
   unfold strings_ContainsAny.f
   rw [if_pos ⟨⟨by rw [ba_sz]; omega, by decide⟩, by decide⟩]
   exact congrArg some (has_blk10 n)
  rw [if_neg h0, hcA]
  simp only [Option.bind_some]
  rw [request_Write.j0]
  cases h1 : n.any blk with
  | true => simp
  | false =>
   cases h2 : noNL n with
   | false => simp
   | true =>
    rw [if_neg (by simp), List.length_map]
    have := p_writ n W hW hn hWl hB W.length 0 k (by omega) (by omega)
    rw [show ((0 : Nat) : Int) = 0 from rfl] at this
    refine this.trans ?_
    simp [h0]
theorem r_word0 (n : List UInt8) (hs : n.length < 4294967281) : ∀ (r m : List UInt8) (p k : Nat), n = m ++ r → p = m.length → r.length < k → frisketref06_word.l0 k (ba n) (p : Int) = some ((p + (r.takeWhile nb).length : Nat) : Int) := by
 intro r
 induction r with
 | nil =>
  intro m p k h hp hk
  obtain ⟨k, rfl⟩ : ∃ k', k = k' + 1 := ⟨k - 1, by omega⟩
  have hl := congrArg List.length h
  simp at hl
  rw [frisketref06_word.l0, if_neg (by rw [ba_sz]; omega)]; simp
 | cons b r ih =>
  intro m p k h hp hk
  obtain ⟨k, rfl⟩ : ∃ k', k = k' + 1 := ⟨k - 1, by omega⟩
  have hd : n.drop p = b :: r := by rw [h, hp]; simp
  obtain ⟨d1, d2, d3, d4, d5⟩ := dropC hd
  simp only [List.length_cons] at hk
  rw [frisketref06_word.l0, if_pos (by rw [ba_sz]; omega), if_pos (by omega), d4, r_blank]
  simp only [Option.bind_some]
  rw [List.takeWhile_cons]
  cases hb : blk b with
  | true => simp [nb, hb]
  | false =>
   rw [if_neg (by simp), wrap_small p (by omega), ih (m ++ [b]) (p + 1) k (by rw [h]; simp) (by simp; omega) (by omega)]
   simp [nb, hb]; omega
theorem r_to0 (s : List UInt8) (hs : s.length < 4294967281) : ∀ (r : List UInt8) (p k : Nat), s.drop p = r → p ≤ s.length → r.length < k → ∃ v, frisketref06_to.l0 k (ba s) (p : Int) 10 = some v ∧ decide (v ≥ 0) = !noNL r := by
 intro r
 induction r with
 | nil =>
  intro p k h hp hk
  obtain ⟨k, rfl⟩ : ∃ k', k = k' + 1 := ⟨k - 1, by omega⟩
  obtain rfl := dropE0 h hp
  exact ⟨-1, by rw [frisketref06_to.l0, if_neg (by rw [ba_sz]; omega)], rfl⟩
 | cons b r ih =>
  intro p k h hp hk
  obtain ⟨k, rfl⟩ : ∃ k', k = k' + 1 := ⟨k - 1, by omega⟩
  obtain ⟨d1, d2, d3, d4, d5⟩ := dropC h
  simp only [List.length_cons] at hk
  have hn : noNL (b :: r) = (!(10 == b) && noNL r) := by unfold noNL; rw [List.contains_cons, Bool.not_or]
  by_cases c : b = 10
  ·refine ⟨p, by rw [frisketref06_to.l0, if_pos (by rw [ba_sz]; omega), if_pos (by omega), d4, if_pos (e10 c)], ?_⟩
   subst c
   rw [hn]; simp
  ·obtain ⟨v, v1, v2⟩ := ih (p + 1) k d2 (by omega) (by omega)
   have e : ((10 : UInt8) == b) = false := by simpa using fun e => c e.symm
   refine ⟨v, by rw [frisketref06_to.l0, if_pos (by rw [ba_sz]; omega), if_pos (by omega), d4, if_neg (n10 c), wrap_small p (by omega), v1], ?_⟩
   rw [v2, hn, e]; simp
theorem r_same1 (A B : List (List UInt8)) (x : ByteArray) (hl : A.length = B.length) (hb : A.length < 4611686018427387904) : ∀ (n i k : Nat), i + n = A.length → n < k → frisketref06_Write.l1 k (B.map ba) x (A.map ba) (i : Int) = some (if A.drop i = B.drop i then (if (x.size : Int) > 2000 then (⟨#[]⟩, 1) else (x, 0)) else (⟨#[]⟩, 4)) := by
 intro n
 induction n with
 | zero =>
  intro i k hi hk
  obtain ⟨k, rfl⟩ : ∃ k', k = k' + 1 := ⟨k - 1, by omega⟩
  rw [frisketref06_Write.l1, if_neg (by simp; omega), List.drop_of_length_le (by omega), List.drop_of_length_le (by omega), if_pos rfl]
  split <;> rfl
 | succ n ih =>
  intro i k hi hk
  obtain ⟨k, rfl⟩ : ∃ k', k = k' + 1 := ⟨k - 1, by omega⟩
  have ha : i < A.length := by omega
  have hb' : i < B.length := by omega
  rw [frisketref06_Write.l1, if_pos (by simp; omega), if_pos (by omega), if_pos (by simp; omega), rd_map A i ha, rd_map B i hb', ba_ls, ba_ls, wrap_small i (by omega), List.drop_eq_getElem_cons ha, List.drop_eq_getElem_cons hb']
  by_cases c : A[i] = B[i]
  ·rw [if_pos c, ih (i + 1) k (by omega) (by omega)]
   by_cases d : A.drop (i + 1) = B.drop (i + 1)
   ·rw [if_pos d, if_pos (show A[i] :: A.drop (i + 1) = B[i] :: B.drop (i + 1) by rw [c, d])]
   ·rw [if_neg d, if_neg (show ¬ A[i] :: A.drop (i + 1) = B[i] :: B.drop (i + 1) from fun e => d (by injection e))]
  ·rw [if_neg c, if_neg (show ¬ A[i] :: A.drop (i + 1) = B[i] :: B.drop (i + 1) from fun e => c (by injection e))]
theorem r_writ (n : List UInt8) (W : List (List UInt8)) (hW : ∀ a ∈ W, a.length < 10000) (hn : n.length < 10000) (hWl : W.length < 10000) (hB : ∀ m, (writ (W.take m)).length < 20000) : ∀ (d i k : Nat), i + d = W.length → 100000 + d < k →
  frisketref06_Write.l0 k (ba n) (W.map ba) (ba (writ (W.take i))) (i : Int) = some (wrt n W) := by
 intro d
 induction d with
 | zero =>
  intro i k hi hk
  obtain ⟨k, rfl⟩ : ∃ k', k = k' + 2 := ⟨k - 2, by omega⟩
  have hb := hB W.length
  rw [List.take_of_length_le (Nat.le_refl _)] at hb
  have e1 : (⟨#[46]⟩ : ByteArray) ++ ba n = ba (46 :: n) := ba_app [46] n
  rw [frisketref06_Write.l0, if_neg (by simp; omega), List.take_of_length_le (by omega), if_pos (by rw [ba_sz]; omega), e1, if_pos (by rw [ba_sz, ba_sz]; simp; omega), ba_app, ba_ls]
  unfold wrt wok
  by_cases h0 : n = []
  ·rw [if_pos h0, frisketref06_Write.j1, if_pos rfl]; simp [h0]
  ·rw [if_neg h0]
   unfold frisketref06_word.f
   have hw := r_word0 n (by omega) n [] 0 (k + 1) rfl rfl (by omega)
   rw [show ((0 : Nat) : Int) = 0 from rfl] at hw
   rw [hw]
   simp only [Option.bind_some]
   by_cases h1 : n.any blk = true
   ·have := any_take n h1
    rw [if_neg (by rw [ba_sz]; omega), frisketref06_Write.j1, if_pos rfl]; simp [h1]
   ·have h1' : n.any blk = false := by simpa using h1
    obtain ⟨x1, x2⟩ := take_nb n h1'
    rw [if_pos (by rw [ba_sz, x1]; omega)]
    unfold frisketref06_to.f
    obtain ⟨v, v1, v2⟩ := r_to0 (46 :: n ++ writ W) (by simp; omega) (46 :: n ++ writ W) 0 (k + 1) rfl (by omega) (by simp; omega)
    rw [show ((0 : Nat) : Int) = 0 from rfl] at v1
    rw [v1]
    simp only [Option.bind_some]
    have hnn : noNL (46 :: n ++ writ W) = (noNL n && noNL (writ W)) := by
     rw [show 46 :: n ++ writ W = [46] ++ (n ++ writ W) from rfl, noNL_app, noNL_app]; rfl
    rw [v2, hnn, frisketref06_Write.j1]
    cases h2 : noNL n with
    | false => simp
    | true =>
     cases h3 : noNL (writ W) with
     | false => simp
     | true =>
      rw [if_neg (by simp), r_words _ k (by omega) (by omega)]
      simp only [Option.bind_some]
      have hwl := words_len (writ W)
      by_cases c : words (writ W) = W
      ·have := r_same1 (words (writ W)) W (ba (46 :: n ++ writ W)) (by rw [c]) (by omega) (words (writ W)).length 0 k (by omega) (by omega)
       rw [show ((0 : Nat) : Int) = 0 from rfl] at this
       rw [if_pos (by simp [c]), this, ba_sz]
       simp only [List.drop_zero]
       rw [if_pos c]
       simp only [h0, h1', c, ne_eq, not_false_eq_true, decide_true, Bool.not_false, Bool.and_self, if_true]
       by_cases d : 1 + n.length + (writ W).length > 2000
       ·rw [if_pos d, if_pos (by simp; omega)]
       ·rw [if_neg d, if_neg (by simp; omega)]
      ·have fin : (if decide (n ≠ []) && (!n.any blk && (true && (true && decide (words (writ W) = W)))) then (if 1 + n.length + (writ W).length > 2000 then ((⟨#[]⟩ : ByteArray), (1 : Int)) else (ba (46 :: n ++ writ W), 0)) else (⟨#[]⟩, 4)) = ((⟨#[]⟩ : ByteArray), (4 : Int)) := by simp [c]
       rw [fin]
       by_cases l : (words (writ W)).length = W.length
       ·have := r_same1 (words (writ W)) W (ba (46 :: n ++ writ W)) l (by omega) (words (writ W)).length 0 k (by omega) (by omega)
        rw [show ((0 : Nat) : Int) = 0 from rfl] at this
        rw [if_pos (by simp; omega), this]
        simp only [List.drop_zero]
        rw [if_neg c]
       ·rw [if_neg (by simp; omega)]
 | succ d ih =>
  intro i k hi hk
  obtain ⟨k, rfl⟩ : ∃ k', k = k' + 1 := ⟨k - 1, by omega⟩
  have hlt : i < W.length := by omega
  have hb := hB i
  have hs := hW W[i] (List.getElem_mem hlt)
  have hsl := shown_len W[i]
  have e1 : ba (writ (W.take i)) ++ (⟨#[32]⟩ : ByteArray) = ba (writ (W.take i) ++ [32]) := ba_app _ [32]
  have e2 : writ (W.take i) ++ [32] ++ shownL W[i] = writ (W.take (i + 1)) := by rw [List.take_succ_eq_append_getElem hlt, writ_snoc]; simp
  rw [frisketref06_Write.l0, if_pos (by simp; omega), if_pos (by rw [ba_sz]; omega), if_pos (by omega), rd_map W i hlt, r_quoted _ (by omega) k (by omega)]
  simp only [Option.bind_some]
  rw [e1, if_pos (by rw [ba_sz, ba_sz]; simp; omega), ba_app, e2, wrap_small i (by omega), ih (i + 1) k (by omega) (by omega)]
theorem r_write (n : List UInt8) (W : List (List UInt8)) (hW : ∀ a ∈ W, a.length < 10000) (hn : n.length < 10000) (hWl : W.length < 10000) (hB : ∀ m, (writ (W.take m)).length < 20000) (k : Nat) (hk : 120000 < k) : frisketref06_Write.f k (ba n) (W.map ba) = some (wrt n W) := by
 unfold frisketref06_Write.f
 have := r_writ n W hW hn hWl hB W.length 0 k (by omega) (by omega)
 rw [show ((0 : Nat) : Int) = 0 from rfl] at this
 exact this
/-- The words of a line are not too long to be written. -/
theorem words_fit {r : List UInt8} (h : r.length ≤ 2000) : (∀ a ∈ words r, a.length < 10000) ∧ (words r).length < 10000 ∧ ∀ m, (writ ((words r).take m)).length < 20000 := by
 have h1 := words_sum r
 have h2 := words_len r
 refine ⟨fun a ha => by have := sum_mem ha; omega, by omega, fun m => ?_⟩
 have h3 := writ_len ((words r).take m)
 have h4 : sumLen ((words r).take m) ≤ sumLen (words r) := by
  unfold sumLen
  conv => rhs; rw [← List.take_append_drop m (words r), List.map_append, List.sum_append]
  omega
 have h5 : ((words r).take m).length ≤ (words r).length := by rw [List.length_take]; omega
 omega

/-! ### A line, and whether its words can be written -/
def knownB : ByteArray := ⟨#[98, 114, 32, 98, 112, 32, 115, 112, 32, 110, 101, 32, 112, 108, 32, 112, 111, 32, 108, 108, 32, 105, 110, 32, 116, 105, 32, 108, 116, 32, 118, 115, 32, 108, 115, 32, 112, 115, 32, 102, 116, 32, 102, 105, 32, 110, 102, 32, 97, 100, 32, 110, 97, 32, 99, 101, 32, 110, 115, 32, 114, 115, 32, 110, 114, 32, 97, 102, 32, 114, 114, 32, 114, 109, 32, 119, 104, 32, 99, 104, 32, 100, 116, 32, 105, 116, 32, 101, 109, 32, 101, 118, 32, 101, 118, 99, 32, 100, 105, 32, 100, 97, 32, 104, 121, 32, 110, 104, 32, 115, 115, 32, 108, 103, 32, 112, 99, 32, 110, 110, 32, 102, 108, 32, 116, 97]⟩
def knownL : List (List UInt8) := Lib.fields knownB.data.toList
theorem known_p : strings_Fields.f knownB = some (knownL.map ba) := by
 unfold strings_Fields.f
 rw [if_pos ⟨by decide +kernel, by decide +kernel, by decide +kernel⟩]; rfl
def sameLL : Option (List ByteArray) → List (List UInt8) → Bool
 | some a, b => decide (a.map (fun x : ByteArray => x.data.toList) = b)
 | none, _ => false
theorem known_r0 : sameLL (frisketref07_Cut.f 300 knownB 32) knownL = true := by decide +kernel
theorem known_r (k : Nat) (hk : 300 ≤ k) : frisketref07_Cut.f k knownB 32 = some (knownL.map ba) := by
 have h := known_r0
 cases hc : frisketref07_Cut.f 300 knownB 32 with
 | none => rw [hc] at h; cases h
 | some a =>
  rw [hc] at h
  have e : a.map (fun x : ByteArray => x.data.toList) = knownL := of_decide_eq_true h
  have : a = knownL.map ba := by
   rw [← e, List.map_map]
   have hid : (ba ∘ fun x : ByteArray => x.data.toList) = id := by funext x; exact ba_of x
   rw [hid, List.map_id]
  rw [← this]
  exact up' (f := fun k => frisketref07_Cut.f k knownB 32) (fun k => frisketref07_Cut.mono knownB 32 k) hc hk
theorem known_len : knownL.length < 100 := by decide +kernel
theorem known_ne : ([] : List UInt8) ∉ knownL := by decide +kernel
def lst (n : List UInt8) : Bool := knownL.any fun w => decide (n = w)
theorem idxLoop (W : List (List UInt8)) (n : List UInt8) (hW : W.length < 1000) : ∀ (d i k : Nat), i + d = W.length → d < k → ∃ v, slices_Index_string_string.l0 k (W.map ba) (ba n) (W.length : Int) (i : Int) = some v ∧ decide (v ≥ 0) = (W.drop i).any fun w => decide (n = w) := by
 intro d
 induction d with
 | zero =>
  intro i k hi hk
  obtain ⟨k, rfl⟩ : ∃ k', k = k' + 1 := ⟨k - 1, by omega⟩
  exact ⟨-1, by rw [slices_Index_string_string.l0, if_neg (by omega)], by rw [List.drop_of_length_le (by omega)]; rfl⟩
 | succ d ih =>
  intro i k hi hk
  obtain ⟨k, rfl⟩ : ∃ k', k = k' + 1 := ⟨k - 1, by omega⟩
  have ha : i < W.length := by omega
  rw [List.drop_eq_getElem_cons ha, List.any_cons]
  by_cases c : n = W[i]
  ·refine ⟨i, by rw [slices_Index_string_string.l0, if_pos (by omega), if_pos (by omega), if_pos (by simp; omega), rd_map W i ha, ba_ls, ba_ls, if_pos c], ?_⟩
   rw [decide_eq_true c, Bool.true_or]
   exact decide_eq_true (by omega)
  ·obtain ⟨v, v1, v2⟩ := ih (i + 1) k (by omega) (by omega)
   refine ⟨v, by rw [slices_Index_string_string.l0, if_pos (by omega), if_pos (by omega), if_pos (by simp; omega), rd_map W i ha, ba_ls, ba_ls, if_neg c, wrap_small i (by omega), v1], ?_⟩
   rw [v2, decide_eq_false c, Bool.false_or]
theorem p_lst (n : List UInt8) (k : Nat) (hk : 100 ≤ k) : slices_Contains_string_string.f k (knownL.map ba) (ba n) = some (lst n) := by
 have hl := known_len
 unfold slices_Contains_string_string.f slices_Index_string_string.f
 obtain ⟨v, v1, v2⟩ := idxLoop knownL n (by omega) knownL.length 0 k (by omega) (by omega)
 rw [show ((0 : Nat) : Int) = 0 from rfl] at v1
 rw [List.length_map, v1]
 simp only [Option.bind_some]
 rw [v2]; rfl
theorem lstLoop (W : List (List UInt8)) (n : List UInt8) (hW : W.length < 1000) : ∀ (d i k : Nat), i + d = W.length → d < k → frisketref37_listed.l0 k (ba n) (W.map ba) (i : Int) = some ((W.drop i).any fun w => decide (n = w)) := by
 intro d
 induction d with
 | zero =>
  intro i k hi hk
  obtain ⟨k, rfl⟩ : ∃ k', k = k' + 1 := ⟨k - 1, by omega⟩
  rw [frisketref37_listed.l0, if_neg (by simp; omega), List.drop_of_length_le (by omega)]; rfl
 | succ d ih =>
  intro i k hi hk
  obtain ⟨k, rfl⟩ : ∃ k', k = k' + 1 := ⟨k - 1, by omega⟩
  have ha : i < W.length := by omega
  rw [List.drop_eq_getElem_cons ha, List.any_cons, frisketref37_listed.l0, if_pos (by simp; omega), if_pos (by omega), rd_map W i ha, ba_ls, ba_ls]
  by_cases c : W[i] = n
  ·rw [if_pos c, decide_eq_true c.symm, Bool.true_or]
  ·rw [if_neg c, wrap_small i (by omega), ih (i + 1) k (by omega) (by omega), decide_eq_false (fun e => c e.symm), Bool.false_or]
theorem r_lst (n : List UInt8) (k : Nat) (hk : 300 ≤ k) : frisketref37_listed.f k (ba n) = some (lst n) := by
 have hl := known_len
 show (frisketref07_Cut.f k knownB 32).bind (fun t => frisketref37_listed.l0 k (ba n) t 0) = _
 rw [known_r k hk]
 simp only [Option.bind_some]
 have := lstLoop knownL n (by omega) knownL.length 0 k (by omega) (by omega)
 rw [show ((0 : Nat) : Int) = 0 from rfl] at this
 exact this

/-- What becomes of a line. -/
def lineL (x : List UInt8) : List UInt8 := match ctl x with
 | none => trimE x
 | some (c, n, r) => if n = [] then [c] else if lst n = true then (if wok n (words r) = true ∧ 1 + n.length + (writ (words r)).length ≤ 2000 then c :: (n ++ writ (words r)) else trimE (c :: (n ++ r))) else c :: (n ++ r)
def keptL (x : List UInt8) : Bool := match ctl x with
 | none => false
 | some (_, n, r) => lst n && !(wok n (words r) && decide (1 + n.length + (writ (words r)).length ≤ 2000))
theorem wrt_ok (n : List UInt8) (W : List (List UInt8)) : ((wrt n W).2 = 0 ↔ wok n W = true ∧ 1 + n.length + (writ W).length ≤ 2000) ∧ ((wrt n W).2 = 0 → (wrt n W).1 = ba (46 :: n ++ writ W)) := by
 unfold wrt
 by_cases c : wok n W = true
 ·rw [if_pos c]
  by_cases d : 1 + n.length + (writ W).length > 2000
  ·rw [if_pos d]
   exact ⟨⟨fun h => by simp at h, fun h => by omega⟩, fun h => by simp at h⟩
  ·rw [if_neg d]
   exact ⟨⟨fun _ => ⟨c, by omega⟩, fun _ => rfl⟩, fun _ => rfl⟩
 ·rw [if_neg c]
  exact ⟨⟨fun h => by simp at h, fun h => absurd h.1 c⟩, fun h => by simp at h⟩
theorem p_line (x : List UInt8) (hx : x.length ≤ 2000) (k : Nat) (hk : 130000 ≤ k) : tidy_line.f k (ba x) = some (ba (lineL x)) := by
 unfold tidy_line.f lineL
 rw [p_control]
 simp only [Option.bind_some]
 cases hc : ctl x with
 | none =>
  simp only [Option.isSome_none, Bool.false_eq_true, if_false]
  rw [p_trimmed x (by omega) k (by omega)]; rfl
 | some q =>
  obtain ⟨c, n, r⟩ := q
  obtain ⟨hl, _, _, _⟩ := ctl_parts hc
  obtain ⟨l, rfl, hC, hn, hr⟩ := ctl_some hc
  simp only [Option.isSome_some, if_true]
  have hx1 : (ba (c :: l)).extract 1 (ba (c :: l)).size = ba l := by rw [ba_ex, ba_sz]; simp
  have hx0 : (ba (c :: l)).extract 0 1 = ba [c] := by rw [ba_ex]; rfl
  have hsz : ((1 : Int) ≤ ((ba (c :: l)).size : Int)) := by rw [ba_sz]; simp; omega
  have hdl := drop_len l
  simp only [List.length_cons] at hx
  rw [if_pos hsz, hx1, p_trimL]
  simp only [Option.bind_some]
  rw [ba_ls]
  by_cases hb : l.dropWhile blk = []
  ·have hn0 : n = [] := by rw [hn, hb]; rfl
   rw [if_pos hb, if_pos (by decide), hx0, if_pos hn0]
  ·have hn0 : n ≠ [] := by
    intro e
    obtain ⟨b, t, hbt⟩ : ∃ b t, l.dropWhile blk = b :: t := by
     cases h : l.dropWhile blk with
     | nil => exact absurd h hb
     | cons b t => exact ⟨b, t, rfl⟩
    have hh := List.head_dropWhile_not (p := blk) (l := l) hb
    rw [hn] at e
    simp only [hbt, List.head_cons] at hh e
    rw [List.takeWhile_cons, if_pos (by simpa [nb] using hh)] at e
    cases e
   have hj : tidy_line.j0 k (ba (c :: l)) (ba n) (ba r) = some (ba (if lst n = true then (if wok n (words r) = true ∧ 1 + n.length + (writ (words r)).length ≤ 2000 then c :: (n ++ writ (words r)) else trimE (c :: (n ++ r))) else c :: (n ++ r))) := by
    obtain ⟨k, rfl⟩ : ∃ k', k = k' + 1 := ⟨k - 1, by omega⟩
    rw [tidy_line.j0]
    have hkn : strings_Fields.f (⟨#[98, 114, 32, 98, 112, 32, 115, 112, 32, 110, 101, 32, 112, 108, 32, 112, 111, 32, 108, 108, 32, 105, 110, 32, 116, 105, 32, 108, 116, 32, 118, 115, 32, 108, 115, 32, 112, 115, 32, 102, 116, 32, 102, 105, 32, 110, 102, 32, 97, 100, 32, 110, 97, 32, 99, 101, 32, 110, 115, 32, 114, 115, 32, 110, 114, 32, 97, 102, 32, 114, 114, 32, 114, 109, 32, 119, 104, 32, 99, 104, 32, 100, 116, 32, 105, 116, 32, 101, 109, 32, 101, 118, 32, 101, 118, 99, 32, 100, 105, 32, 100, 97, 32, 104, 121, 32, 110, 104, 32, 115, 115, 32, 108, 103, 32, 112, 99, 32, 110, 110, 32, 102, 108, 32, 116, 97]⟩ : ByteArray) = some (knownL.map ba) := known_p
    rw [hkn]
    simp only [Option.bind_some]
    rw [p_lst n k (by omega)]
    simp only [Option.bind_some]
    have hcat : (ba (c :: l)).extract 0 1 ++ ba n ++ ba r = ba (c :: (n ++ r)) := by rw [hx0, ba_app, ba_app]; simp
    by_cases hls : lst n = true
    ·have hrl : r.length ≤ 2000 := by simp at hl; omega
     obtain ⟨w1, w2, w3⟩ := words_fit hrl
     rw [if_pos hls, if_pos hls, p_words r k (by omega) (by omega)]
     simp only [Option.bind_some]
     rw [p_write n (words r) w1 (by simp at hl; omega) w2 w3 k (by omega)]
     simp only [Option.bind_some]
     obtain ⟨o1, o2⟩ := wrt_ok n (words r)
     by_cases h0 : (wrt n (words r)).2 = 0
     ·have hT := o2 h0
      have hT1 : ((wrt n (words r)).1).extract 1 (wrt n (words r)).1.size = ba (n ++ writ (words r)) := by rw [hT, ba_ex, ba_sz]; simp; exact List.take_of_length_le (by simp)
      rw [if_pos h0, if_pos (by decide), if_pos hsz, if_pos (by rw [hT, ba_sz]; simp; omega), hT1, hx0, if_pos (by rw [ba_sz, ba_sz]; have := (o1.1 h0).2; simp; omega), ba_app, if_pos (o1.1 h0)]; rfl
     ·rw [if_neg h0, if_pos (by decide), if_pos hsz, if_pos (by rw [hx0, ba_sz, ba_sz]; simp at hl ⊢; omega), if_pos (by rw [hx0, ba_app, ba_sz, ba_sz]; simp at hl ⊢; omega), hcat, p_trimmed _ (by simp at hl ⊢; omega) k (by simp at hl ⊢; omega), if_neg (fun e => h0 (o1.2 e))]; rfl
    ·rw [if_neg hls, if_neg hls, if_pos (by decide), if_pos hsz, if_pos (by rw [hx0, ba_sz, ba_sz]; simp at hl ⊢; omega), if_pos (by rw [hx0, ba_app, ba_sz, ba_sz]; simp at hl ⊢; omega), hcat]
   rw [if_neg hb, p_index _ (by omega), if_neg hn0]
   simp only [Option.bind_some]
   by_cases ha : (l.dropWhile blk).any blk = true
   ·have hlt := any_take _ ha
    obtain ⟨x1, x2⟩ := cut_eq2 (l.dropWhile blk)
    have hb1 : (ba (l.dropWhile blk)).extract 0 (((l.dropWhile blk).takeWhile nb).length : Int).toNat = ba n := by rw [ba_ex, Int.toNat_natCast, List.drop_zero, Nat.sub_zero, x1, hn]
    have hb2 : (ba (l.dropWhile blk)).extract (((l.dropWhile blk).takeWhile nb).length : Int).toNat (ba (l.dropWhile blk)).size = ba r := by
     rw [ba_ex, Int.toNat_natCast, ba_sz, x2, hr]
     congr 1
     rw [← x2]
     exact List.take_of_length_le (by simp)
    rw [if_pos ha, if_pos (by omega), if_pos (by omega), if_pos (by rw [ba_sz]; omega), hb1, hb2, hj]
   ·obtain ⟨x1, x2⟩ := take_nb _ (by simpa using ha)
    have hr0 : (⟨#[]⟩ : ByteArray) = ba r := by rw [hr, x2]
    have hn1 : ba (l.dropWhile blk) = ba n := by rw [hn, x1]
    rw [if_neg ha, if_neg (by decide), hr0, hn1, hj]
theorem r_kept (x : List UInt8) (hx : x.length ≤ 2000) (k : Nat) (hk : 130000 ≤ k) : frisketref37_Kept.f k (ba x) = some (keptL x) := by
 obtain ⟨k, rfl⟩ : ∃ k', k = k' + 1 := ⟨k - 1, by omega⟩
 unfold frisketref37_Kept.f keptL
 rw [r_control x (by omega) (k + 1) (by omega)]
 simp only [Option.bind_some]
 cases hc : ctl x with
 | none => simp only [Bool.false_eq_true, if_false]; rw [frisketref37_Kept.j0, if_pos rfl]
 | some q =>
  obtain ⟨c, n, r⟩ := q
  obtain ⟨hl, _, _, _⟩ := ctl_parts hc
  simp only [if_true]
  rw [r_lst n (k + 1) (by omega)]
  simp only [Option.bind_some]
  rw [frisketref37_Kept.j0]
  by_cases hls : lst n = true
  ·have hrl : r.length ≤ 2000 := by omega
   obtain ⟨w1, w2, w3⟩ := words_fit hrl
   rw [hls, if_neg (by simp), r_words r k (by omega) (by omega)]
   simp only [Option.bind_some]
   rw [r_write n (words r) w1 (by omega) w2 w3 k (by omega)]
   simp only [Option.bind_some]
   obtain ⟨o1, o2⟩ := wrt_ok n (words r)
   by_cases h0 : (wrt n (words r)).2 = 0
   ·have hT := o2 h0
    obtain ⟨hok, hlen⟩ := o1.1 h0
    have hww : words (writ (words r)) = words r := by
     unfold wok at hok
     simp only [Bool.and_eq_true, decide_eq_true_eq] at hok
     exact hok.2.2.2.2
    have hwr : wrap64 (1 + ((ba n).size : Int)) = ((1 + n.length : Nat) : Int) := by rw [ba_sz, wrapi _ (by omega)]; push_cast; rfl
    have hex : (ba (46 :: n ++ writ (words r))).extract (1 + n.length) (ba (46 :: n ++ writ (words r))).size = ba (writ (words r)) := by
     rw [ba_ex, ba_sz]
     have e1 : (46 :: n ++ writ (words r)).drop (1 + n.length) = writ (words r) := by
      rw [Nat.add_comm, List.cons_append, List.drop_succ_cons]; simp
     rw [e1]
     exact congrArg ba (List.take_of_length_le (by simp; omega))
    rw [if_pos h0, hT, hwr, if_pos (Int.natCast_nonneg _), if_pos (by rw [ba_sz]; simp; omega), Int.toNat_natCast, hex]
    clear hwr
    rw [r_words _ k (by omega) (by omega)]
    simp only [Option.bind_some]
    rw [hww, eq_r _ _ (by omega) k (by omega)]
    simp [hok, hlen]
   ·rw [if_neg h0]
    have : ¬ (wok n (words r) = true ∧ 1 + n.length + (writ (words r)).length ≤ 2000) := fun e => h0 (o1.2 e)
    congr 1
    by_cases c1 : wok n (words r) = true
    ·have c2 : ¬ 1 + n.length + (writ (words r)).length ≤ 2000 := fun e => this ⟨c1, e⟩
     rw [decide_eq_false c2]; simp
    ·have c3 : wok n (words r) = false := by simpa using c1
     rw [c3]; simp
  ·have hls' : lst n = false := by simpa using hls
   rw [hls', if_pos (by simp)]; simp

theorem isC_ne {c : UInt8} (h : isC c = true) : c ≠ 10 := by rintro rfl; cases h
theorem line_len (x : List UInt8) (hx : x.length ≤ 2000) : (lineL x).length ≤ 2000 := by
 unfold lineL
 cases hc : ctl x with
 | none => have := (trimE_prefix x).length_le; simp only; omega
 | some q =>
  obtain ⟨c, n, r⟩ := q
  obtain ⟨hl, _, _, _⟩ := ctl_parts hc
  simp only
  split
  ·simp
  ·split
   ·split
    ·rename_i h; simp; omega
    ·have := (trimE_prefix (c :: (n ++ r))).length_le; simp at this; omega
   ·simp; omega
theorem noNL_prefix {a b : List UInt8} (h : a <+: b) (hb : noNL b = true) : noNL a = true := by
 rw [noNL_mem] at hb ⊢
 exact fun x hx => hb x (h.subset hx)
theorem line_noNL (x : List UInt8) (hx : noNL x = true) : noNL (lineL x) = true := by
 have hx' := noNL_mem.1 hx
 unfold lineL
 cases hc : ctl x with
 | none => exact noNL_prefix (trimE_prefix x) hx
 | some q =>
  obtain ⟨c, n, r⟩ := q
  obtain ⟨hl, h1, h2, _⟩ := ctl_parts hc
  obtain ⟨l, rfl, hC, _, _⟩ := ctl_some hc
  have hall : noNL (c :: (n ++ r)) = true := by
   rw [noNL_mem]
   intro b hb
   rcases List.mem_cons.1 hb with rfl | hb
   ·exact isC_ne hC
   ·rcases List.mem_append.1 hb with hb | hb
    ·exact hx' b (h1 b hb).1
    ·exact hx' b (h2 b hb)
  simp only
  split
  ·rw [noNL_mem]; intro b hb; rw [List.mem_singleton.1 hb]; exact isC_ne hC
  ·split
   ·split
    ·rename_i hok
     have hk := hok.1
     unfold wok at hk
     simp only [Bool.and_eq_true] at hk
     rw [noNL_mem]
     intro b hb
     rcases List.mem_cons.1 hb with rfl | hb
     ·exact isC_ne hC
     ·rcases List.mem_append.1 hb with hb | hb
      ·exact noNL_mem.1 hk.2.2.1 b hb
      ·exact noNL_mem.1 hk.2.2.2.1 b hb
    ·exact noNL_prefix (trimE_prefix _) hall
   ·exact hall
/-- A line that can be written is tidy when it has been tidied. -/
theorem line_idem (x : List UInt8) (hk : keptL x = false) : lineL (lineL x) = lineL x := by
 unfold keptL at hk
 cases hc : ctl x with
 | none =>
  have e : lineL x = trimE x := by unfold lineL; rw [hc]
  have hc2 : ctl (trimE x) = none := by
   have hp := trimE_prefix x
   cases x with
   | nil => rw [List.prefix_nil.1 hp]; rfl
   | cons c l =>
    cases ht : trimE (c :: l) with
    | nil => rfl
    | cons d t =>
     rw [ht] at hp
     obtain ⟨rfl, _⟩ := List.cons_prefix_cons.1 hp
     rw [ctl] at hc ⊢
     split at hc
     ·cases hc
     ·rename_i h; rw [if_neg h]
  rw [e]
  unfold lineL
  rw [hc2]
  exact trimE_idem x
 | some q =>
  obtain ⟨c, n, r⟩ := q
  obtain ⟨hl, h1, h2, h3⟩ := ctl_parts hc
  obtain ⟨l, rfl, hC, _, _⟩ := ctl_some hc
  have hnb : ∀ b ∈ n, nb b = true := fun b hb => (h1 b hb).2
  rw [hc] at hk
  simp only at hk
  have e : lineL (c :: l) = (if n = [] then [c] else if lst n = true then (if wok n (words r) = true ∧ 1 + n.length + (writ (words r)).length ≤ 2000 then c :: (n ++ writ (words r)) else trimE (c :: (n ++ r))) else c :: (n ++ r)) := by unfold lineL; rw [hc]
  rw [e]
  by_cases hn : n = []
  ·rw [if_pos hn]
   unfold lineL
   have : ctl [c] = some (c, [], []) := by rw [ctl, if_pos hC]; rfl
   rw [this]; rfl
  ·rw [if_neg hn]
   by_cases hls : lst n = true
   ·rw [hls, Bool.true_and, Bool.not_eq_false', Bool.and_eq_true] at hk
    have hok : wok n (words r) = true ∧ 1 + n.length + (writ (words r)).length ≤ 2000 := ⟨hk.1, of_decide_eq_true hk.2⟩
    rw [if_pos hls, if_pos hok]
    have hww : words (writ (words r)) = words r := by
     have := hok.1
     unfold wok at this
     simp only [Bool.and_eq_true, decide_eq_true_eq] at this
     exact this.2.2.2.2
    have hcm : ctl (c :: (n ++ writ (words r))) = some (c, n, writ (words r)) := ctl_mk c n _ hC hnb hn (by
     cases hw : words r with
     | nil => exact .inl rfl
     | cons a W => exact .inr ⟨32, shownL a ++ writ W, by simp [writ], rfl⟩)
    unfold lineL
    rw [hcm]
    simp only
    rw [if_neg hn, if_pos hls, hww, if_pos hok]
   ·rw [if_neg hls]
    unfold lineL
    rw [ctl_mk c n r hC hnb hn h3]
    simp only
    rw [if_neg hn, if_neg hls]

def flatB (M : List ByteArray) : ByteArray := ⟨(flat (M.map (fun x : ByteArray => x.data.toList))).toArray⟩
theorem flat_len : ∀ M : List ByteArray, (∀ x ∈ M, x.size < 100000) → (flat (M.map (fun x : ByteArray => x.data.toList))).length ≤ 100001 * M.length
 | [], _ => by simp [flat]
 | x :: M, h => by
  have ih := flat_len M (fun y hy => h y (by simp [hy]))
  have hx := h x (by simp)
  rw [Lib.size_eq] at hx
  simp only [List.map_cons, flat_cons, List.length_append, List.length_cons] at ih ⊢
  omega

theorem pieces_no : ∀ (l : List UInt8), ∀ p ∈ pieces l, 10 ∉ p
 | [], p, h => by simp [pieces] at h; subst h; simp
 | b :: l, p, h => by
  obtain ⟨q, r, hq⟩ := pieces_ne l
  have ih := pieces_no l
  by_cases c : b = 10
  ·subst c
   rw [pieces_cons_eq] at h
   rcases List.mem_cons.1 h with rfl | h
   ·simp
   ·exact ih p h
  ·rw [pieces_cons_ne c hq] at h
   rw [hq] at ih
   rcases List.mem_cons.1 h with rfl | h
   ·intro e
    rcases List.mem_cons.1 e with e | e
    ·exact c e.symm
    ·exact ih q (by simp) e
   ·exact ih p (by simp [h])
theorem dropE_sub : ∀ (X : List (List UInt8)), ∀ p ∈ dropE X, p ∈ X
 | [], p, h => h
 | [x], p, h => by
  unfold dropE at h
  split at h
  ·cases h
  ·exact h
 | x :: y :: r, p, h => by
  rw [dropE] at h
  rcases List.mem_cons.1 h with rfl | h
  ·simp
  ·exact List.mem_cons_of_mem _ (dropE_sub (y :: r) p h)
theorem pieces_made : ∀ (Q : List (List UInt8)) (x : List UInt8), (∀ y ∈ Q, 10 ∉ y) → 10 ∉ x → pieces (flat Q ++ x) = Q ++ [x]
 | [], x, _, hx => by simpa [flat] using pieces_one x hx
 | y :: Q, x, h, hx => by
  rw [flat_cons, List.append_assoc, List.cons_append, pieces_app y _ (h y (by simp)), pieces_made Q x (fun z hz => h z (by simp [hz])) hx]; rfl
theorem dropE_le : ∀ X : List (List UInt8), (dropE X).length ≤ X.length
 | [] => Nat.le_refl _
 | [x] => by unfold dropE; split <;> simp
 | x :: y :: r => by
  have := dropE_le (y :: r)
  rw [dropE]; simp only [List.length_cons] at this ⊢; omega
/-- The lines of 'bits'. -/
def bitsL : List ByteArray := (frisketlaw37_bits.f).getD []
theorem bits_some : frisketlaw37_bits.f = some bitsL := rfl
theorem bits_len : bitsL.length = 49 := rfl
theorem bits_size : ∀ x ∈ bitsL, x.size ≤ 16 := by decide
theorem bits_no : ∀ x ∈ bitsL, 10 ∉ x.data.toList := by decide +kernel
theorem mem_any {l : List ByteArray} {p : ByteArray} (h : (l.any fun y => decide (y = p)) = true) : p ∈ l := by
 obtain ⟨y, hy, e⟩ := List.any_eq_true.1 h
 rw [← of_decide_eq_true e]; exact hy
theorem nilT : (⟨#[]⟩ : ByteArray).toList = [] := by rw [Lib.toList_data]
theorem bits_nil : (⟨#[]⟩ : ByteArray) ∈ bitsL := mem_any (by decide +kernel)

theorem mSane : frisketlaw37_sane.f 300 = some true := by decide +kernel

/-- The line of a number. -/
def bitOf (q : Int) : ByteArray := rdOf ByteArray.empty bitsL (wrap64 ((IntKind.u64.wrap q).tmod 49))
theorem pick49 (q : Int) : 0 ≤ wrap64 ((IntKind.u64.wrap q).tmod 49) ∧ wrap64 ((IntKind.u64.wrap q).tmod 49) < 49 := by
 have h : 0 ≤ IntKind.u64.wrap q := by simp [IntKind.wrap, IntKind.signed, IntKind.bits]; omega
 have h2 : (IntKind.u64.wrap q).tmod 49 = (IntKind.u64.wrap q) % 49 := Int.tmod_eq_emod_of_nonneg h
 rw [h2]
 have h3 : wrap64 ((IntKind.u64.wrap q) % 49) = (IntKind.u64.wrap q) % 49 := by
  have : 0 ≤ (IntKind.u64.wrap q) % 49 ∧ (IntKind.u64.wrap q) % 49 < 49 := by omega
  simp [wrap64, IntKind.wrap, IntKind.signed, IntKind.bits]; omega
 rw [h3]
 omega
theorem bitOf_mem (q : Int) : bitOf q ∈ bitsL := by
 obtain ⟨h0, h1⟩ := pick49 q
 unfold bitOf rdOf
 have : (wrap64 ((IntKind.u64.wrap q).tmod 49)).toNat < bitsL.length := by rw [bits_len]; omega
 rw [List.getD_eq_getElem?_getD, List.getElem?_eq_getElem this]
 exact List.getElem_mem _
theorem u64_49 : IntKind.u64.wrap 49 = 49 := by decide

/-- What a text is: lines with their ends, and a last one without. -/
def Made (t : ByteArray) : Prop := ∃ (Q : List ByteArray) (x : ByteArray), t.data.toList = flat (Q.map (fun x : ByteArray => x.data.toList)) ++ x.data.toList ∧ (∀ y ∈ Q, y ∈ bitsL) ∧ x ∈ bitsL ∧ Q.length ≤ 80 ∧ t.size ≤ 20 * 81
theorem made_done {s : ByteArray} {Q : List ByteArray} (h : s.data.toList = flat (Q.map (fun x : ByteArray => x.data.toList))) (hQ : ∀ y ∈ Q, y ∈ bitsL) (hl : Q.length ≤ 80) (hz : s.size ≤ 20 * 81) : Made s :=
 ⟨Q, ⟨#[]⟩, by rw [h]; simp, hQ, bits_nil, hl, hz⟩

theorem text_loop (l : List Int) : ∀ (n k i : Nat) (s : ByteArray) (Q : List ByteArray), i + n = min l.length 80 → 2 * n + 2 ≤ k → s.data.toList = flat (Q.map (fun x : ByteArray => x.data.toList)) → (∀ y ∈ Q, y ∈ bitsL) → Q.length = i → s.size ≤ 20 * i →
  ∃ t, frisketlaw37_Text.l0 k l bitsL s (i : Int) = some t ∧ Made t := by
 intro n
 induction n with
 | zero =>
  intro k i s Q hi hk hs hQ hQl hz
  obtain ⟨k, rfl⟩ : ∃ k', k = k' + 2 := ⟨k - 2, by omega⟩
  refine ⟨s, ?_, made_done hs hQ (by omega) (by omega)⟩
  rw [frisketlaw37_Text.l0]
  by_cases c : (i : Int) < (l.length : Int)
  ·rw [if_pos c, decide_eq_false (by omega), frisketlaw37_Text.j1, if_neg (by simp)]
  ·rw [if_neg c, frisketlaw37_Text.j1, if_neg (by simp)]
 | succ n ih =>
  intro k i s Q hi hk hs hQ hQl hz
  obtain ⟨k, rfl⟩ : ∃ k', k = k' + 2 := ⟨k - 2, by omega⟩
  obtain ⟨p0, p1⟩ := pick49 (rd l (i : Int))
  have hx := bitOf_mem (rd l (i : Int))
  have hxz := bits_size _ hx
  have hb : rdOf ByteArray.empty bitsL (wrap64 (Int.tmod (IntKind.u64.wrap (rd l (i : Int))) 49)) = bitOf (rd l (i : Int)) := rfl
  have hn : (⟨#[10]⟩ : ByteArray).size = 1 := rfl
  rw [frisketlaw37_Text.l0, if_pos (by omega), decide_eq_true (by omega), frisketlaw37_Text.j1, if_pos rfl, if_pos (by omega), if_pos (by omega), bits_len]
  rw [show ((49 : Nat) : Int) = 49 from rfl, u64_49, if_neg (by decide), if_pos p0, if_pos p1, hb]
  generalize bitOf (rd l (i : Int)) = x at hx hxz
  rw [if_pos (by omega), wrap_small i (by omega)]
  have hs2 : (s ++ x).size = s.size + x.size := ByteArray.size_append
  have hgo : ∃ t, frisketlaw37_Text.l0 k l bitsL ((s ++ x) ++ (⟨#[10]⟩ : ByteArray)) ((i + 1 : Nat) : Int) = some t ∧ Made t := by
   refine ih k (i + 1) _ (Q ++ [x]) (by omega) (by omega) ?_ ?_ (by simp [hQl]) ?_
   ·rw [ByteArray.data_append, ByteArray.data_append, Array.toList_append, Array.toList_append, hs, List.map_append, flat_append]
    simp [flat]
   ·intro y hy
    rcases List.mem_append.1 hy with hy | hy
    ·exact hQ y hy
    ·rw [List.mem_singleton.1 hy]; exact hx
   ·rw [ByteArray.size_append, hs2, hn]; omega
  by_cases c : ((i + 1 : Nat) : Int) < (l.length : Int)
  ·rw [if_pos c, if_pos (by omega)]; exact hgo
  ·rw [if_neg c]
   by_cases d : Int.tmod (rd l (i : Int)) 5 = 0
   ·rw [if_pos d]
    refine ⟨s ++ x, ?_, Q, x, ?_, hQ, hx, by omega, by omega⟩
    ·obtain ⟨k, rfl⟩ : ∃ k', k = k' + 2 := ⟨k - 2, by omega⟩
     rw [frisketlaw37_Text.l0, if_neg c, frisketlaw37_Text.j1, if_neg (by simp)]
    ·rw [ByteArray.data_append, Array.toList_append, hs]
   ·rw [if_neg d, if_pos (by omega)]; exact hgo
theorem text_made (l : List Int) (k : Nat) (hk : 200 ≤ k) : ∃ t, frisketlaw37_Text.f k l = some t ∧ Made t := by
 unfold frisketlaw37_Text.f
 rw [bits_some]
 simp only [Option.bind_some]
 exact text_loop l (min l.length 80) k 0 ⟨#[]⟩ [] (by omega) (by omega) (by simp [flat]) (by simp) rfl (by simp [ByteArray.size])


/-! ### Texts -/
theorem good_of {s : ByteArray} (hl : (plines s).any longB = false) : ∀ x ∈ plines s, GoodL x := by
 intro x hx
 have h1 := (List.any_eq_false.1 hl) x hx
 unfold plines at hx
 obtain ⟨l, hm, rfl⟩ := List.mem_map.1 hx
 refine ⟨l, rfl, ?_, ?_⟩
 ·have h2 : ¬ (ba l).size > 2000 := by simpa [longB] using h1
  rw [ba_sz] at h2; omega
 ·have := pieces_no _ l (dropE_sub _ l hm)
  rw [noNL_mem]
  intro b hb e
  subst e
  exact this hb
theorem lineB_good (K : Nat) (hK : 130000 ≤ K) {x : ByteArray} (hx : GoodL x) : tidy_line.f K x = some (lineB K x) ∧ GoodL (lineB K x) ∧ ∃ s : List UInt8, x = ba s ∧ lineB K x = ba (lineL s) := by
 obtain ⟨s, rfl, h2, h10⟩ := hx
 have h := p_line s h2 K hK
 have e : lineB K (ba s) = ba (lineL s) := by unfold lineB; rw [h]; rfl
 exact ⟨by rw [e]; exact h, by rw [e]; exact ⟨_, rfl, line_len s h2, line_noNL s h10⟩, s, rfl, e⟩
theorem becomes_good (K : Nat) (hK : 130000 ≤ K) : ∀ (ks : List Int) (L : List ByteArray), (∀ x ∈ L, GoodL x) → ∀ y ∈ becomes K ks L, GoodL y
 | [], [], _, y, hy => by cases hy
 | [], _ :: _, _, y, hy => by cases hy
 | _ :: _, [], _, y, hy => by cases hy
 | n :: ks, x :: L, h, y, hy => by
  rw [becomes] at hy
  rcases List.mem_cons.1 hy with rfl | hy
  ·split
   ·exact (lineB_good K hK (h x (by simp))).2.1
   ·exact h x (by simp)
  ·exact becomes_good K hK ks L (fun z hz => h z (by simp [hz])) y hy
theorem line_len5 (x : List UInt8) : (lineL x).length ≤ 5 * x.length := by
 unfold lineL
 cases hc : ctl x with
 | none => have := (trimE_prefix x).length_le; simp only; omega
 | some q =>
  obtain ⟨c, n, r⟩ := q
  obtain ⟨hl, _, _, _⟩ := ctl_parts hc
  simp only
  split
  ·simp; omega
  ·split
   ·split
    ·have h1 := writ_len (words r)
     have h2 := words_sum r
     have h3 := words_len r
     simp; omega
    ·have := (trimE_prefix (c :: (n ++ r))).length_le; simp at this; omega
   ·simp; omega
/-- How long lines are together, each with its end. -/
def total (M : List ByteArray) : Nat := (M.map fun x => x.size + 1).sum
theorem total_cons (x : ByteArray) (M : List ByteArray) : total (x :: M) = x.size + 1 + total M := by simp [total]
theorem flatB_size : ∀ M : List ByteArray, (flatB M).size = total M
 | [] => rfl
 | x :: M => by
  have ih := flatB_size M
  rw [total_cons, ← ih, Lib.size_eq x]
  show (ba (flat ((x :: M).map (fun x : ByteArray => x.data.toList)))).size = x.data.toList.length + 1 + (ba (flat (M.map (fun x : ByteArray => x.data.toList)))).size
  rw [ba_sz, ba_sz, List.map_cons, flat_cons]
  simp only [List.length_append, List.length_cons]
  omega
theorem total_becomes (K : Nat) (hK : 130000 ≤ K) : ∀ (ks : List Int) (L : List ByteArray), (∀ x ∈ L, GoodL x) → total (becomes K ks L) ≤ 5 * total L
 | [], [], _ => Nat.zero_le _
 | [], _ :: _, _ => Nat.zero_le _
 | _ :: _, [], _ => Nat.zero_le _
 | n :: ks, x :: L, h => by
  have ih := total_becomes K hK ks L (fun z hz => h z (by simp [hz]))
  rw [becomes, total_cons, total_cons]
  obtain ⟨_, _, s, h1, h2⟩ := lineB_good K hK (h x (by simp))
  have h5 := line_len5 s
  split
  ·rw [h2, h1, ba_sz, ba_sz]; omega
  ·omega
theorem pieces_total : ∀ l : List UInt8, ((pieces l).map fun p => p.length + 1).sum = l.length + 1
 | [] => rfl
 | b :: l => by
  have ih := pieces_total l
  obtain ⟨p, r, h⟩ := pieces_ne l
  by_cases c : b = 10
  ·subst c; rw [pieces_cons_eq, List.map_cons, List.sum_cons, ih]; simp; omega
  ·rw [pieces_cons_ne c h]
   rw [h] at ih
   simp only [List.map_cons, List.sum_cons, List.length_cons] at ih ⊢
   omega
theorem dropE_total : ∀ X : List (List UInt8), ((dropE X).map fun p => p.length + 1).sum ≤ (X.map fun p => p.length + 1).sum
 | [] => Nat.le_refl _
 | [x] => by unfold dropE; split <;> simp
 | x :: y :: r => by
  have := dropE_total (y :: r)
  rw [dropE]
  simp only [List.map_cons, List.sum_cons] at this ⊢
  omega
theorem plines_total (s : ByteArray) : total (plines s) ≤ s.size + 1 := by
 unfold total plines
 rw [List.map_map]
 have e : ((fun x : ByteArray => x.size + 1) ∘ fun l : List UInt8 => (⟨l.toArray⟩ : ByteArray)) = fun p : List UInt8 => p.length + 1 := by funext l; simp [Lib.size_mk]
 rw [e, Lib.size_eq, ← pieces_total]
 exact dropE_total _
theorem total_len : ∀ M : List ByteArray, M.length ≤ total M
 | [] => Nat.zero_le _
 | x :: M => by have := total_len M; rw [total_cons]; simp; omega
theorem plines_flat (M : List ByteArray) (hM : ∀ x ∈ M, GoodL x) : plines (flatB M) = M := by
 have h : linesL8 (flatB M).data.toList = M.map (fun x : ByteArray => x.data.toList) := by
  have e : (flatB M).data.toList = flat (M.map (fun x : ByteArray => x.data.toList)) ++ [] := by rw [List.append_nil]; rfl
  rw [linesL8, e, pieces_made _ [] (by
   intro y hy
   obtain ⟨z, hz, rfl⟩ := List.mem_map.1 hy
   obtain ⟨l, rfl, _, h10⟩ := hM z hz
   exact fun hm => noNL_mem.1 h10 10 hm rfl) (by simp), dropE_snoc]
 unfold plines
 rw [h, List.map_map]
 have hid : ((fun l : List UInt8 => (⟨l.toArray⟩ : ByteArray)) ∘ fun x : ByteArray => x.data.toList) = id := by funext x; exact ba_of x
 rw [hid, List.map_id]

/-- All that is told of a text without long lines. -/
structure TextT (K : Nat) (s : ByteArray) (ks : List Int) : Prop where
 len : ks.length = (plines s).length
 tidy : ∀ k', 350000 ≤ k' → tidy_Tidy.f k' s = some (flatB (becomes K ks (plines s)), 0)
 kinds : ∀ k', 350000 ≤ k' → tidy_Kinds.f k' s = some (ks, 0)
 rkinds : ∀ k', 350000 ≤ k' → frisketref37_Kinds.f k' s = some (ks, 0)
 rlines : ∀ k', 350000 ≤ k' → frisketref05_Lines.f k' s = some (plines s)
 changed : ∀ k', 350000 ≤ k' → tidy_Changed.f k' s = some (chg (plines s) (becomes K ks (plines s)) (plines s).length 0, 0)
theorem text_facts (s : ByteArray) (hs : s.size ≤ 60000) (hlong : (plines s).any longB = false) : ∃ ks, TextT 130000 s ks := by
 have hg := good_of hlong
 have htot := plines_total s
 have hlen := total_len (plines s)
 have hln : (plines s).length < 99999 := by omega
 obtain ⟨ks, hk1, hk2, hl⟩ := kinds_good 130000 (by decide) (plines s) hg
 have hp : ∀ x ∈ plines s, tidy_line.f 130000 x = some (lineB 130000 x) := fun x hx => (lineB_good 130000 (Nat.le_refl _) (hg x hx)).1
 have hsz : ∀ x ∈ becomes 130000 ks (plines s), x.size < 100000 := fun x hx => by
  obtain ⟨l, rfl, h2, _⟩ := becomes_good 130000 (Nat.le_refl _) ks _ hg x hx
  rw [ba_sz]; omega
 have hlines : tidy_lines.f s = some (plines s, true) := by rw [tidy_lines_eq s hs, hlong]; rfl
 have hpk : ∀ k', 130000 ≤ k' → tidy_kinds.f k' (plines s) = some ks := fun k' h => up' (tidy_kinds.mono _) (k := 130000) (by unfold tidy_kinds.f; rw [if_pos (by omega)]; exact hk1) h
 have hrk : ∀ k', 130000 ≤ k' → frisketref37_kinds.f k' (plines s) = some ks := fun k' h => up' (frisketref37_kinds.mono _) (k := 130000) (by unfold frisketref37_kinds.f; rw [if_pos (by omega)]; exact hk2) h
 have hread : ∀ k', 350000 ≤ k' → frisketref37_read.f k' s = some (plines s, 0) := fun k' h => read_eq s hs hlong k' (by omega) (by omega)
 have htid : ∀ k', 350000 ≤ k' → tidy_tidied.f k' (plines s) = some (becomes 130000 ks (plines s)) := fun k' h => by
  unfold tidy_tidied.f
  rw [hpk k' (by omega)]
  simp only [Option.bind_some]
  exact tidied_becomes 130000 (plines s) ks hl (by omega) hp (plines s).length 0 k' (by omega) (by omega)
 have hblen := becomes_len 130000 ks (plines s) hl
 refine ⟨ks, hl, ?_, ?_, ?_, ?_, ?_⟩
 ·intro k' h
  unfold tidy_Tidy.f
  rw [hlines]
  simp only [Option.bind_some, if_true]
  by_cases c : ((plines s).length : Int) = 0
  ·have e : plines s = [] := List.eq_nil_of_length_eq_zero (by omega)
   have e2 : ks = [] := List.eq_nil_of_length_eq_zero (by rw [hl]; omega)
   rw [if_pos c, e, e2]; rfl
  ·rw [if_neg c, htid k' h]
   simp only [Option.bind_some]
   have hfl := flat_len (becomes 130000 ks (plines s)) hsz
   obtain ⟨m, M, hM⟩ : ∃ m M, becomes 130000 ks (plines s) = m :: M := by
    cases hM : becomes 130000 ks (plines s) with
    | nil => rw [hM] at hblen; simp at hblen; omega
    | cons m M => exact ⟨m, M, rfl⟩
   have hj := join_flat m.data.toList (M.map (fun x : ByteArray => x.data.toList))
   rw [hM] at hfl ⊢
   have hjl : (Lib.join ((m :: M).map (·.data.toList)) [10]).length + 1 ≤ 100001 * (m :: M).length := by
    have h2 := congrArg List.length hj
    simp only [List.length_append, List.length_cons, List.length_nil] at h2
    simp only [List.map_cons] at hfl ⊢
    omega
   have hml : (m :: M).length < 99999 := by rw [← hM, hblen]; exact hln
   have hjo : strings_Join.f (m :: M) (⟨#[10]⟩ : ByteArray) = some ⟨(Lib.join ((m :: M).map (·.data.toList)) [10]).toArray⟩ := by
    unfold strings_Join.f
    rw [if_pos ⟨by omega, by show (Lib.join ((m :: M).map (·.data.toList)) [10]).length ≤ _; omega⟩]
   rw [hjo]
   simp only [Option.bind_some]
   have he : (⟨(Lib.join ((m :: M).map (·.data.toList)) [10]).toArray⟩ : ByteArray) ++ (⟨#[10]⟩ : ByteArray) = flatB (m :: M) := by
    apply ByteArray.ext
    apply Array.toList_inj.1
    rw [ByteArray.data_append, Array.toList_append]
    exact hj
   rw [he, if_pos]
   show (Lib.join ((m :: M).map (·.data.toList)) [10]).toArray.size + 1 ≤ _
   simp only [List.size_toArray]
   omega
 ·intro k' h
  unfold tidy_Kinds.f
  rw [hlines]
  simp only [Option.bind_some, if_true]
  rw [hpk k' (by omega)]; rfl
 ·intro k' h
  unfold frisketref37_Kinds.f
  rw [hread k' h]
  simp only [Option.bind_some, if_true]
  rw [hrk k' (by omega)]; rfl
 ·intro k' h
  exact refLines_eq s (by omega) k' (by omega)
 ·intro k' h
  unfold tidy_Changed.f
  rw [hlines]
  simp only [Option.bind_some, if_true]
  rw [htid k' h]
  simp only [Option.bind_some]
  exact tidyChanged_loop (plines s) (by omega) _ hblen (plines s).length 0 k' [] (by omega) (by omega) (by simp)
theorem text_long (s : ByteArray) (hs : s.size ≤ 60000) (hlong : (plines s).any longB = true) (k : Nat) : tidy_Tidy.f k s = some (⟨#[]⟩, 1) := by
 unfold tidy_Tidy.f
 rw [tidy_lines_eq s hs, hlong]; rfl

/-! ### The law -/
theorem numbers_dec (a b : List Int) (h : a.length = b.length) (hl : a.length < 4611686018427387904) : ∀ n i k, i + n = a.length → n < k → frisketlaw37_numbers.l0 k a b i = some (decide (a.drop i = b.drop i)) := by
 intro n
 induction n with
 | zero =>
  intro i k hi hk
  obtain ⟨k, rfl⟩ : ∃ k', k = k' + 1 := ⟨k - 1, by omega⟩
  rw [frisketlaw37_numbers.l0, if_neg (by omega), List.drop_of_length_le (by omega), List.drop_of_length_le (by omega)]; simp
 | succ n ih =>
  intro i k hi hk
  obtain ⟨k, rfl⟩ : ∃ k', k = k' + 1 := ⟨k - 1, by omega⟩
  have ha : i < a.length := by omega
  have hb : i < b.length := by omega
  have r1 : rd a (i : Int) = a[i] := by simp [rd, ha]
  have r2 : rd b (i : Int) = b[i] := by simp [rd, hb]
  rw [frisketlaw37_numbers.l0, if_pos (by omega), if_pos (by omega), if_pos (by omega), r1, r2, wrap_small i (by omega), List.drop_eq_getElem_cons ha, List.drop_eq_getElem_cons hb]
  by_cases c : a[i] = b[i]
  ·rw [if_pos c, ih (i + 1) k (by omega) (by omega), c]
   congr 1
   exact decide_eq_decide.2 ⟨fun e => by rw [e], fun e => by injection e⟩
  ·rw [if_neg c]
   congr 1
   exact (decide_eq_false (fun e => c (by injection e))).symm
theorem numbers_f (a b : List Int) (hl : a.length < 4611686018427387904) (k : Nat) (hk : a.length < k) : frisketlaw37_numbers.f k a b = some (decide (a = b)) := by
 unfold frisketlaw37_numbers.f
 by_cases c : a.length = b.length
 ·rw [if_pos (by omega)]
  exact numbers_dec a b c hl a.length 0 k (by omega) hk
 ·rw [if_neg (by omega)]
  have : a ≠ b := fun e => c (by rw [e])
  simp [this]
/-- Lines by the rules: none has words that cannot be written. -/
def CanW (ks : List Int) (L : List ByteArray) (i : Nat) : Prop := ∀ j, i ≤ j → ∀ (h1 : j < ks.length) (h2 : j < L.length), ks[j] = 0 → keptL L[j].data.toList = false
theorem again_loop (ks ms : List Int) (L : List ByteArray) (hg : ∀ x ∈ L, GoodL x) (hl : ks.length = L.length) (hL : L.length < 100000) :
  ∀ n i k, i + n = L.length → 500000 + 2 * n < k → ∃ b, frisketlaw37_again.l0 k ks ms L (i : Int) = some b ∧ (b = true → CanW ks L i ∧ ks = ms) := by
 intro n
 induction n with
 | zero =>
  intro i k hi hk
  obtain ⟨k, rfl⟩ : ∃ k', k = k' + 2 := ⟨k - 2, by omega⟩
  rw [frisketlaw37_again.l0, if_neg (by omega), frisketlaw37_again.j1, if_neg (by simp), numbers_f ks ms (by omega) k (by omega)]
  exact ⟨_, rfl, fun h => ⟨fun j h1 h2 h3 => by omega, of_decide_eq_true h⟩⟩
 | succ n ih =>
  intro i k hi hk
  obtain ⟨k, rfl⟩ : ∃ k', k = k' + 2 := ⟨k - 2, by omega⟩
  have hlt : i < L.length := by omega
  have hkl : i < ks.length := by omega
  have hrd : rdOf ByteArray.empty L (i : Int) = L[i] := by simp [rdOf, hlt]
  have hrk : rd ks (i : Int) = ks[i] := by simp [rd, hkl]
  obtain ⟨b, b1, b2⟩ := ih (i + 1) k (by omega) (by omega)
  rw [frisketlaw37_again.l0, if_pos (by omega), decide_eq_true (by omega), frisketlaw37_again.j1, if_pos rfl, if_pos (by omega), if_pos (by omega), hrk, hrd, wrap_small i (by omega)]
  by_cases c : ks[i] = 0
  ·rw [if_pos c, if_pos (by omega)]
   obtain ⟨s, hs, h2, h10⟩ := hg L[i] (List.getElem_mem hlt)
   have hk1 := r_kept s h2 k (by omega)
   rw [← hs] at hk1
   rw [hk1]
   simp only [Option.bind_some]
   cases hkp : keptL s with
   | true => exact ⟨false, by rw [if_pos rfl], fun h => by cases h⟩
   | false =>
    refine ⟨b, by rw [if_neg (by simp), b1], fun h => ?_⟩
    obtain ⟨c1, c2⟩ := b2 h
    refine ⟨fun j hj h1 h2 h3 => ?_, c2⟩
    by_cases e : j = i
    ·subst e
     have : L[j].data.toList = s := by rw [hs]
     rw [this]; exact hkp
    ·exact c1 j (by omega) h1 h2 h3
  ·refine ⟨b, by rw [if_neg c, b1], fun h => ?_⟩
   obtain ⟨c1, c2⟩ := b2 h
   refine ⟨fun j hj h1 h2 h3 => ?_, c2⟩
   by_cases e : j = i
   ·subst e; exact absurd h3 c
   ·exact c1 j (by omega) h1 h2 h3
/-- Lines that can be written are tidy when they have been tidied. -/
theorem becomes_idem (K : Nat) (hK : 130000 ≤ K) : ∀ (ks : List Int) (L : List ByteArray), ks.length = L.length → (∀ x ∈ L, GoodL x) → CanW ks L 0 → becomes K ks (becomes K ks L) = becomes K ks L
 | [], [], _, _, _ => rfl
 | n :: ks, x :: L, hl, hg, hc => by
  simp at hl
  have hc2 : CanW ks L 0 := fun j _ h1 h2 h3 => hc (j + 1) (by omega) (by simpa using h1) (by simpa using h2) (by simpa using h3)
  have ih := becomes_idem K hK ks L hl (fun y hy => hg y (by simp [hy])) hc2
  rw [becomes, becomes, ih]
  by_cases c : n = 0
  ·rw [if_pos c, if_pos c]
   obtain ⟨_, hg2, s, h1, h2⟩ := lineB_good K hK (hg x (by simp))
   obtain ⟨_, _, t, h3, h4⟩ := lineB_good K hK hg2
   have hk : keptL s = false := by
    have := hc 0 (by omega) (by simp) (by simp) c
    rw [List.getElem_cons_zero, h1] at this
    exact this
   have e : t = lineL s := ba_inj (h3.symm.trans h2)
   rw [h4, h2, e, line_idem s hk]
  ·rw [if_neg c, if_neg c]
theorem chg_mem (L M : List ByteArray) : ∀ n i, ∀ e ∈ chg L M n i, ∃ j : Nat, e = (j : Int) ∧ i ≤ j ∧ j < i + n ∧ M.getD j ByteArray.empty ≠ L.getD j ByteArray.empty
 | 0, i, e, h => by cases h
 | n + 1, i, e, h => by
  rw [chg] at h
  split at h
  ·obtain ⟨j, h1, h2, h3, h4⟩ := chg_mem L M n (i + 1) e h
   exact ⟨j, h1, by omega, by omega, h4⟩
  ·rename_i hne
   rcases List.mem_cons.1 h with rfl | h
   ·exact ⟨i, rfl, by omega, by omega, fun e => hne (by rw [e])⟩
   ·obtain ⟨j, h1, h2, h3, h4⟩ := chg_mem L M n (i + 1) e h
    exact ⟨j, h1, by omega, by omega, h4⟩
theorem chg_self (L : List ByteArray) : ∀ n i, chg L L n i = []
 | 0, _ => rfl
 | n + 1, i => by rw [chg, if_pos rfl, chg_self L n (i + 1)]
/-- What was changed was a line by the rules. -/
theorem check_loop (K : Nat) (x5 : List ByteArray) (x6 : Int) (ks : List Int) (L : List ByteArray) (hl : ks.length = L.length) (C : List Int) (hC : ∀ e ∈ C, ∃ j : Nat, e = (j : Int) ∧ j < L.length ∧ (becomes K ks L).getD j ByteArray.empty ≠ L.getD j ByteArray.empty) (hCl : C.length < 100000) (B : Nat)
  (hnext : ∀ k', B ≤ k' → frisketlaw37_TidyTwice.l0 k' x5 (wrap64 (x6 + 1)) = some true) :
  ∀ n i k, i + n = C.length → B + n < k → frisketlaw37_TidyTwice.l1 k x5 x6 ks C (i : Int) = some true := by
 intro n
 induction n with
 | zero =>
  intro i k hi hk
  obtain ⟨k, rfl⟩ : ∃ k', k = k' + 1 := ⟨k - 1, by omega⟩
  rw [frisketlaw37_TidyTwice.l1, if_neg (by omega)]
  exact hnext k (by omega)
 | succ n ih =>
  intro i k hi hk
  obtain ⟨k, rfl⟩ : ∃ k', k = k' + 1 := ⟨k - 1, by omega⟩
  have hlt : i < C.length := by omega
  have hr : rd C (i : Int) = C[i] := by simp [rd, hlt]
  obtain ⟨j, h1, h2, h3⟩ := hC C[i] (List.getElem_mem hlt)
  have hj : j < ks.length := by omega
  have hk0 : ks[j] = 0 := by
   apply Classical.byContradiction
   intro hne
   apply h3
   have hm : j < (becomes K ks L).length := by rw [becomes_len K ks L hl]; omega
   have := becomes_get K ks L hl j h2 hj hm
   rw [if_neg hne] at this
   rw [List.getD_eq_getElem?_getD, List.getD_eq_getElem?_getD, List.getElem?_eq_getElem hm, List.getElem?_eq_getElem h2, this]
  have hrk : rd ks (j : Int) = 0 := by simp [rd, hj, hk0]
  rw [frisketlaw37_TidyTwice.l1, if_pos (by omega), if_pos (by omega), hr, h1, if_neg (by omega), if_neg (by omega), if_pos (by omega), if_pos (by omega), if_pos hrk, wrap_small i (by omega), ih (i + 1) k (by omega) (by omega)]

theorem round_true (x5 : List ByteArray) (i : Nat) (hx5 : x5.length = 2) (hi : i < 2) (hs : (x5[i]'(by omega)).size ≤ 3000) (B : Nat) (hB : 1000000 ≤ B) (hnext : ∀ k', B ≤ k' → frisketlaw37_TidyTwice.l0 k' x5 ((i + 1 : Nat) : Int) = some true) (k : Nat) (hk : B + 200000 < k) : frisketlaw37_TidyTwice.l0 k x5 (i : Int) = some true := by
 obtain ⟨k, rfl⟩ : ∃ k', k = k' + 3 := ⟨k - 3, by omega⟩
 have hlt : i < x5.length := by omega
 have hrd : rdOf ByteArray.empty x5 (i : Int) = x5[i] := by simp [rdOf, hlt]
 generalize hse : x5[i] = s at hs hrd
 have hw : wrap64 ((i : Int) + 1) = ((i + 1 : Nat) : Int) := wrap_small i (by omega)
 have hnext2 : ∀ k', B ≤ k' → frisketlaw37_TidyTwice.l0 k' x5 (wrap64 ((i : Int) + 1)) = some true := fun k' h => by rw [hw]; exact hnext k' h
 rw [frisketlaw37_TidyTwice.l0, if_pos (by omega), if_pos (by omega), if_pos (by omega), hrd]
 cases hlong : (plines s).any longB with
 | true =>
  obtain ⟨p, P1, P2⟩ : ∃ p : ByteArray × Int, tidy_Tidy.f (k + 2) s = some p ∧ ¬ p.2 = 0 := ⟨_, text_long s (by omega) hlong _, by decide⟩
  rw [P1]
  simp only [Option.bind_some]
  rw [if_neg P2]
  exact hnext2 _ (by omega)
 | false =>
  obtain ⟨ks, F⟩ := text_facts s (by omega) hlong
  have hg := good_of hlong
  have hgM := becomes_good 130000 (Nat.le_refl _) ks (plines s) hg
  have hpl := plines_flat _ hgM
  have htot := plines_total s
  have htb := total_becomes 130000 (Nat.le_refl _) ks (plines s) hg
  have hln := total_len (plines s)
  have hblen := becomes_len 130000 ks (plines s) F.len
  have hasz : (flatB (becomes 130000 ks (plines s))).size ≤ 60000 := by rw [flatB_size]; omega
  have hlongA : (plines (flatB (becomes 130000 ks (plines s)))).any longB = false := by
   rw [hpl, List.any_eq_false]
   intro x hx
   obtain ⟨l, rfl, h2, _⟩ := hgM x hx
   simp only [longB, decide_eq_true_eq]
   rw [ba_sz]; omega
  obtain ⟨ms, G⟩ := text_facts _ hasz hlongA
  obtain ⟨p, P1, P2, P3⟩ : ∃ p : ByteArray × Int, tidy_Tidy.f (k + 2) s = some p ∧ p.2 = 0 ∧ p.1 = flatB (becomes 130000 ks (plines s)) := ⟨_, F.tidy _ (by omega), rfl, rfl⟩
  generalize haE : flatB (becomes 130000 ks (plines s)) = a at *
  obtain ⟨q, Q1, Q2, Q3⟩ : ∃ q : ByteArray × Int, tidy_Tidy.f (k + 2) a = some q ∧ q.2 = 0 ∧ q.1 = flatB (becomes 130000 ms (plines a)) := ⟨_, G.tidy _ (by omega), rfl, rfl⟩
  rw [P1]
  simp only [Option.bind_some]
  rw [if_pos P2, P3, Q1]
  simp only [Option.bind_some]
  have hag : ∃ b, frisketlaw37_again.f (k + 2) s a = some b ∧ (b = true → CanW ks (plines s) 0 ∧ ks = ms) := by
   unfold frisketlaw37_again.f
   rw [F.rkinds _ (by omega), G.rkinds _ (by omega), F.rlines _ (by omega)]
   simp only [Option.bind_some]
   exact again_loop ks ms (plines s) hg F.len (by omega) (plines s).length 0 (k + 2) (by omega) (by omega)
  obtain ⟨b, hb1, hb2⟩ := hag
  rw [hb1]
  simp only [Option.bind_some]
  rw [if_pos Q2]
  have hlenA : ((plines a).length : Int) = ((plines s).length : Int) := by rw [hpl, hblen]
  have hfin : ∀ (hch : b = true → chg (plines a) (becomes 130000 ms (plines a)) (plines a).length 0 = []), frisketlaw37_TidyTwice.j1 (k + 2) x5 (i : Int) a b (((plines a).length : Int) != ((plines s).length : Int)) = some true := by
   intro hch
   have e : (((plines a).length : Int) != ((plines s).length : Int)) = false := by rw [hlenA]; simp
   obtain ⟨u, U1, U2, U3⟩ : ∃ u : List Int × Int, tidy_Kinds.f (k + 1) s = some u ∧ u.2 = 0 ∧ u.1 = ks := ⟨_, F.kinds _ (by omega), rfl, rfl⟩
   obtain ⟨v, V1, V2, V3⟩ : ∃ v : List Int × Int, tidy_Changed.f (k + 1) s = some v ∧ v.2 = 0 ∧ v.1 = chg (plines s) (becomes 130000 ks (plines s)) (plines s).length 0 := ⟨_, F.changed _ (by omega), rfl, rfl⟩
   obtain ⟨z, Z1, Z2, Z3⟩ : ∃ z : List Int × Int, tidy_Changed.f (k + 1) a = some z ∧ z.2 = 0 ∧ z.1 = chg (plines a) (becomes 130000 ms (plines a)) (plines a).length 0 := ⟨_, G.changed _ (by omega), rfl, rfl⟩
   rw [e, frisketlaw37_TidyTwice.j1, if_neg (by simp), if_pos (by omega), if_pos (by omega), hrd, U1, V1, Z1]
   simp only [Option.bind_some]
   rw [if_pos U2, if_pos V2, if_pos Z2, U3, V3, Z3]
   have hcl := chg_len (plines s) (becomes 130000 ks (plines s)) (plines s).length 0
   have hend : frisketlaw37_TidyTwice.j2 (k + 1) x5 (i : Int) ks (chg (plines s) (becomes 130000 ks (plines s)) (plines s).length 0) false = some true := by
    rw [frisketlaw37_TidyTwice.j2, if_neg (by simp)]
    refine check_loop 130000 x5 (i : Int) ks (plines s) F.len _ (fun e he => ?_) (by omega) B hnext2 (chg (plines s) (becomes 130000 ks (plines s)) (plines s).length 0).length 0 k (by omega) (by omega)
    obtain ⟨j, h1, h2, h3, h4⟩ := chg_mem _ _ _ _ e he
    exact ⟨j, h1, by omega, h4⟩
   by_cases hb : b = true
   ·have e2 : ((([] : List Int).length : Int) != 0) = false := rfl
    rw [if_pos hb, hch hb, e2]
    exact hend
   ·rw [if_neg hb]; exact hend
  by_cases hb : b = true
  ·obtain ⟨hc, hks⟩ := hb2 hb
   have hid := becomes_idem 130000 (Nat.le_refl _) ks (plines s) F.len hg hc
   rw [if_pos hb]
   have hsame : q.1 = a := by rw [Q3, hpl, ← hks, hid, haE]
   rw [hsame, if_pos rfl, G.rlines _ (by omega), F.rlines _ (by omega)]
   simp only [Option.bind_some]
   exact hfin (fun _ => by rw [hpl, ← hks, hid]; exact chg_self _ _ _)
  ·rw [if_neg hb, G.rlines _ (by omega), F.rlines _ (by omega)]
   simp only [Option.bind_some]
   exact hfin (fun h => absurd h hb)
theorem twice_true (l : List Int) (s : ByteArray) (k : Nat) (hk : 2000000 < k) : frisketlaw37_TidyTwice.f k l s = some true := by
 have hsane : ∀ k', 300 ≤ k' → frisketlaw37_sane.f k' = some true := fun k' h => up' (f := fun k => frisketlaw37_sane.f k) frisketlaw37_sane.mono mSane h
 unfold frisketlaw37_TidyTwice.f
 by_cases c : (s.size : Int) > 3000
 ·rw [if_pos c]
  rw [hsane k (by omega)]; rfl
 ·rw [if_neg c]
  obtain ⟨t, h1, h2⟩ := text_made l k (by omega)
  obtain ⟨Q, x, _, _, _, _, hz⟩ := h2
  rw [h1]
  simp only [Option.bind_some]
  have end2 : ∀ k', 1000000 ≤ k' → frisketlaw37_TidyTwice.l0 k' [t, s] ((1 + 1 : Nat) : Int) = some true := fun k' h => by
   obtain ⟨k', rfl⟩ : ∃ k2, k' = k2 + 1 := ⟨k' - 1, by omega⟩
   rw [frisketlaw37_TidyTwice.l0, if_neg (by decide)]
   rw [hsane k' (by omega)]; rfl
  have r1 : ∀ k', 1200001 ≤ k' → frisketlaw37_TidyTwice.l0 k' [t, s] ((0 + 1 : Nat) : Int) = some true := fun k' h =>
   round_true [t, s] 1 rfl (by omega) (by show s.size ≤ 3000; omega) 1000000 (Nat.le_refl _) end2 k' (by omega)
  exact round_true [t, s] 0 rfl (by omega) (by show t.size ≤ 3000; omega) 1200001 (by omega) r1 k (by omega)
/-- What the program answers. -/
theorem twice_calls (A0 : Option Addr) (c0 : Nat) (l0 : List Int) (a1 : ByteArray) (w : World) (hr0 : Kd.C (Kd.int .i64) w A0 l0.length l0) (hc0 : l0.length ≤ c0) (hv_ : LaidV w) :
  Calls Tryz.prog 4 #[.slice A0 l0.length c0, .string a1] w fun e w' => e = .returned (.bool true) ∧ Below w.heap.size w w' :=
 frisketlaw37_TidyTwice.calls _ A0 c0 l0 a1 true w hr0 hc0 hv_ (twice_true l0 a1 2000001 (by omega))
end Go.Proofs.YtghlfhgmnhhmnaaGreatDoor.QTidy
