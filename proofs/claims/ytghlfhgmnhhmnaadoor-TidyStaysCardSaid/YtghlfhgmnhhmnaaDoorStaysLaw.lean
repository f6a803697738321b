/-
  frisketlaw37.TidyStays: the plain law: Tidy of the text is the text.
-/
import Derived.Test.YtghlfhgmnhhmnaaDoorStays
import Derived.Test.YtghlfhgmnhhmnaaDoorPieces
namespace Go.Proofs.YtghlfhgmnhhmnaaDoor.QTidy
open Go.RowKit Go.Proofs.YtghlfhgmnhhmnaaDoorW.PrintWords Go.Proofs.YtghlfhgmnhhmnaaDoorW.PrintLast Go.Proofs.YtghlfhgmnhhmnaaDoorW.PrintMore
set_option linter.unusedVariables false
set_option linter.unusedSimpArgs false

/-- The reader's state behind a beginning; the kind of what stands there. -/
def stOf (p : ByteArray × ByteArray) : ByteArray × ByteArray × Bool := match stepF 100 p.1 ⟨#[]⟩ ⟨#[]⟩ false with
  | some r => r.2
  | none => (⟨#[]⟩, ⟨#[]⟩, false)
def knOf (p : ByteArray × ByteArray) : Int := if (stOf p).2.2 = true then 1 else 2

theorem ck_begin : ∀ p ∈ pairsL, stepF 100 p.1 ⟨#[]⟩ ⟨#[]⟩ false = some (0, stOf p) := by decide +kernel
theorem ck_jbegin : ∀ p ∈ pairsL, tidy_joins.f p.1 = some false := by decide +kernel
theorem ck_jend : ∀ p ∈ pairsL, tidy_joins.f p.2 = some false := by decide +kernel
theorem ck_end : ∀ p ∈ pairsL, (stepF 100 p.2 (stOf p).1 (stOf p).2.1 (stOf p).2.2).map (·.1) = some 0 := by decide +kernel
theorem ck_mid : ∀ p ∈ pairsL, ∀ x ∈ bitsL, skipB p.2 x = false → tidy_joins.f x = some false ∧ stepF 100 x (stOf p).1 (stOf p).2.1 (stOf p).2.2 = some (knOf p, stOf p) := by decide +kernel
theorem ck_line : ∀ p ∈ pairsL, tidy_line.f 100 p.1 = some p.1 ∧ tidy_line.f 100 p.2 = some p.2 := by decide +kernel
theorem ck_no : ∀ p ∈ pairsL, 10 ∉ p.1.data.toList ∧ 10 ∉ p.2.data.toList := by decide +kernel
theorem ck_bno : ∀ x ∈ bitsL, 10 ∉ x.data.toList := by decide +kernel
theorem ck_sane : frisketlaw37_sane.f 100 = some true := by decide +kernel

/-- The lines of the text. -/
def keptL (p2 : ByteArray) (l : List Int) : List ByteArray := (l.map bitOf).filter fun x => !skipB p2 x
def linesL (p : ByteArray × ByteArray) (l : List Int) : List ByteArray := p.1 :: (keptL p.2 (l.take 40) ++ [p.2])

theorem stay_flat (p2 : ByteArray) : ∀ (l : List Int) (s : ByteArray), (stayB p2 s l).data.toList = s.data.toList ++ flat ((keptL p2 l).map (·.data.toList))
  | [], s => by simp [stayB, keptL, flat]
  | q :: l, s => by
    have ih := stay_flat p2 l (stepB p2 s q)
    rw [stayB, List.foldl_cons]
    rw [stayB] at ih
    rw [ih]
    unfold stepB keptL
    cases c : skipB p2 (bitOf q)
    · simp [c, flat]
    · simp [c]
theorem text_flat (p : ByteArray × ByteArray) (l : List Int) : (staysText p l).data.toList = flat ((linesL p l).map (·.data.toList)) := by
  unfold staysText linesL
  have h := stay_flat p.2 (l.take 40) (p.1 ++ (⟨#[10]⟩ : ByteArray))
  simp only [ByteArray.data_append, Array.toList_append, h, List.map_cons, List.map_append, flat_cons, flat_append, List.map_nil, flat_nil]
  simp
theorem stay_size (p2 : ByteArray) : ∀ (l : List Int) (s : ByteArray), (stayB p2 s l).size ≤ s.size + 17 * l.length
  | [], s => by simp [stayB]
  | q :: l, s => by
    have ih := stay_size p2 l (stepB p2 s q)
    rw [stayB, List.foldl_cons]
    rw [stayB] at ih
    have h1 : (stepB p2 s q).size ≤ s.size + 17 := by
      have hb := bitOf_size q
      unfold stepB
      split
      · omega
      · rw [ByteArray.size_append, ByteArray.size_append]; have : (⟨#[10]⟩ : ByteArray).size = 1 := rfl; omega
    simp only [List.length_cons]
    omega
theorem text_size (p : ByteArray × ByteArray) (hp : p ∈ pairsL) (l : List Int) : (staysText p l).size ≤ 1000 := by
  have h := stay_size p.2 (l.take 40) (p.1 ++ (⟨#[10]⟩ : ByteArray))
  have h2 := pairs_size p hp
  have h3 : (l.take 40).length ≤ 40 := by simp; omega
  have h4 : (⟨#[10]⟩ : ByteArray).size = 1 := rfl
  unfold staysText
  simp only [ByteArray.size_append] at h ⊢
  omega
theorem kept_mem {p2 : ByteArray} {l : List Int} {x : ByteArray} (h : x ∈ keptL p2 l) : x ∈ bitsL ∧ skipB p2 x = false := by
  unfold keptL at h
  simp at h
  obtain ⟨⟨q, _, rfl⟩, h2⟩ := h
  exact ⟨bitOf_mem q, h2⟩

theorem ba_map (l : List ByteArray) : (l.map (·.data.toList)).map (fun l => (⟨l.toArray⟩ : ByteArray)) = l := by
  rw [List.map_map]
  exact (List.map_congr_left (fun x _ => by obtain ⟨⟨l⟩⟩ := x; rfl)).trans (List.map_id _)
theorem text_cut (p : ByteArray × ByteArray) (hp : p ∈ pairsL) (l : List Int) : cutLines (staysText p l) = linesL p l := by
  have h := cut_flat p.1.data.toList (((keptL p.2 (l.take 40)) ++ [p.2]).map (fun x : ByteArray => x.data.toList)) (ck_no p hp).1 (fun y hy => by
    simp only [List.map_append, List.map_cons, List.map_nil, List.mem_append, List.mem_map, List.mem_singleton] at hy
    rcases hy with ⟨x, hx, rfl⟩ | rfl
    · exact ck_bno x (kept_mem hx).1
    · exact (ck_no p hp).2) (staysText p l) (text_flat p l)
  rw [h]
  exact ba_map (linesL p l)

/-- The kinds. -/
theorem kinds_mid (p : ByteArray × ByteArray) (hp : p ∈ pairsL) : ∀ L : List ByteArray, (∀ x ∈ L, x ∈ bitsL ∧ skipB p.2 x = false) → kindsL 100 (L ++ [p.2]) false (stOf p).1 (stOf p).2.1 (stOf p).2.2 = some (L.map (fun _ => knOf p) ++ [0])
  | [], _ => by
    obtain ⟨r, hr, hr0⟩ := Option.map_eq_some_iff.1 (ck_end p hp)
    simp [kindsL, ck_jend p hp, hr, hr0]
  | x :: L, h => by
    have ih := kinds_mid p hp L (fun y hy => h y (by simp [hy]))
    obtain ⟨h1, h2⟩ := ck_mid p hp x (h x (by simp)).1 (h x (by simp)).2
    rw [List.cons_append, kindsL, h1]
    simp [h2, ih]
theorem kinds_text (p : ByteArray × ByteArray) (hp : p ∈ pairsL) (l : List Int) : kindsL 100 (linesL p l) false ⟨#[]⟩ ⟨#[]⟩ false = some (0 :: ((keptL p.2 (l.take 40)).map (fun _ => knOf p) ++ [0])) := by
  unfold linesL
  rw [kindsL, ck_jbegin p hp]
  simp [ck_begin p hp, kinds_mid p hp _ (fun x hx => kept_mem hx)]

theorem up {α : Type} {f : Nat → Option α} (hm : ∀ k, LeO (f k) (f (k + 1))) {r : α} {k : Nat} (h : f k = some r) : ∀ d, f (k + d) = some r
  | 0 => h
  | d + 1 => hm (k + d) r (up hm h d)
theorem up' {α : Type} {f : Nat → Option α} (hm : ∀ k, LeO (f k) (f (k + 1))) {r : α} {k k' : Nat} (h : f k = some r) (hk : k ≤ k') : f k' = some r := by
  have := up hm h (k' - k)
  rwa [show k + (k' - k) = k' by omega] at this

/-- A text whose lines stay. -/
theorem tidied_same (L : List ByteArray) (ks : List Int) (hl : ks.length = L.length) (hL : L.length < 1000) (hs : ∀ j, (h : j < L.length) → rd ks (j : Int) = 0 → tidy_line.f 100 L[j] = some L[j]) :
    ∀ n i k, i + n = L.length → 101 + n ≤ k → tidy_tidied.l0 k L (L.take i) ks (ks.length : Int) i = some L := by
  intro n
  induction n with
  | zero =>
    intro i k hi hk
    obtain ⟨k, rfl⟩ : ∃ k', k = k' + 1 := ⟨k - 1, by omega⟩
    rw [tidy_tidied.l0, if_neg (by omega), List.take_of_length_le (by omega)]
  | succ n ih =>
    intro i k hi hk
    obtain ⟨k, rfl⟩ : ∃ k', k = k' + 1 := ⟨k - 1, by omega⟩
    have hlt : i < L.length := by omega
    have hrd : rdOf ByteArray.empty L (i : Int) = L[i] := by simp [rdOf, hlt]
    have hw : wrap64 ((i : Int) + 1) = ((i + 1 : Nat) : Int) := by simp [wrap64, IntKind.wrap, IntKind.signed, IntKind.bits]; omega
    have htk : L.take i ++ [L[i]] = L.take (i + 1) := (List.take_succ_eq_append_getElem hlt).symm
    have hln : (L.take i).length < 8796093022208 := by simp; omega
    have ih' := ih (i + 1) k (by omega) (by omega)
    rw [tidy_tidied.l0, if_pos (by omega), if_pos (by omega), if_pos (by omega)]
    by_cases c : rd ks (i : Int) = 0
    · rw [if_pos c, if_pos (by omega), hrd, up' (tidy_line.mono _) (hs i hlt c) (show 100 ≤ k by omega)]
      simp only [Option.bind_some]
      rw [if_pos hln, hw, htk, ih']
    · rw [if_neg c, if_pos (by omega), if_pos hln, hw, hrd, htk, ih']

theorem tidy_same (K : Nat) (hK : 300 ≤ K) (p : ByteArray × ByteArray) (hp : p ∈ pairsL) (l : List Int) : tidy_Tidy.f K (staysText p l) = some (staysText p l, 0) := by
  have hsz := text_size p hp l
  have hfl := text_flat p l
  have hcut := text_cut p hp l
  have hno : ¬ (staysText p l).toList = [] := by
    rw [Lib.toList_data, hfl]
    simp [linesL, flat]
  have hkl : (keptL p.2 (l.take 40)).length ≤ 40 := by
    unfold keptL
    refine Nat.le_trans (List.length_filter_le _ _) ?_
    simp; omega
  have hlen : (linesL p l).length = (keptL p.2 (l.take 40)).length + 2 := by simp [linesL]
  have hlong : (linesL p l).any longB = false := by
    rw [List.any_eq_false]
    intro x hx
    have h1 := pairs_size p hp
    unfold linesL at hx
    simp only [List.mem_cons, List.mem_append, List.mem_singleton, List.not_mem_nil, or_false] at hx
    have h2 : x.size ≤ 16 := by
      rcases hx with rfl | hx | rfl
      · omega
      · exact bits_size x (kept_mem hx).1
      · omega
    simp [longB]; omega
  have hlines : tidy_lines.f (staysText p l) = some (linesL p l, true) := by
    unfold tidy_lines.f
    rw [if_neg (by omega), if_neg hno, hcut, hlong]; rfl
  have hkinds : tidy_kinds.f K (linesL p l) = some (0 :: ((keptL p.2 (l.take 40)).map (fun _ => knOf p) ++ [0])) := by
    refine up' (tidy_kinds.mono _) (k := 100) ?_ (by omega)
    unfold tidy_kinds.f
    rw [if_pos (by omega), kinds_text p hp l]
  have hkn : knOf p ≠ 0 := by unfold knOf; split <;> decide
  have htid : tidy_tidied.f K (linesL p l) = some (linesL p l) := by
    unfold tidy_tidied.f
    rw [hkinds]
    simp only [Option.bind_some]
    refine tidied_same (linesL p l) _ (by simp [linesL]) (by omega) ?_ (linesL p l).length 0 K (by omega) (by omega)
    intro j hj hr
    have h1 := ck_line p hp
    cases j with
    | zero =>
      have he : (linesL p l)[0] = p.1 := rfl
      rw [he]; exact h1.1
    | succ j =>
      by_cases hjl : j < (keptL p.2 (l.take 40)).length
      · exfalso
        apply hkn
        simpa [rd, List.getElem?_append, hjl] using hr
      · have hje : j = (keptL p.2 (l.take 40)).length := by omega
        subst hje
        have he : (linesL p l)[(keptL p.2 (l.take 40)).length + 1] = p.2 := by simp [linesL]
        rw [he]; exact h1.2
  have hjoin : Lib.join ((linesL p l).map (·.data.toList)) [10] ++ [10] = (staysText p l).data.toList := by
    rw [hfl]; exact join_flat _ _
  have hjl : (Lib.join ((linesL p l).map (·.data.toList)) [10]).length + 1 = (staysText p l).size := by
    rw [Lib.size_eq, ← hjoin]; simp
  have hj : strings_Join.f (linesL p l) (⟨#[10]⟩ : ByteArray) = some ⟨(Lib.join ((linesL p l).map (·.data.toList)) [10]).toArray⟩ := by
    unfold strings_Join.f
    rw [if_pos ⟨by omega, by show (Lib.join ((linesL p l).map (·.data.toList)) [10]).length ≤ _; omega⟩]
  unfold tidy_Tidy.f
  rw [hlines]
  simp only [Option.bind_some, if_true]
  rw [if_neg (by rw [hlen]; omega), htid]
  simp only [Option.bind_some]
  rw [hj]
  simp only [Option.bind_some]
  have he : (⟨(Lib.join ((linesL p l).map (·.data.toList)) [10]).toArray⟩ : ByteArray) ++ (⟨#[10]⟩ : ByteArray) = staysText p l := by
    apply ByteArray.ext
    apply Array.toList_inj.1
    rw [← hjoin, ByteArray.data_append, Array.toList_append]
  rw [he, if_pos]
  show (Lib.join ((linesL p l).map (·.data.toList)) [10]).toArray.size + 1 ≤ _
  simp only [List.size_toArray]
  omega

/-- What the program answers. -/
theorem stays_calls (A0 : Option Addr) (c0 : Nat) (l0 : List Int) (block : Int) (w : World) (hr0 : Kd.C (Kd.int .i64) w A0 l0.length l0) (hc0 : l0.length ≤ c0) (hv_ : LaidV w) :
    Calls Tryd.prog 3 #[.slice A0 l0.length c0, .int .i64 block] w fun e w' => e = .returned (.bool true) ∧ Below w.heap.size w w' :=
  stays_walk A0 c0 l0 block w hr0 hc0 hv_ 300 100 (fun p hp => tidy_same 300 (Nat.le_refl _) p hp l0) ck_sane
end Go.Proofs.YtghlfhgmnhhmnaaDoor.QTidy
