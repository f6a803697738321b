/-
  'same' answers true for a text on whose lines the program and the reference agree. Conditions: those of 'same_true'.
-/
import Derived.Test.YtghlfhgmnhhmnaaGreatDoorRefLaw
namespace Go.Proofs.YtghlfhgmnhhmnaaGreatDoor.QTidy
open Go.RowKit Go.Proofs.YtghlfhgmnhhmnaaGreatDoorW.PrintWords Go.Proofs.YtghlfhgmnhhmnaaGreatDoorW.PrintLast Go.Proofs.YtghlfhgmnhhmnaaGreatDoorW.PrintMore
set_option linter.unusedVariables false
set_option linter.unusedSimpArgs false

def flatB (M : List ByteArray) : ByteArray := ⟨(flat (M.map (fun x : ByteArray => x.data.toList))).toArray⟩
theorem strOf_flat : ∀ M : List ByteArray, strOfNums (M.flatMap (fun x => bytesOf x ++ [10])) = flatB M
  | [] => rfl
  | x :: M => by
    have ih := congrArg (fun b : ByteArray => b.data.toList) (strOf_flat M)
    apply ByteArray.ext
    apply Array.toList_inj.1
    simp only [strOfNums_data, flatB, List.toList_toArray] at ih ⊢
    rw [List.flatMap_cons, List.map_append, ih, List.map_cons, flat_cons, List.map_append]
    have h1 : (bytesOf x).map (fun n : Int => UInt8.ofNat n.toNat) = x.data.toList := by
      simp [bytesOf, Function.comp_def]
    rw [h1]
    simp
theorem flat_len : ∀ M : List ByteArray, (∀ x ∈ M, x.size < 100000) → (flat (M.map (fun x : ByteArray => x.data.toList))).length ≤ 100001 * M.length
  | [], _ => by simp [flat]
  | x :: M, h => by
    have ih := flat_len M (fun y hy => h y (by simp [hy]))
    have hx := h x (by simp)
    rw [Lib.size_eq] at hx
    simp only [List.map_cons, flat_cons, List.length_append, List.length_cons] at ih ⊢
    omega

theorem index_no {l : List UInt8} {c : UInt8} (h : c ∉ l) : Lib.indexByte l c = -1 := by
  induction l with
  | nil => rfl
  | cons b l ih =>
    have h1 : b ≠ c := fun e => h (by simp [e])
    rw [Lib.indexByte, if_neg (by simpa using h1), ih (fun e => h (by simp [e]))]; rfl
theorem index_yes {l : List UInt8} {c : UInt8} (h : c ∈ l) : 0 ≤ Lib.indexByte l c := by
  induction l with
  | nil => cases h
  | cons b l ih =>
    rw [Lib.indexByte]
    by_cases e : b = c
    · rw [if_pos (by simpa using e)]; exact Int.le_refl 0
    · have h1 := ih (by rcases List.mem_cons.1 h with h | h; exact absurd h.symm e; exact h)
      rw [if_neg (by simpa using e), if_neg (by intro x; have := beq_iff_eq.1 x; omega)]
      omega
theorem pieces_no : ∀ (l : List UInt8), ∀ p ∈ pieces l, 10 ∉ p
  | [], p, h => by simp [pieces] at h; subst h; simp
  | b :: l, p, h => by
    obtain ⟨q, r, hq⟩ := pieces_ne l
    have ih := pieces_no l
    by_cases c : b = 10
    · subst c
      rw [pieces_cons_eq] at h
      rcases List.mem_cons.1 h with rfl | h
      · simp
      · exact ih p h
    · rw [pieces_cons_ne c hq] at h
      rw [hq] at ih
      rcases List.mem_cons.1 h with rfl | h
      · intro e
        rcases List.mem_cons.1 e with e | e
        · exact c e.symm
        · exact ih q (by simp) e
      · exact ih p (by simp [h])
theorem dropE_sub : ∀ (X : List (List UInt8)), ∀ p ∈ dropE X, p ∈ X
  | [], p, h => h
  | [x], p, h => by
    unfold dropE at h
    split at h
    · cases h
    · exact h
  | x :: y :: r, p, h => by
    rw [dropE] at h
    rcases List.mem_cons.1 h with rfl | h
    · simp
    · exact List.mem_cons_of_mem _ (dropE_sub (y :: r) p h)
theorem dropE_ne {x : List UInt8} {r : List (List UInt8)} (h : x ≠ []) : dropE (x :: r) ≠ [] := by
  cases r with
  | nil => rw [dropE, if_neg h]; simp
  | cons y r => rw [dropE]; simp
theorem lines_ne {s : List UInt8} (h : s ≠ []) : linesL8 s ≠ [] := by
  cases s with
  | nil => exact absurd rfl h
  | cons b l =>
    obtain ⟨p, r, hp⟩ := pieces_ne l
    unfold linesL8
    by_cases c : b = 10
    · subst c; rw [pieces_cons_eq, hp, dropE]; simp
    · rw [pieces_cons_ne c hp]; exact dropE_ne (by simp)
theorem lines_one {s : List UInt8} (h : s ≠ []) (hn : 10 ∉ s) : linesL8 s = [s] := by
  rw [linesL8, pieces_one s hn, dropE, if_neg h]

/-- Line. -/
theorem line_same (K k : Nat) (hk : K ≤ k) (s : ByteArray) (hs : s.size ≤ 60000) (hk2 : s.size + (plines s).length < k) (hln : (plines s).length < 100000) (hlong : (plines s).any longB = false)
    (hline : (s.toList = [] ∨ s ∈ plines s) → tidy_line.f K s = some (lineB K s) ∧ frisketref37_line.f K s = some (lineB K s)) :
    ∃ y e, tidy_Line.f k s = some (y, e) ∧ frisketref37_Line.f k s = some (y, e) := by
  have hread := read_eq s hs hlong k hk2 (by omega)
  have hC : strings_Contains.f s (⟨#[10]⟩ : ByteArray) = some (decide (0 ≤ Lib.indexByte s.data.toList 10)) := rfl
  by_cases h0 : s.toList = []
  · obtain ⟨l1, l2⟩ := hline (.inl h0)
    have hpl := plines_nil s h0
    have hd : s.data.toList = [] := by rw [← Lib.toList_data]; exact h0
    have hsz : s.size = 0 := by rw [Lib.size_eq, hd]; rfl
    refine ⟨lineB K s, 0, ?_, ?_⟩
    · unfold tidy_Line.f
      rw [if_neg (by omega), hC, hd]
      simp [Lib.indexByte, up' (tidy_line.mono _) l1 hk]
    · unfold frisketref37_Line.f
      rw [hread, hpl]
      simp [h0, up' (frisketref37_line.mono _) l2 hk]
  · have hd : s.data.toList ≠ [] := by rw [← Lib.toList_data]; exact h0
    by_cases h1 : 10 ∈ s.data.toList
    · refine ⟨⟨#[]⟩, 1, ?_, ?_⟩
      · unfold tidy_Line.f
        by_cases hz : (s.size : Int) > 2000
        · rw [if_pos hz]
        · rw [if_neg hz, hC, decide_eq_true (index_yes h1)]; rfl
      · unfold frisketref37_Line.f
        rw [hread]
        simp only [Option.bind_some, if_true]
        have hne : plines s ≠ [] := by
          intro e
          apply lines_ne hd
          unfold plines at e
          exact List.map_eq_nil_iff.1 e
        match hp : plines s with
        | [] => exact absurd hp hne
        | [x] =>
          rw [if_neg (by simp), if_pos (by simp), if_pos (by simp)]
          have hx : x ∈ plines s := by rw [hp]; simp
          rw [plines] at hx
          obtain ⟨l, hl, rfl⟩ := List.mem_map.1 hx
          have hno := pieces_no _ l (dropE_sub _ l hl)
          have hrd : rdOf ByteArray.empty [(⟨l.toArray⟩ : ByteArray)] 0 = ⟨l.toArray⟩ := rfl
          rw [hrd, if_neg]
          intro e
          rw [Lib.toList_data, Lib.toList_data] at e
          apply hno
          have e2 : l = s.data.toList := by simpa using e
          rw [e2]; exact h1
        | x :: y :: r => rw [if_pos (by simp; omega)]
    · have hpl : plines s = [s] := by
        rw [plines, lines_one hd h1]
        simp [ba_mk]
      obtain ⟨l1, l2⟩ := hline (.inr (by rw [hpl]; simp))
      have hz : ¬ (s.size : Int) > 2000 := by
        rw [hpl] at hlong
        simp [longB] at hlong
        omega
      refine ⟨lineB K s, 0, ?_, ?_⟩
      · unfold tidy_Line.f
        rw [if_neg hz, hC, index_no h1]
        simp [up' (tidy_line.mono _) l1 hk]
      · unfold frisketref37_Line.f
        rw [hread, hpl]
        simp only [Option.bind_some, if_true]
        rw [if_neg (by simp), if_pos (by simp), if_pos (by simp), if_pos (by rfl), if_neg (by simp), up' (frisketref37_line.mono _) l2 hk]; rfl

/-- All that 'same' compares. -/
theorem same_true (K k : Nat) (s : ByteArray) (ks : List Int) (hs : s.size ≤ 60000) (hln : (plines s).length < 99999) (hk : K + 200010 ≤ k) (hlong : (plines s).any longB = false)
    (hk1 : kindsL K (plines s) false ⟨#[]⟩ ⟨#[]⟩ false = some ks) (hk2 : kindsR K (plines s) false 0 ⟨#[]⟩ = some ks) (hl : ks.length = (plines s).length)
    (hp : ∀ x ∈ plines s, tidy_line.f K x = some (lineB K x)) (hr : ∀ x ∈ plines s, frisketref37_line.f K x = some (lineB K x))
    (hsz : ∀ x ∈ becomes K ks (plines s), x.size < 100000)
    (hline : (s.toList = [] ∨ s ∈ plines s) → tidy_line.f K s = some (lineB K s) ∧ frisketref37_line.f K s = some (lineB K s)) : frisketlaw37_same.f (k + 3) s = some true := by
  have hlines : tidy_lines.f s = some (plines s, true) := by rw [tidy_lines_eq s hs, hlong]; rfl
  have hpk : ∀ k', K ≤ k' → tidy_kinds.f k' (plines s) = some ks := fun k' h => up' (tidy_kinds.mono _) (k := K) (by unfold tidy_kinds.f; rw [if_pos (by omega)]; exact hk1) h
  have hrk : ∀ k', K ≤ k' → frisketref37_kinds.f k' (plines s) = some ks := fun k' h => up' (frisketref37_kinds.mono _) (k := K) (by unfold frisketref37_kinds.f; rw [if_pos (by omega)]; exact hk2) h
  have hread : ∀ k', K + 200010 ≤ k' → frisketref37_read.f k' s = some (plines s, 0) := fun k' h => read_eq s hs hlong k' (by omega) (by omega)
  have htid : ∀ k', K + 200010 ≤ k' → tidy_tidied.f k' (plines s) = some (becomes K ks (plines s)) := fun k' h => by
    unfold tidy_tidied.f
    rw [hpk k' (by omega)]
    simp only [Option.bind_some]
    exact tidied_becomes K (plines s) ks hl (by omega) hp (plines s).length 0 k' (by omega) (by omega)
  have hblen := becomes_len K ks (plines s) hl
  have hT1 : ∀ k', K + 200010 ≤ k' → tidy_Tidy.f k' s = some (flatB (becomes K ks (plines s)), 0) := fun k' h => by
    unfold tidy_Tidy.f
    rw [hlines]
    simp only [Option.bind_some, if_true]
    by_cases c : ((plines s).length : Int) = 0
    · have e : plines s = [] := List.eq_nil_of_length_eq_zero (by omega)
      have e2 : ks = [] := List.eq_nil_of_length_eq_zero (by rw [hl]; omega)
      rw [if_pos c, e, e2]; rfl
    · rw [if_neg c, htid k' h]
      simp only [Option.bind_some]
      have hfl := flat_len (becomes K ks (plines s)) hsz
      obtain ⟨m, M, hM⟩ : ∃ m M, becomes K ks (plines s) = m :: M := by
        cases hM : becomes K ks (plines s) with
        | nil => rw [hM] at hblen; simp at hblen; omega
        | cons m M => exact ⟨m, M, rfl⟩
      have hj := join_flat m.data.toList (M.map (fun x : ByteArray => x.data.toList))
      rw [hM] at hfl ⊢
      have hjl : (Lib.join ((m :: M).map (·.data.toList)) [10]).length + 1 ≤ 100001 * (m :: M).length := by
        have h2 := congrArg List.length hj
        simp only [List.length_append, List.length_cons, List.length_nil] at h2
        simp only [List.map_cons] at hfl ⊢
        omega
      have hml : (m :: M).length < 99999 := by rw [← hM, hblen]; exact hln
      have hjo : strings_Join.f (m :: M) (⟨#[10]⟩ : ByteArray) = some ⟨(Lib.join ((m :: M).map (·.data.toList)) [10]).toArray⟩ := by
        unfold strings_Join.f
        rw [if_pos ⟨by omega, by show (Lib.join ((m :: M).map (·.data.toList)) [10]).length ≤ _; omega⟩]
      rw [hjo]
      simp only [Option.bind_some]
      have he : (⟨(Lib.join ((m :: M).map (·.data.toList)) [10]).toArray⟩ : ByteArray) ++ (⟨#[10]⟩ : ByteArray) = flatB (m :: M) := by
        apply ByteArray.ext
        apply Array.toList_inj.1
        rw [ByteArray.data_append, Array.toList_append]
        exact hj
      rw [he, if_pos]
      show (Lib.join ((m :: M).map (·.data.toList)) [10]).toArray.size + 1 ≤ _
      simp only [List.size_toArray]
      omega
  have hT2 : ∀ k', K + 200010 ≤ k' → frisketref37_Tidy.f k' s = some (flatB (becomes K ks (plines s)), 0) := fun k' h => by
    unfold frisketref37_Tidy.f
    rw [hread k' h]
    simp only [Option.bind_some, if_true]
    rw [hrk k' (by omega)]
    simp only [Option.bind_some]
    have := refTidy_loop K (plines s) ks hl (by omega) hr hsz (plines s).length 0 k' [] (by omega) (by omega) (by simp)
    refine this.trans ?_
    rw [List.drop_zero, List.nil_append, strOf_flat]
  have hK1 : ∀ k', K + 200010 ≤ k' → tidy_Kinds.f k' s = some (ks, 0) := fun k' h => by
    unfold tidy_Kinds.f
    rw [hlines]
    simp only [Option.bind_some, if_true]
    rw [hpk k' (by omega)]; rfl
  have hK2 : ∀ k', K + 200010 ≤ k' → frisketref37_Kinds.f k' s = some (ks, 0) := fun k' h => by
    unfold frisketref37_Kinds.f
    rw [hread k' h]
    simp only [Option.bind_some, if_true]
    rw [hrk k' (by omega)]; rfl
  have hC1 : ∀ k', K + 200010 ≤ k' → tidy_Changed.f k' s = some (chg (plines s) (becomes K ks (plines s)) (plines s).length 0, 0) := fun k' h => by
    unfold tidy_Changed.f
    rw [hlines]
    simp only [Option.bind_some, if_true]
    rw [htid k' h]
    simp only [Option.bind_some]
    exact tidyChanged_loop (plines s) (by omega) _ hblen (plines s).length 0 k' [] (by omega) (by omega) (by simp)
  have hC2 : ∀ k', K + 200010 ≤ k' → frisketref37_Changed.f k' s = some (chg (plines s) (becomes K ks (plines s)) (plines s).length 0, 0) := fun k' h => by
    unfold frisketref37_Changed.f
    rw [hread k' h]
    simp only [Option.bind_some, if_true]
    rw [hrk k' (by omega)]
    simp only [Option.bind_some]
    exact refChanged_loop K (plines s) ks hl (by omega) hr (plines s).length 0 k' [] (by omega) (by omega) (by simp)
  obtain ⟨y, e, hL1, hL2⟩ := line_same K (k + 2) (by omega) s hs (by omega) (by omega) hlong hline
  have hcl := chg_len (plines s) (becomes K ks (plines s)) (plines s).length 0
  unfold frisketlaw37_same.f
  rw [hT1 (k + 3) (by omega), hT2 (k + 3) (by omega)]
  simp only [Option.bind_some, if_true, bne_self_eq_false]
  rw [frisketlaw37_same.j0, hL1, hL2]
  simp only [Bool.false_eq_true, if_false, Option.bind_some, if_true, bne_self_eq_false]
  rw [frisketlaw37_same.j1, hK1 (k + 1) (by omega), hK2 (k + 1) (by omega)]
  simp only [Bool.false_eq_true, if_false, Option.bind_some, if_true]
  rw [numbers_eq ks (by omega) (k + 1) (by omega)]
  simp only [Option.bind_some, Bool.not_true]
  rw [frisketlaw37_same.j2, hC1 k (by omega), hC2 k (by omega)]
  simp only [Bool.false_eq_true, if_false, Option.bind_some, if_true]
  rw [numbers_eq _ (by omega) k (by omega)]; rfl
end Go.Proofs.YtghlfhgmnhhmnaaGreatDoor.QTidy
