/-
  The blocks of a text, and the letters that are left in it: the program's and the reference's answers are the same. Conditions: texts shorter than 2^32 bytes, and enough rounds.
-/
import Derived.Test.YtjgalagflhmhdaaGreatDoorPipeLines
import Derived.Test.YtjgalagflhmhdaaGreatDoorQPipex3
import Derived.Test.YtjgalagflhmhdaaGreatDoorQPipex2
namespace Go.Proofs.YtjgalagflhmhdaaGreatDoor.QPipe
open Go.RowKit Go.Proofs.YtjgalagflhmhdaaGreatDoorW.PrintWords Go.Proofs.YtjgalagflhmhdaaGreatDoorW.PrintLast Go.Proofs.YtjgalagflhmhdaaGreatDoorW.PrintMore
set_option linter.unusedVariables false
set_option linter.unusedSimpArgs false

/-! ### The signs -/
def begL : List (List UInt8) := [[46, 91], [46, 67, 72], [46, 71, 49], [46, 80, 83], [46, 84, 83], [46, 69, 81]]
def endL : List (List UInt8) := [[46, 93], [46, 67, 69], [46, 71, 50], [46, 80, 69], [46, 84, 69], [46, 69, 78]]
def lt (i : Int) : Int := if i = 0 then 114 else if i = 1 then 99 else if i = 2 then 103 else if i = 3 then 112 else if i = 4 then 116 else if i = 5 then 101 else 0
/-- The place of a text in a list, from a place on; -1: it is not there. -/
def idx (s : List UInt8) : List (List UInt8) → Nat → Int
  | [], _ => -1
  | x :: l, i => if x = s then (i : Int) else idx s l (i + 1)
theorem r_find0 (W : List (List UInt8)) (s : List UInt8) (hW : W.length < 1000000) : ∀ (d i k : Nat), i + d = W.length → d < k → frisketref29_find.l0 k (W.map ba) (ba s) (i : Int) = some (idx s (W.drop i) i) := by
  intro d
  induction d with
  | zero =>
    intro i k hi hk
    obtain ⟨k, rfl⟩ : ∃ k', k = k' + 1 := ⟨k - 1, by omega⟩
    rw [frisketref29_find.l0, if_neg (by simp; omega), List.drop_of_length_le (by omega), idx]
  | succ d ih =>
    intro i k hi hk
    obtain ⟨k, rfl⟩ : ∃ k', k = k' + 1 := ⟨k - 1, by omega⟩
    have ha : i < W.length := by omega
    rw [frisketref29_find.l0, if_pos (by simp; omega), if_pos (by omega), rd_map W i ha, ba_ls, ba_ls, List.drop_eq_getElem_cons ha, idx]
    by_cases c : W[i] = s
    · rw [if_pos c, if_pos c]
    · rw [if_neg c, if_neg c, wrap_small i (by omega), ih (i + 1) k (by omega) (by omega)]
theorem r_beg (s : List UInt8) (k : Nat) (hk : 7 ≤ k) : frisketref29_find.f k (begL.map ba) (ba s) = some (idx s begL 0) := by
  unfold frisketref29_find.f
  have := r_find0 begL s (by decide) 6 0 k rfl (by omega)
  rw [show ((0 : Nat) : Int) = 0 from rfl] at this
  exact this
theorem r_end (s : List UInt8) (k : Nat) (hk : 7 ≤ k) : frisketref29_find.f k (endL.map ba) (ba s) = some (idx s endL 0) := by
  unfold frisketref29_find.f
  have := r_find0 endL s (by decide) 6 0 k rfl (by omega)
  rw [show ((0 : Nat) : Int) = 0 from rfl] at this
  exact this
theorem idx_lt (s : List UInt8) : ∀ (l : List (List UInt8)) (i : Nat), idx s l i = -1 ∨ ((i : Int) ≤ idx s l i ∧ idx s l i < (i : Int) + l.length)
  | [], _ => .inl rfl
  | x :: l, i => by
    rw [idx]
    split
    · exact .inr ⟨by omega, by simp; omega⟩
    · rcases idx_lt s l (i + 1) with h | h
      · exact .inl h
      · exact .inr ⟨by omega, by simp; omega⟩
/-- What the program's sign tells. -/
theorem sign_beg (s : List UInt8) : letL (isB (ba s)) langMap.toList = if idx s begL 0 < 0 then 0 else lt (idx s begL 0) := by
  have hs : (ba s).toList = s := ba_ls s
  have e : ∀ t : List UInt8, (s == t) = (t == s) := fun t => by rw [Bool.eq_iff_iff, beq_iff_eq, beq_iff_eq]; exact eq_comm
  simp only [langMap, lang, letL, isB, begOf, cellOf, strOf, keyI, hs, ba_ls, Lib.toList_data, begL, idx]
  by_cases h0 : s = [46, 91]
  · subst h0; rfl
  by_cases h1 : s = [46, 67, 72]
  · subst h1; rfl
  by_cases h2 : s = [46, 71, 49]
  · subst h2; rfl
  by_cases h3 : s = [46, 80, 83]
  · subst h3; rfl
  by_cases h4 : s = [46, 84, 83]
  · subst h4; rfl
  by_cases h5 : s = [46, 69, 81]
  · subst h5; rfl
  have g0 := Ne.symm h0; have g1 := Ne.symm h1; have g2 := Ne.symm h2; have g3 := Ne.symm h3; have g4 := Ne.symm h4; have g5 := Ne.symm h5
  simp [h0, h1, h2, h3, h4, h5, g0, g1, g2, g3, g4, g5]
theorem sign_end (s : List UInt8) : letL (isE (ba s)) langMap.toList = if idx s endL 0 < 0 then 0 else lt (idx s endL 0) := by
  have hs : (ba s).toList = s := ba_ls s
  simp only [langMap, lang, letL, isE, begOf, endOf, cellOf, strOf, keyI, hs, ba_ls, Lib.toList_data, endL, idx]
  by_cases h0 : s = [46, 93]
  · subst h0; rfl
  by_cases h1 : s = [46, 67, 69]
  · subst h1; rfl
  by_cases h2 : s = [46, 71, 50]
  · subst h2; rfl
  by_cases h3 : s = [46, 80, 69]
  · subst h3; rfl
  by_cases h4 : s = [46, 84, 69]
  · subst h4; rfl
  by_cases h5 : s = [46, 69, 78]
  · subst h5; rfl
  have g0 := Ne.symm h0; have g1 := Ne.symm h1; have g2 := Ne.symm h2; have g3 := Ne.symm h3; have g4 := Ne.symm h4; have g5 := Ne.symm h5
  simp [h0, h1, h2, h3, h4, h5, g0, g1, g2, g3, g4, g5]
theorem lt_six (i : Int) (h : 0 ≤ i ∧ i < 6) : bt (⟨#[114, 99, 103, 112, 116, 101]⟩ : ByteArray) i = lt i ∧ lt i ≠ 0 := by
  obtain rfl | rfl | rfl | rfl | rfl | rfl : i = 0 ∨ i = 1 ∨ i = 2 ∨ i = 3 ∨ i = 4 ∨ i = 5 := by omega
  all_goals exact ⟨rfl, by decide⟩
theorem lt_inj (i j : Int) (hi : 0 ≤ i ∧ i < 6) (hj : 0 ≤ j ∧ j < 6) : lt i = lt j ↔ i = j := by
  obtain rfl | rfl | rfl | rfl | rfl | rfl : i = 0 ∨ i = 1 ∨ i = 2 ∨ i = 3 ∨ i = 4 ∨ i = 5 := by omega
  all_goals (obtain rfl | rfl | rfl | rfl | rfl | rfl : j = 0 ∨ j = 1 ∨ j = 2 ∨ j = 3 ∨ j = 4 ∨ j = 5 := by omega) <;> decide
def opP (o : Int) : Int := if o < 0 then 0 else lt o

/-! ### The blocks -/
/-- The lists of blocks belong together; the last one's end is open while a block is. -/
def RelB (A : List S48) (B : List S52) (o : Int) : Prop :=
  A.length = B.length ∧ (0 ≤ o → 0 < A.length) ∧ ∀ j : Nat, j < A.length → (rd_T48 A j).f0 = (rd_T52 B j).f0 ∧ (rd_T48 A j).f1 = (rd_T52 B j).f1 ∧ ((o < 0 ∨ j + 1 < A.length) → (rd_T48 A j).f2 = (rd_T52 B j).f2)
def SameB (A : List S48) (B : List S52) : Prop := A.length = B.length ∧ ∀ j : Nat, j < A.length → (rd_T48 A j).f0 = (rd_T52 B j).f0 ∧ (rd_T48 A j).f1 = (rd_T52 B j).f1 ∧ (rd_T48 A j).f2 = (rd_T52 B j).f2
theorem rd48_app (A : List S48) (x : S48) (j : Nat) : rd_T48 (A ++ [x]) j = if j < A.length then rd_T48 A j else if j = A.length then x else z48 := by
  unfold rd_T48
  simp only [Int.toNat_natCast, List.getD_eq_getElem?_getD]
  by_cases c : j < A.length
  · rw [if_pos c, List.getElem?_append_left c]
  · rw [if_neg c, List.getElem?_append_right (by omega)]
    by_cases d : j = A.length
    · rw [if_pos d, d]; simp
    · rw [if_neg d, List.getElem?_eq_none (by simp; omega)]; rfl
theorem rd52_app (A : List S52) (x : S52) (j : Nat) : rd_T52 (A ++ [x]) j = if j < A.length then rd_T52 A j else if j = A.length then x else z52 := by
  unfold rd_T52
  simp only [Int.toNat_natCast, List.getD_eq_getElem?_getD]
  by_cases c : j < A.length
  · rw [if_pos c, List.getElem?_append_left c]
  · rw [if_neg c, List.getElem?_append_right (by omega)]
    by_cases d : j = A.length
    · rw [if_pos d, d]; simp
    · rw [if_neg d, List.getElem?_eq_none (by simp; omega)]; rfl
theorem rd48_set (A : List S48) (x : S48) (n j : Nat) (h : n < A.length) : rd_T48 (A.set n x) j = if j = n then x else rd_T48 A j := by
  unfold rd_T48
  simp only [Int.toNat_natCast, List.getD_eq_getElem?_getD]
  by_cases c : j = n
  · rw [if_pos c, c, List.getElem?_set_self h]; rfl
  · rw [if_neg c, List.getElem?_set_ne (Ne.symm c)]
theorem rd52_set (A : List S52) (x : S52) (n j : Nat) (h : n < A.length) : rd_T52 (A.set n x) j = if j = n then x else rd_T52 A j := by
  unfold rd_T52
  simp only [Int.toNat_natCast, List.getD_eq_getElem?_getD]
  by_cases c : j = n
  · rw [if_pos c, c, List.getElem?_set_self h]; rfl
  · rw [if_neg c, List.getElem?_set_ne (Ne.symm c)]
theorem relB_open {A : List S48} {B : List S52} (h : RelB A B (-1)) (l i b : Int) (hb : 0 ≤ b) : RelB (A ++ [⟨l, i, i⟩]) (B ++ [⟨l, i, 0⟩]) b := by
  obtain ⟨h1, h2, h3⟩ := h
  refine ⟨by simp [h1], fun _ => by simp, fun j hj => ?_⟩
  rw [rd48_app, rd52_app, ← h1]
  simp only [List.length_append, List.length_singleton] at hj ⊢
  by_cases c : j < A.length
  · rw [if_pos c, if_pos c]
    obtain ⟨g1, g2, g3⟩ := h3 j c
    exact ⟨g1, g2, fun _ => g3 (.inl (by decide))⟩
  · have d : j = A.length := by omega
    rw [if_neg c, if_pos d, if_neg c, if_pos d]
    exact ⟨rfl, rfl, fun h => by rcases h with h | h <;> omega⟩
theorem relB_close {A : List S48} {B : List S52} {o : Int} (h : RelB A B o) (ho : 0 ≤ o) (i : Int) : RelB (A.set (A.length - 1) ⟨(rd_T48 A ((A.length - 1 : Nat) : Int)).f0, (rd_T48 A ((A.length - 1 : Nat) : Int)).f1, i⟩) (B.set (A.length - 1) ⟨(rd_T52 B ((A.length - 1 : Nat) : Int)).f0, (rd_T52 B ((A.length - 1 : Nat) : Int)).f1, i⟩) (-1) := by
  obtain ⟨h1, h2, h3⟩ := h
  have hp := h2 ho
  refine ⟨by simp [h1], fun h => by omega, fun j hj => ?_⟩
  simp only [List.length_set] at hj ⊢
  rw [rd48_set _ _ _ _ (by omega), rd52_set _ _ _ _ (by omega)]
  by_cases c : j = A.length - 1
  · rw [if_pos c, if_pos c]
    obtain ⟨g1, g2, _⟩ := h3 (A.length - 1) (by omega)
    exact ⟨g1, g2, fun _ => rfl⟩
  · rw [if_neg c, if_neg c]
    obtain ⟨g1, g2, g3⟩ := h3 j hj
    exact ⟨g1, g2, fun _ => g3 (.inr (by omega))⟩

theorem opP_zero {o : Int} (h : -1 ≤ o ∧ o < 6) : opP o = 0 ↔ o < 0 := by
  unfold opP
  by_cases c : o < 0
  · simp [c]
  · rw [if_neg c]
    exact ⟨fun e => absurd e (lt_six o ⟨by omega, h.2⟩).2, fun e => absurd e c⟩
theorem idx_rng (s : List UInt8) (l : List (List UInt8)) (h : l.length = 6) : -1 ≤ idx s l 0 ∧ idx s l 0 < 6 := by
  rcases idx_lt s l 0 with e | ⟨e1, e2⟩
  · omega
  · omega
/-- What the two make of the lines that are left. -/
theorem blocks_sim (W : List (List UInt8)) (hW : W.length < 1000000) : ∀ (d i k : Nat) (A : List S48) (B : List S52) (o : Int), i + d = W.length → 5 * d + 20 < k → -1 ≤ o ∧ o < 6 → RelB A B o → A.length ≤ i →
    ∃ p q, pipe_Blocks.l0 k A (opP o) (W.map ba) (W.length : Int) (i : Int) = some p ∧ frisketref29_blocks.l0 k (W.map ba) B o (i : Int) = some q ∧ ((p.2 = 0 ∧ q.2 = true ∧ SameB p.1 q.1 ∧ p.1.length ≤ W.length) ∨ (p.2 = 4 ∧ q.2 = false ∧ p.1 = [])) := by
  intro d
  induction d with
  | zero =>
    intro i k A B o hi hk ho hR hA
    obtain ⟨k, rfl⟩ : ∃ k', k = k' + 1 := ⟨k - 1, by omega⟩
    have hn1 : ¬ (i : Int) < (W.length : Int) := by omega
    have hn2 : ¬ (i : Int) < ((W.map ba).length : Int) := by rw [List.length_map]; exact hn1
    by_cases c : o < 0
    · rw [pipe_Blocks.l0, if_neg hn1, if_pos ((opP_zero ho).2 c), frisketref29_blocks.l0, if_neg hn2]
      exact ⟨_, _, rfl, rfl, .inl ⟨rfl, decide_eq_true c, ⟨hR.1, fun j hj => by obtain ⟨g1, g2, g3⟩ := hR.2.2 j hj; exact ⟨g1, g2, g3 (.inl c)⟩⟩, show A.length ≤ W.length by omega⟩⟩
    · rw [pipe_Blocks.l0, if_neg hn1, if_neg (fun e => c ((opP_zero ho).1 e)), frisketref29_blocks.l0, if_neg hn2]
      exact ⟨_, _, rfl, rfl, .inr ⟨rfl, decide_eq_false c, rfl⟩⟩
  | succ d ih =>
    intro i k A B o hi hk ho hR hA
    obtain ⟨k, rfl⟩ : ∃ k', k = k' + 4 := ⟨k - 4, by omega⟩
    have hlt : i < W.length := by omega
    have hrd := rd_map W i hlt
    have hib : (i : Int) < ((W.map ba).length : Int) := by simp; omega
    have hb6 := idx_rng W[i] begL rfl
    have he6 := idx_rng W[i] endL rfl
    have hfb := fun k (h : 7 ≤ k) => r_beg W[i] k h
    have hfe := fun k (h : 7 ≤ k) => r_end W[i] k h
    have hsg : pipe_sign.f (ba W[i]) = some (opP (idx W[i] begL 0), opP (idx W[i] endL 0)) := by
      unfold pipe_sign.f opP
      rw [sign_beg, sign_end]
    generalize hbx : idx W[i] begL 0 = b at *
    generalize hex : idx W[i] endL 0 = e at *
    have zb := opP_zero hb6
    have ze := opP_zero he6
    have zo := opP_zero ho
    have HW := Aside0.mk (wrap_small i (by omega))
    obtain ⟨P, hP1, hP2, hP3⟩ : ∃ P : Int × Int, pipe_sign.f (ba W[i]) = some P ∧ P.1 = opP b ∧ P.2 = opP e := ⟨_, hsg, rfl, rfl⟩
    have hbe : frisketref29_begins.f = some (begL.map ba) := rfl
    have hen : frisketref29_ends.f = some (endL.map ba) := rfl
    -- the reference's step
    have R0 : frisketref29_blocks.l0 (k + 4) (W.map ba) B o (i : Int) = if o < 0 then frisketref29_blocks.j1 (k + 3) (W.map ba) B o (i : Int) b e (decide (b ≥ 0)) else frisketref29_blocks.j1 (k + 3) (W.map ba) B o (i : Int) b e false := by
      rw [frisketref29_blocks.l0, if_pos hib, hbe]
      simp only [Option.bind_some]
      rw [if_pos (Int.natCast_nonneg i), hrd, hfb _ (by omega)]
      simp only [Option.bind_some]
      rw [hen]
      simp only [Option.bind_some]
      rw [hfe _ (by omega)]
      simp only [Option.bind_some]
    -- the program's step
    have P0 : pipe_Blocks.l0 (k + 4) A (opP o) (W.map ba) (W.length : Int) (i : Int) = if opP o = 0 then pipe_Blocks.j1 (k + 3) A (opP o) (i : Int) (ba W[i]) (opP b) (opP e) (W.map ba) (W.length : Int) (i : Int) (opP b != 0) else pipe_Blocks.j1 (k + 3) A (opP o) (i : Int) (ba W[i]) (opP b) (opP e) (W.map ba) (W.length : Int) (i : Int) false := by
      rw [pipe_Blocks.l0, if_pos (by omega), if_pos (Int.natCast_nonneg i), if_pos hib, hrd, hP1]
      simp only [Option.bind_some]
      rw [hP2, hP3]
    rw [R0, P0]
    by_cases co : o < 0
    · rw [if_pos co, if_pos (zo.2 co)]
      obtain rfl : o = -1 := by omega
      by_cases cb : b < 0
      · -- no sign begins
        have e1 : (opP b != 0) = false := by simp [zb.2 cb]
        have e2 : decide (b ≥ 0) = false := decide_eq_false (by omega)
        rw [e1, e2, pipe_Blocks.j1, if_neg (by simp), if_pos (zo.2 co), frisketref29_blocks.j1, if_neg (by simp), if_neg (by decide)]
        by_cases ce : e < 0
        · have e3 : (opP e == 0) = true := by simp [ze.2 ce]
          rw [e3, pipe_Blocks.j2, if_pos rfl, frisketref29_blocks.j2, if_neg (by simp), if_neg (by omega), if_neg (by omega), if_neg (by decide), HW.out]
          obtain ⟨p, q, x1, x2, x3⟩ := ih (i + 1) (k + 1) A B (-1) (by omega) (by omega) ho hR (by omega)
          exact ⟨p, q, x1, x2, x3⟩
        · have e3 : (opP e == 0) = false := by simpa using fun h => ce (ze.1 h)
          rw [e3, pipe_Blocks.j2, if_neg (by simp), if_pos (zo.2 co), pipe_Blocks.j3, if_neg (by simp), if_pos (zo.2 co), frisketref29_blocks.j2, if_neg (by simp), if_pos (by omega)]
          exact ⟨_, _, rfl, rfl, .inr ⟨rfl, rfl, rfl⟩⟩
      · -- a sign begins a block
        have e1 : (opP b != 0) = true := by simpa using fun h => cb (zb.1 h)
        have e2 : decide (b ≥ 0) = true := decide_eq_true (by omega)
        obtain ⟨l1, l2⟩ := lt_six b ⟨by omega, hb6.2⟩
        have hob : opP b = lt b := by unfold opP; rw [if_neg cb]
        have hlA := hR.1
        rw [e1, e2, pipe_Blocks.j1, if_pos rfl, if_pos (by omega), frisketref29_blocks.j1, if_pos rfl, if_pos (by omega), if_pos hb6.2, if_pos (by omega), l1, HW.out, hob]
        obtain ⟨p, q, x1, x2, x3⟩ := ih (i + 1) (k + 2) (A ++ [⟨lt b, i, i⟩]) (B ++ [⟨lt b, i, 0⟩]) b (by omega) (by omega) hb6 (relB_open hR (lt b) i b (by omega)) (by simp; omega)
        rw [hob] at x1
        exact ⟨p, q, x1, x2, x3⟩
    · have hoP : ¬ opP o = 0 := fun h => co (zo.1 h)
      have hlA := hR.1
      have hpos := hR.2.1 (by omega)
      have P1 : pipe_Blocks.j1 (k + 3) A (opP o) (i : Int) (ba W[i]) (opP b) (opP e) (W.map ba) (W.length : Int) (i : Int) false = if opP b = 0 then (if opP e = 0 then pipe_Blocks.j3 (k + 1) A (opP o) (i : Int) (opP e) (W.map ba) (W.length : Int) (i : Int) ((ba W[i]).toList != ([46, 91, 93] : List UInt8)) else pipe_Blocks.j3 (k + 1) A (opP o) (i : Int) (opP e) (W.map ba) (W.length : Int) (i : Int) false) else pipe_Blocks.j3 (k + 1) A (opP o) (i : Int) (opP e) (W.map ba) (W.length : Int) (i : Int) false := by
        rw [pipe_Blocks.j1, if_neg (by simp), if_neg hoP, pipe_Blocks.j2, if_neg (by simp), if_neg hoP]
      have R1 : frisketref29_blocks.j1 (k + 3) (W.map ba) B o (i : Int) b e false = frisketref29_blocks.j2 (k + 2) (W.map ba) B o (i : Int) b e (e == o) := by
        rw [frisketref29_blocks.j1, if_neg (by simp), if_pos (by omega)]
      rw [if_neg co, if_neg hoP, P1, R1]
      have up2 : ∀ (B' : List S52) (o' : Int) (q : List S52 × Bool), frisketref29_blocks.l0 k (W.map ba) B' o' ((i + 1 : Nat) : Int) = some q → frisketref29_blocks.l0 (k + 1) (W.map ba) B' o' ((i + 1 : Nat) : Int) = some q := fun B' o' q h => (frisketref29_blocks.mono_l k).1 _ _ _ _ q h
      have HWL := Aside0.mk (show wrap64 ((A.length : Int) - 1) = ((A.length - 1 : Nat) : Int) by rw [wrapi _ (by omega)]; omega)
      have HWB := Aside0.mk (show wrap64 ((B.length : Int) - 1) = ((A.length - 1 : Nat) : Int) by rw [← hlA]; exact HWL.out)
      by_cases ceo : e = o
      · -- the block ends
        have he0 : ¬ opP e = 0 := by rw [ceo]; exact hoP
        have e1 : (e == o) = true := beq_iff_eq.2 ceo
        have hA1 : ((A.length - 1 : Nat) : Int) < (A.length : Int) := by omega
        have hB1 : ((A.length - 1 : Nat) : Int) < (B.length : Int) := by omega
        obtain ⟨p, q, x1, x2, x3⟩ := ih (i + 1) k _ _ (-1) (by omega) (by omega) (by decide) (relB_close hR (by omega) i) (by simp; omega)
        have hclose : pipe_Blocks.j3 (k + 1) A (opP o) (i : Int) (opP e) (W.map ba) (W.length : Int) (i : Int) false = some p := by
          rw [pipe_Blocks.j3, if_neg (by simp), if_neg hoP, if_pos (by rw [ceo]), HWL.out, if_pos (Int.natCast_nonneg _), if_pos hA1, Int.toNat_natCast, HW.out]
          exact x1
        refine ⟨p, q, ?_, ?_, x3⟩
        · by_cases cb : opP b = 0
          · rw [if_pos cb, if_neg he0]; exact hclose
          · rw [if_neg cb]; exact hclose
        · rw [e1, frisketref29_blocks.j2, if_pos rfl, HWB.out, if_pos (Int.natCast_nonneg _), if_pos hB1, Int.toNat_natCast, HW.out]
          exact up2 _ _ _ x2
      · have e1 : (e == o) = false := beq_eq_false_iff_ne.2 ceo
        have hne : ¬ opP e = opP o := by
          intro h
          by_cases ce : e < 0
          · exact hoP (by rw [← h]; exact ze.2 ce)
          · unfold opP at h
            rw [if_neg ce, if_neg co] at h
            exact ceo ((lt_inj e o ⟨by omega, he6.2⟩ ⟨by omega, ho.2⟩).1 h)
        have hfail : pipe_Blocks.j3 (k + 1) A (opP o) (i : Int) (opP e) (W.map ba) (W.length : Int) (i : Int) false = some ([], 4) := by
          rw [pipe_Blocks.j3, if_neg (by simp), if_neg hoP, if_neg hne]
        rw [e1]
        by_cases ce : e < 0
        · by_cases cb : b < 0
          · have R2 : frisketref29_blocks.j2 (k + 2) (W.map ba) B o (i : Int) b e false = if W[i] = [46, 91, 93] then some ([], false) else frisketref29_blocks.l0 (k + 1) (W.map ba) B o ((i + 1 : Nat) : Int) := by
              rw [frisketref29_blocks.j2, if_neg (by simp), if_neg (show ¬ e ≥ 0 by omega), if_neg (show ¬ b ≥ 0 by omega), if_pos (show o ≥ 0 by omega), if_pos (Int.natCast_nonneg i), if_pos hib, hrd, ba_ls, HW.out]
            rw [R2, if_pos (zb.2 cb), if_pos (ze.2 ce), ba_ls]
            by_cases cl : W[i] = [46, 91, 93]
            · have e2 : (W[i] != [46, 91, 93]) = false := by simp [cl]
              rw [e2, hfail]
              refine ⟨([], 4), ([], false), rfl, ?_, .inr ⟨rfl, rfl, rfl⟩⟩
              rw [if_pos cl]
            · have e2 : (W[i] != [46, 91, 93]) = true := by simpa using cl
              obtain ⟨p, q, x1, x2, x3⟩ := ih (i + 1) k A B o (by omega) (by omega) ho hR (by omega)
              rw [e2]
              refine ⟨p, q, ?_, ?_, x3⟩
              · rw [pipe_Blocks.j3, if_pos rfl, HW.out]; exact x1
              · rw [if_neg cl]; exact up2 _ _ _ x2
          · rw [if_neg (fun h => cb (zb.1 h)), hfail]
            have R4 : frisketref29_blocks.j2 (k + 2) (W.map ba) B o (i : Int) b e false = some ([], false) := by
              rw [frisketref29_blocks.j2, if_neg (by simp), if_neg (show ¬ e ≥ 0 by omega), if_pos (show b ≥ 0 by omega)]
            rw [R4]
            exact ⟨([], 4), ([], false), rfl, rfl, .inr ⟨rfl, rfl, rfl⟩⟩
        · have he0 : ¬ opP e = 0 := fun h => ce (ze.1 h)
          have R3 : frisketref29_blocks.j2 (k + 2) (W.map ba) B o (i : Int) b e false = some ([], false) := by
            rw [frisketref29_blocks.j2, if_neg (by simp), if_pos (show e ≥ 0 by omega)]
          rw [R3]
          refine ⟨([], 4), _, ?_, rfl, .inr ⟨rfl, rfl, rfl⟩⟩
          by_cases cb : opP b = 0
          · rw [if_pos cb, if_neg he0, hfail]
          · rw [if_neg cb, hfail]
end Go.Proofs.YtjgalagflhmhdaaGreatDoor.QPipe
