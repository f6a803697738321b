/-
  PipeBlocks' one pure statement: the program's and the reference's blocks, their properness and the letters that are left are the same for every text that the law looks at.
-/
import Derived.Test.YtjgalagflhmhdaaGreatDoorPipeShape
import Derived.Test.YtjgalagflhmhdaaGreatDoorPipeText
import Derived.Test.YtjgalagflhmhdaaGreatDoorPipeLeft
import Derived.Test.YtjgalagflhmhdaaGreatDoorPipeRefLeft
import Derived.Test.YtjgalagflhmhdaaGreatDoorQPipex5
namespace Go.Proofs.YtjgalagflhmhdaaGreatDoor.QPipe
open Go.RowKit Go.Proofs.YtjgalagflhmhdaaGreatDoorW.PrintWords Go.Proofs.YtjgalagflhmhdaaGreatDoorW.PrintLast Go.Proofs.YtjgalagflhmhdaaGreatDoorW.PrintMore
set_option linter.unusedVariables false
set_option linter.unusedSimpArgs false

theorem up {α : Type} {f : Nat → Option α} (hm : ∀ k, LeO (f k) (f (k + 1))) {r : α} {k : Nat} (h : f k = some r) : ∀ d, f (k + d) = some r
  | 0 => h
  | d + 1 => hm (k + d) r (up hm h d)
theorem up' {α : Type} {f : Nat → Option α} (hm : ∀ k, LeO (f k) (f (k + 1))) {r : α} {k k' : Nat} (h : f k = some r) (hk : k ≤ k') : f k' = some r := by
  obtain ⟨d, rfl⟩ := Nat.le.dest hk
  exact up hm h d

/-! ### The letters that are left -/
theorem p_index (W : List (List UInt8)) (hW : W.length < 1000000) (sg : List UInt8) : ∀ (d i k : Nat), i + d = W.length → d < k → ∃ r, slices_Index_string_string.l0 k (W.map ba) (ba sg) (W.length : Int) (i : Int) = some r ∧ decide (r ≥ 0) = (W.drop i).any (· == sg) := by
  intro d
  induction d with
  | zero =>
    intro i k hi hk
    obtain ⟨k, rfl⟩ : ∃ k', k = k' + 1 := ⟨k - 1, by omega⟩
    rw [slices_Index_string_string.l0, if_neg (by omega), List.drop_of_length_le (by omega)]
    exact ⟨-1, rfl, rfl⟩
  | succ d ih =>
    intro i k hi hk
    obtain ⟨k, rfl⟩ : ∃ k', k = k' + 1 := ⟨k - 1, by omega⟩
    have ha : i < W.length := by omega
    rw [slices_Index_string_string.l0, if_pos (by omega), if_pos (by omega), if_pos (by simp; omega), rd_map W i ha, ba_ls, ba_ls, List.drop_eq_getElem_cons ha, List.any_cons]
    by_cases c : sg = W[i]
    · rw [if_pos c]
      exact ⟨_, rfl, by simp [c]⟩
    · rw [if_neg c, wrap_small i (by omega)]
      obtain ⟨r, r1, r2⟩ := ih (i + 1) k (by omega) (by omega)
      refine ⟨r, r1, ?_⟩
      rw [r2, show (W[i] == sg) = false from beq_eq_false_iff_ne.2 (Ne.symm c), Bool.false_or]
theorem p_contains (W : List (List UInt8)) (hW : W.length < 1000000) (sg : List UInt8) (k : Nat) (hk : W.length < k) : slices_Contains_string_string.f k (W.map ba) (ba sg) = some (W.any (· == sg)) := by
  unfold slices_Contains_string_string.f slices_Index_string_string.f
  obtain ⟨r, r1, r2⟩ := p_index W hW sg W.length 0 k (by omega) hk
  rw [List.length_map, show (0 : Int) = ((0 : Nat) : Int) from rfl, r1]
  simp only [Option.bind_some]
  rw [show ((0 : Nat) : Int) = 0 from rfl, r2, List.drop_zero]
def has (W : List (List UInt8)) (p : UInt8 × List UInt8) : Bool := W.any (· == p.2) || (p.1 == 114 && W.any (· == [46, 91, 93]))
def leftS (W : List (List UInt8)) : List (UInt8 × List UInt8) → List UInt8 → List UInt8
  | [], out => out
  | p :: l, out => if has W p = true then leftS W l (out ++ [p.1]) else leftS W l out
theorem p_left0 (W : List (List UInt8)) (hW : W.length < 1000000) (k : Nat) (hk : W.length < k) : ∀ (l : List (UInt8 × List UInt8)) (out : List UInt8), leftGo k (W.map ba) l out = some (ba (leftS W l out))
  | [], out => rfl
  | p :: l, out => by
    rw [leftGo, leftS, show (⟨p.2.toArray⟩ : ByteArray) = ba p.2 from rfl, show (⟨#[46, 91, 93]⟩ : ByteArray) = ba [46, 91, 93] from rfl, p_contains W hW _ k hk, p_contains W hW _ k hk]
    simp only [Option.bind_some]
    unfold has
    by_cases c : W.any (· == p.2) = true
    · rw [if_pos c, c, Bool.true_or, if_pos rfl]
      exact p_left0 W hW k hk l _
    · rw [if_neg c, Bool.eq_false_iff.2 c, Bool.false_or]
      by_cases d : p.1 = 114
      · rw [if_pos d, show (p.1 == 114) = true from beq_iff_eq.2 d, Bool.true_and]
        by_cases e : W.any (· == [46, 91, 93]) = true
        · rw [if_pos e, if_pos e]
          exact p_left0 W hW k hk l _
        · rw [if_neg e, if_neg e]
          exact p_left0 W hW k hk l _
      · rw [if_neg d, show (p.1 == 114) = false from beq_eq_false_iff_ne.2 d, Bool.false_and, if_neg (by simp)]
        exact p_left0 W hW k hk l _
def hit (p : UInt8 × List UInt8) (w : List UInt8) : Bool := w == p.2 || (p.1 == 114 && w == [46, 91, 93])
theorem any_hit (p : UInt8 × List UInt8) : ∀ W : List (List UInt8), W.any (hit p) = has W p
  | [] => by simp [has]
  | w :: W => by
    rw [List.any_cons, any_hit p W]
    unfold has hit
    rw [List.any_cons, List.any_cons]
    cases (w == p.2) <;> cases (p.1 == 114) <;> cases (w == [46, 91, 93]) <;> cases W.any (· == p.2) <;> cases W.any (· == [46, 91, 93]) <;> rfl
theorem six_facts (i : Nat) (hi : i < 6) : ∃ p : UInt8 × List UInt8, lettersB.drop i = p :: lettersB.drop (i + 1) ∧ begL.getD i [] = p.2 ∧ ((p.1 == 114) = decide (i = 0)) ∧ (⟨#[114, 99, 103, 112, 116, 101]⟩ : ByteArray).extract i (i + 1) = ba [p.1] := by
  obtain rfl | rfl | rfl | rfl | rfl | rfl : i = 0 ∨ i = 1 ∨ i = 2 ∨ i = 3 ∨ i = 4 ∨ i = 5 := by omega
  all_goals exact ⟨_, rfl, rfl, rfl, rfl⟩
theorem r_inner (W : List (List UInt8)) (hW : W.length < 1000000) (i : Nat) (hi : i < 6) (p : UInt8 × List UInt8) (hb : begL.getD i [] = p.2) (hz : (p.1 == 114) = decide (i = 0)) (hx : (⟨#[114, 99, 103, 112, 116, 101]⟩ : ByteArray).extract i (i + 1) = ba [p.1]) (out : List UInt8) (ho : out.length ≤ 100) (k : Nat) :
    ∀ (d j : Nat) (b : Bool), j + d = W.length → frisketref29_Left.l1 (k + d + 1) (W.map ba) (ba out) (i : Int) b (j : Int) = if (b || (W.drop j).any (hit p)) = true then frisketref29_Left.l0 k (W.map ba) (ba (out ++ [p.1])) ((i + 1 : Nat) : Int) else frisketref29_Left.l0 k (W.map ba) (ba out) ((i + 1 : Nat) : Int) := by
  intro d
  have hwi := wrap_small i (by omega)
  induction d with
  | zero =>
    intro j b hj
    rw [frisketref29_Left.l1, if_neg (by rw [List.length_map]; omega), List.drop_of_length_le (by omega), List.any_nil, Bool.or_false, hwi]
    by_cases c : b = true
    · rw [if_pos c, if_pos c, if_pos (by omega), if_pos (by omega), if_pos (by omega), Int.toNat_natCast, Int.toNat_natCast, hx, if_pos (by rw [ba_sz, ba_sz]; simp; omega), ba_app]
    · rw [if_neg c, if_neg c]
  | succ d ih =>
    intro j b hj
    have ha : j < W.length := by omega
    have hwj := wrap_small j (by omega)
    rw [show k + (d + 1) + 1 = (k + d + 1) + 1 by omega, frisketref29_Left.l1, if_pos (by rw [List.length_map]; omega), List.drop_eq_getElem_cons ha, List.any_cons, hwj]
    by_cases c : b = true
    · rw [if_pos c, ih (j + 1) true (by omega), c, Bool.true_or, Bool.true_or]
    · have hbe : frisketref29_begins.f = some (begL.map ba) := rfl
      have hrb : rdOf ByteArray.empty (begL.map ba) (i : Int) = ba p.2 := by
        rw [rd_map begL i (by exact hi), ← hb, List.getD_eq_getElem?_getD, List.getElem?_eq_getElem (by exact hi)]
        rfl
      rw [if_neg c, if_pos (by omega), hbe]
      simp only [Option.bind_some]
      rw [if_pos (Int.natCast_nonneg i), if_pos (show (i : Int) < ((begL.map ba).length : Int) by rw [List.length_map, show begL.length = 6 from rfl]; omega), rd_map W j ha, hrb, ba_ls, ba_ls, Bool.eq_false_iff.2 c, Bool.false_or]
      by_cases e : W[j] = p.2
      · rw [if_pos e, ih (j + 1) true (by omega), show hit p W[j] = true by unfold hit; rw [show (W[j] == p.2) = true from beq_iff_eq.2 e, Bool.true_or], Bool.true_or]
      · have eh : hit p W[j] = (decide (i = 0) && W[j] == [46, 91, 93]) := by unfold hit; rw [show (W[j] == p.2) = false from beq_eq_false_iff_ne.2 e, Bool.false_or, hz]
        rw [if_neg e, eh]
        by_cases g : i = 0
        · rw [if_pos (show (i : Int) = 0 by omega), ih (j + 1) _ (by omega), decide_eq_true g, Bool.true_and]
        · rw [if_neg (show ¬ (i : Int) = 0 by omega), ih (j + 1) _ (by omega), decide_eq_false g, Bool.false_and]
theorem r_outer (W : List (List UInt8)) (hW : W.length < 1000000) : ∀ (e i k : Nat) (out : List UInt8), i + e = 6 → e * (W.length + 2) < k → out.length ≤ i → frisketref29_Left.l0 k (W.map ba) (ba out) (i : Int) = some (ba (leftS W (lettersB.drop i) out)) := by
  intro e
  induction e with
  | zero =>
    intro i k out hi hk ho
    obtain ⟨k, rfl⟩ : ∃ k', k = k' + 1 := ⟨k - 1, by omega⟩
    rw [frisketref29_Left.l0, if_neg (by omega), List.drop_of_length_le (by rw [show lettersB.length = 6 from rfl]; omega), leftS]
  | succ e ih =>
    intro i k out hi hk ho
    rw [Nat.succ_mul] at hk
    obtain ⟨k, rfl⟩ : ∃ k', k = (k' + W.length + 1) + 1 := ⟨k - W.length - 2, by omega⟩
    obtain ⟨p, p1, p2, p3, p4⟩ := six_facts i (by omega)
    rw [frisketref29_Left.l0, if_pos (by omega), p1, leftS]
    have := r_inner W hW i (by omega) p p2 p3 p4 out (by omega) k W.length 0 false (by omega)
    rw [show ((0 : Nat) : Int) = 0 from rfl] at this
    rw [this, Bool.false_or, List.drop_zero, any_hit]
    by_cases c : has W p = true
    · rw [if_pos c, if_pos c]
      exact ih (i + 1) k _ (by omega) (by omega) (by simp; omega)
    · rw [if_neg c, if_neg c]
      exact ih (i + 1) k _ (by omega) (by omega) (by omega)

/-! ### Alike, and shaped -/
theorem alike_true (A : List S48) (B : List S52) (h : SameB A B) (hA : A.length < 1000000) : ∀ (d i k : Nat), i + d = A.length → d < k → frisketlaw29_alike.l0 k A B (i : Int) = some true := by
  intro d
  induction d with
  | zero =>
    intro i k hi hk
    obtain ⟨k, rfl⟩ : ∃ k', k = k' + 1 := ⟨k - 1, by omega⟩
    rw [frisketlaw29_alike.l0, if_neg (by omega)]
  | succ d ih =>
    intro i k hi hk
    obtain ⟨k, rfl⟩ : ∃ k', k = k' + 1 := ⟨k - 1, by omega⟩
    obtain ⟨h1, h2⟩ := h
    obtain ⟨g1, g2, g3⟩ := h2 i (by omega)
    rw [frisketlaw29_alike.l0, if_pos (by omega), if_pos (by omega), if_pos (by omega), if_pos g1, if_pos g2, if_pos g3, wrap_small i (by omega)]
    exact ih (i + 1) k (by omega) (by omega)
theorem shaped_true (s : List UInt8) (hs : s.length ≤ 300000) (k : Nat) (hk : 3000000 ≤ k) : frisketlaw29_shaped.f k (ba s) = some true := by
  have hW := pieces_len s
  have hsp := p_split s (by omega)
  have hct := r_cut s (by omega) k (by omega)
  obtain ⟨p, q, hp, hq, hpq⟩ := blocks_sim (pieces s) (by omega) (pieces s).length 0 k [] [] (-1) (by omega) (by omega) (by decide) ⟨rfl, fun h => by omega, fun j hj => by simp at hj⟩ (by simp)
  have hpB : pipe_Blocks.f k (ba s) = some p := by
    unfold pipe_Blocks.f
    rw [hsp]
    simp only [Option.bind_some, List.length_map]
    exact hp
  have hq' : frisketref29_blocks.f k ((pieces s).map ba) = some q := hq
  have hrB : frisketref29_Blocks.f k (ba s) = some (if q.2 = true then (q.1, 0) else ([], 4)) := by
    unfold frisketref29_Blocks.f
    rw [hct]
    simp only [Option.bind_some]
    rw [hq']
    simp only [Option.bind_some]
    split <;> rfl
  have hpP : pipe_Proper.f k (ba s) = some (p.2 == 0) := by
    unfold pipe_Proper.f
    rw [hpB]
    rfl
  have hrP : frisketref29_Proper.f k (ba s) = some q.2 := by
    unfold frisketref29_Proper.f
    rw [hct]
    simp only [Option.bind_some]
    rw [hq']
    rfl
  have hpL : pipe_Left.f k (ba s) = some (ba (leftS (pieces s) lettersB [])) := by
    unfold pipe_Left.f
    rw [hsp]
    simp only [Option.bind_some]
    exact p_left0 (pieces s) (by omega) k (by omega) _ _
  have hrL : frisketref29_Left.f k (ba s) = some (ba (leftS (pieces s) lettersB [])) := by
    unfold frisketref29_Left.f
    rw [hct]
    simp only [Option.bind_some]
    exact r_outer (pieces s) (by omega) 6 0 k [] (by omega) (by omega) (by simp)
  have hal : ∃ rB : List S52 × Int, frisketref29_Blocks.f k (ba s) = some rB ∧ p.2 = rB.2 ∧ frisketlaw29_alike.f k p.1 rB.1 = some true ∧ q.2 = (p.2 == 0) := by
    rcases hpq with ⟨a, b, c, hpl⟩ | ⟨a, b, c⟩
    · rw [if_pos b] at hrB
      refine ⟨_, hrB, a, ?_, by rw [a, b]; rfl⟩
      unfold frisketlaw29_alike.f
      rw [if_pos (by rw [c.1])]
      exact alike_true p.1 q.1 c (by omega) p.1.length 0 k (by omega) (by omega)
    · rw [if_neg (by rw [b]; decide)] at hrB
      refine ⟨_, hrB, a, ?_, by rw [a, b]; rfl⟩
      unfold frisketlaw29_alike.f
      rw [c, if_pos (show (([] : List S48).length : Int) = (((([] : List S52), (4 : Int)).1).length : Int) from rfl)]
      exact alike_true [] [] ⟨rfl, fun j hj => by simp at hj⟩ (by simp) 0 0 k rfl (by omega)
  obtain ⟨rB, e1, e2, e3, e4⟩ := hal
  unfold frisketlaw29_shaped.f
  rw [hpB]
  simp only [Option.bind_some]
  rw [e1]
  simp only [Option.bind_some]
  rw [if_pos e2, e3]
  simp only [Option.bind_some]
  simp only [if_true, hpP, hrP, Option.bind_some, e4, beq_self_eq_true, hpL, hrL]

theorem sane0 : frisketlaw29_sane.f 100 = some true := by decide +kernel
theorem sane_true (k : Nat) (hk : 100 ≤ k) : frisketlaw29_sane.f k = some true := up' (f := fun k => frisketlaw29_sane.f k) frisketlaw29_sane.mono sane0 hk

theorem pipe_pure (a0 : ByteArray) (l1 : List Int) : ∃ k, frisketlaw29_PipeBlocks.f k a0 l1 = some true := by
  refine ⟨3000000, ?_⟩
  obtain ⟨k, hk⟩ : ∃ k : Nat, k = 3000000 := ⟨_, rfl⟩
  rw [← hk]
  have hs := sane_true k (by omega)
  unfold frisketlaw29_PipeBlocks.f
  by_cases c : (a0.size : Int) > 1500
  · rw [if_pos c, hs]
    rfl
  · have e0 : a0 = ba a0.data.toList := (ba_of a0).symm
    have l0 : a0.data.toList.length ≤ 1500 := by rw [← Lib.size_eq]; omega
    obtain ⟨t, t1, t2⟩ := text29 l1 k (by omega)
    have et : t = ba t.data.toList := (ba_of t).symm
    have lt_ : t.data.toList.length ≤ 224000 := by rw [← Lib.size_eq]; omega
    have s1 : frisketlaw29_shaped.f k a0 = some true := by
      rw [e0]
      exact shaped_true _ (by omega) k (by omega)
    have s2 : frisketlaw29_shaped.f k t = some true := by
      rw [et]
      exact shaped_true _ (by omega) k (by omega)
    have s3 : frisketlaw29_shaped.f k (t ++ a0) = some true := by
      rw [et, e0, ba_app]
      exact shaped_true _ (by rw [List.length_append]; omega) k (by omega)
    rw [if_neg c, s1]
    simp only [Option.bind_some, if_true]
    rw [t1]
    simp only [Option.bind_some]
    rw [s2]
    simp only [Option.bind_some, if_true]
    rw [if_pos (by omega), s3]
    simp only [Option.bind_some, if_true]
    rw [hs]
    rfl
/-- The law, walked. -/
theorem blocks_calls (a0 : ByteArray) (A1 : Option Addr) (c1 : Nat) (l1 : List Int) (w : World) (hr1 : Kd.C (Kd.int .i64) w A1 l1.length l1) (hc1 : l1.length ≤ c1) (hv_ : LaidV w) :
    Calls Tryz.prog 3 #[.string a0, .slice A1 l1.length c1] w fun e w' => e = .returned (.bool true) ∧ Below w.heap.size w w' := by
  obtain ⟨k, h⟩ := pipe_pure a0 l1
  exact frisketlaw29_PipeBlocks.calls k a0 A1 c1 l1 true w hr1 hc1 hv_ h
end Go.Proofs.YtjgalagflhmhdaaGreatDoor.QPipe
