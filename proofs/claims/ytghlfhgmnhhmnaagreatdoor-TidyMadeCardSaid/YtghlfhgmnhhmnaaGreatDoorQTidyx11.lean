-- written by a program of this session (wip/myprint.py, over the kit's print)
import Derived.Test.YtghlfhgmnhhmnaaGreatDoorQTidyx0
import Derived.Test.YtghlfhgmnhhmnaaGreatDoorQTidyx6
import Derived.Test.YtghlfhgmnhhmnaaGreatDoorQTidyx7
import Derived.Test.YtghlfhgmnhhmnaaGreatDoorQTidyx9
import Derived.Test.YtghlfhgmnhhmnaaGreatDoorQTidyx10
namespace Go.Proofs.YtghlfhgmnhhmnaaGreatDoor.QTidy
open Go.RowKit Go.Proofs.YtghlfhgmnhhmnaaGreatDoorW.PrintWords Go.Proofs.YtghlfhgmnhhmnaaGreatDoorW.PrintLast Go.Proofs.YtghlfhgmnhhmnaaGreatDoorW.PrintMore
attribute [local go_sem] max2_int min2_int max_two min_two max_three min_three max_four min_four   -- for this text's walks alone
set_option linter.unusedVariables false
set_option linter.unusedSimpArgs false

/-! ### frisketref06_Write: function 45 -/
mutual
def frisketref06_Write.l0 : Nat → ByteArray → List ByteArray → ByteArray → Int → Option (ByteArray × Int)
  | 0, _, _, _, _ => none
  | k + 1, x0, x1, x6, x7 => if x7 < (x1.length : Int) then (if x6.size + 1 ≤ 9223372036854775807 then (if 0 ≤ x7 then ((frisketref06_quoted.f k (rdOf ByteArray.empty x1 x7)).bind fun t260 => (if (x6 ++ (⟨#[32]⟩ : ByteArray)).size + t260.size ≤ 9223372036854775807 then (frisketref06_Write.l0 k x0 x1 ((x6 ++ (⟨#[32]⟩ : ByteArray)) ++ t260) (wrap64 (x7 + 1))) else (none))) else (none)) else (none)) else (if 1 + x0.size ≤ 9223372036854775807 then (if ((⟨#[46]⟩ : ByteArray) ++ x0).size + x6.size ≤ 9223372036854775807 then (if x0.toList = ([] : List UInt8) then (frisketref06_Write.j1 k x1 x6 (((⟨#[46]⟩ : ByteArray) ++ x0) ++ x6) true) else ((frisketref06_word.f k x0 0).bind fun t261 => (if t261 = (x0.size : Int) then ((frisketref06_to.f k (((⟨#[46]⟩ : ByteArray) ++ x0) ++ x6) 0 10).bind fun t262 => (frisketref06_Write.j1 k x1 x6 (((⟨#[46]⟩ : ByteArray) ++ x0) ++ x6) (decide (t262 ≥ 0)))) else (frisketref06_Write.j1 k x1 x6 (((⟨#[46]⟩ : ByteArray) ++ x0) ++ x6) true)))) else (none)) else (none))
def frisketref06_Write.j1 : Nat → List ByteArray → ByteArray → ByteArray → Bool → Option (ByteArray × Int)
  | 0, _, _, _, _ => none
  | k + 1, x1, x6, x8, x42 => if x42 = true then (some ((⟨#[]⟩ : ByteArray), 4)) else ((frisketref06_Words.f k x6).bind fun t263 => (if (t263.length : Int) = (x1.length : Int) then (frisketref06_Write.l1 k x1 x8 t263 0) else (some ((⟨#[]⟩ : ByteArray), 4))))
def frisketref06_Write.l1 : Nat → List ByteArray → ByteArray → List ByteArray → Int → Option (ByteArray × Int)
  | 0, _, _, _, _ => none
  | k + 1, x1, x8, x9, x10 => if x10 < (x9.length : Int) then (if 0 ≤ x10 then (if x10 < (x1.length : Int) then (if (rdOf ByteArray.empty x9 x10).toList = (rdOf ByteArray.empty x1 x10).toList then (frisketref06_Write.l1 k x1 x8 x9 (wrap64 (x10 + 1))) else (some ((⟨#[]⟩ : ByteArray), 4))) else (none)) else (none)) else (if (x8.size : Int) > 2000 then (some ((⟨#[]⟩ : ByteArray), 1)) else (some (x8, 0)))
end
def frisketref06_Write.f (k : Nat) (a0 : ByteArray) (l1 : List ByteArray) : Option (ByteArray × Int) := frisketref06_Write.l0 k a0 l1 (⟨#[]⟩ : ByteArray) 0
theorem frisketref06_Write.mono_l : ∀ k, (∀ y0 y1 y2 y3, LeO (frisketref06_Write.l0 k y0 y1 y2 y3) (frisketref06_Write.l0 (k + 1) y0 y1 y2 y3)) ∧ (∀ y0 y1 y2 y3, LeO (frisketref06_Write.j1 k y0 y1 y2 y3) (frisketref06_Write.j1 (k + 1) y0 y1 y2 y3)) ∧ (∀ y0 y1 y2 y3, LeO (frisketref06_Write.l1 k y0 y1 y2 y3) (frisketref06_Write.l1 (k + 1) y0 y1 y2 y3))
  | 0 => ⟨fun _ _ _ _ r h => by simp [frisketref06_Write.l0] at h, fun _ _ _ _ r h => by simp [frisketref06_Write.j1] at h, fun _ _ _ _ r h => by simp [frisketref06_Write.l1] at h⟩
  | k + 1 => by
    obtain ⟨ih0, ih1, ih2⟩ := frisketref06_Write.mono_l k
    refine ⟨?_, ?_, ?_⟩
    · intro y0 y1 y2 y3
      unfold frisketref06_Write.l0
      repeat' first
      | (with_reducible exact ih0 _ _ _ _)
      | (with_reducible exact ih1 _ _ _ _)
      | (with_reducible exact ih2 _ _ _ _)
      | (with_reducible exact frisketref06_Words.mono _ _)
      | (with_reducible exact frisketref06_quoted.mono _ _)
      | (with_reducible exact frisketref06_to.mono _ _ _ _)
      | (with_reducible exact frisketref06_word.mono _ _ _)
      | (with_reducible exact LeO.refl _)
      | (with_reducible exact LeO.none _)
      | (with_reducible refine LeO.ite ?_ ?_)
      | (with_reducible refine LeO.bind ?_ (fun _ => ?_))
      | exact ih0 _ _ _ _
      | exact ih1 _ _ _ _
      | exact ih2 _ _ _ _
      | exact frisketref06_Words.mono _ _
      | exact frisketref06_quoted.mono _ _
      | exact frisketref06_to.mono _ _ _ _
      | exact frisketref06_word.mono _ _ _
      | exact LeO.none _
      | refine LeO.ite ?_ ?_
      | refine LeO.bind ?_ (fun _ => ?_)
    · intro y0 y1 y2 y3
      unfold frisketref06_Write.j1
      repeat' first
      | (with_reducible exact ih0 _ _ _ _)
      | (with_reducible exact ih1 _ _ _ _)
      | (with_reducible exact ih2 _ _ _ _)
      | (with_reducible exact frisketref06_Words.mono _ _)
      | (with_reducible exact frisketref06_quoted.mono _ _)
      | (with_reducible exact frisketref06_to.mono _ _ _ _)
      | (with_reducible exact frisketref06_word.mono _ _ _)
      | (with_reducible exact LeO.refl _)
      | (with_reducible exact LeO.none _)
      | (with_reducible refine LeO.ite ?_ ?_)
      | (with_reducible refine LeO.bind ?_ (fun _ => ?_))
      | exact ih0 _ _ _ _
      | exact ih1 _ _ _ _
      | exact ih2 _ _ _ _
      | exact frisketref06_Words.mono _ _
      | exact frisketref06_quoted.mono _ _
      | exact frisketref06_to.mono _ _ _ _
      | exact frisketref06_word.mono _ _ _
      | exact LeO.none _
      | refine LeO.ite ?_ ?_
      | refine LeO.bind ?_ (fun _ => ?_)
    · intro y0 y1 y2 y3
      unfold frisketref06_Write.l1
      repeat' first
      | (with_reducible exact ih0 _ _ _ _)
      | (with_reducible exact ih1 _ _ _ _)
      | (with_reducible exact ih2 _ _ _ _)
      | (with_reducible exact frisketref06_Words.mono _ _)
      | (with_reducible exact frisketref06_quoted.mono _ _)
      | (with_reducible exact frisketref06_to.mono _ _ _ _)
      | (with_reducible exact frisketref06_word.mono _ _ _)
      | (with_reducible exact LeO.refl _)
      | (with_reducible exact LeO.none _)
      | (with_reducible refine LeO.ite ?_ ?_)
      | (with_reducible refine LeO.bind ?_ (fun _ => ?_))
      | exact ih0 _ _ _ _
      | exact ih1 _ _ _ _
      | exact ih2 _ _ _ _
      | exact frisketref06_Words.mono _ _
      | exact frisketref06_quoted.mono _ _
      | exact frisketref06_to.mono _ _ _ _
      | exact frisketref06_word.mono _ _ _
      | exact LeO.none _
      | refine LeO.ite ?_ ?_
      | refine LeO.bind ?_ (fun _ => ?_)
theorem frisketref06_Write.mono : ∀ a0 a1 k, LeO (frisketref06_Write.f k a0 a1) (frisketref06_Write.f (k + 1) a0 a1) := by
  intro a0 a1 k
  obtain ⟨ih0, ih1, ih2⟩ := frisketref06_Write.mono_l k
  unfold frisketref06_Write.f
  repeat' first
      | (with_reducible exact ih0 _ _ _ _)
      | (with_reducible exact ih1 _ _ _ _)
      | (with_reducible exact ih2 _ _ _ _)
      | (with_reducible exact frisketref06_Words.mono _ _)
      | (with_reducible exact frisketref06_quoted.mono _ _)
      | (with_reducible exact frisketref06_to.mono _ _ _ _)
      | (with_reducible exact frisketref06_word.mono _ _ _)
      | (with_reducible exact LeO.refl _)
      | (with_reducible exact LeO.none _)
      | (with_reducible refine LeO.ite ?_ ?_)
      | (with_reducible refine LeO.bind ?_ (fun _ => ?_))
      | exact ih0 _ _ _ _
      | exact ih1 _ _ _ _
      | exact ih2 _ _ _ _
      | exact frisketref06_Words.mono _ _
      | exact frisketref06_quoted.mono _ _
      | exact frisketref06_to.mono _ _ _ _
      | exact frisketref06_word.mono _ _ _
      | exact LeO.none _
      | refine LeO.ite ?_ ?_
      | refine LeO.bind ?_ (fun _ => ?_)
set_option maxHeartbeats 8000000 in
set_option maxRecDepth 100000 in
theorem frisketref06_Write.calls (k : Nat) (a0 : ByteArray) (A1 : Option Addr) (c1 : Nat) (l1 : List ByteArray) (r1 : ByteArray) (r2 : Int) (w : World) (hr1 : Kd.C Kd.string w A1 l1.length l1) (hc1 : l1.length ≤ c1) (h : frisketref06_Write.f k a0 l1 = some (r1, r2)) :
    Calls Tryz.prog 45 #[.string a0, .slice A1 l1.length c1] w fun e w' => e = .returned (.tuple #[.string r1, .int .i64 r2]) ∧ Below w.heap.size w w' := by
  have HR1 := Aside0.mk hr1
  have HC1 := Aside0.mk hc1
  clear hr1 hc1
  have HB := Aside0.mk (Below.refl w.heap.size w)
  have H : (frisketref06_Write.l0 k a0 l1 (⟨#[]⟩ : ByteArray) 0) = some (r1, r2) := h
  clear h
  have H' := Aside0.mk H
  clear H
  go_enter Tryz.func45, Tryz.ntmps45
  go_wp2
  repeat (go_quiet (fail); try go_wp2)
  go_loopg [6, 7] k (fun kq v6 v7 w' => ∃ (x6_1 : ByteArray) (x7_1 : Int), v6 = .string x6_1 ∧ v7 = .int .i64 x7_1 ∧ Aside0 (frisketref06_Write.l0 kq a0 l1 x6_1 x7_1 = some (r1, r2)) ∧ Aside0 (kq ≤ k) ∧ Aside0 (Below w.heap.size w w'))
  case atStart => exact ⟨((⟨#[]⟩ : ByteArray)), (0), (by first | rfl | (simp; done) | (simp [*]; done)), (by first | rfl | (simp; done) | (simp [*]; done)), H', ⟨Nat.le_refl _⟩, ⟨by repeat (first | (with_reducible first | exact HB.out | apply below_alloc | apply pw_below_drewN | apply below_drew1) | exact HB.out)⟩⟩
  case round =>
    clear H'
    try clear c1
    try clear p2
    obtain ⟨x6_1, x7_1, rfl, rfl, HA, HK1, HB⟩ := hrel
    cases gk with
    | zero => exact absurd HA.out (by simp [frisketref06_Write.l0])
    | succ k1 =>
      have H := HA.out
      clear HA
      simp only [frisketref06_Write.l0] at H
      by_cases c3 : x7_1 < (l1.length : Int)
      · rw [if_pos c3] at H
        have c3b0 : decide (x7_1 < (l1.length : Int)) = true := decide_eq_true c3
        clear c3
        by_cases c4 : x6_1.size + 1 ≤ 9223372036854775807
        · rw [if_pos c4] at H
          have c4b0 := eq_true c4
          have c4b1 : decide (x6_1.size + 1 ≤ 9223372036854775807) = true := decide_eq_true c4
          try have c4b2 : (9223372036854775807 < x6_1.size + 1) = False := eq_false (Nat.not_lt.2 c4)
          try (have c4b3 := c4b2; simp only [ByteArray.size_append, bsz, List.length_cons, List.length_nil, Nat.zero_add, Nat.reduceAdd] at c4b3)
          by_cases c5 : 0 ≤ x7_1
          · rw [if_pos c5] at H
            have c5b0 : decide (0 ≤ x7_1) = true := decide_eq_true c5
            clear c5
            replace H := Option.bind_eq_some_iff.mp H
            obtain ⟨t260, A60, H⟩ := H
            replace H : (if (x6_1 ++ (⟨#[32]⟩ : ByteArray)).size + t260.size ≤ 9223372036854775807 then (frisketref06_Write.l0 k1 a0 l1 ((x6_1 ++ (⟨#[32]⟩ : ByteArray)) ++ t260) (wrap64 (x7_1 + 1))) else (none)) = some (r1, r2) := H
            have A6 := Aside0.mk A60
            clear A60
            by_cases c7 : (x6_1 ++ (⟨#[32]⟩ : ByteArray)).size + t260.size ≤ 9223372036854775807
            · rw [if_pos c7] at H
              have c7b0 := eq_true c7
              have c7b1 : decide ((x6_1 ++ (⟨#[32]⟩ : ByteArray)).size + t260.size ≤ 9223372036854775807) = true := decide_eq_true c7
              try have c7b2 : (9223372036854775807 < (x6_1 ++ (⟨#[32]⟩ : ByteArray)).size + t260.size) = False := eq_false (Nat.not_lt.2 c7)
              try (have c7b3 := c7b2; simp only [ByteArray.size_append, bsz, List.length_cons, List.length_nil, Nat.zero_add, Nat.reduceAdd] at c7b3)
              have H' := Aside0.mk H
              clear H
              have p259 : 0 ≤ (x7_1 : Int) := of_decide_eq_true (by first | (with_reducible assumption) | assumption)
              have q259 : x7_1 < (l1.length : Int) := of_decide_eq_true (by first | (with_reducible assumption) | assumption)
              obtain ⟨ad259, e259, hx259_0⟩ := Kd.at_string HR1.out x7_1 p259 q259
              cases e259
              replace hx259_0 := (HB.out.cell (World.block_lt_of_cell? w _ hx259_0)).trans hx259_0
              replace p259 := eq_true p259
              replace q259 := eq_true q259
              go_wp2_with (first | (go_at_call 78; (with_reducible refine (frisketref06_quoted.calls k1 (rdOf ByteArray.empty l1 x7_1) t260 _ A6.out).mono ?_); rintro e w' ⟨rfl, ⟨nd, rfl⟩⟩; (try first | exact ⟨rfl, _, World.drewN_drewN _ _ _⟩ | exact ⟨rfl, _, Eq.trans (World.drewN_drewN _ _ _) (congrArg (World.drewN _) (Nat.add_assoc _ _ _))⟩)))
              repeat (go_quiet (first | (go_at_call 78; (with_reducible refine (frisketref06_quoted.calls k1 (rdOf ByteArray.empty l1 x7_1) t260 _ A6.out).mono ?_); rintro e w' ⟨rfl, ⟨nd, rfl⟩⟩; (try first | exact ⟨rfl, _, World.drewN_drewN _ _ _⟩ | exact ⟨rfl, _, Eq.trans (World.drewN_drewN _ _ _) (congrArg (World.drewN _) (Nat.add_assoc _ _ _))⟩))); try go_wp2_with (first | (go_at_call 78; (with_reducible refine (frisketref06_quoted.calls k1 (rdOf ByteArray.empty l1 x7_1) t260 _ A6.out).mono ?_); rintro e w' ⟨rfl, ⟨nd, rfl⟩⟩; (try first | exact ⟨rfl, _, World.drewN_drewN _ _ _⟩ | exact ⟨rfl, _, Eq.trans (World.drewN_drewN _ _ _) (congrArg (World.drewN _) (Nat.add_assoc _ _ _))⟩))))
              go_roundg k1
              case measure => have := HK1.out; omega
              case rel => exact ⟨((x6_1 ++ (⟨#[32]⟩ : ByteArray)) ++ t260), (wrap64 (x7_1 + 1)), (by first | rfl | (simp; done) | (simp [*]; done)), (by first | rfl | (simp; done) | (simp [*]; done)), H', ⟨by have := HK1.out; omega⟩, ⟨by repeat (first | (with_reducible first | exact HB.out | apply below_alloc | apply pw_below_drewN | apply below_drew1) | exact HB.out)⟩⟩
            · rw [if_neg c7] at H
              exact absurd H (by simp)
          · rw [if_neg c5] at H
            exact absurd H (by simp)
        · rw [if_neg c4] at H
          exact absurd H (by simp)
      · rw [if_neg c3] at H
        have c3b0 : decide (x7_1 < (l1.length : Int)) = false := decide_eq_false c3
        clear c3
        by_cases c8 : 1 + a0.size ≤ 9223372036854775807
        · rw [if_pos c8] at H
          have c8b0 := eq_true c8
          have c8b1 : decide (1 + a0.size ≤ 9223372036854775807) = true := decide_eq_true c8
          try have c8b2 : (9223372036854775807 < 1 + a0.size) = False := eq_false (Nat.not_lt.2 c8)
          try (have c8b3 := c8b2; simp only [ByteArray.size_append, bsz, List.length_cons, List.length_nil, Nat.zero_add, Nat.reduceAdd] at c8b3)
          by_cases c9 : ((⟨#[46]⟩ : ByteArray) ++ a0).size + x6_1.size ≤ 9223372036854775807
          · rw [if_pos c9] at H
            have c9b0 := eq_true c9
            have c9b1 : decide (((⟨#[46]⟩ : ByteArray) ++ a0).size + x6_1.size ≤ 9223372036854775807) = true := decide_eq_true c9
            try have c9b2 : (9223372036854775807 < ((⟨#[46]⟩ : ByteArray) ++ a0).size + x6_1.size) = False := eq_false (Nat.not_lt.2 c9)
            try (have c9b3 := c9b2; simp only [ByteArray.size_append, bsz, List.length_cons, List.length_nil, Nat.zero_add, Nat.reduceAdd] at c9b3)
            have HC10 := Aside0.mk H
            clear H
            go_upto_region 7 with (fail)
            repeat (go_quiet (fail); go_upto_region 7 with (fail))
            go_cut [42] (fun v42 wc => ∃ (kq : Nat) (x42_9 : Bool), v42 = .bool x42_9 ∧ Aside0 (frisketref06_Write.j1 kq l1 x6_1 (((⟨#[46]⟩ : ByteArray) ++ a0) ++ x6_1) x42_9 = some (r1, r2)) ∧ Aside0 (kq ≤ k1) ∧ Aside0 (Below w.heap.size w wc))
            case first =>
              have H := HC10.out
              clear HC10
              by_cases c11 : a0.toList = ([] : List UInt8)
              · rw [if_pos c11] at H
                have c11b0 : (a0.toList == ([] : List UInt8)) = true := beq_iff_eq.mpr c11
                have c11b1 : (a0.toList != ([] : List UInt8)) = false := bne_eq_false_iff_eq.mpr c11
                clear c11
                (first | rw [c11b0] | (simp only [i64_w, i32_w]; rw [c11b0]) | skip)
                have H' := Aside0.mk H
                clear H
                go_wp2
                repeat (go_quiet (fail); try go_wp2)
                go_meet
                case rel => exact ⟨_, (true), (by first | rfl | (simp; done) | (simp [*]; done)), H', ⟨by have := HK1.out; first | omega | exact Nat.le_refl _⟩, ⟨by repeat (first | (with_reducible first | exact HB.out | apply below_alloc | apply pw_below_drewN | apply below_drew1) | exact HB.out)⟩⟩
              · rw [if_neg c11] at H
                have c11b0 : (a0.toList == ([] : List UInt8)) = false := beq_eq_false_iff_ne.mpr c11
                have c11b1 : (a0.toList != ([] : List UInt8)) = true := bne_iff_ne.mpr c11
                (first | rw [c11b0] | (simp only [i64_w, i32_w]; rw [c11b0]) | skip)
                replace H := Option.bind_eq_some_iff.mp H
                obtain ⟨t261, A120, H⟩ := H
                replace H : (if t261 = (a0.size : Int) then ((frisketref06_to.f k1 (((⟨#[46]⟩ : ByteArray) ++ a0) ++ x6_1) 0 10).bind fun t262 => (frisketref06_Write.j1 k1 l1 x6_1 (((⟨#[46]⟩ : ByteArray) ++ a0) ++ x6_1) (decide (t262 ≥ 0)))) else (frisketref06_Write.j1 k1 l1 x6_1 (((⟨#[46]⟩ : ByteArray) ++ a0) ++ x6_1) true)) = some (r1, r2) := H
                have A12 := Aside0.mk A120
                clear A120
                by_cases c13 : t261 = (a0.size : Int)
                · rw [if_pos c13] at H
                  have c13b0 : (t261 == (a0.size : Int)) = true := beq_iff_eq.mpr c13
                  have c13b1 : (t261 != (a0.size : Int)) = false := bne_eq_false_iff_eq.mpr c13
                  clear c13
                  replace H := Option.bind_eq_some_iff.mp H
                  obtain ⟨t262, A140, H⟩ := H
                  replace H : (frisketref06_Write.j1 k1 l1 x6_1 (((⟨#[46]⟩ : ByteArray) ++ a0) ++ x6_1) (decide (t262 ≥ 0))) = some (r1, r2) := H
                  have A14 := Aside0.mk A140
                  clear A140
                  have H' := Aside0.mk H
                  clear H
                  go_wp2_with (first | (go_at_call 79; (with_reducible refine (frisketref06_word.calls k1 a0 0 t261 _ A12.out).mono ?_); rintro e w' ⟨rfl, ⟨nd, rfl⟩⟩; (try first | exact ⟨rfl, _, World.drewN_drewN _ _ _⟩ | exact ⟨rfl, _, Eq.trans (World.drewN_drewN _ _ _) (congrArg (World.drewN _) (Nat.add_assoc _ _ _))⟩)) | (go_at_call 80; (with_reducible refine (frisketref06_to.calls k1 (((⟨#[46]⟩ : ByteArray) ++ a0) ++ x6_1) 0 10 t262 _ A14.out).mono ?_); rintro e w' ⟨rfl, ⟨nd, rfl⟩⟩; (try first | exact ⟨rfl, _, World.drewN_drewN _ _ _⟩ | exact ⟨rfl, _, Eq.trans (World.drewN_drewN _ _ _) (congrArg (World.drewN _) (Nat.add_assoc _ _ _))⟩)))
                  repeat (go_quiet (first | (go_at_call 79; (with_reducible refine (frisketref06_word.calls k1 a0 0 t261 _ A12.out).mono ?_); rintro e w' ⟨rfl, ⟨nd, rfl⟩⟩; (try first | exact ⟨rfl, _, World.drewN_drewN _ _ _⟩ | exact ⟨rfl, _, Eq.trans (World.drewN_drewN _ _ _) (congrArg (World.drewN _) (Nat.add_assoc _ _ _))⟩)) | (go_at_call 80; (with_reducible refine (frisketref06_to.calls k1 (((⟨#[46]⟩ : ByteArray) ++ a0) ++ x6_1) 0 10 t262 _ A14.out).mono ?_); rintro e w' ⟨rfl, ⟨nd, rfl⟩⟩; (try first | exact ⟨rfl, _, World.drewN_drewN _ _ _⟩ | exact ⟨rfl, _, Eq.trans (World.drewN_drewN _ _ _) (congrArg (World.drewN _) (Nat.add_assoc _ _ _))⟩))); try go_wp2_with (first | (go_at_call 79; (with_reducible refine (frisketref06_word.calls k1 a0 0 t261 _ A12.out).mono ?_); rintro e w' ⟨rfl, ⟨nd, rfl⟩⟩; (try first | exact ⟨rfl, _, World.drewN_drewN _ _ _⟩ | exact ⟨rfl, _, Eq.trans (World.drewN_drewN _ _ _) (congrArg (World.drewN _) (Nat.add_assoc _ _ _))⟩)) | (go_at_call 80; (with_reducible refine (frisketref06_to.calls k1 (((⟨#[46]⟩ : ByteArray) ++ a0) ++ x6_1) 0 10 t262 _ A14.out).mono ?_); rintro e w' ⟨rfl, ⟨nd, rfl⟩⟩; (try first | exact ⟨rfl, _, World.drewN_drewN _ _ _⟩ | exact ⟨rfl, _, Eq.trans (World.drewN_drewN _ _ _) (congrArg (World.drewN _) (Nat.add_assoc _ _ _))⟩))))
                  go_meet
                  case rel => exact ⟨_, (decide (t262 ≥ 0)), (by first | rfl | (simp; done) | (simp [*]; done)), H', ⟨by have := HK1.out; first | omega | exact Nat.le_refl _⟩, ⟨by repeat (first | (with_reducible first | exact HB.out | apply below_alloc | apply pw_below_drewN | apply below_drew1) | exact HB.out)⟩⟩
                · rw [if_neg c13] at H
                  have c13b0 : (t261 == (a0.size : Int)) = false := beq_eq_false_iff_ne.mpr c13
                  have c13b1 : (t261 != (a0.size : Int)) = true := bne_iff_ne.mpr c13
                  have H' := Aside0.mk H
                  clear H
                  go_wp2_with (first | (go_at_call 79; (with_reducible refine (frisketref06_word.calls k1 a0 0 t261 _ A12.out).mono ?_); rintro e w' ⟨rfl, ⟨nd, rfl⟩⟩; (try first | exact ⟨rfl, _, World.drewN_drewN _ _ _⟩ | exact ⟨rfl, _, Eq.trans (World.drewN_drewN _ _ _) (congrArg (World.drewN _) (Nat.add_assoc _ _ _))⟩)))
                  repeat (go_quiet (first | (go_at_call 79; (with_reducible refine (frisketref06_word.calls k1 a0 0 t261 _ A12.out).mono ?_); rintro e w' ⟨rfl, ⟨nd, rfl⟩⟩; (try first | exact ⟨rfl, _, World.drewN_drewN _ _ _⟩ | exact ⟨rfl, _, Eq.trans (World.drewN_drewN _ _ _) (congrArg (World.drewN _) (Nat.add_assoc _ _ _))⟩))); try go_wp2_with (first | (go_at_call 79; (with_reducible refine (frisketref06_word.calls k1 a0 0 t261 _ A12.out).mono ?_); rintro e w' ⟨rfl, ⟨nd, rfl⟩⟩; (try first | exact ⟨rfl, _, World.drewN_drewN _ _ _⟩ | exact ⟨rfl, _, Eq.trans (World.drewN_drewN _ _ _) (congrArg (World.drewN _) (Nat.add_assoc _ _ _))⟩))))
                  go_meet
                  case rel => exact ⟨_, (true), (by first | rfl | (simp; done) | (simp [*]; done)), H', ⟨by have := HK1.out; first | omega | exact Nat.le_refl _⟩, ⟨by repeat (first | (with_reducible first | exact HB.out | apply below_alloc | apply pw_below_drewN | apply below_drew1) | exact HB.out)⟩⟩
            case rest =>
              clear HC10
              try clear c1
              try clear p2
              try clear q2
              try clear hx2
              try clear c3
              try clear c3b0
              try clear c4
              try clear c4b0
              try clear c4b1
              try clear c4b2
              try clear c5
              try clear c5b0
              try clear p6
              try clear c7
              try clear c7b0
              try clear c7b1
              try clear c7b2
              try clear c8
              try clear c8b0
              try clear c8b1
              try clear c8b2
              try clear c9
              try clear c9b0
              try clear c9b1
              try clear c9b2
              try clear c11
              try clear c11b0
              try clear c11b1
              try clear c13
              try clear c13b0
              try clear c13b1
              try clear hx259_0
              try clear p2
              try clear p259
              try clear q259
              obtain ⟨kq, x42_9, rfl, HA, HJ9, HB⟩ := hcut
              cases kq with
              | zero => exact absurd HA.out (by simp [frisketref06_Write.j1])
              | succ kj9 =>
                have H := HA.out
                clear HA
                simp only [frisketref06_Write.j1] at H
                by_cases c15 : x42_9 = true
                · subst c15
                  have H1 : (some ((⟨#[]⟩ : ByteArray), 4)) = some (r1, r2) := by rw [if_pos rfl] at H; exact H
                  clear H
                  have H := H1
                  clear H1
                  simp only [Option.some.injEq, Prod.mk.injEq] at H
                  obtain ⟨rfl, rfl⟩ := H
                  go_wp2
                  repeat (go_quiet (fail); try go_wp2)
                  go_ret2
                  exact ⟨by first | rfl | (simp [errW_none, errW_some] <;> rfl) | (simp [*, errW_none, errW_some] <;> rfl), by repeat (first | (with_reducible first | exact HB.out | apply below_alloc | apply pw_below_drewN | apply below_drew1) | exact HB.out)⟩
                · replace c15 := Bool.eq_false_iff.mpr c15
                  subst c15
                  have H1 : ((frisketref06_Words.f kj9 x6_1).bind fun t263 => (if (t263.length : Int) = (l1.length : Int) then (frisketref06_Write.l1 kj9 l1 (((⟨#[46]⟩ : ByteArray) ++ a0) ++ x6_1) t263 0) else (some ((⟨#[]⟩ : ByteArray), 4)))) = some (r1, r2) := by rw [if_neg (show ¬ (false = true) by decide)] at H; exact H
                  clear H
                  have H := H1
                  clear H1
                  replace H := Option.bind_eq_some_iff.mp H
                  obtain ⟨t263, A160, H⟩ := H
                  replace H : (if (t263.length : Int) = (l1.length : Int) then (frisketref06_Write.l1 kj9 l1 (((⟨#[46]⟩ : ByteArray) ++ a0) ++ x6_1) t263 0) else (some ((⟨#[]⟩ : ByteArray), 4))) = some (r1, r2) := H
                  have A16 := Aside0.mk A160
                  clear A160
                  by_cases c17 : (t263.length : Int) = (l1.length : Int)
                  · rw [if_pos c17] at H
                    have c17b0 : ((t263.length : Int) == (l1.length : Int)) = true := beq_iff_eq.mpr c17
                    have c17b1 : ((t263.length : Int) != (l1.length : Int)) = false := bne_eq_false_iff_eq.mpr c17
                    have c17b2 : (t263.length == l1.length) = true := by first | simpa using c17 | (simp at c17 ⊢; omega)
                    clear c17
                    have H' := Aside0.mk H
                    clear H
                    go_wp2_with (first | (go_at_call 44; (with_reducible refine (frisketref06_Words.calls kj9 x6_1 t263 _ A16.out).mono ?_); rintro e w18 ⟨v264, rfl, ho0, hb⟩; have n0_ := Aside0.mk (Kd.R_lower ho0 (below_size (by repeat (first | (with_reducible first | exact HB.out | apply below_alloc | apply pw_below_drewN | apply below_drew1) | exact HB.out)))); have n1_ := Aside0.mk (below_step (by repeat (first | (with_reducible first | exact HB.out | apply below_alloc | apply pw_below_drewN | apply below_drew1) | exact HB.out)) hb); clear HB; have HO265 := n0_; have HB := n1_; clear n0_ n1_; (try clear hb); (try clear hb2); (try clear hk); (try clear hi); (try clear ho0); obtain ⟨Ao19, co19, eo19⟩ := Kd.R_slice HO265.out; subst eo19))
                    repeat (go_quiet (first | (go_at_call 44; (with_reducible refine (frisketref06_Words.calls kj9 x6_1 t263 _ A16.out).mono ?_); rintro e w18 ⟨v264, rfl, ho0, hb⟩; have n0_ := Aside0.mk (Kd.R_lower ho0 (below_size (by repeat (first | (with_reducible first | exact HB.out | apply below_alloc | apply pw_below_drewN | apply below_drew1) | exact HB.out)))); have n1_ := Aside0.mk (below_step (by repeat (first | (with_reducible first | exact HB.out | apply below_alloc | apply pw_below_drewN | apply below_drew1) | exact HB.out)) hb); clear HB; have HO265 := n0_; have HB := n1_; clear n0_ n1_; (try clear hb); (try clear hb2); (try clear hk); (try clear hi); (try clear ho0); obtain ⟨Ao19, co19, eo19⟩ := Kd.R_slice HO265.out; subst eo19)); try go_wp2_with (first | (go_at_call 44; (with_reducible refine (frisketref06_Words.calls kj9 x6_1 t263 _ A16.out).mono ?_); rintro e w18 ⟨v264, rfl, ho0, hb⟩; have n0_ := Aside0.mk (Kd.R_lower ho0 (below_size (by repeat (first | (with_reducible first | exact HB.out | apply below_alloc | apply pw_below_drewN | apply below_drew1) | exact HB.out)))); have n1_ := Aside0.mk (below_step (by repeat (first | (with_reducible first | exact HB.out | apply below_alloc | apply pw_below_drewN | apply below_drew1) | exact HB.out)) hb); clear HB; have HO265 := n0_; have HB := n1_; clear n0_ n1_; (try clear hb); (try clear hb2); (try clear hk); (try clear hi); (try clear ho0); obtain ⟨Ao19, co19, eo19⟩ := Kd.R_slice HO265.out; subst eo19)))
                    go_loopg [10] kj9 (fun kq v10 w' => ∃ (x10_3 : Int), v10 = .int .i64 x10_3 ∧ Aside0 (frisketref06_Write.l1 kq l1 (((⟨#[46]⟩ : ByteArray) ++ a0) ++ x6_1) t263 x10_3 = some (r1, r2)) ∧ Aside0 (kq ≤ kj9) ∧ Aside0 (Kd.R Kd.string 9 w' w.heap.size (fun _ => True) (.slice Ao19 t263.length co19) t263) ∧ Aside0 (Below w.heap.size w w'))
                    case atStart => exact ⟨(0), (by first | rfl | (simp; done) | (simp [*]; done)), H', ⟨Nat.le_refl _⟩, ⟨by (with_reducible repeat (first | apply Kd.R_alloc | apply Kd.R_drewN | apply Kd.R_drew)); exact HO265.out⟩, ⟨by repeat (first | (with_reducible first | exact HB.out | apply below_alloc | apply pw_below_drewN | apply below_drew1) | exact HB.out)⟩⟩
                    case round =>
                      clear H'
                      try clear c1
                      try clear p2
                      try clear q2
                      try clear hx2
                      try clear c3
                      try clear c3b0
                      try clear c4
                      try clear c4b0
                      try clear c4b1
                      try clear c4b2
                      try clear c5
                      try clear c5b0
                      try clear p6
                      try clear c7
                      try clear c7b0
                      try clear c7b1
                      try clear c7b2
                      try clear c8
                      try clear c8b0
                      try clear c8b1
                      try clear c8b2
                      try clear c9
                      try clear c9b0
                      try clear c9b1
                      try clear c9b2
                      try clear c11
                      try clear c11b0
                      try clear c11b1
                      try clear c13
                      try clear c13b0
                      try clear c13b1
                      try clear c15
                      try clear c17
                      try clear c17b0
                      try clear c17b1
                      try clear c17b2
                      try clear hx259_0
                      try clear p2
                      try clear p259
                      try clear p6
                      try clear q2
                      try clear q259
                      obtain ⟨x10_3, rfl, HA, HK3, HO_9, HB⟩ := hrel
                      cases gk with
                      | zero => exact absurd HA.out (by simp [frisketref06_Write.l1])
                      | succ k3 =>
                        have H := HA.out
                        clear HA
                        simp only [frisketref06_Write.l1] at H
                        by_cases c20 : x10_3 < (t263.length : Int)
                        · rw [if_pos c20] at H
                          have c20b0 : decide (x10_3 < (t263.length : Int)) = true := decide_eq_true c20
                          clear c20
                          by_cases c21 : 0 ≤ x10_3
                          · rw [if_pos c21] at H
                            have c21b0 : decide (0 ≤ x10_3) = true := decide_eq_true c21
                            clear c21
                            by_cases c22 : x10_3 < (l1.length : Int)
                            · rw [if_pos c22] at H
                              have c22b0 : decide (x10_3 < (l1.length : Int)) = true := decide_eq_true c22
                              clear c22
                              by_cases c23 : (rdOf ByteArray.empty t263 x10_3).toList = (rdOf ByteArray.empty l1 x10_3).toList
                              · rw [if_pos c23] at H
                                have c23b0 : ((rdOf ByteArray.empty t263 x10_3).toList == (rdOf ByteArray.empty l1 x10_3).toList) = true := beq_iff_eq.mpr c23
                                have c23b1 : ((rdOf ByteArray.empty t263 x10_3).toList != (rdOf ByteArray.empty l1 x10_3).toList) = false := bne_eq_false_iff_eq.mpr c23
                                clear c23
                                have H' := Aside0.mk H
                                clear H
                                have p266 : 0 ≤ (x10_3 : Int) := of_decide_eq_true (by first | (with_reducible assumption) | assumption)
                                have q266 : x10_3 < (t263.length : Int) := of_decide_eq_true (by first | (with_reducible assumption) | assumption)
                                obtain ⟨ad266, e266, hx266_0⟩ := Kd.at_string (Kd.R_reads' HO_9.out).2.2 x10_3 p266 q266
                                cases e266
                                replace p266 := eq_true p266
                                replace q266 := eq_true q266
                                have p267 : 0 ≤ (x10_3 : Int) := of_decide_eq_true (by first | (with_reducible assumption) | assumption)
                                have q267 : x10_3 < (l1.length : Int) := of_decide_eq_true (by first | (with_reducible assumption) | assumption)
                                obtain ⟨ad267, e267, hx267_0⟩ := Kd.at_string HR1.out x10_3 p267 q267
                                cases e267
                                replace hx267_0 := (HB.out.cell (World.block_lt_of_cell? w _ hx267_0)).trans hx267_0
                                replace p267 := eq_true p267
                                replace q267 := eq_true q267
                                go_wp2
                                repeat (go_quiet (fail); try go_wp2)
                                go_roundg k3
                                case measure => have := HK1.out; have := HJ9.out; have := HK3.out; omega
                                case rel => exact ⟨(wrap64 (x10_3 + 1)), (by first | rfl | (simp; done) | (simp [*]; done)), H', ⟨by have := HK1.out; have := HJ9.out; have := HK3.out; omega⟩, ⟨by (with_reducible repeat (first | apply Kd.R_alloc | apply Kd.R_drewN | apply Kd.R_drew)); exact HO_9.out⟩, ⟨by repeat (first | (with_reducible first | exact HB.out | apply below_alloc | apply pw_below_drewN | apply below_drew1) | exact HB.out)⟩⟩
                              · rw [if_neg c23] at H
                                have c23b0 : ((rdOf ByteArray.empty t263 x10_3).toList == (rdOf ByteArray.empty l1 x10_3).toList) = false := beq_eq_false_iff_ne.mpr c23
                                have c23b1 : ((rdOf ByteArray.empty t263 x10_3).toList != (rdOf ByteArray.empty l1 x10_3).toList) = true := bne_iff_ne.mpr c23
                                simp only [Option.some.injEq, Prod.mk.injEq] at H
                                obtain ⟨rfl, rfl⟩ := H
                                have p266 : 0 ≤ (x10_3 : Int) := of_decide_eq_true (by first | (with_reducible assumption) | assumption)
                                have q266 : x10_3 < (t263.length : Int) := of_decide_eq_true (by first | (with_reducible assumption) | assumption)
                                obtain ⟨ad266, e266, hx266_0⟩ := Kd.at_string (Kd.R_reads' HO_9.out).2.2 x10_3 p266 q266
                                cases e266
                                replace p266 := eq_true p266
                                replace q266 := eq_true q266
                                have p267 : 0 ≤ (x10_3 : Int) := of_decide_eq_true (by first | (with_reducible assumption) | assumption)
                                have q267 : x10_3 < (l1.length : Int) := of_decide_eq_true (by first | (with_reducible assumption) | assumption)
                                obtain ⟨ad267, e267, hx267_0⟩ := Kd.at_string HR1.out x10_3 p267 q267
                                cases e267
                                replace hx267_0 := (HB.out.cell (World.block_lt_of_cell? w _ hx267_0)).trans hx267_0
                                replace p267 := eq_true p267
                                replace q267 := eq_true q267
                                go_wp2
                                repeat (go_quiet (fail); try go_wp2)
                                go_ret2
                                exact ⟨by first | rfl | (simp [errW_none, errW_some] <;> rfl) | (simp [*, errW_none, errW_some] <;> rfl), by repeat (first | (with_reducible first | exact HB.out | apply below_alloc | apply pw_below_drewN | apply below_drew1) | exact HB.out)⟩
                            · rw [if_neg c22] at H
                              exact absurd H (by simp)
                          · rw [if_neg c21] at H
                            exact absurd H (by simp)
                        · rw [if_neg c20] at H
                          have c20b0 : decide (x10_3 < (t263.length : Int)) = false := decide_eq_false c20
                          clear c20
                          by_cases c24 : ((((⟨#[46]⟩ : ByteArray) ++ a0) ++ x6_1).size : Int) > 2000
                          · rw [if_pos c24] at H
                            have c24b0 : decide (2000 < ((((⟨#[46]⟩ : ByteArray) ++ a0) ++ x6_1).size : Int)) = true := decide_eq_true c24
                            try (have c24b9 := c24b0; simp only [ByteArray.size_append, bsz, List.length_cons, List.length_nil, Nat.zero_add, Nat.reduceAdd] at c24b9; push_cast at c24b9)
                            have c24b1 : decide (2000 < (((⟨#[46]⟩ : ByteArray) ++ a0) ++ x6_1).size) = true := decide_eq_true (by omega)
                            clear c24
                            simp only [Option.some.injEq, Prod.mk.injEq] at H
                            obtain ⟨rfl, rfl⟩ := H
                            go_wp2
                            repeat (go_quiet (fail); try go_wp2)
                            go_ret2
                            exact ⟨by first | rfl | (simp [errW_none, errW_some] <;> rfl) | (simp [*, errW_none, errW_some] <;> rfl), by repeat (first | (with_reducible first | exact HB.out | apply below_alloc | apply pw_below_drewN | apply below_drew1) | exact HB.out)⟩
                          · rw [if_neg c24] at H
                            have c24b0 : decide (2000 < ((((⟨#[46]⟩ : ByteArray) ++ a0) ++ x6_1).size : Int)) = false := decide_eq_false c24
                            try (have c24b9 := c24b0; simp only [ByteArray.size_append, bsz, List.length_cons, List.length_nil, Nat.zero_add, Nat.reduceAdd] at c24b9; push_cast at c24b9)
                            have c24b1 : decide (2000 < (((⟨#[46]⟩ : ByteArray) ++ a0) ++ x6_1).size) = false := decide_eq_false (by omega)
                            clear c24
                            simp only [Option.some.injEq, Prod.mk.injEq] at H
                            obtain ⟨rfl, rfl⟩ := H
                            go_wp2
                            repeat (go_quiet (fail); try go_wp2)
                            go_ret2
                            exact ⟨by first | rfl | (simp [errW_none, errW_some] <;> rfl) | (simp [*, errW_none, errW_some] <;> rfl), by repeat (first | (with_reducible first | exact HB.out | apply below_alloc | apply pw_below_drewN | apply below_drew1) | exact HB.out)⟩
                  · rw [if_neg c17] at H
                    have c17b0 : ((t263.length : Int) == (l1.length : Int)) = false := beq_eq_false_iff_ne.mpr c17
                    have c17b1 : ((t263.length : Int) != (l1.length : Int)) = true := bne_iff_ne.mpr c17
                    have c17b2 : (t263.length == l1.length) = false := by first | simpa using c17 | (simp at c17 ⊢; omega)
                    simp only [Option.some.injEq, Prod.mk.injEq] at H
                    obtain ⟨rfl, rfl⟩ := H
                    go_wp2_with (first | (go_at_call 44; (with_reducible refine (frisketref06_Words.calls kj9 x6_1 t263 _ A16.out).mono ?_); rintro e w25 ⟨v264, rfl, ho0, hb⟩; have n0_ := Aside0.mk (Kd.R_lower ho0 (below_size (by repeat (first | (with_reducible first | exact HB.out | apply below_alloc | apply pw_below_drewN | apply below_drew1) | exact HB.out)))); have n1_ := Aside0.mk (below_step (by repeat (first | (with_reducible first | exact HB.out | apply below_alloc | apply pw_below_drewN | apply below_drew1) | exact HB.out)) hb); clear HB; have HO265 := n0_; have HB := n1_; clear n0_ n1_; (try clear hb); (try clear hb2); (try clear hk); (try clear hi); (try clear ho0); obtain ⟨Ao26, co26, eo26⟩ := Kd.R_slice HO265.out; subst eo26))
                    repeat (go_quiet (first | (go_at_call 44; (with_reducible refine (frisketref06_Words.calls kj9 x6_1 t263 _ A16.out).mono ?_); rintro e w25 ⟨v264, rfl, ho0, hb⟩; have n0_ := Aside0.mk (Kd.R_lower ho0 (below_size (by repeat (first | (with_reducible first | exact HB.out | apply below_alloc | apply pw_below_drewN | apply below_drew1) | exact HB.out)))); have n1_ := Aside0.mk (below_step (by repeat (first | (with_reducible first | exact HB.out | apply below_alloc | apply pw_below_drewN | apply below_drew1) | exact HB.out)) hb); clear HB; have HO265 := n0_; have HB := n1_; clear n0_ n1_; (try clear hb); (try clear hb2); (try clear hk); (try clear hi); (try clear ho0); obtain ⟨Ao26, co26, eo26⟩ := Kd.R_slice HO265.out; subst eo26)); try go_wp2_with (first | (go_at_call 44; (with_reducible refine (frisketref06_Words.calls kj9 x6_1 t263 _ A16.out).mono ?_); rintro e w25 ⟨v264, rfl, ho0, hb⟩; have n0_ := Aside0.mk (Kd.R_lower ho0 (below_size (by repeat (first | (with_reducible first | exact HB.out | apply below_alloc | apply pw_below_drewN | apply below_drew1) | exact HB.out)))); have n1_ := Aside0.mk (below_step (by repeat (first | (with_reducible first | exact HB.out | apply below_alloc | apply pw_below_drewN | apply below_drew1) | exact HB.out)) hb); clear HB; have HO265 := n0_; have HB := n1_; clear n0_ n1_; (try clear hb); (try clear hb2); (try clear hk); (try clear hi); (try clear ho0); obtain ⟨Ao26, co26, eo26⟩ := Kd.R_slice HO265.out; subst eo26)))
                    go_ret2
                    exact ⟨by first | rfl | (simp [errW_none, errW_some] <;> rfl) | (simp [*, errW_none, errW_some] <;> rfl), by repeat (first | (with_reducible first | exact HB.out | apply below_alloc | apply pw_below_drewN | apply below_drew1) | exact HB.out)⟩
          · rw [if_neg c9] at H
            exact absurd H (by simp)
        · rw [if_neg c8] at H
          exact absurd H (by simp)

/-! ### frisketref37_same: function 46 -/
def frisketref37_same.l0 : Nat → List ByteArray → List ByteArray → Int → Option (Bool)
  | 0, _, _, _ => none
  | k + 1, x0, x1, x5 => if x5 < (x0.length : Int) then (if 0 ≤ x5 then (if x5 < (x1.length : Int) then (if (rdOf ByteArray.empty x0 x5).toList = (rdOf ByteArray.empty x1 x5).toList then (frisketref37_same.l0 k x0 x1 (wrap64 (x5 + 1))) else (some false)) else (none)) else (none)) else (some true)
def frisketref37_same.f (k : Nat) (l0 : List ByteArray) (l1 : List ByteArray) : Option (Bool) := if (l0.length : Int) = (l1.length : Int) then (frisketref37_same.l0 k l0 l1 0) else (some false)
theorem frisketref37_same.mono_l : ∀ k, (∀ y0 y1 y2, LeO (frisketref37_same.l0 k y0 y1 y2) (frisketref37_same.l0 (k + 1) y0 y1 y2))
  | 0 => fun _ _ _ r h => by simp [frisketref37_same.l0] at h
  | k + 1 => by
    have ih0 := frisketref37_same.mono_l k
    · intro y0 y1 y2
      unfold frisketref37_same.l0
      repeat' first
      | (with_reducible exact ih0 _ _ _)
      | (with_reducible exact LeO.refl _)
      | (with_reducible exact LeO.none _)
      | (with_reducible refine LeO.ite ?_ ?_)
      | (with_reducible refine LeO.bind ?_ (fun _ => ?_))
      | exact ih0 _ _ _
      | exact LeO.none _
      | refine LeO.ite ?_ ?_
      | refine LeO.bind ?_ (fun _ => ?_)
theorem frisketref37_same.mono : ∀ a0 a1 k, LeO (frisketref37_same.f k a0 a1) (frisketref37_same.f (k + 1) a0 a1) := by
  intro a0 a1 k
  have ih0 := frisketref37_same.mono_l k
  unfold frisketref37_same.f
  repeat' first
      | (with_reducible exact ih0 _ _ _)
      | (with_reducible exact LeO.refl _)
      | (with_reducible exact LeO.none _)
      | (with_reducible refine LeO.ite ?_ ?_)
      | (with_reducible refine LeO.bind ?_ (fun _ => ?_))
      | exact ih0 _ _ _
      | exact LeO.none _
      | refine LeO.ite ?_ ?_
      | refine LeO.bind ?_ (fun _ => ?_)
set_option maxHeartbeats 8000000 in
set_option maxRecDepth 100000 in
theorem frisketref37_same.calls (k : Nat) (A0 : Option Addr) (c0 : Nat) (l0 : List ByteArray) (A1 : Option Addr) (c1 : Nat) (l1 : List ByteArray) (r : Bool) (w : World) (hr0 : Kd.C Kd.string w A0 l0.length l0) (hc0 : l0.length ≤ c0) (hr1 : Kd.C Kd.string w A1 l1.length l1) (hc1 : l1.length ≤ c1) (h : frisketref37_same.f k l0 l1 = some r) :
    Calls Tryz.prog 46 #[.slice A0 l0.length c0, .slice A1 l1.length c1] w fun e w' => e = .returned (.bool r) ∧ Drawn0 w w' := by
  have HR0 := Aside0.mk hr0
  have HC0 := Aside0.mk hc0
  clear hr0 hc0
  have HR1 := Aside0.mk hr1
  have HC1 := Aside0.mk hc1
  clear hr1 hc1
  have H : (if (l0.length : Int) = (l1.length : Int) then (frisketref37_same.l0 k l0 l1 0) else (some false)) = some r := h
  clear h
  by_cases c3 : (l0.length : Int) = (l1.length : Int)
  · rw [if_pos c3] at H
    have c3b0 : ((l0.length : Int) == (l1.length : Int)) = true := beq_iff_eq.mpr c3
    have c3b1 : ((l0.length : Int) != (l1.length : Int)) = false := bne_eq_false_iff_eq.mpr c3
    have c3b2 : (l0.length == l1.length) = true := by first | simpa using c3 | (simp at c3 ⊢; omega)
    clear c3
    have H' := Aside0.mk H
    clear H
    go_enter Tryz.func46, Tryz.ntmps46
    go_wp2
    repeat (go_quiet (fail); try go_wp2)
    go_loopg [5] k (fun kq v5 w' => ∃ (x5_1 : Int), v5 = .int .i64 x5_1 ∧ Aside0 (frisketref37_same.l0 kq l0 l1 x5_1 = some r) ∧ Aside0 (kq ≤ k) ∧ Drawn0 w w')
    case atStart => exact ⟨(0), (by first | rfl | (simp; done) | (simp [*]; done)), H', ⟨Nat.le_refl _⟩, by repeat (first | exact Drawn0.refl _ | apply Drawn0.step)⟩
    case round =>
      clear H'
      try clear c1
      try clear p2
      try clear c3
      try clear c3b0
      try clear c3b1
      try clear c3b2
      obtain ⟨x5_1, rfl, HA, HK1, ⟨m1, rfl⟩⟩ := hrel
      cases gk with
      | zero => exact absurd HA.out (by simp [frisketref37_same.l0])
      | succ k1 =>
        have H := HA.out
        clear HA
        simp only [frisketref37_same.l0] at H
        by_cases c4 : x5_1 < (l0.length : Int)
        · rw [if_pos c4] at H
          have c4b0 : decide (x5_1 < (l0.length : Int)) = true := decide_eq_true c4
          clear c4
          by_cases c5 : 0 ≤ x5_1
          · rw [if_pos c5] at H
            have c5b0 : decide (0 ≤ x5_1) = true := decide_eq_true c5
            clear c5
            by_cases c6 : x5_1 < (l1.length : Int)
            · rw [if_pos c6] at H
              have c6b0 : decide (x5_1 < (l1.length : Int)) = true := decide_eq_true c6
              clear c6
              by_cases c7 : (rdOf ByteArray.empty l0 x5_1).toList = (rdOf ByteArray.empty l1 x5_1).toList
              · rw [if_pos c7] at H
                have c7b0 : ((rdOf ByteArray.empty l0 x5_1).toList == (rdOf ByteArray.empty l1 x5_1).toList) = true := beq_iff_eq.mpr c7
                have c7b1 : ((rdOf ByteArray.empty l0 x5_1).toList != (rdOf ByteArray.empty l1 x5_1).toList) = false := bne_eq_false_iff_eq.mpr c7
                clear c7
                have H' := Aside0.mk H
                clear H
                have p268 : 0 ≤ (x5_1 : Int) := of_decide_eq_true (by first | (with_reducible assumption) | assumption)
                have q268 : x5_1 < (l0.length : Int) := of_decide_eq_true (by first | (with_reducible assumption) | assumption)
                obtain ⟨ad268, e268, hx268_0⟩ := Kd.at_string HR0.out x5_1 p268 q268
                cases e268
                replace p268 := eq_true p268
                replace q268 := eq_true q268
                have p269 : 0 ≤ (x5_1 : Int) := of_decide_eq_true (by first | (with_reducible assumption) | assumption)
                have q269 : x5_1 < (l1.length : Int) := of_decide_eq_true (by first | (with_reducible assumption) | assumption)
                obtain ⟨ad269, e269, hx269_0⟩ := Kd.at_string HR1.out x5_1 p269 q269
                cases e269
                replace p269 := eq_true p269
                replace q269 := eq_true q269
                go_wp2
                repeat (go_quiet (fail); try go_wp2)
                go_roundg k1
                case measure => have := HK1.out; omega
                case rel => exact ⟨(wrap64 (x5_1 + 1)), (by first | rfl | (simp; done) | (simp [*]; done)), H', ⟨by have := HK1.out; omega⟩, by repeat (first | exact Drawn0.refl _ | apply Drawn0.step)⟩
              · rw [if_neg c7] at H
                have c7b0 : ((rdOf ByteArray.empty l0 x5_1).toList == (rdOf ByteArray.empty l1 x5_1).toList) = false := beq_eq_false_iff_ne.mpr c7
                have c7b1 : ((rdOf ByteArray.empty l0 x5_1).toList != (rdOf ByteArray.empty l1 x5_1).toList) = true := bne_iff_ne.mpr c7
                obtain rfl := Option.some.inj H
                have p268 : 0 ≤ (x5_1 : Int) := of_decide_eq_true (by first | (with_reducible assumption) | assumption)
                have q268 : x5_1 < (l0.length : Int) := of_decide_eq_true (by first | (with_reducible assumption) | assumption)
                obtain ⟨ad268, e268, hx268_0⟩ := Kd.at_string HR0.out x5_1 p268 q268
                cases e268
                replace p268 := eq_true p268
                replace q268 := eq_true q268
                have p269 : 0 ≤ (x5_1 : Int) := of_decide_eq_true (by first | (with_reducible assumption) | assumption)
                have q269 : x5_1 < (l1.length : Int) := of_decide_eq_true (by first | (with_reducible assumption) | assumption)
                obtain ⟨ad269, e269, hx269_0⟩ := Kd.at_string HR1.out x5_1 p269 q269
                cases e269
                replace p269 := eq_true p269
                replace q269 := eq_true q269
                go_wp2
                repeat (go_quiet (fail); try go_wp2)
                go_ret
                exact ⟨by first | rfl | (simp; done) | (simp [*]; done), by repeat (first | exact Drawn0.refl _ | apply Drawn0.step)⟩
            · rw [if_neg c6] at H
              exact absurd H (by simp)
          · rw [if_neg c5] at H
            exact absurd H (by simp)
        · rw [if_neg c4] at H
          have c4b0 : decide (x5_1 < (l0.length : Int)) = false := decide_eq_false c4
          clear c4
          obtain rfl := Option.some.inj H
          go_wp2
          repeat (go_quiet (fail); try go_wp2)
          go_ret
          exact ⟨by first | rfl | (simp; done) | (simp [*]; done), by repeat (first | exact Drawn0.refl _ | apply Drawn0.step)⟩
  · rw [if_neg c3] at H
    have c3b0 : ((l0.length : Int) == (l1.length : Int)) = false := beq_eq_false_iff_ne.mpr c3
    have c3b1 : ((l0.length : Int) != (l1.length : Int)) = true := bne_iff_ne.mpr c3
    have c3b2 : (l0.length == l1.length) = false := by first | simpa using c3 | (simp at c3 ⊢; omega)
    obtain rfl := Option.some.inj H
    go_enter Tryz.func46, Tryz.ntmps46
    go_wp2
    repeat (go_quiet (fail); try go_wp2)
    go_ret
    exact ⟨by first | rfl | (simp; done) | (simp [*]; done), by repeat (first | exact Drawn0.refl _ | apply Drawn0.step)⟩

/-! ### frisketref37_line: function 22 -/
def frisketref37_line.f (k : Nat) (a0 : ByteArray) : Option (ByteArray) := (frisketref37_control.f k a0).bind fun bt270 => (if bt270.2.2.2 = true then (if bt270.2.1.toList = ([] : List UInt8) then (some bt270.1) else ((frisketref37_listed.f k bt270.2.1).bind fun t275 => (if t275 = true then ((frisketref06_Words.f k bt270.2.2.1).bind fun t276 => ((frisketref06_Write.f k bt270.2.1 t276).bind fun bt279 => (if bt279.2 = 0 then (if 0 ≤ (wrap64 (1 + (bt270.2.1.size : Int))) then (if (wrap64 (1 + (bt270.2.1.size : Int))) ≤ (bt279.1.size : Int) then ((frisketref06_Words.f k (bt279.1.extract ((wrap64 (1 + (bt270.2.1.size : Int))) : Int).toNat bt279.1.size)).bind fun t281 => ((frisketref37_same.f k t281 t276).bind fun t284 => (if t284 = true then (if 1 ≤ (bt279.1.size : Int) then (if bt270.1.size + (bt279.1.extract 1 bt279.1.size).size ≤ 9223372036854775807 then (some (bt270.1 ++ (bt279.1.extract 1 bt279.1.size))) else (none)) else (none)) else (if bt270.1.size + bt270.2.1.size ≤ 9223372036854775807 then (if (bt270.1 ++ bt270.2.1).size + bt270.2.2.1.size ≤ 9223372036854775807 then ((frisketref37_ended.f k ((bt270.1 ++ bt270.2.1) ++ bt270.2.2.1) true).bind fun t285 => (some t285)) else (none)) else (none))))) else (none)) else (none)) else (if bt270.1.size + bt270.2.1.size ≤ 9223372036854775807 then (if (bt270.1 ++ bt270.2.1).size + bt270.2.2.1.size ≤ 9223372036854775807 then ((frisketref37_ended.f k ((bt270.1 ++ bt270.2.1) ++ bt270.2.2.1) true).bind fun t286 => (some t286)) else (none)) else (none))))) else (if bt270.1.size + bt270.2.1.size ≤ 9223372036854775807 then (if (bt270.1 ++ bt270.2.1).size + bt270.2.2.1.size ≤ 9223372036854775807 then (some ((bt270.1 ++ bt270.2.1) ++ bt270.2.2.1)) else (none)) else (none))))) else ((frisketref37_ended.f k a0 false).bind fun t274 => (some t274)))
theorem frisketref37_line.mono : ∀ a0 k, LeO (frisketref37_line.f k a0) (frisketref37_line.f (k + 1) a0) := by
  intro a0 k
  unfold frisketref37_line.f
  repeat' first
      | (with_reducible exact frisketref06_Words.mono _ _)
      | (with_reducible exact frisketref06_Write.mono _ _ _)
      | (with_reducible exact frisketref37_control.mono _ _)
      | (with_reducible exact frisketref37_ended.mono _ _ _)
      | (with_reducible exact frisketref37_listed.mono _ _)
      | (with_reducible exact frisketref37_same.mono _ _ _)
      | (with_reducible exact LeO.refl _)
      | (with_reducible exact LeO.none _)
      | (with_reducible refine LeO.ite ?_ ?_)
      | (with_reducible refine LeO.bind ?_ (fun _ => ?_))
      | exact frisketref06_Words.mono _ _
      | exact frisketref06_Write.mono _ _ _
      | exact frisketref37_control.mono _ _
      | exact frisketref37_ended.mono _ _ _
      | exact frisketref37_listed.mono _ _
      | exact frisketref37_same.mono _ _ _
      | exact LeO.none _
      | refine LeO.ite ?_ ?_
      | refine LeO.bind ?_ (fun _ => ?_)
set_option maxHeartbeats 8000000 in
set_option maxRecDepth 100000 in
theorem frisketref37_line.calls (k : Nat) (a0 : ByteArray) (r : ByteArray) (w : World) (h : frisketref37_line.f k a0 = some r) :
    Calls Tryz.prog 22 #[.string a0] w fun e w' => e = .returned (.string r) ∧ Below w.heap.size w w' := by
  have HB := Aside0.mk (Below.refl w.heap.size w)
  have H : ((frisketref37_control.f k a0).bind fun bt270 => (if bt270.2.2.2 = true then (if bt270.2.1.toList = ([] : List UInt8) then (some bt270.1) else ((frisketref37_listed.f k bt270.2.1).bind fun t275 => (if t275 = true then ((frisketref06_Words.f k bt270.2.2.1).bind fun t276 => ((frisketref06_Write.f k bt270.2.1 t276).bind fun bt279 => (if bt279.2 = 0 then (if 0 ≤ (wrap64 (1 + (bt270.2.1.size : Int))) then (if (wrap64 (1 + (bt270.2.1.size : Int))) ≤ (bt279.1.size : Int) then ((frisketref06_Words.f k (bt279.1.extract ((wrap64 (1 + (bt270.2.1.size : Int))) : Int).toNat bt279.1.size)).bind fun t281 => ((frisketref37_same.f k t281 t276).bind fun t284 => (if t284 = true then (if 1 ≤ (bt279.1.size : Int) then (if bt270.1.size + (bt279.1.extract 1 bt279.1.size).size ≤ 9223372036854775807 then (some (bt270.1 ++ (bt279.1.extract 1 bt279.1.size))) else (none)) else (none)) else (if bt270.1.size + bt270.2.1.size ≤ 9223372036854775807 then (if (bt270.1 ++ bt270.2.1).size + bt270.2.2.1.size ≤ 9223372036854775807 then ((frisketref37_ended.f k ((bt270.1 ++ bt270.2.1) ++ bt270.2.2.1) true).bind fun t285 => (some t285)) else (none)) else (none))))) else (none)) else (none)) else (if bt270.1.size + bt270.2.1.size ≤ 9223372036854775807 then (if (bt270.1 ++ bt270.2.1).size + bt270.2.2.1.size ≤ 9223372036854775807 then ((frisketref37_ended.f k ((bt270.1 ++ bt270.2.1) ++ bt270.2.2.1) true).bind fun t286 => (some t286)) else (none)) else (none))))) else (if bt270.1.size + bt270.2.1.size ≤ 9223372036854775807 then (if (bt270.1 ++ bt270.2.1).size + bt270.2.2.1.size ≤ 9223372036854775807 then (some ((bt270.1 ++ bt270.2.1) ++ bt270.2.2.1)) else (none)) else (none))))) else ((frisketref37_ended.f k a0 false).bind fun t274 => (some t274)))) = some r := h
  clear h
  replace H := Option.bind_eq_some_iff.mp H
  obtain ⟨⟨t270, t271, t272, t273⟩, A20, H⟩ := H
  replace H : (if t273 = true then (if t271.toList = ([] : List UInt8) then (some t270) else ((frisketref37_listed.f k t271).bind fun t275 => (if t275 = true then ((frisketref06_Words.f k t272).bind fun t276 => ((frisketref06_Write.f k t271 t276).bind fun bt279 => (if bt279.2 = 0 then (if 0 ≤ (wrap64 (1 + (t271.size : Int))) then (if (wrap64 (1 + (t271.size : Int))) ≤ (bt279.1.size : Int) then ((frisketref06_Words.f k (bt279.1.extract ((wrap64 (1 + (t271.size : Int))) : Int).toNat bt279.1.size)).bind fun t281 => ((frisketref37_same.f k t281 t276).bind fun t284 => (if t284 = true then (if 1 ≤ (bt279.1.size : Int) then (if t270.size + (bt279.1.extract 1 bt279.1.size).size ≤ 9223372036854775807 then (some (t270 ++ (bt279.1.extract 1 bt279.1.size))) else (none)) else (none)) else (if t270.size + t271.size ≤ 9223372036854775807 then (if (t270 ++ t271).size + t272.size ≤ 9223372036854775807 then ((frisketref37_ended.f k ((t270 ++ t271) ++ t272) true).bind fun t285 => (some t285)) else (none)) else (none))))) else (none)) else (none)) else (if t270.size + t271.size ≤ 9223372036854775807 then (if (t270 ++ t271).size + t272.size ≤ 9223372036854775807 then ((frisketref37_ended.f k ((t270 ++ t271) ++ t272) true).bind fun t286 => (some t286)) else (none)) else (none))))) else (if t270.size + t271.size ≤ 9223372036854775807 then (if (t270 ++ t271).size + t272.size ≤ 9223372036854775807 then (some ((t270 ++ t271) ++ t272)) else (none)) else (none))))) else ((frisketref37_ended.f k a0 false).bind fun t274 => (some t274))) = some r := H
  have A2 := Aside0.mk A20
  clear A20
  by_cases c3 : t273 = true
  · subst c3
    have H1 : (if t271.toList = ([] : List UInt8) then (some t270) else ((frisketref37_listed.f k t271).bind fun t275 => (if t275 = true then ((frisketref06_Words.f k t272).bind fun t276 => ((frisketref06_Write.f k t271 t276).bind fun bt279 => (if bt279.2 = 0 then (if 0 ≤ (wrap64 (1 + (t271.size : Int))) then (if (wrap64 (1 + (t271.size : Int))) ≤ (bt279.1.size : Int) then ((frisketref06_Words.f k (bt279.1.extract ((wrap64 (1 + (t271.size : Int))) : Int).toNat bt279.1.size)).bind fun t281 => ((frisketref37_same.f k t281 t276).bind fun t284 => (if t284 = true then (if 1 ≤ (bt279.1.size : Int) then (if t270.size + (bt279.1.extract 1 bt279.1.size).size ≤ 9223372036854775807 then (some (t270 ++ (bt279.1.extract 1 bt279.1.size))) else (none)) else (none)) else (if t270.size + t271.size ≤ 9223372036854775807 then (if (t270 ++ t271).size + t272.size ≤ 9223372036854775807 then ((frisketref37_ended.f k ((t270 ++ t271) ++ t272) true).bind fun t285 => (some t285)) else (none)) else (none))))) else (none)) else (none)) else (if t270.size + t271.size ≤ 9223372036854775807 then (if (t270 ++ t271).size + t272.size ≤ 9223372036854775807 then ((frisketref37_ended.f k ((t270 ++ t271) ++ t272) true).bind fun t286 => (some t286)) else (none)) else (none))))) else (if t270.size + t271.size ≤ 9223372036854775807 then (if (t270 ++ t271).size + t272.size ≤ 9223372036854775807 then (some ((t270 ++ t271) ++ t272)) else (none)) else (none))))) = some r := by rw [if_pos rfl] at H; exact H
    clear H
    have H := H1
    clear H1
    by_cases c4 : t271.toList = ([] : List UInt8)
    · rw [if_pos c4] at H
      have c4b0 : (t271.toList == ([] : List UInt8)) = true := beq_iff_eq.mpr c4
      have c4b1 : (t271.toList != ([] : List UInt8)) = false := bne_eq_false_iff_eq.mpr c4
      clear c4
      obtain rfl := Option.some.inj H
      go_enter Tryz.func22, Tryz.ntmps22
      go_wp2_with (first | ((with_reducible refine gate_callee (f := 41) rfl ?_); refine goesL_ (some 12) rfl rfl Tryz.func41 (by kernel_rfl) rfl #[.string a0] rfl (by (try simp only [List.map_toArray, List.map_cons, List.map_nil]); first | done | rfl | (simp only [List.length_drop, List.length_take]; rfl)) ?_; (with_reducible refine (frisketref37_control.calls k a0 t270 t271 t272 true _ A2.out).mono ?_); rintro e w' ⟨rfl, ⟨nd, rfl⟩⟩; refine ⟨_, rfl, ?_⟩))
      go_ret
      exact ⟨by first | rfl | (simp [errW_none, errW_some] <;> rfl) | (simp [*, errW_none, errW_some] <;> rfl), by repeat (first | (with_reducible first | exact HB.out | apply below_alloc | apply pw_below_drewN | apply below_drew1) | exact HB.out)⟩
    · rw [if_neg c4] at H
      have c4b0 : (t271.toList == ([] : List UInt8)) = false := beq_eq_false_iff_ne.mpr c4
      have c4b1 : (t271.toList != ([] : List UInt8)) = true := bne_iff_ne.mpr c4
      replace H := Option.bind_eq_some_iff.mp H
      obtain ⟨t275, A50, H⟩ := H
      replace H : (if t275 = true then ((frisketref06_Words.f k t272).bind fun t276 => ((frisketref06_Write.f k t271 t276).bind fun bt279 => (if bt279.2 = 0 then (if 0 ≤ (wrap64 (1 + (t271.size : Int))) then (if (wrap64 (1 + (t271.size : Int))) ≤ (bt279.1.size : Int) then ((frisketref06_Words.f k (bt279.1.extract ((wrap64 (1 + (t271.size : Int))) : Int).toNat bt279.1.size)).bind fun t281 => ((frisketref37_same.f k t281 t276).bind fun t284 => (if t284 = true then (if 1 ≤ (bt279.1.size : Int) then (if t270.size + (bt279.1.extract 1 bt279.1.size).size ≤ 9223372036854775807 then (some (t270 ++ (bt279.1.extract 1 bt279.1.size))) else (none)) else (none)) else (if t270.size + t271.size ≤ 9223372036854775807 then (if (t270 ++ t271).size + t272.size ≤ 9223372036854775807 then ((frisketref37_ended.f k ((t270 ++ t271) ++ t272) true).bind fun t285 => (some t285)) else (none)) else (none))))) else (none)) else (none)) else (if t270.size + t271.size ≤ 9223372036854775807 then (if (t270 ++ t271).size + t272.size ≤ 9223372036854775807 then ((frisketref37_ended.f k ((t270 ++ t271) ++ t272) true).bind fun t286 => (some t286)) else (none)) else (none))))) else (if t270.size + t271.size ≤ 9223372036854775807 then (if (t270 ++ t271).size + t272.size ≤ 9223372036854775807 then (some ((t270 ++ t271) ++ t272)) else (none)) else (none))) = some r := H
      have A5 := Aside0.mk A50
      clear A50
      by_cases c6 : t275 = true
      · subst c6
        have H1 : ((frisketref06_Words.f k t272).bind fun t276 => ((frisketref06_Write.f k t271 t276).bind fun bt279 => (if bt279.2 = 0 then (if 0 ≤ (wrap64 (1 + (t271.size : Int))) then (if (wrap64 (1 + (t271.size : Int))) ≤ (bt279.1.size : Int) then ((frisketref06_Words.f k (bt279.1.extract ((wrap64 (1 + (t271.size : Int))) : Int).toNat bt279.1.size)).bind fun t281 => ((frisketref37_same.f k t281 t276).bind fun t284 => (if t284 = true then (if 1 ≤ (bt279.1.size : Int) then (if t270.size + (bt279.1.extract 1 bt279.1.size).size ≤ 9223372036854775807 then (some (t270 ++ (bt279.1.extract 1 bt279.1.size))) else (none)) else (none)) else (if t270.size + t271.size ≤ 9223372036854775807 then (if (t270 ++ t271).size + t272.size ≤ 9223372036854775807 then ((frisketref37_ended.f k ((t270 ++ t271) ++ t272) true).bind fun t285 => (some t285)) else (none)) else (none))))) else (none)) else (none)) else (if t270.size + t271.size ≤ 9223372036854775807 then (if (t270 ++ t271).size + t272.size ≤ 9223372036854775807 then ((frisketref37_ended.f k ((t270 ++ t271) ++ t272) true).bind fun t286 => (some t286)) else (none)) else (none))))) = some r := by rw [if_pos rfl] at H; exact H
        clear H
        have H := H1
        clear H1
        replace H := Option.bind_eq_some_iff.mp H
        obtain ⟨t276, A70, H⟩ := H
        replace H : ((frisketref06_Write.f k t271 t276).bind fun bt279 => (if bt279.2 = 0 then (if 0 ≤ (wrap64 (1 + (t271.size : Int))) then (if (wrap64 (1 + (t271.size : Int))) ≤ (bt279.1.size : Int) then ((frisketref06_Words.f k (bt279.1.extract ((wrap64 (1 + (t271.size : Int))) : Int).toNat bt279.1.size)).bind fun t281 => ((frisketref37_same.f k t281 t276).bind fun t284 => (if t284 = true then (if 1 ≤ (bt279.1.size : Int) then (if t270.size + (bt279.1.extract 1 bt279.1.size).size ≤ 9223372036854775807 then (some (t270 ++ (bt279.1.extract 1 bt279.1.size))) else (none)) else (none)) else (if t270.size + t271.size ≤ 9223372036854775807 then (if (t270 ++ t271).size + t272.size ≤ 9223372036854775807 then ((frisketref37_ended.f k ((t270 ++ t271) ++ t272) true).bind fun t285 => (some t285)) else (none)) else (none))))) else (none)) else (none)) else (if t270.size + t271.size ≤ 9223372036854775807 then (if (t270 ++ t271).size + t272.size ≤ 9223372036854775807 then ((frisketref37_ended.f k ((t270 ++ t271) ++ t272) true).bind fun t286 => (some t286)) else (none)) else (none)))) = some r := H
        have A7 := Aside0.mk A70
        clear A70
        replace H := Option.bind_eq_some_iff.mp H
        obtain ⟨⟨t279, t280⟩, A80, H⟩ := H
        replace H : (if t280 = 0 then (if 0 ≤ (wrap64 (1 + (t271.size : Int))) then (if (wrap64 (1 + (t271.size : Int))) ≤ (t279.size : Int) then ((frisketref06_Words.f k (t279.extract ((wrap64 (1 + (t271.size : Int))) : Int).toNat t279.size)).bind fun t281 => ((frisketref37_same.f k t281 t276).bind fun t284 => (if t284 = true then (if 1 ≤ (t279.size : Int) then (if t270.size + (t279.extract 1 t279.size).size ≤ 9223372036854775807 then (some (t270 ++ (t279.extract 1 t279.size))) else (none)) else (none)) else (if t270.size + t271.size ≤ 9223372036854775807 then (if (t270 ++ t271).size + t272.size ≤ 9223372036854775807 then ((frisketref37_ended.f k ((t270 ++ t271) ++ t272) true).bind fun t285 => (some t285)) else (none)) else (none))))) else (none)) else (none)) else (if t270.size + t271.size ≤ 9223372036854775807 then (if (t270 ++ t271).size + t272.size ≤ 9223372036854775807 then ((frisketref37_ended.f k ((t270 ++ t271) ++ t272) true).bind fun t286 => (some t286)) else (none)) else (none))) = some r := H
        have A8 := Aside0.mk A80
        clear A80
        by_cases c9 : t280 = 0
        · rw [if_pos c9] at H
          have c9b0 : (t280 == 0) = true := beq_iff_eq.mpr c9
          have c9b1 : (t280 != 0) = false := bne_eq_false_iff_eq.mpr c9
          clear c9
          obtain ⟨ji10, hji10⟩ : ∃ j_ : Int, (wrap64 (1 + (t271.size : Int))) = j_ := ⟨_, rfl⟩
          replace H : (if 0 ≤ (ji10) then (if (ji10) ≤ (t279.size : Int) then ((frisketref06_Words.f k (t279.extract ((ji10) : Int).toNat t279.size)).bind fun t281 => ((frisketref37_same.f k t281 t276).bind fun t284 => (if t284 = true then (if 1 ≤ (t279.size : Int) then (if t270.size + (t279.extract 1 t279.size).size ≤ 9223372036854775807 then (some (t270 ++ (t279.extract 1 t279.size))) else (none)) else (none)) else (if t270.size + t271.size ≤ 9223372036854775807 then (if (t270 ++ t271).size + t272.size ≤ 9223372036854775807 then ((frisketref37_ended.f k ((t270 ++ t271) ++ t272) true).bind fun t285 => (some t285)) else (none)) else (none))))) else (none)) else (none)) = some r := by first | (rw [hji10] at H; exact H) | (simp only [hji10] at H ⊢; exact H)
          (try rw [hji10] at A2)
          (try rw [hji10] at A5)
          (try rw [hji10] at A7)
          (try rw [hji10] at A8)
          have hji10w : (IntKind.i64.wrap (1 + (t271.size : Int))) = ji10 := (i64_w _).trans hji10
          by_cases c11 : 0 ≤ (ji10)
          · rw [if_pos c11] at H
            have c11b0 := eq_true c11
            have c11b1 : decide (0 ≤ (ji10)) = true := decide_eq_true c11
            clear c11
            by_cases c12 : (ji10) ≤ (t279.size : Int)
            · rw [if_pos c12] at H
              have c12b0 := eq_true c12
              have c12b1 : decide ((ji10) ≤ (t279.size : Int)) = true := decide_eq_true c12
              clear c12
              replace H := Option.bind_eq_some_iff.mp H
              obtain ⟨t281, A130, H⟩ := H
              replace H : ((frisketref37_same.f k t281 t276).bind fun t284 => (if t284 = true then (if 1 ≤ (t279.size : Int) then (if t270.size + (t279.extract 1 t279.size).size ≤ 9223372036854775807 then (some (t270 ++ (t279.extract 1 t279.size))) else (none)) else (none)) else (if t270.size + t271.size ≤ 9223372036854775807 then (if (t270 ++ t271).size + t272.size ≤ 9223372036854775807 then ((frisketref37_ended.f k ((t270 ++ t271) ++ t272) true).bind fun t285 => (some t285)) else (none)) else (none)))) = some r := H
              have A13 := Aside0.mk A130
              clear A130
              replace H := Option.bind_eq_some_iff.mp H
              obtain ⟨t284, A140, H⟩ := H
              replace H : (if t284 = true then (if 1 ≤ (t279.size : Int) then (if t270.size + (t279.extract 1 t279.size).size ≤ 9223372036854775807 then (some (t270 ++ (t279.extract 1 t279.size))) else (none)) else (none)) else (if t270.size + t271.size ≤ 9223372036854775807 then (if (t270 ++ t271).size + t272.size ≤ 9223372036854775807 then ((frisketref37_ended.f k ((t270 ++ t271) ++ t272) true).bind fun t285 => (some t285)) else (none)) else (none))) = some r := H
              have A14 := Aside0.mk A140
              clear A140
              by_cases c15 : t284 = true
              · subst c15
                have H1 : (if 1 ≤ (t279.size : Int) then (if t270.size + (t279.extract 1 t279.size).size ≤ 9223372036854775807 then (some (t270 ++ (t279.extract 1 t279.size))) else (none)) else (none)) = some r := by rw [if_pos rfl] at H; exact H
                clear H
                have H := H1
                clear H1
                by_cases c16 : 1 ≤ (t279.size : Int)
                · rw [if_pos c16] at H
                  have c16b0 := eq_true c16
                  have c16b1 : decide (1 ≤ (t279.size : Int)) = true := decide_eq_true c16
                  clear c16
                  by_cases c17 : t270.size + (t279.extract 1 t279.size).size ≤ 9223372036854775807
                  · rw [if_pos c17] at H
                    have c17b0 := eq_true c17
                    have c17b1 : decide (t270.size + (t279.extract 1 t279.size).size ≤ 9223372036854775807) = true := decide_eq_true c17
                    try have c17b2 : (9223372036854775807 < t270.size + (t279.extract 1 t279.size).size) = False := eq_false (Nat.not_lt.2 c17)
                    try (have c17b3 := c17b2; simp only [ByteArray.size_append, bsz, List.length_cons, List.length_nil, Nat.zero_add, Nat.reduceAdd] at c17b3)
                    obtain rfl := Option.some.inj H
                    go_enter Tryz.func22, Tryz.ntmps22
                    go_wp2_with (first | ((with_reducible refine gate_callee (f := 41) rfl ?_); refine goesL_ (some 12) rfl rfl Tryz.func41 (by kernel_rfl) rfl #[.string a0] rfl (by (try simp only [List.map_toArray, List.map_cons, List.map_nil]); first | done | rfl | (simp only [List.length_drop, List.length_take]; rfl)) ?_; (with_reducible refine (frisketref37_control.calls k a0 t270 t271 t272 true _ A2.out).mono ?_); rintro e w' ⟨rfl, ⟨nd, rfl⟩⟩; refine ⟨_, rfl, ?_⟩) | ((with_reducible refine gate_callee (f := 43) rfl ?_); refine goesL_ (some 25) rfl rfl Tryz.func43 (by kernel_rfl) rfl #[.string t271] rfl (by (try simp only [List.map_toArray, List.map_cons, List.map_nil]); first | done | rfl | (simp only [List.length_drop, List.length_take]; rfl)) ?_; (with_reducible refine (frisketref37_listed.calls k t271 true _ A5.out).mono ?_); rintro e w18 ⟨rfl, hb⟩; refine ⟨_, rfl, ?_⟩; have n0_ := Aside0.mk (below_step (by repeat (first | (with_reducible first | exact HB.out | apply below_alloc | apply pw_below_drewN | apply below_drew1) | exact HB.out)) hb); clear HB; have HB := n0_; clear n0_; (try clear hb); (try clear hb2); (try clear hk); (try clear hi)) | ((with_reducible refine gate_callee (f := 44) rfl ?_); refine goesL_ (some 33) rfl rfl Tryz.func44 (by kernel_rfl) rfl #[.string t272] rfl (by (try simp only [List.map_toArray, List.map_cons, List.map_nil]); first | done | rfl | (simp only [List.length_drop, List.length_take]; rfl)) ?_; (with_reducible refine (frisketref06_Words.calls k t272 t276 _ A7.out).mono ?_); rintro e w19 ⟨v277, rfl, ho0, hb⟩; refine ⟨_, rfl, ?_⟩; have n0_ := Aside0.mk (Kd.R_lower ho0 (below_size (by repeat (first | (with_reducible first | exact HB.out | apply below_alloc | apply pw_below_drewN | apply below_drew1) | exact HB.out)))); have n1_ := Aside0.mk (below_step (by repeat (first | (with_reducible first | exact HB.out | apply below_alloc | apply pw_below_drewN | apply below_drew1) | exact HB.out)) hb); clear HB; have HO278 := n0_; have HB := n1_; clear n0_ n1_; (try clear hb); (try clear hb2); (try clear hk); (try clear hi); (try clear ho0); obtain ⟨Ao20, co20, eo20⟩ := Kd.R_slice HO278.out; subst eo20) | ((with_reducible refine gate_callee (f := 45) rfl ?_); refine goesL_ (some 37) rfl rfl Tryz.func45 (by kernel_rfl) rfl #[.string t271, .slice Ao20 t276.length co20] rfl (by (try simp only [List.map_toArray, List.map_cons, List.map_nil]); first | done | rfl | (simp only [List.length_drop, List.length_take]; rfl)) ?_; (with_reducible refine (frisketref06_Write.calls k t271 _ _ t276 t279 t280 _ ?side1 ?side2 A8.out).mono ?_); (case side1 => repeat (first | exact (Kd.R_reads' HO278.out).2.2 | (with_reducible refine Kd.C_alloc ?_ _) | (with_reducible refine Kd.C_drewN ?_ _) | (with_reducible refine Kd.C_drew ?_))); (case side2 => exact (Kd.R_reads' HO278.out).2.1); rintro e w21 ⟨rfl, hb⟩; refine ⟨_, rfl, ?_⟩; have n0_ := Aside0.mk (Kd.R_below (by (with_reducible repeat (first | apply Kd.R_alloc | apply Kd.R_drewN | apply Kd.R_drew)); exact HO278.out) hb); have n1_ := Aside0.mk (below_step (by repeat (first | (with_reducible first | exact HB.out | apply below_alloc | apply pw_below_drewN | apply below_drew1) | exact HB.out)) hb); clear HO278; clear HB; have HO278 := n0_; have HB := n1_; clear n0_ n1_; (try clear hb); (try clear hb2); (try clear hk); (try clear hi)) | (go_at_call 44; (with_reducible refine (frisketref06_Words.calls k (t279.extract ((ji10) : Int).toNat t279.size) t281 _ A13.out).mono ?_); rintro e w22 ⟨v282, rfl, ho0, hb⟩; have n0_ := Aside0.mk (Kd.R_elder' (by (with_reducible repeat (first | apply Kd.R_alloc | apply Kd.R_drewN | apply Kd.R_drew)); exact HO278.out) (Kd.R_base ho0) hb); have n1_ := Aside0.mk (Kd.R_lower (Kd.R_new' ho0 (Kd.R_lt (by (with_reducible repeat (first | apply Kd.R_alloc | apply Kd.R_drewN | apply Kd.R_drew)); exact HO278.out))) (below_size (by repeat (first | (with_reducible first | exact HB.out | apply below_alloc | apply pw_below_drewN | apply below_drew1) | exact HB.out)))); have n2_ := Aside0.mk (below_step (by repeat (first | (with_reducible first | exact HB.out | apply below_alloc | apply pw_below_drewN | apply below_drew1) | exact HB.out)) hb); clear HO278; clear HB; have HO278 := n0_; have HO283 := n1_; have HB := n2_; clear n0_ n1_ n2_; (try clear hb); (try clear hb2); (try clear hk); (try clear hi); (try clear ho0); obtain ⟨Ao23, co23, eo23⟩ := Kd.R_slice HO283.out; subst eo23) | (go_at_call 46; (with_reducible refine (frisketref37_same.calls k _ _ t281 _ _ t276 true _ ?side1 ?side2 ?side3 ?side4 A14.out).mono ?_); (case side1 => repeat (first | exact (Kd.R_reads' HO283.out).2.2 | (with_reducible refine Kd.C_alloc ?_ _) | (with_reducible refine Kd.C_drewN ?_ _) | (with_reducible refine Kd.C_drew ?_))); (case side2 => exact (Kd.R_reads' HO283.out).2.1); (case side3 => repeat (first | exact (Kd.R_reads' HO278.out).2.2 | (with_reducible refine Kd.C_alloc ?_ _) | (with_reducible refine Kd.C_drewN ?_ _) | (with_reducible refine Kd.C_drew ?_))); (case side4 => exact (Kd.R_reads' HO278.out).2.1); rintro e w' ⟨rfl, ⟨nd, rfl⟩⟩))
                    go_ret
                    exact ⟨by first | rfl | (simp [errW_none, errW_some] <;> rfl) | (simp only [← hji10]; first | rfl | (simp [errW_none, errW_some] <;> rfl)) | (simp [*, errW_none, errW_some] <;> rfl), by repeat (first | (with_reducible first | exact HB.out | apply below_alloc | apply pw_below_drewN | apply below_drew1) | exact HB.out)⟩
                  · rw [if_neg c17] at H
                    exact absurd H (by simp)
                · rw [if_neg c16] at H
                  exact absurd H (by simp)
              · replace c15 := Bool.eq_false_iff.mpr c15
                subst c15
                have H1 : (if t270.size + t271.size ≤ 9223372036854775807 then (if (t270 ++ t271).size + t272.size ≤ 9223372036854775807 then ((frisketref37_ended.f k ((t270 ++ t271) ++ t272) true).bind fun t285 => (some t285)) else (none)) else (none)) = some r := by rw [if_neg (show ¬ (false = true) by decide)] at H; exact H
                clear H
                have H := H1
                clear H1
                by_cases c24 : t270.size + t271.size ≤ 9223372036854775807
                · rw [if_pos c24] at H
                  have c24b0 := eq_true c24
                  have c24b1 : decide (t270.size + t271.size ≤ 9223372036854775807) = true := decide_eq_true c24
                  try have c24b2 : (9223372036854775807 < t270.size + t271.size) = False := eq_false (Nat.not_lt.2 c24)
                  try (have c24b3 := c24b2; simp only [ByteArray.size_append, bsz, List.length_cons, List.length_nil, Nat.zero_add, Nat.reduceAdd] at c24b3)
                  by_cases c25 : (t270 ++ t271).size + t272.size ≤ 9223372036854775807
                  · rw [if_pos c25] at H
                    have c25b0 := eq_true c25
                    have c25b1 : decide ((t270 ++ t271).size + t272.size ≤ 9223372036854775807) = true := decide_eq_true c25
                    try have c25b2 : (9223372036854775807 < (t270 ++ t271).size + t272.size) = False := eq_false (Nat.not_lt.2 c25)
                    try (have c25b3 := c25b2; simp only [ByteArray.size_append, bsz, List.length_cons, List.length_nil, Nat.zero_add, Nat.reduceAdd] at c25b3)
                    replace H := Option.bind_eq_some_iff.mp H
                    obtain ⟨t285, A260, H⟩ := H
                    replace H : (some t285) = some r := H
                    have A26 := Aside0.mk A260
                    clear A260
                    obtain rfl := Option.some.inj H
                    go_enter Tryz.func22, Tryz.ntmps22
                    go_wp2_with (first | ((with_reducible refine gate_callee (f := 41) rfl ?_); refine goesL_ (some 12) rfl rfl Tryz.func41 (by kernel_rfl) rfl #[.string a0] rfl (by (try simp only [List.map_toArray, List.map_cons, List.map_nil]); first | done | rfl | (simp only [List.length_drop, List.length_take]; rfl)) ?_; (with_reducible refine (frisketref37_control.calls k a0 t270 t271 t272 true _ A2.out).mono ?_); rintro e w' ⟨rfl, ⟨nd, rfl⟩⟩; refine ⟨_, rfl, ?_⟩) | ((with_reducible refine gate_callee (f := 43) rfl ?_); refine goesL_ (some 25) rfl rfl Tryz.func43 (by kernel_rfl) rfl #[.string t271] rfl (by (try simp only [List.map_toArray, List.map_cons, List.map_nil]); first | done | rfl | (simp only [List.length_drop, List.length_take]; rfl)) ?_; (with_reducible refine (frisketref37_listed.calls k t271 true _ A5.out).mono ?_); rintro e w27 ⟨rfl, hb⟩; refine ⟨_, rfl, ?_⟩; have n0_ := Aside0.mk (below_step (by repeat (first | (with_reducible first | exact HB.out | apply below_alloc | apply pw_below_drewN | apply below_drew1) | exact HB.out)) hb); clear HB; have HB := n0_; clear n0_; (try clear hb); (try clear hb2); (try clear hk); (try clear hi)) | ((with_reducible refine gate_callee (f := 44) rfl ?_); refine goesL_ (some 33) rfl rfl Tryz.func44 (by kernel_rfl) rfl #[.string t272] rfl (by (try simp only [List.map_toArray, List.map_cons, List.map_nil]); first | done | rfl | (simp only [List.length_drop, List.length_take]; rfl)) ?_; (with_reducible refine (frisketref06_Words.calls k t272 t276 _ A7.out).mono ?_); rintro e w28 ⟨v277, rfl, ho0, hb⟩; refine ⟨_, rfl, ?_⟩; have n0_ := Aside0.mk (Kd.R_lower ho0 (below_size (by repeat (first | (with_reducible first | exact HB.out | apply below_alloc | apply pw_below_drewN | apply below_drew1) | exact HB.out)))); have n1_ := Aside0.mk (below_step (by repeat (first | (with_reducible first | exact HB.out | apply below_alloc | apply pw_below_drewN | apply below_drew1) | exact HB.out)) hb); clear HB; have HO278 := n0_; have HB := n1_; clear n0_ n1_; (try clear hb); (try clear hb2); (try clear hk); (try clear hi); (try clear ho0); obtain ⟨Ao29, co29, eo29⟩ := Kd.R_slice HO278.out; subst eo29) | ((with_reducible refine gate_callee (f := 45) rfl ?_); refine goesL_ (some 37) rfl rfl Tryz.func45 (by kernel_rfl) rfl #[.string t271, .slice Ao29 t276.length co29] rfl (by (try simp only [List.map_toArray, List.map_cons, List.map_nil]); first | done | rfl | (simp only [List.length_drop, List.length_take]; rfl)) ?_; (with_reducible refine (frisketref06_Write.calls k t271 _ _ t276 t279 t280 _ ?side1 ?side2 A8.out).mono ?_); (case side1 => repeat (first | exact (Kd.R_reads' HO278.out).2.2 | (with_reducible refine Kd.C_alloc ?_ _) | (with_reducible refine Kd.C_drewN ?_ _) | (with_reducible refine Kd.C_drew ?_))); (case side2 => exact (Kd.R_reads' HO278.out).2.1); rintro e w30 ⟨rfl, hb⟩; refine ⟨_, rfl, ?_⟩; have n0_ := Aside0.mk (Kd.R_below (by (with_reducible repeat (first | apply Kd.R_alloc | apply Kd.R_drewN | apply Kd.R_drew)); exact HO278.out) hb); have n1_ := Aside0.mk (below_step (by repeat (first | (with_reducible first | exact HB.out | apply below_alloc | apply pw_below_drewN | apply below_drew1) | exact HB.out)) hb); clear HO278; clear HB; have HO278 := n0_; have HB := n1_; clear n0_ n1_; (try clear hb); (try clear hb2); (try clear hk); (try clear hi)) | (go_at_call 44; (with_reducible refine (frisketref06_Words.calls k (t279.extract ((ji10) : Int).toNat t279.size) t281 _ A13.out).mono ?_); rintro e w31 ⟨v282, rfl, ho0, hb⟩; have n0_ := Aside0.mk (Kd.R_elder' (by (with_reducible repeat (first | apply Kd.R_alloc | apply Kd.R_drewN | apply Kd.R_drew)); exact HO278.out) (Kd.R_base ho0) hb); have n1_ := Aside0.mk (Kd.R_lower (Kd.R_new' ho0 (Kd.R_lt (by (with_reducible repeat (first | apply Kd.R_alloc | apply Kd.R_drewN | apply Kd.R_drew)); exact HO278.out))) (below_size (by repeat (first | (with_reducible first | exact HB.out | apply below_alloc | apply pw_below_drewN | apply below_drew1) | exact HB.out)))); have n2_ := Aside0.mk (below_step (by repeat (first | (with_reducible first | exact HB.out | apply below_alloc | apply pw_below_drewN | apply below_drew1) | exact HB.out)) hb); clear HO278; clear HB; have HO278 := n0_; have HO283 := n1_; have HB := n2_; clear n0_ n1_ n2_; (try clear hb); (try clear hb2); (try clear hk); (try clear hi); (try clear ho0); obtain ⟨Ao32, co32, eo32⟩ := Kd.R_slice HO283.out; subst eo32) | (go_at_call 46; (with_reducible refine (frisketref37_same.calls k _ _ t281 _ _ t276 false _ ?side1 ?side2 ?side3 ?side4 A14.out).mono ?_); (case side1 => repeat (first | exact (Kd.R_reads' HO283.out).2.2 | (with_reducible refine Kd.C_alloc ?_ _) | (with_reducible refine Kd.C_drewN ?_ _) | (with_reducible refine Kd.C_drew ?_))); (case side2 => exact (Kd.R_reads' HO283.out).2.1); (case side3 => repeat (first | exact (Kd.R_reads' HO278.out).2.2 | (with_reducible refine Kd.C_alloc ?_ _) | (with_reducible refine Kd.C_drewN ?_ _) | (with_reducible refine Kd.C_drew ?_))); (case side4 => exact (Kd.R_reads' HO278.out).2.1); rintro e w' ⟨rfl, ⟨nd, rfl⟩⟩) | ((with_reducible refine gate_callee (f := 42) rfl ?_); refine goesL_ (some 58) rfl rfl Tryz.func42 (by kernel_rfl) rfl #[.string ((t270 ++ t271) ++ t272), .bool true] rfl (by (try simp only [List.map_toArray, List.map_cons, List.map_nil]); first | done | rfl | (simp only [List.length_drop, List.length_take]; rfl)) ?_; (with_reducible refine (frisketref37_ended.calls k ((t270 ++ t271) ++ t272) true t285 _ A26.out).mono ?_); rintro e w' ⟨rfl, ⟨nd, rfl⟩⟩; refine ⟨_, rfl, ?_⟩))
                    go_ret
                    exact ⟨by first | rfl | (simp [errW_none, errW_some] <;> rfl) | (simp only [← hji10]; first | rfl | (simp [errW_none, errW_some] <;> rfl)) | (simp [*, errW_none, errW_some] <;> rfl), by repeat (first | (with_reducible first | exact HB.out | apply below_alloc | apply pw_below_drewN | apply below_drew1) | exact HB.out)⟩
                  · rw [if_neg c25] at H
                    exact absurd H (by simp)
                · rw [if_neg c24] at H
                  exact absurd H (by simp)
            · rw [if_neg c12] at H
              exact absurd H (by simp)
          · rw [if_neg c11] at H
            exact absurd H (by simp)
        · rw [if_neg c9] at H
          have c9b0 : (t280 == 0) = false := beq_eq_false_iff_ne.mpr c9
          have c9b1 : (t280 != 0) = true := bne_iff_ne.mpr c9
          by_cases c33 : t270.size + t271.size ≤ 9223372036854775807
          · rw [if_pos c33] at H
            have c33b0 := eq_true c33
            have c33b1 : decide (t270.size + t271.size ≤ 9223372036854775807) = true := decide_eq_true c33
            try have c33b2 : (9223372036854775807 < t270.size + t271.size) = False := eq_false (Nat.not_lt.2 c33)
            try (have c33b3 := c33b2; simp only [ByteArray.size_append, bsz, List.length_cons, List.length_nil, Nat.zero_add, Nat.reduceAdd] at c33b3)
            by_cases c34 : (t270 ++ t271).size + t272.size ≤ 9223372036854775807
            · rw [if_pos c34] at H
              have c34b0 := eq_true c34
              have c34b1 : decide ((t270 ++ t271).size + t272.size ≤ 9223372036854775807) = true := decide_eq_true c34
              try have c34b2 : (9223372036854775807 < (t270 ++ t271).size + t272.size) = False := eq_false (Nat.not_lt.2 c34)
              try (have c34b3 := c34b2; simp only [ByteArray.size_append, bsz, List.length_cons, List.length_nil, Nat.zero_add, Nat.reduceAdd] at c34b3)
              replace H := Option.bind_eq_some_iff.mp H
              obtain ⟨t286, A350, H⟩ := H
              replace H : (some t286) = some r := H
              have A35 := Aside0.mk A350
              clear A350
              obtain rfl := Option.some.inj H
              go_enter Tryz.func22, Tryz.ntmps22
              go_wp2_with (first | ((with_reducible refine gate_callee (f := 41) rfl ?_); refine goesL_ (some 12) rfl rfl Tryz.func41 (by kernel_rfl) rfl #[.string a0] rfl (by (try simp only [List.map_toArray, List.map_cons, List.map_nil]); first | done | rfl | (simp only [List.length_drop, List.length_take]; rfl)) ?_; (with_reducible refine (frisketref37_control.calls k a0 t270 t271 t272 true _ A2.out).mono ?_); rintro e w' ⟨rfl, ⟨nd, rfl⟩⟩; refine ⟨_, rfl, ?_⟩) | ((with_reducible refine gate_callee (f := 43) rfl ?_); refine goesL_ (some 25) rfl rfl Tryz.func43 (by kernel_rfl) rfl #[.string t271] rfl (by (try simp only [List.map_toArray, List.map_cons, List.map_nil]); first | done | rfl | (simp only [List.length_drop, List.length_take]; rfl)) ?_; (with_reducible refine (frisketref37_listed.calls k t271 true _ A5.out).mono ?_); rintro e w36 ⟨rfl, hb⟩; refine ⟨_, rfl, ?_⟩; have n0_ := Aside0.mk (below_step (by repeat (first | (with_reducible first | exact HB.out | apply below_alloc | apply pw_below_drewN | apply below_drew1) | exact HB.out)) hb); clear HB; have HB := n0_; clear n0_; (try clear hb); (try clear hb2); (try clear hk); (try clear hi)) | ((with_reducible refine gate_callee (f := 44) rfl ?_); refine goesL_ (some 33) rfl rfl Tryz.func44 (by kernel_rfl) rfl #[.string t272] rfl (by (try simp only [List.map_toArray, List.map_cons, List.map_nil]); first | done | rfl | (simp only [List.length_drop, List.length_take]; rfl)) ?_; (with_reducible refine (frisketref06_Words.calls k t272 t276 _ A7.out).mono ?_); rintro e w37 ⟨v277, rfl, ho0, hb⟩; refine ⟨_, rfl, ?_⟩; have n0_ := Aside0.mk (Kd.R_lower ho0 (below_size (by repeat (first | (with_reducible first | exact HB.out | apply below_alloc | apply pw_below_drewN | apply below_drew1) | exact HB.out)))); have n1_ := Aside0.mk (below_step (by repeat (first | (with_reducible first | exact HB.out | apply below_alloc | apply pw_below_drewN | apply below_drew1) | exact HB.out)) hb); clear HB; have HO278 := n0_; have HB := n1_; clear n0_ n1_; (try clear hb); (try clear hb2); (try clear hk); (try clear hi); (try clear ho0); obtain ⟨Ao38, co38, eo38⟩ := Kd.R_slice HO278.out; subst eo38) | ((with_reducible refine gate_callee (f := 45) rfl ?_); refine goesL_ (some 37) rfl rfl Tryz.func45 (by kernel_rfl) rfl #[.string t271, .slice Ao38 t276.length co38] rfl (by (try simp only [List.map_toArray, List.map_cons, List.map_nil]); first | done | rfl | (simp only [List.length_drop, List.length_take]; rfl)) ?_; (with_reducible refine (frisketref06_Write.calls k t271 _ _ t276 t279 t280 _ ?side1 ?side2 A8.out).mono ?_); (case side1 => repeat (first | exact (Kd.R_reads' HO278.out).2.2 | (with_reducible refine Kd.C_alloc ?_ _) | (with_reducible refine Kd.C_drewN ?_ _) | (with_reducible refine Kd.C_drew ?_))); (case side2 => exact (Kd.R_reads' HO278.out).2.1); rintro e w39 ⟨rfl, hb⟩; refine ⟨_, rfl, ?_⟩; have n0_ := Aside0.mk (Kd.R_below (by (with_reducible repeat (first | apply Kd.R_alloc | apply Kd.R_drewN | apply Kd.R_drew)); exact HO278.out) hb); have n1_ := Aside0.mk (below_step (by repeat (first | (with_reducible first | exact HB.out | apply below_alloc | apply pw_below_drewN | apply below_drew1) | exact HB.out)) hb); clear HO278; clear HB; have HO278 := n0_; have HB := n1_; clear n0_ n1_; (try clear hb); (try clear hb2); (try clear hk); (try clear hi)) | ((with_reducible refine gate_callee (f := 42) rfl ?_); refine goesL_ (some 58) rfl rfl Tryz.func42 (by kernel_rfl) rfl #[.string ((t270 ++ t271) ++ t272), .bool true] rfl (by (try simp only [List.map_toArray, List.map_cons, List.map_nil]); first | done | rfl | (simp only [List.length_drop, List.length_take]; rfl)) ?_; (with_reducible refine (frisketref37_ended.calls k ((t270 ++ t271) ++ t272) true t286 _ A35.out).mono ?_); rintro e w' ⟨rfl, ⟨nd, rfl⟩⟩; refine ⟨_, rfl, ?_⟩))
              go_ret
              exact ⟨by first | rfl | (simp [errW_none, errW_some] <;> rfl) | (simp [*, errW_none, errW_some] <;> rfl), by repeat (first | (with_reducible first | exact HB.out | apply below_alloc | apply pw_below_drewN | apply below_drew1) | exact HB.out)⟩
            · rw [if_neg c34] at H
              exact absurd H (by simp)
          · rw [if_neg c33] at H
            exact absurd H (by simp)
      · replace c6 := Bool.eq_false_iff.mpr c6
        subst c6
        have H1 : (if t270.size + t271.size ≤ 9223372036854775807 then (if (t270 ++ t271).size + t272.size ≤ 9223372036854775807 then (some ((t270 ++ t271) ++ t272)) else (none)) else (none)) = some r := by rw [if_neg (show ¬ (false = true) by decide)] at H; exact H
        clear H
        have H := H1
        clear H1
        by_cases c40 : t270.size + t271.size ≤ 9223372036854775807
        · rw [if_pos c40] at H
          have c40b0 := eq_true c40
          have c40b1 : decide (t270.size + t271.size ≤ 9223372036854775807) = true := decide_eq_true c40
          try have c40b2 : (9223372036854775807 < t270.size + t271.size) = False := eq_false (Nat.not_lt.2 c40)
          try (have c40b3 := c40b2; simp only [ByteArray.size_append, bsz, List.length_cons, List.length_nil, Nat.zero_add, Nat.reduceAdd] at c40b3)
          by_cases c41 : (t270 ++ t271).size + t272.size ≤ 9223372036854775807
          · rw [if_pos c41] at H
            have c41b0 := eq_true c41
            have c41b1 : decide ((t270 ++ t271).size + t272.size ≤ 9223372036854775807) = true := decide_eq_true c41
            try have c41b2 : (9223372036854775807 < (t270 ++ t271).size + t272.size) = False := eq_false (Nat.not_lt.2 c41)
            try (have c41b3 := c41b2; simp only [ByteArray.size_append, bsz, List.length_cons, List.length_nil, Nat.zero_add, Nat.reduceAdd] at c41b3)
            obtain rfl := Option.some.inj H
            go_enter Tryz.func22, Tryz.ntmps22
            go_wp2_with (first | ((with_reducible refine gate_callee (f := 41) rfl ?_); refine goesL_ (some 12) rfl rfl Tryz.func41 (by kernel_rfl) rfl #[.string a0] rfl (by (try simp only [List.map_toArray, List.map_cons, List.map_nil]); first | done | rfl | (simp only [List.length_drop, List.length_take]; rfl)) ?_; (with_reducible refine (frisketref37_control.calls k a0 t270 t271 t272 true _ A2.out).mono ?_); rintro e w' ⟨rfl, ⟨nd, rfl⟩⟩; refine ⟨_, rfl, ?_⟩) | ((with_reducible refine gate_callee (f := 43) rfl ?_); refine goesL_ (some 25) rfl rfl Tryz.func43 (by kernel_rfl) rfl #[.string t271] rfl (by (try simp only [List.map_toArray, List.map_cons, List.map_nil]); first | done | rfl | (simp only [List.length_drop, List.length_take]; rfl)) ?_; (with_reducible refine (frisketref37_listed.calls k t271 false _ A5.out).mono ?_); rintro e w42 ⟨rfl, hb⟩; refine ⟨_, rfl, ?_⟩; have n0_ := Aside0.mk (below_step (by repeat (first | (with_reducible first | exact HB.out | apply below_alloc | apply pw_below_drewN | apply below_drew1) | exact HB.out)) hb); clear HB; have HB := n0_; clear n0_; (try clear hb); (try clear hb2); (try clear hk); (try clear hi)))
            go_ret
            exact ⟨by first | rfl | (simp [errW_none, errW_some] <;> rfl) | (simp [*, errW_none, errW_some] <;> rfl), by repeat (first | (with_reducible first | exact HB.out | apply below_alloc | apply pw_below_drewN | apply below_drew1) | exact HB.out)⟩
          · rw [if_neg c41] at H
            exact absurd H (by simp)
        · rw [if_neg c40] at H
          exact absurd H (by simp)
  · replace c3 := Bool.eq_false_iff.mpr c3
    subst c3
    have H1 : ((frisketref37_ended.f k a0 false).bind fun t274 => (some t274)) = some r := by rw [if_neg (show ¬ (false = true) by decide)] at H; exact H
    clear H
    have H := H1
    clear H1
    replace H := Option.bind_eq_some_iff.mp H
    obtain ⟨t274, A430, H⟩ := H
    replace H : (some t274) = some r := H
    have A43 := Aside0.mk A430
    clear A430
    obtain rfl := Option.some.inj H
    go_enter Tryz.func22, Tryz.ntmps22
    go_wp2_with (first | ((with_reducible refine gate_callee (f := 41) rfl ?_); refine goesL_ (some 12) rfl rfl Tryz.func41 (by kernel_rfl) rfl #[.string a0] rfl (by (try simp only [List.map_toArray, List.map_cons, List.map_nil]); first | done | rfl | (simp only [List.length_drop, List.length_take]; rfl)) ?_; (with_reducible refine (frisketref37_control.calls k a0 t270 t271 t272 false _ A2.out).mono ?_); rintro e w' ⟨rfl, ⟨nd, rfl⟩⟩; refine ⟨_, rfl, ?_⟩) | ((with_reducible refine gate_callee (f := 42) rfl ?_); refine goesL_ (some 20) rfl rfl Tryz.func42 (by kernel_rfl) rfl #[.string a0, .bool false] rfl (by (try simp only [List.map_toArray, List.map_cons, List.map_nil]); first | done | rfl | (simp only [List.length_drop, List.length_take]; rfl)) ?_; (with_reducible refine (frisketref37_ended.calls k a0 false t274 _ A43.out).mono ?_); rintro e w' ⟨rfl, ⟨nd, rfl⟩⟩; refine ⟨_, rfl, ?_⟩))
    go_ret
    exact ⟨by first | rfl | (simp [errW_none, errW_some] <;> rfl) | (simp [*, errW_none, errW_some] <;> rfl), by repeat (first | (with_reducible first | exact HB.out | apply below_alloc | apply pw_below_drewN | apply below_drew1) | exact HB.out)⟩

end Go.Proofs.YtghlfhgmnhhmnaaGreatDoor.QTidy
