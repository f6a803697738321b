-- written by a program of this session (wip/myprint.py, over the kit's print)
import Derived.Test.YtjgalagflhmhdaaGreatDoorQPipex0
import Derived.Test.YtjgalagflhmhdaaGreatDoorQPipex1
import Derived.Test.YtjgalagflhmhdaaGreatDoorQPipex4
namespace Go.Proofs.YtjgalagflhmhdaaGreatDoor.QPipe
open Go.RowKit Go.Proofs.YtjgalagflhmhdaaGreatDoorW.PrintWords Go.Proofs.YtjgalagflhmhdaaGreatDoorW.PrintLast Go.Proofs.YtjgalagflhmhdaaGreatDoorW.PrintMore
attribute [local go_sem] max2_int min2_int max_two min_two max_three min_three max_four min_four   -- for this text's walks alone
set_option linter.unusedVariables false
set_option linter.unusedSimpArgs false

/-! ### frisketlaw29_Text: function 6 -/
mutual
def frisketlaw29_Text.l0 : Nat → List Int → ByteArray → Int → Option (ByteArray)
  | 0, _, _, _ => none
  | k + 1, x0, x3, x4 => if x4 < (x0.length : Int) then (frisketlaw29_Text.j1 k x0 x3 x4 (decide (x4 < 14))) else (frisketlaw29_Text.j1 k x0 x3 x4 false)
def frisketlaw29_Text.j1 : Nat → List Int → ByteArray → Int → Bool → Option (ByteArray)
  | 0, _, _, _, _ => none
  | k + 1, x0, x3, x4, x13 => if x13 = true then (if 0 ≤ x4 then (if x4 < (x0.length : Int) then (if (Int.tmod (IntKind.u64.wrap (rd x0 x4)) 12) = 0 then (if x3.size + 15 ≤ 9223372036854775807 then (frisketlaw29_Text.l0 k x0 (x3 ++ (⟨#[97, 32, 108, 105, 110, 101, 32, 111, 102, 32, 116, 101, 120, 116, 10]⟩ : ByteArray)) (wrap64 (x4 + 1))) else (none)) else (if (Int.tmod (IntKind.u64.wrap (rd x0 x4)) 12) = 1 then ((frisketlaw23_Text.f k (([wrap64 (IntKind.u64.wrap (Int.tdiv (IntKind.u64.wrap (rd x0 x4)) 12)), wrap64 (IntKind.u64.wrap (Int.tdiv (IntKind.u64.wrap (rd x0 x4)) 36)), wrap64 (IntKind.u64.wrap (Int.tdiv (IntKind.u64.wrap (rd x0 x4)) 60))] : List Int))).bind fun t207 => (if 4 + t207.size ≤ 9223372036854775807 then (if ((⟨#[46, 69, 81, 10]⟩ : ByteArray) ++ t207).size + 5 ≤ 9223372036854775807 then (if x3.size + (((⟨#[46, 69, 81, 10]⟩ : ByteArray) ++ t207) ++ (⟨#[10, 46, 69, 78, 10]⟩ : ByteArray)).size ≤ 9223372036854775807 then (frisketlaw29_Text.l0 k x0 (x3 ++ (((⟨#[46, 69, 81, 10]⟩ : ByteArray) ++ t207) ++ (⟨#[10, 46, 69, 78, 10]⟩ : ByteArray))) (wrap64 (x4 + 1))) else (none)) else (none)) else (none))) else (if (Int.tmod (IntKind.u64.wrap (rd x0 x4)) 12) = 2 then (if x3.size + 17 ≤ 9223372036854775807 then (frisketlaw29_Text.l0 k x0 (x3 ++ (⟨#[46, 69, 81, 10, 120, 32, 111, 118, 101, 114, 32, 121, 10, 46, 69, 78, 10]⟩ : ByteArray)) (wrap64 (x4 + 1))) else (none)) else (if (Int.tmod (IntKind.u64.wrap (rd x0 x4)) 12) = 3 then (if x3.size + 35 ≤ 9223372036854775807 then (frisketlaw29_Text.l0 k x0 (x3 ++ (⟨#[46, 71, 49, 10, 48, 32, 48, 10, 53, 32, 55, 10, 97, 32, 51, 32, 52, 10, 116, 105, 99, 107, 115, 32, 108, 101, 102, 116, 32, 50, 10, 46, 71, 50, 10]⟩ : ByteArray)) (wrap64 (x4 + 1))) else (none)) else (if (Int.tmod (IntKind.u64.wrap (rd x0 x4)) 12) = 4 then ((some (([(⟨#[98, 111, 120]⟩ : ByteArray), (⟨#[98, 111, 120, 59, 32, 97, 114, 114, 111, 119, 59, 32, 99, 105, 114, 99, 108, 101, 32, 34, 120, 34]⟩ : ByteArray), (⟨#[108, 105, 110, 101, 32, 114, 105, 103, 104, 116, 32, 49, 48, 48, 10, 34, 116, 101, 120, 116, 34]⟩ : ByteArray), (⟨#[]⟩ : ByteArray), (⟨#[98, 111, 120, 120]⟩ : ByteArray), (⟨#[101, 108, 108, 105, 112, 115, 101, 32, 97, 116, 32, 49, 48, 48, 44, 50, 48, 48]⟩ : ByteArray)] : List ByteArray) : List ByteArray)).bind fun y208 => (if 0 ≤ (Int.tmod (IntKind.u64.wrap (Int.tdiv (IntKind.u64.wrap (rd x0 x4)) 12)) 6) then (if (Int.tmod (IntKind.u64.wrap (Int.tdiv (IntKind.u64.wrap (rd x0 x4)) 12)) 6) < (y208.length : Int) then (if 4 + (rdOf ByteArray.empty y208 (Int.tmod (IntKind.u64.wrap (Int.tdiv (IntKind.u64.wrap (rd x0 x4)) 12)) 6)).size ≤ 9223372036854775807 then (if ((⟨#[46, 80, 83, 10]⟩ : ByteArray) ++ (rdOf ByteArray.empty y208 (Int.tmod (IntKind.u64.wrap (Int.tdiv (IntKind.u64.wrap (rd x0 x4)) 12)) 6))).size + 5 ≤ 9223372036854775807 then (if x3.size + (((⟨#[46, 80, 83, 10]⟩ : ByteArray) ++ (rdOf ByteArray.empty y208 (Int.tmod (IntKind.u64.wrap (Int.tdiv (IntKind.u64.wrap (rd x0 x4)) 12)) 6))) ++ (⟨#[10, 46, 80, 69, 10]⟩ : ByteArray)).size ≤ 9223372036854775807 then (frisketlaw29_Text.l0 k x0 (x3 ++ (((⟨#[46, 80, 83, 10]⟩ : ByteArray) ++ (rdOf ByteArray.empty y208 (Int.tmod (IntKind.u64.wrap (Int.tdiv (IntKind.u64.wrap (rd x0 x4)) 12)) 6))) ++ (⟨#[10, 46, 80, 69, 10]⟩ : ByteArray))) (wrap64 (x4 + 1))) else (none)) else (none)) else (none)) else (none)) else (none))) else (if (Int.tmod (IntKind.u64.wrap (rd x0 x4)) 12) = 5 then ((some (([(⟨#[108, 32, 114, 46, 10, 97, 9, 49, 10, 98, 98, 9, 50, 50]⟩ : ByteArray), (⟨#[99, 32, 99, 59, 10, 120]⟩ : ByteArray), (⟨#[108, 46, 10]⟩ : ByteArray), (⟨#[99, 101, 110, 116, 101, 114, 59, 10, 108, 32, 108, 10, 110, 32, 110, 46, 10, 97, 9, 98, 10, 49, 46, 53, 9, 50, 50, 46, 50, 53]⟩ : ByteArray)] : List ByteArray) : List ByteArray)).bind fun y212 => (if 0 ≤ (Int.tmod (IntKind.u64.wrap (Int.tdiv (IntKind.u64.wrap (rd x0 x4)) 12)) 4) then (if (Int.tmod (IntKind.u64.wrap (Int.tdiv (IntKind.u64.wrap (rd x0 x4)) 12)) 4) < (y212.length : Int) then (if 4 + (rdOf ByteArray.empty y212 (Int.tmod (IntKind.u64.wrap (Int.tdiv (IntKind.u64.wrap (rd x0 x4)) 12)) 4)).size ≤ 9223372036854775807 then (if ((⟨#[46, 84, 83, 10]⟩ : ByteArray) ++ (rdOf ByteArray.empty y212 (Int.tmod (IntKind.u64.wrap (Int.tdiv (IntKind.u64.wrap (rd x0 x4)) 12)) 4))).size + 5 ≤ 9223372036854775807 then (if x3.size + (((⟨#[46, 84, 83, 10]⟩ : ByteArray) ++ (rdOf ByteArray.empty y212 (Int.tmod (IntKind.u64.wrap (Int.tdiv (IntKind.u64.wrap (rd x0 x4)) 12)) 4))) ++ (⟨#[10, 46, 84, 69, 10]⟩ : ByteArray)).size ≤ 9223372036854775807 then (frisketlaw29_Text.l0 k x0 (x3 ++ (((⟨#[46, 84, 83, 10]⟩ : ByteArray) ++ (rdOf ByteArray.empty y212 (Int.tmod (IntKind.u64.wrap (Int.tdiv (IntKind.u64.wrap (rd x0 x4)) 12)) 4))) ++ (⟨#[10, 46, 84, 69, 10]⟩ : ByteArray))) (wrap64 (x4 + 1))) else (none)) else (none)) else (none)) else (none)) else (none))) else (if (Int.tmod (IntKind.u64.wrap (rd x0 x4)) 12) = 6 then ((some (([(⟨#[75, 110, 117, 116, 104]⟩ : ByteArray), (⟨#[84, 114, 111, 102, 102, 32, 49, 57, 55, 54]⟩ : ByteArray), (⟨#[110, 111, 98, 111, 100, 121]⟩ : ByteArray), (⟨#[65, 104, 111, 32, 68, 101, 115, 105, 103, 110]⟩ : ByteArray)] : List ByteArray) : List ByteArray)).bind fun y216 => (if 0 ≤ (Int.tmod (IntKind.u64.wrap (Int.tdiv (IntKind.u64.wrap (rd x0 x4)) 12)) 4) then (if (Int.tmod (IntKind.u64.wrap (Int.tdiv (IntKind.u64.wrap (rd x0 x4)) 12)) 4) < (y216.length : Int) then (if 3 + (rdOf ByteArray.empty y216 (Int.tmod (IntKind.u64.wrap (Int.tdiv (IntKind.u64.wrap (rd x0 x4)) 12)) 4)).size ≤ 9223372036854775807 then (if ((⟨#[46, 91, 10]⟩ : ByteArray) ++ (rdOf ByteArray.empty y216 (Int.tmod (IntKind.u64.wrap (Int.tdiv (IntKind.u64.wrap (rd x0 x4)) 12)) 4))).size + 4 ≤ 9223372036854775807 then (if x3.size + (((⟨#[46, 91, 10]⟩ : ByteArray) ++ (rdOf ByteArray.empty y216 (Int.tmod (IntKind.u64.wrap (Int.tdiv (IntKind.u64.wrap (rd x0 x4)) 12)) 4))) ++ (⟨#[10, 46, 93, 10]⟩ : ByteArray)).size ≤ 9223372036854775807 then (frisketlaw29_Text.l0 k x0 (x3 ++ (((⟨#[46, 91, 10]⟩ : ByteArray) ++ (rdOf ByteArray.empty y216 (Int.tmod (IntKind.u64.wrap (Int.tdiv (IntKind.u64.wrap (rd x0 x4)) 12)) 4))) ++ (⟨#[10, 46, 93, 10]⟩ : ByteArray))) (wrap64 (x4 + 1))) else (none)) else (none)) else (none)) else (none)) else (none))) else (if (Int.tmod (IntKind.u64.wrap (rd x0 x4)) 12) = 7 then (if x3.size + 4 ≤ 9223372036854775807 then (frisketlaw29_Text.l0 k x0 (x3 ++ (⟨#[46, 91, 93, 10]⟩ : ByteArray)) (wrap64 (x4 + 1))) else (none)) else (if (Int.tmod (IntKind.u64.wrap (rd x0 x4)) 12) = 8 then ((some (([(⟨#[97, 116, 111, 109, 32, 97, 32, 67, 10, 97, 116, 111, 109, 32, 98, 32, 79, 10, 98, 111, 110, 100, 32, 115, 105, 110, 103, 108, 101, 32, 97, 32, 98, 32, 101]⟩ : ByteArray), (⟨#[114, 105, 110, 103, 32, 114, 32, 54, 10, 97, 116, 111, 109, 32, 120, 32, 78, 10, 98, 111, 110, 100, 32, 100, 111, 117, 98, 108, 101, 32, 114, 49, 32, 120, 32, 119]⟩ : ByteArray), (⟨#[97, 116, 111, 109, 32, 97, 32, 67, 10, 98, 111, 110, 100, 32, 113, 117, 97, 100, 32, 97, 32, 98, 32, 101]⟩ : ByteArray), (⟨#[]⟩ : ByteArray)] : List ByteArray) : List ByteArray)).bind fun y220 => (if 0 ≤ (Int.tmod (IntKind.u64.wrap (Int.tdiv (IntKind.u64.wrap (rd x0 x4)) 12)) 4) then (if (Int.tmod (IntKind.u64.wrap (Int.tdiv (IntKind.u64.wrap (rd x0 x4)) 12)) 4) < (y220.length : Int) then (if 4 + (rdOf ByteArray.empty y220 (Int.tmod (IntKind.u64.wrap (Int.tdiv (IntKind.u64.wrap (rd x0 x4)) 12)) 4)).size ≤ 9223372036854775807 then (if ((⟨#[46, 67, 72, 10]⟩ : ByteArray) ++ (rdOf ByteArray.empty y220 (Int.tmod (IntKind.u64.wrap (Int.tdiv (IntKind.u64.wrap (rd x0 x4)) 12)) 4))).size + 5 ≤ 9223372036854775807 then (if x3.size + (((⟨#[46, 67, 72, 10]⟩ : ByteArray) ++ (rdOf ByteArray.empty y220 (Int.tmod (IntKind.u64.wrap (Int.tdiv (IntKind.u64.wrap (rd x0 x4)) 12)) 4))) ++ (⟨#[10, 46, 67, 69, 10]⟩ : ByteArray)).size ≤ 9223372036854775807 then (frisketlaw29_Text.l0 k x0 (x3 ++ (((⟨#[46, 67, 72, 10]⟩ : ByteArray) ++ (rdOf ByteArray.empty y220 (Int.tmod (IntKind.u64.wrap (Int.tdiv (IntKind.u64.wrap (rd x0 x4)) 12)) 4))) ++ (⟨#[10, 46, 67, 69, 10]⟩ : ByteArray))) (wrap64 (x4 + 1))) else (none)) else (none)) else (none)) else (none)) else (none))) else (if (Int.tmod (IntKind.u64.wrap (rd x0 x4)) 12) = 9 then ((some (([(⟨#[46, 80, 83]⟩ : ByteArray), (⟨#[46, 80, 69]⟩ : ByteArray), (⟨#[46, 84, 83]⟩ : ByteArray), (⟨#[46, 69, 78]⟩ : ByteArray), (⟨#[46, 71, 49]⟩ : ByteArray), (⟨#[46, 91]⟩ : ByteArray), (⟨#[120, 46, 84, 83]⟩ : ByteArray), (⟨#[46, 69, 81, 32, 120]⟩ : ByteArray), (⟨#[]⟩ : ByteArray)] : List ByteArray) : List ByteArray)).bind fun y224 => (if 0 ≤ (Int.tmod (IntKind.u64.wrap (Int.tdiv (IntKind.u64.wrap (rd x0 x4)) 12)) 9) then (if (Int.tmod (IntKind.u64.wrap (Int.tdiv (IntKind.u64.wrap (rd x0 x4)) 12)) 9) < (y224.length : Int) then (if (rdOf ByteArray.empty y224 (Int.tmod (IntKind.u64.wrap (Int.tdiv (IntKind.u64.wrap (rd x0 x4)) 12)) 9)).size + 1 ≤ 9223372036854775807 then (if x3.size + ((rdOf ByteArray.empty y224 (Int.tmod (IntKind.u64.wrap (Int.tdiv (IntKind.u64.wrap (rd x0 x4)) 12)) 9)) ++ (⟨#[10]⟩ : ByteArray)).size ≤ 9223372036854775807 then (frisketlaw29_Text.l0 k x0 (x3 ++ ((rdOf ByteArray.empty y224 (Int.tmod (IntKind.u64.wrap (Int.tdiv (IntKind.u64.wrap (rd x0 x4)) 12)) 9)) ++ (⟨#[10]⟩ : ByteArray))) (wrap64 (x4 + 1))) else (none)) else (none)) else (none)) else (none))) else (if (Int.tmod (IntKind.u64.wrap (rd x0 x4)) 12) = 10 then ((some (([(⟨#[48, 32, 48]⟩ : ByteArray), (⟨#[98, 97, 100]⟩ : ByteArray), (⟨#[102, 114, 97, 109, 101, 32, 53, 48, 48, 32, 52, 48, 48, 10, 49, 32, 49, 10, 50, 32, 51]⟩ : ByteArray)] : List ByteArray) : List ByteArray)).bind fun y228 => (if 0 ≤ (Int.tmod (IntKind.u64.wrap (Int.tdiv (IntKind.u64.wrap (rd x0 x4)) 12)) 3) then (if (Int.tmod (IntKind.u64.wrap (Int.tdiv (IntKind.u64.wrap (rd x0 x4)) 12)) 3) < (y228.length : Int) then (if 4 + (rdOf ByteArray.empty y228 (Int.tmod (IntKind.u64.wrap (Int.tdiv (IntKind.u64.wrap (rd x0 x4)) 12)) 3)).size ≤ 9223372036854775807 then (if ((⟨#[46, 71, 49, 10]⟩ : ByteArray) ++ (rdOf ByteArray.empty y228 (Int.tmod (IntKind.u64.wrap (Int.tdiv (IntKind.u64.wrap (rd x0 x4)) 12)) 3))).size + 5 ≤ 9223372036854775807 then (if x3.size + (((⟨#[46, 71, 49, 10]⟩ : ByteArray) ++ (rdOf ByteArray.empty y228 (Int.tmod (IntKind.u64.wrap (Int.tdiv (IntKind.u64.wrap (rd x0 x4)) 12)) 3))) ++ (⟨#[10, 46, 71, 50, 10]⟩ : ByteArray)).size ≤ 9223372036854775807 then (frisketlaw29_Text.l0 k x0 (x3 ++ (((⟨#[46, 71, 49, 10]⟩ : ByteArray) ++ (rdOf ByteArray.empty y228 (Int.tmod (IntKind.u64.wrap (Int.tdiv (IntKind.u64.wrap (rd x0 x4)) 12)) 3))) ++ (⟨#[10, 46, 71, 50, 10]⟩ : ByteArray))) (wrap64 (x4 + 1))) else (none)) else (none)) else (none)) else (none)) else (none))) else (if (Int.tmod (IntKind.u64.wrap (rd x0 x4)) 12) = 11 then (if x3.size + 4 ≤ 9223372036854775807 then (frisketlaw29_Text.l0 k x0 (x3 ++ (⟨#[109, 111, 114, 101]⟩ : ByteArray)) (wrap64 (x4 + 1))) else (none)) else (frisketlaw29_Text.l0 k x0 x3 (wrap64 (x4 + 1))))))))))))))) else (none)) else (none)) else (some x3)
end
def frisketlaw29_Text.f (k : Nat) (l0 : List Int) : Option (ByteArray) := frisketlaw29_Text.l0 k l0 (⟨#[]⟩ : ByteArray) 0
theorem frisketlaw29_Text.mono_l : ∀ k, (∀ y0 y1 y2, LeO (frisketlaw29_Text.l0 k y0 y1 y2) (frisketlaw29_Text.l0 (k + 1) y0 y1 y2)) ∧ (∀ y0 y1 y2 y3, LeO (frisketlaw29_Text.j1 k y0 y1 y2 y3) (frisketlaw29_Text.j1 (k + 1) y0 y1 y2 y3))
  | 0 => ⟨fun _ _ _ r h => by simp [frisketlaw29_Text.l0] at h, fun _ _ _ _ r h => by simp [frisketlaw29_Text.j1] at h⟩
  | k + 1 => by
    obtain ⟨ih0, ih1⟩ := frisketlaw29_Text.mono_l k
    refine ⟨?_, ?_⟩
    · intro y0 y1 y2
      unfold frisketlaw29_Text.l0
      repeat' first
      | (with_reducible exact ih0 _ _ _)
      | (with_reducible exact ih1 _ _ _ _)
      | (with_reducible exact frisketlaw23_Text.mono _ _)
      | (with_reducible exact LeO.refl _)
      | (with_reducible exact LeO.none _)
      | (with_reducible refine LeO.ite ?_ ?_)
      | (with_reducible refine LeO.bind ?_ (fun _ => ?_))
      | exact ih0 _ _ _
      | exact ih1 _ _ _ _
      | exact frisketlaw23_Text.mono _ _
      | exact LeO.none _
      | refine LeO.ite ?_ ?_
      | refine LeO.bind ?_ (fun _ => ?_)
    · intro y0 y1 y2 y3
      unfold frisketlaw29_Text.j1
      repeat' first
      | (with_reducible exact ih0 _ _ _)
      | (with_reducible exact ih1 _ _ _ _)
      | (with_reducible exact frisketlaw23_Text.mono _ _)
      | (with_reducible exact LeO.refl _)
      | (with_reducible exact LeO.none _)
      | (with_reducible refine LeO.ite ?_ ?_)
      | (with_reducible refine LeO.bind ?_ (fun _ => ?_))
      | exact ih0 _ _ _
      | exact ih1 _ _ _ _
      | exact frisketlaw23_Text.mono _ _
      | exact LeO.none _
      | refine LeO.ite ?_ ?_
      | refine LeO.bind ?_ (fun _ => ?_)
theorem frisketlaw29_Text.mono : ∀ a0 k, LeO (frisketlaw29_Text.f k a0) (frisketlaw29_Text.f (k + 1) a0) := by
  intro a0 k
  obtain ⟨ih0, ih1⟩ := frisketlaw29_Text.mono_l k
  unfold frisketlaw29_Text.f
  repeat' first
      | (with_reducible exact ih0 _ _ _)
      | (with_reducible exact ih1 _ _ _ _)
      | (with_reducible exact frisketlaw23_Text.mono _ _)
      | (with_reducible exact LeO.refl _)
      | (with_reducible exact LeO.none _)
      | (with_reducible refine LeO.ite ?_ ?_)
      | (with_reducible refine LeO.bind ?_ (fun _ => ?_))
      | exact ih0 _ _ _
      | exact ih1 _ _ _ _
      | exact frisketlaw23_Text.mono _ _
      | exact LeO.none _
      | refine LeO.ite ?_ ?_
      | refine LeO.bind ?_ (fun _ => ?_)
set_option maxHeartbeats 8000000 in
set_option maxRecDepth 100000 in
theorem frisketlaw29_Text.calls (k : Nat) (A0 : Option Addr) (c0 : Nat) (l0 : List Int) (r : ByteArray) (w : World) (hr0 : Kd.C (Kd.int .i64) w A0 l0.length l0) (hc0 : l0.length ≤ c0) (h : frisketlaw29_Text.f k l0 = some r) :
    Calls Tryz.prog 6 #[.slice A0 l0.length c0] w fun e w' => e = .returned (.string r) ∧ Below w.heap.size w w' := by
  have HR0 := Aside0.mk hr0
  have HC0 := Aside0.mk hc0
  clear hr0 hc0
  have HB := Aside0.mk (Below.refl w.heap.size w)
  have H : (frisketlaw29_Text.l0 k l0 (⟨#[]⟩ : ByteArray) 0) = some r := h
  clear h
  have H' := Aside0.mk H
  clear H
  go_enter Tryz.func6, Tryz.ntmps6
  go_wp2
  go_loopg [3, 4] k (fun kq v3 v4 w' => ∃ (x3_1 : ByteArray) (x4_1 : Int), v3 = .string x3_1 ∧ v4 = .int .i64 x4_1 ∧ Aside0 (frisketlaw29_Text.l0 kq l0 x3_1 x4_1 = some r) ∧ Aside0 (kq ≤ k) ∧ Aside0 (Below w.heap.size w w'))
  case atStart => exact ⟨((⟨#[]⟩ : ByteArray)), (0), (by first | rfl | (simp; done) | (simp [*]; done)), (by first | rfl | (simp; done) | (simp [*]; done)), H', ⟨Nat.le_refl _⟩, ⟨by repeat (first | (with_reducible first | exact HB.out | apply below_alloc | apply pw_below_drewN | apply below_drew1) | exact HB.out)⟩⟩
  case round =>
    clear H'
    obtain ⟨x3_1, x4_1, rfl, rfl, HA, HK1, HB⟩ := hrel
    cases gk with
    | zero => exact absurd HA.out (by simp [frisketlaw29_Text.l0])
    | succ k1 =>
      have H := HA.out
      clear HA
      simp only [frisketlaw29_Text.l0] at H
      have HC2 := Aside0.mk H
      clear H
      go_upto_region 3 with (fail)
      go_cut [13] (fun v13 wc => ∃ (kq : Nat) (x13_1 : Bool), v13 = .bool x13_1 ∧ Aside0 (frisketlaw29_Text.j1 kq l0 x3_1 x4_1 x13_1 = some r) ∧ Aside0 (kq ≤ k1) ∧ Aside0 (Below w.heap.size w wc))
      case first =>
        have H := HC2.out
        clear HC2
        by_cases c3 : x4_1 < (l0.length : Int)
        · rw [if_pos c3] at H
          have c3b0 : decide (x4_1 < (l0.length : Int)) = true := decide_eq_true c3
          clear c3
          (first | rw [c3b0] | (simp only [i64_w, i32_w]; rw [c3b0]) | skip)
          have H' := Aside0.mk H
          clear H
          go_wp2
          go_meet
          case rel => exact ⟨_, (decide (x4_1 < 14)), (by first | rfl | (simp; done) | (simp [*]; done)), H', ⟨by have := HK1.out; first | omega | exact Nat.le_refl _⟩, ⟨by repeat (first | (with_reducible first | exact HB.out | apply below_alloc | apply pw_below_drewN | apply below_drew1) | exact HB.out)⟩⟩
        · rw [if_neg c3] at H
          have c3b0 : decide (x4_1 < (l0.length : Int)) = false := decide_eq_false c3
          clear c3
          (first | rw [c3b0] | (simp only [i64_w, i32_w]; rw [c3b0]) | skip)
          have H' := Aside0.mk H
          clear H
          go_wp2
          go_meet
          case rel => exact ⟨_, (false), (by first | rfl | (simp; done) | (simp [*]; done)), H', ⟨by have := HK1.out; first | omega | exact Nat.le_refl _⟩, ⟨by repeat (first | (with_reducible first | exact HB.out | apply below_alloc | apply pw_below_drewN | apply below_drew1) | exact HB.out)⟩⟩
      case rest =>
        clear HC2
        try clear p2
        try clear c3
        try clear c3b0
        obtain ⟨kq, x13_1, rfl, HA, HJ1, HB⟩ := hcut
        cases kq with
        | zero => exact absurd HA.out (by simp [frisketlaw29_Text.j1])
        | succ kj1 =>
          have H := HA.out
          clear HA
          simp only [frisketlaw29_Text.j1] at H
          by_cases c4 : x13_1 = true
          · subst c4
            have H1 : (if 0 ≤ x4_1 then (if x4_1 < (l0.length : Int) then (if (Int.tmod (IntKind.u64.wrap (rd l0 x4_1)) 12) = 0 then (if x3_1.size + 15 ≤ 9223372036854775807 then (frisketlaw29_Text.l0 kj1 l0 (x3_1 ++ (⟨#[97, 32, 108, 105, 110, 101, 32, 111, 102, 32, 116, 101, 120, 116, 10]⟩ : ByteArray)) (wrap64 (x4_1 + 1))) else (none)) else (if (Int.tmod (IntKind.u64.wrap (rd l0 x4_1)) 12) = 1 then ((frisketlaw23_Text.f kj1 (([wrap64 (IntKind.u64.wrap (Int.tdiv (IntKind.u64.wrap (rd l0 x4_1)) 12)), wrap64 (IntKind.u64.wrap (Int.tdiv (IntKind.u64.wrap (rd l0 x4_1)) 36)), wrap64 (IntKind.u64.wrap (Int.tdiv (IntKind.u64.wrap (rd l0 x4_1)) 60))] : List Int))).bind fun t207 => (if 4 + t207.size ≤ 9223372036854775807 then (if ((⟨#[46, 69, 81, 10]⟩ : ByteArray) ++ t207).size + 5 ≤ 9223372036854775807 then (if x3_1.size + (((⟨#[46, 69, 81, 10]⟩ : ByteArray) ++ t207) ++ (⟨#[10, 46, 69, 78, 10]⟩ : ByteArray)).size ≤ 9223372036854775807 then (frisketlaw29_Text.l0 kj1 l0 (x3_1 ++ (((⟨#[46, 69, 81, 10]⟩ : ByteArray) ++ t207) ++ (⟨#[10, 46, 69, 78, 10]⟩ : ByteArray))) (wrap64 (x4_1 + 1))) else (none)) else (none)) else (none))) else (if (Int.tmod (IntKind.u64.wrap (rd l0 x4_1)) 12) = 2 then (if x3_1.size + 17 ≤ 9223372036854775807 then (frisketlaw29_Text.l0 kj1 l0 (x3_1 ++ (⟨#[46, 69, 81, 10, 120, 32, 111, 118, 101, 114, 32, 121, 10, 46, 69, 78, 10]⟩ : ByteArray)) (wrap64 (x4_1 + 1))) else (none)) else (if (Int.tmod (IntKind.u64.wrap (rd l0 x4_1)) 12) = 3 then (if x3_1.size + 35 ≤ 9223372036854775807 then (frisketlaw29_Text.l0 kj1 l0 (x3_1 ++ (⟨#[46, 71, 49, 10, 48, 32, 48, 10, 53, 32, 55, 10, 97, 32, 51, 32, 52, 10, 116, 105, 99, 107, 115, 32, 108, 101, 102, 116, 32, 50, 10, 46, 71, 50, 10]⟩ : ByteArray)) (wrap64 (x4_1 + 1))) else (none)) else (if (Int.tmod (IntKind.u64.wrap (rd l0 x4_1)) 12) = 4 then ((some (([(⟨#[98, 111, 120]⟩ : ByteArray), (⟨#[98, 111, 120, 59, 32, 97, 114, 114, 111, 119, 59, 32, 99, 105, 114, 99, 108, 101, 32, 34, 120, 34]⟩ : ByteArray), (⟨#[108, 105, 110, 101, 32, 114, 105, 103, 104, 116, 32, 49, 48, 48, 10, 34, 116, 101, 120, 116, 34]⟩ : ByteArray), (⟨#[]⟩ : ByteArray), (⟨#[98, 111, 120, 120]⟩ : ByteArray), (⟨#[101, 108, 108, 105, 112, 115, 101, 32, 97, 116, 32, 49, 48, 48, 44, 50, 48, 48]⟩ : ByteArray)] : List ByteArray) : List ByteArray)).bind fun y208 => (if 0 ≤ (Int.tmod (IntKind.u64.wrap (Int.tdiv (IntKind.u64.wrap (rd l0 x4_1)) 12)) 6) then (if (Int.tmod (IntKind.u64.wrap (Int.tdiv (IntKind.u64.wrap (rd l0 x4_1)) 12)) 6) < (y208.length : Int) then (if 4 + (rdOf ByteArray.empty y208 (Int.tmod (IntKind.u64.wrap (Int.tdiv (IntKind.u64.wrap (rd l0 x4_1)) 12)) 6)).size ≤ 9223372036854775807 then (if ((⟨#[46, 80, 83, 10]⟩ : ByteArray) ++ (rdOf ByteArray.empty y208 (Int.tmod (IntKind.u64.wrap (Int.tdiv (IntKind.u64.wrap (rd l0 x4_1)) 12)) 6))).size + 5 ≤ 9223372036854775807 then (if x3_1.size + (((⟨#[46, 80, 83, 10]⟩ : ByteArray) ++ (rdOf ByteArray.empty y208 (Int.tmod (IntKind.u64.wrap (Int.tdiv (IntKind.u64.wrap (rd l0 x4_1)) 12)) 6))) ++ (⟨#[10, 46, 80, 69, 10]⟩ : ByteArray)).size ≤ 9223372036854775807 then (frisketlaw29_Text.l0 kj1 l0 (x3_1 ++ (((⟨#[46, 80, 83, 10]⟩ : ByteArray) ++ (rdOf ByteArray.empty y208 (Int.tmod (IntKind.u64.wrap (Int.tdiv (IntKind.u64.wrap (rd l0 x4_1)) 12)) 6))) ++ (⟨#[10, 46, 80, 69, 10]⟩ : ByteArray))) (wrap64 (x4_1 + 1))) else (none)) else (none)) else (none)) else (none)) else (none))) else (if (Int.tmod (IntKind.u64.wrap (rd l0 x4_1)) 12) = 5 then ((some (([(⟨#[108, 32, 114, 46, 10, 97, 9, 49, 10, 98, 98, 9, 50, 50]⟩ : ByteArray), (⟨#[99, 32, 99, 59, 10, 120]⟩ : ByteArray), (⟨#[108, 46, 10]⟩ : ByteArray), (⟨#[99, 101, 110, 116, 101, 114, 59, 10, 108, 32, 108, 10, 110, 32, 110, 46, 10, 97, 9, 98, 10, 49, 46, 53, 9, 50, 50, 46, 50, 53]⟩ : ByteArray)] : List ByteArray) : List ByteArray)).bind fun y212 => (if 0 ≤ (Int.tmod (IntKind.u64.wrap (Int.tdiv (IntKind.u64.wrap (rd l0 x4_1)) 12)) 4) then (if (Int.tmod (IntKind.u64.wrap (Int.tdiv (IntKind.u64.wrap (rd l0 x4_1)) 12)) 4) < (y212.length : Int) then (if 4 + (rdOf ByteArray.empty y212 (Int.tmod (IntKind.u64.wrap (Int.tdiv (IntKind.u64.wrap (rd l0 x4_1)) 12)) 4)).size ≤ 9223372036854775807 then (if ((⟨#[46, 84, 83, 10]⟩ : ByteArray) ++ (rdOf ByteArray.empty y212 (Int.tmod (IntKind.u64.wrap (Int.tdiv (IntKind.u64.wrap (rd l0 x4_1)) 12)) 4))).size + 5 ≤ 9223372036854775807 then (if x3_1.size + (((⟨#[46, 84, 83, 10]⟩ : ByteArray) ++ (rdOf ByteArray.empty y212 (Int.tmod (IntKind.u64.wrap (Int.tdiv (IntKind.u64.wrap (rd l0 x4_1)) 12)) 4))) ++ (⟨#[10, 46, 84, 69, 10]⟩ : ByteArray)).size ≤ 9223372036854775807 then (frisketlaw29_Text.l0 kj1 l0 (x3_1 ++ (((⟨#[46, 84, 83, 10]⟩ : ByteArray) ++ (rdOf ByteArray.empty y212 (Int.tmod (IntKind.u64.wrap (Int.tdiv (IntKind.u64.wrap (rd l0 x4_1)) 12)) 4))) ++ (⟨#[10, 46, 84, 69, 10]⟩ : ByteArray))) (wrap64 (x4_1 + 1))) else (none)) else (none)) else (none)) else (none)) else (none))) else (if (Int.tmod (IntKind.u64.wrap (rd l0 x4_1)) 12) = 6 then ((some (([(⟨#[75, 110, 117, 116, 104]⟩ : ByteArray), (⟨#[84, 114, 111, 102, 102, 32, 49, 57, 55, 54]⟩ : ByteArray), (⟨#[110, 111, 98, 111, 100, 121]⟩ : ByteArray), (⟨#[65, 104, 111, 32, 68, 101, 115, 105, 103, 110]⟩ : ByteArray)] : List ByteArray) : List ByteArray)).bind fun y216 => (if 0 ≤ (Int.tmod (IntKind.u64.wrap (Int.tdiv (IntKind.u64.wrap (rd l0 x4_1)) 12)) 4) then (if (Int.tmod (IntKind.u64.wrap (Int.tdiv (IntKind.u64.wrap (rd l0 x4_1)) 12)) 4) < (y216.length : Int) then (if 3 + (rdOf ByteArray.empty y216 (Int.tmod (IntKind.u64.wrap (Int.tdiv (IntKind.u64.wrap (rd l0 x4_1)) 12)) 4)).size ≤ 9223372036854775807 then (if ((⟨#[46, 91, 10]⟩ : ByteArray) ++ (rdOf ByteArray.empty y216 (Int.tmod (IntKind.u64.wrap (Int.tdiv (IntKind.u64.wrap (rd l0 x4_1)) 12)) 4))).size + 4 ≤ 9223372036854775807 then (if x3_1.size + (((⟨#[46, 91, 10]⟩ : ByteArray) ++ (rdOf ByteArray.empty y216 (Int.tmod (IntKind.u64.wrap (Int.tdiv (IntKind.u64.wrap (rd l0 x4_1)) 12)) 4))) ++ (⟨#[10, 46, 93, 10]⟩ : ByteArray)).size ≤ 9223372036854775807 then (frisketlaw29_Text.l0 kj1 l0 (x3_1 ++ (((⟨#[46, 91, 10]⟩ : ByteArray) ++ (rdOf ByteArray.empty y216 (Int.tmod (IntKind.u64.wrap (Int.tdiv (IntKind.u64.wrap (rd l0 x4_1)) 12)) 4))) ++ (⟨#[10, 46, 93, 10]⟩ : ByteArray))) (wrap64 (x4_1 + 1))) else (none)) else (none)) else (none)) else (none)) else (none))) else (if (Int.tmod (IntKind.u64.wrap (rd l0 x4_1)) 12) = 7 then (if x3_1.size + 4 ≤ 9223372036854775807 then (frisketlaw29_Text.l0 kj1 l0 (x3_1 ++ (⟨#[46, 91, 93, 10]⟩ : ByteArray)) (wrap64 (x4_1 + 1))) else (none)) else (if (Int.tmod (IntKind.u64.wrap (rd l0 x4_1)) 12) = 8 then ((some (([(⟨#[97, 116, 111, 109, 32, 97, 32, 67, 10, 97, 116, 111, 109, 32, 98, 32, 79, 10, 98, 111, 110, 100, 32, 115, 105, 110, 103, 108, 101, 32, 97, 32, 98, 32, 101]⟩ : ByteArray), (⟨#[114, 105, 110, 103, 32, 114, 32, 54, 10, 97, 116, 111, 109, 32, 120, 32, 78, 10, 98, 111, 110, 100, 32, 100, 111, 117, 98, 108, 101, 32, 114, 49, 32, 120, 32, 119]⟩ : ByteArray), (⟨#[97, 116, 111, 109, 32, 97, 32, 67, 10, 98, 111, 110, 100, 32, 113, 117, 97, 100, 32, 97, 32, 98, 32, 101]⟩ : ByteArray), (⟨#[]⟩ : ByteArray)] : List ByteArray) : List ByteArray)).bind fun y220 => (if 0 ≤ (Int.tmod (IntKind.u64.wrap (Int.tdiv (IntKind.u64.wrap (rd l0 x4_1)) 12)) 4) then (if (Int.tmod (IntKind.u64.wrap (Int.tdiv (IntKind.u64.wrap (rd l0 x4_1)) 12)) 4) < (y220.length : Int) then (if 4 + (rdOf ByteArray.empty y220 (Int.tmod (IntKind.u64.wrap (Int.tdiv (IntKind.u64.wrap (rd l0 x4_1)) 12)) 4)).size ≤ 9223372036854775807 then (if ((⟨#[46, 67, 72, 10]⟩ : ByteArray) ++ (rdOf ByteArray.empty y220 (Int.tmod (IntKind.u64.wrap (Int.tdiv (IntKind.u64.wrap (rd l0 x4_1)) 12)) 4))).size + 5 ≤ 9223372036854775807 then (if x3_1.size + (((⟨#[46, 67, 72, 10]⟩ : ByteArray) ++ (rdOf ByteArray.empty y220 (Int.tmod (IntKind.u64.wrap (Int.tdiv (IntKind.u64.wrap (rd l0 x4_1)) 12)) 4))) ++ (⟨#[10, 46, 67, 69, 10]⟩ : ByteArray)).size ≤ 9223372036854775807 then (frisketlaw29_Text.l0 kj1 l0 (x3_1 ++ (((⟨#[46, 67, 72, 10]⟩ : ByteArray) ++ (rdOf ByteArray.empty y220 (Int.tmod (IntKind.u64.wrap (Int.tdiv (IntKind.u64.wrap (rd l0 x4_1)) 12)) 4))) ++ (⟨#[10, 46, 67, 69, 10]⟩ : ByteArray))) (wrap64 (x4_1 + 1))) else (none)) else (none)) else (none)) else (none)) else (none))) else (if (Int.tmod (IntKind.u64.wrap (rd l0 x4_1)) 12) = 9 then ((some (([(⟨#[46, 80, 83]⟩ : ByteArray), (⟨#[46, 80, 69]⟩ : ByteArray), (⟨#[46, 84, 83]⟩ : ByteArray), (⟨#[46, 69, 78]⟩ : ByteArray), (⟨#[46, 71, 49]⟩ : ByteArray), (⟨#[46, 91]⟩ : ByteArray), (⟨#[120, 46, 84, 83]⟩ : ByteArray), (⟨#[46, 69, 81, 32, 120]⟩ : ByteArray), (⟨#[]⟩ : ByteArray)] : List ByteArray) : List ByteArray)).bind fun y224 => (if 0 ≤ (Int.tmod (IntKind.u64.wrap (Int.tdiv (IntKind.u64.wrap (rd l0 x4_1)) 12)) 9) then (if (Int.tmod (IntKind.u64.wrap (Int.tdiv (IntKind.u64.wrap (rd l0 x4_1)) 12)) 9) < (y224.length : Int) then (if (rdOf ByteArray.empty y224 (Int.tmod (IntKind.u64.wrap (Int.tdiv (IntKind.u64.wrap (rd l0 x4_1)) 12)) 9)).size + 1 ≤ 9223372036854775807 then (if x3_1.size + ((rdOf ByteArray.empty y224 (Int.tmod (IntKind.u64.wrap (Int.tdiv (IntKind.u64.wrap (rd l0 x4_1)) 12)) 9)) ++ (⟨#[10]⟩ : ByteArray)).size ≤ 9223372036854775807 then (frisketlaw29_Text.l0 kj1 l0 (x3_1 ++ ((rdOf ByteArray.empty y224 (Int.tmod (IntKind.u64.wrap (Int.tdiv (IntKind.u64.wrap (rd l0 x4_1)) 12)) 9)) ++ (⟨#[10]⟩ : ByteArray))) (wrap64 (x4_1 + 1))) else (none)) else (none)) else (none)) else (none))) else (if (Int.tmod (IntKind.u64.wrap (rd l0 x4_1)) 12) = 10 then ((some (([(⟨#[48, 32, 48]⟩ : ByteArray), (⟨#[98, 97, 100]⟩ : ByteArray), (⟨#[102, 114, 97, 109, 101, 32, 53, 48, 48, 32, 52, 48, 48, 10, 49, 32, 49, 10, 50, 32, 51]⟩ : ByteArray)] : List ByteArray) : List ByteArray)).bind fun y228 => (if 0 ≤ (Int.tmod (IntKind.u64.wrap (Int.tdiv (IntKind.u64.wrap (rd l0 x4_1)) 12)) 3) then (if (Int.tmod (IntKind.u64.wrap (Int.tdiv (IntKind.u64.wrap (rd l0 x4_1)) 12)) 3) < (y228.length : Int) then (if 4 + (rdOf ByteArray.empty y228 (Int.tmod (IntKind.u64.wrap (Int.tdiv (IntKind.u64.wrap (rd l0 x4_1)) 12)) 3)).size ≤ 9223372036854775807 then (if ((⟨#[46, 71, 49, 10]⟩ : ByteArray) ++ (rdOf ByteArray.empty y228 (Int.tmod (IntKind.u64.wrap (Int.tdiv (IntKind.u64.wrap (rd l0 x4_1)) 12)) 3))).size + 5 ≤ 9223372036854775807 then (if x3_1.size + (((⟨#[46, 71, 49, 10]⟩ : ByteArray) ++ (rdOf ByteArray.empty y228 (Int.tmod (IntKind.u64.wrap (Int.tdiv (IntKind.u64.wrap (rd l0 x4_1)) 12)) 3))) ++ (⟨#[10, 46, 71, 50, 10]⟩ : ByteArray)).size ≤ 9223372036854775807 then (frisketlaw29_Text.l0 kj1 l0 (x3_1 ++ (((⟨#[46, 71, 49, 10]⟩ : ByteArray) ++ (rdOf ByteArray.empty y228 (Int.tmod (IntKind.u64.wrap (Int.tdiv (IntKind.u64.wrap (rd l0 x4_1)) 12)) 3))) ++ (⟨#[10, 46, 71, 50, 10]⟩ : ByteArray))) (wrap64 (x4_1 + 1))) else (none)) else (none)) else (none)) else (none)) else (none))) else (if (Int.tmod (IntKind.u64.wrap (rd l0 x4_1)) 12) = 11 then (if x3_1.size + 4 ≤ 9223372036854775807 then (frisketlaw29_Text.l0 kj1 l0 (x3_1 ++ (⟨#[109, 111, 114, 101]⟩ : ByteArray)) (wrap64 (x4_1 + 1))) else (none)) else (frisketlaw29_Text.l0 kj1 l0 x3_1 (wrap64 (x4_1 + 1))))))))))))))) else (none)) else (none)) = some r := by rw [if_pos rfl] at H; exact H
            clear H
            have H := H1
            clear H1
            by_cases c5 : 0 ≤ x4_1
            · rw [if_pos c5] at H
              have c5b0 : decide (0 ≤ x4_1) = true := decide_eq_true c5
              clear c5
              by_cases c6 : x4_1 < (l0.length : Int)
              · rw [if_pos c6] at H
                have c6b0 : decide (x4_1 < (l0.length : Int)) = true := decide_eq_true c6
                clear c6
                by_cases c7 : (Int.tmod (IntKind.u64.wrap (rd l0 x4_1)) 12) = 0
                · rw [if_pos c7] at H
                  have c7b0 : ((Int.tmod (IntKind.u64.wrap (rd l0 x4_1)) 12) == 0) = true := beq_iff_eq.mpr c7
                  have c7b1 : ((Int.tmod (IntKind.u64.wrap (rd l0 x4_1)) 12) != 0) = false := bne_eq_false_iff_eq.mpr c7
                  clear c7
                  by_cases c8 : x3_1.size + 15 ≤ 9223372036854775807
                  · rw [if_pos c8] at H
                    have c8b0 := eq_true c8
                    have c8b1 : decide (x3_1.size + 15 ≤ 9223372036854775807) = true := decide_eq_true c8
                    try have c8b2 : (9223372036854775807 < x3_1.size + 15) = False := eq_false (Nat.not_lt.2 c8)
                    try (have c8b3 := c8b2; simp only [ByteArray.size_append, bsz, List.length_cons, List.length_nil, Nat.zero_add, Nat.reduceAdd] at c8b3)
                    have H' := Aside0.mk H
                    clear H
                    have p203 : 0 ≤ (x4_1 : Int) := of_decide_eq_true (by first | (with_reducible assumption) | assumption)
                    have q203 : x4_1 < (l0.length : Int) := of_decide_eq_true (by first | (with_reducible assumption) | assumption)
                    obtain ⟨ad203, e203, hx203_0⟩ := Kd.at_int HR0.out x4_1 p203 q203
                    cases e203
                    replace hx203_0 := (HB.out.cell (World.block_lt_of_cell? w _ hx203_0)).trans hx203_0
                    replace p203 := eq_true p203
                    replace q203 := eq_true q203
                    go_wp2
                    go_roundg kj1
                    case measure => have := HK1.out; have := HJ1.out; omega
                    case rel => exact ⟨(x3_1 ++ (⟨#[97, 32, 108, 105, 110, 101, 32, 111, 102, 32, 116, 101, 120, 116, 10]⟩ : ByteArray)), (wrap64 (x4_1 + 1)), (by first | rfl | (simp; done) | (simp [*]; done)), (by first | rfl | (simp; done) | (simp [*]; done)), H', ⟨by have := HK1.out; have := HJ1.out; omega⟩, ⟨by repeat (first | (with_reducible first | exact HB.out | apply below_alloc | apply pw_below_drewN | apply below_drew1) | exact HB.out)⟩⟩
                  · rw [if_neg c8] at H
                    exact absurd H (by simp)
                · rw [if_neg c7] at H
                  have c7b0 : ((Int.tmod (IntKind.u64.wrap (rd l0 x4_1)) 12) == 0) = false := beq_eq_false_iff_ne.mpr c7
                  have c7b1 : ((Int.tmod (IntKind.u64.wrap (rd l0 x4_1)) 12) != 0) = true := bne_iff_ne.mpr c7
                  by_cases c9 : (Int.tmod (IntKind.u64.wrap (rd l0 x4_1)) 12) = 1
                  · rw [if_pos c9] at H
                    have c9b0 : ((Int.tmod (IntKind.u64.wrap (rd l0 x4_1)) 12) == 1) = true := beq_iff_eq.mpr c9
                    have c9b1 : ((Int.tmod (IntKind.u64.wrap (rd l0 x4_1)) 12) != 1) = false := bne_eq_false_iff_eq.mpr c9
                    clear c9
                    obtain ⟨y204, hy204⟩ : ∃ y_ : List Int, y_ = (([wrap64 (IntKind.u64.wrap (Int.tdiv (IntKind.u64.wrap (rd l0 x4_1)) 12)), wrap64 (IntKind.u64.wrap (Int.tdiv (IntKind.u64.wrap (rd l0 x4_1)) 36)), wrap64 (IntKind.u64.wrap (Int.tdiv (IntKind.u64.wrap (rd l0 x4_1)) 60))] : List Int)) := ⟨_, rfl⟩
                    replace H : ((frisketlaw23_Text.f kj1 y204).bind fun t207 => (if 4 + t207.size ≤ 9223372036854775807 then (if ((⟨#[46, 69, 81, 10]⟩ : ByteArray) ++ t207).size + 5 ≤ 9223372036854775807 then (if x3_1.size + (((⟨#[46, 69, 81, 10]⟩ : ByteArray) ++ t207) ++ (⟨#[10, 46, 69, 78, 10]⟩ : ByteArray)).size ≤ 9223372036854775807 then (frisketlaw29_Text.l0 kj1 l0 (x3_1 ++ (((⟨#[46, 69, 81, 10]⟩ : ByteArray) ++ t207) ++ (⟨#[10, 46, 69, 78, 10]⟩ : ByteArray))) (wrap64 (x4_1 + 1))) else (none)) else (none)) else (none))) = some r := by first | (rw [hy204]; with_reducible exact H) | (have H2_ := (Option.bind_some _ _).symm.trans H; rw [hy204]; with_reducible exact H2_) | (have H2_ := (Option.bind_some _ _).symm.trans H; with_reducible exact H2_) | with_reducible exact H | (rw [hy204]; exact H) | exact H
                    have Ny204 := Aside0.mk hy204
                    clear hy204
                    replace H := Option.bind_eq_some_iff.mp H
                    obtain ⟨t207, A100, H⟩ := H
                    replace H : (if 4 + t207.size ≤ 9223372036854775807 then (if ((⟨#[46, 69, 81, 10]⟩ : ByteArray) ++ t207).size + 5 ≤ 9223372036854775807 then (if x3_1.size + (((⟨#[46, 69, 81, 10]⟩ : ByteArray) ++ t207) ++ (⟨#[10, 46, 69, 78, 10]⟩ : ByteArray)).size ≤ 9223372036854775807 then (frisketlaw29_Text.l0 kj1 l0 (x3_1 ++ (((⟨#[46, 69, 81, 10]⟩ : ByteArray) ++ t207) ++ (⟨#[10, 46, 69, 78, 10]⟩ : ByteArray))) (wrap64 (x4_1 + 1))) else (none)) else (none)) else (none)) = some r := H
                    have A10 := Aside0.mk A100
                    clear A100
                    by_cases c11 : 4 + t207.size ≤ 9223372036854775807
                    · rw [if_pos c11] at H
                      have c11b0 := eq_true c11
                      have c11b1 : decide (4 + t207.size ≤ 9223372036854775807) = true := decide_eq_true c11
                      try have c11b2 : (9223372036854775807 < 4 + t207.size) = False := eq_false (Nat.not_lt.2 c11)
                      try (have c11b3 := c11b2; simp only [ByteArray.size_append, bsz, List.length_cons, List.length_nil, Nat.zero_add, Nat.reduceAdd] at c11b3)
                      by_cases c12 : ((⟨#[46, 69, 81, 10]⟩ : ByteArray) ++ t207).size + 5 ≤ 9223372036854775807
                      · rw [if_pos c12] at H
                        have c12b0 := eq_true c12
                        have c12b1 : decide (((⟨#[46, 69, 81, 10]⟩ : ByteArray) ++ t207).size + 5 ≤ 9223372036854775807) = true := decide_eq_true c12
                        try have c12b2 : (9223372036854775807 < ((⟨#[46, 69, 81, 10]⟩ : ByteArray) ++ t207).size + 5) = False := eq_false (Nat.not_lt.2 c12)
                        try (have c12b3 := c12b2; simp only [ByteArray.size_append, bsz, List.length_cons, List.length_nil, Nat.zero_add, Nat.reduceAdd] at c12b3)
                        by_cases c13 : x3_1.size + (((⟨#[46, 69, 81, 10]⟩ : ByteArray) ++ t207) ++ (⟨#[10, 46, 69, 78, 10]⟩ : ByteArray)).size ≤ 9223372036854775807
                        · rw [if_pos c13] at H
                          have c13b0 := eq_true c13
                          have c13b1 : decide (x3_1.size + (((⟨#[46, 69, 81, 10]⟩ : ByteArray) ++ t207) ++ (⟨#[10, 46, 69, 78, 10]⟩ : ByteArray)).size ≤ 9223372036854775807) = true := decide_eq_true c13
                          try have c13b2 : (9223372036854775807 < x3_1.size + (((⟨#[46, 69, 81, 10]⟩ : ByteArray) ++ t207) ++ (⟨#[10, 46, 69, 78, 10]⟩ : ByteArray)).size) = False := eq_false (Nat.not_lt.2 c13)
                          try (have c13b3 := c13b2; simp only [ByteArray.size_append, bsz, List.length_cons, List.length_nil, Nat.zero_add, Nat.reduceAdd] at c13b3)
                          have H' := Aside0.mk H
                          clear H
                          have p203 : 0 ≤ (x4_1 : Int) := of_decide_eq_true (by first | (with_reducible assumption) | assumption)
                          have q203 : x4_1 < (l0.length : Int) := of_decide_eq_true (by first | (with_reducible assumption) | assumption)
                          obtain ⟨ad203, e203, hx203_0⟩ := Kd.at_int HR0.out x4_1 p203 q203
                          cases e203
                          replace hx203_0 := (HB.out.cell (World.block_lt_of_cell? w _ hx203_0)).trans hx203_0
                          replace p203 := eq_true p203
                          replace q203 := eq_true q203
                          go_wp2_with (first | ((with_reducible refine gate_dst (N := 39) rfl ?_); refine Kd.R_lit (Kd.int .i64) _ 3 ?hg (N := 39) ?hd (xs := ([wrap64 (IntKind.u64.wrap (Int.tdiv (IntKind.u64.wrap (rd l0 x4_1)) 12)), wrap64 (IntKind.u64.wrap (Int.tdiv (IntKind.u64.wrap (rd l0 x4_1)) 36)), wrap64 (IntKind.u64.wrap (Int.tdiv (IntKind.u64.wrap (rd l0 x4_1)) 60))] : List Int)) (inner := [.int .i64 (wrap64 (IntKind.u64.wrap (Int.tdiv (IntKind.u64.wrap (rd l0 x4_1)) 12))), .int .i64 (wrap64 (IntKind.u64.wrap (Int.tdiv (IntKind.u64.wrap (rd l0 x4_1)) 36))), .int .i64 (wrap64 (IntKind.u64.wrap (Int.tdiv (IntKind.u64.wrap (rd l0 x4_1)) 60)))]) (ok := fun _ => True) (okp := fun _ => True) ?hr ?hp (fun _ hk => hk) trivial (Below.refl _ _) (Nat.le_refl _) (by simp) ?_; (case hd => rfl); (case hg => rfl); (case hr => first | (go_simp; done) | (go_simp; rfl)); (case hp => exact (Reps.one (show Kd.M (Kd.int .i64) _ _ _ (wrap64 (IntKind.u64.wrap (Int.tdiv (IntKind.u64.wrap (rd l0 x4_1)) 12))) [.int .i64 (wrap64 (IntKind.u64.wrap (Int.tdiv (IntKind.u64.wrap (rd l0 x4_1)) 12)))] from rfl) (Reps.one (show Kd.M (Kd.int .i64) _ _ _ (wrap64 (IntKind.u64.wrap (Int.tdiv (IntKind.u64.wrap (rd l0 x4_1)) 36))) [.int .i64 (wrap64 (IntKind.u64.wrap (Int.tdiv (IntKind.u64.wrap (rd l0 x4_1)) 36)))] from rfl) (Reps.one (show Kd.M (Kd.int .i64) _ _ _ (wrap64 (IntKind.u64.wrap (Int.tdiv (IntKind.u64.wrap (rd l0 x4_1)) 60))) [.int .i64 (wrap64 (IntKind.u64.wrap (Int.tdiv (IntKind.u64.wrap (rd l0 x4_1)) 60)))] from rfl) (Reps.none _ _))))); intro v205 w14 ho15 hb hg_ hnew_; clear hg_ hnew_; (first | rw [← Ny204.out] at ho15 | (simp only [Int.reduceToNat] at ho15; rw [← Ny204.out] at ho15)); have n0_ := Aside0.mk (Kd.R_lower ho15 (below_size (by repeat (first | (with_reducible first | exact HB.out | apply below_alloc | apply pw_below_drewN | apply below_drew1) | exact HB.out)))); have n1_ := Aside0.mk (below_step (by repeat (first | (with_reducible first | exact HB.out | apply below_alloc | apply pw_below_drewN | apply below_drew1) | exact HB.out)) hb); clear HB; have HO206 := n0_; have HB := n1_; clear n0_ n1_; clear hb ho15; obtain ⟨Ao16, co16, eo16⟩ := Kd.R_slice HO206.out; subst eo16) | ((with_reducible refine gate_callee (f := 15) rfl ?_); refine goesL_ (some 40) rfl rfl Tryz.func15 (by kernel_rfl) rfl #[.slice Ao16 y204.length co16] rfl (by (try simp only [List.map_toArray, List.map_cons, List.map_nil]); first | done | rfl | (simp only [List.length_drop, List.length_take]; rfl)) ?_; (with_reducible refine (frisketlaw23_Text.calls kj1 _ _ y204 t207 _ ?side1 ?side2 A10.out).mono ?_); (case side1 => repeat (first | exact (Kd.R_reads' HO206.out).2.2 | (with_reducible refine Kd.C_alloc ?_ _) | (with_reducible refine Kd.C_drewN ?_ _) | (with_reducible refine Kd.C_drew ?_))); (case side2 => exact (Kd.R_reads' HO206.out).2.1); rintro e w17 ⟨rfl, hb⟩; refine ⟨_, rfl, ?_⟩; have n0_ := Aside0.mk (Kd.R_below (by (with_reducible repeat (first | apply Kd.R_alloc | apply Kd.R_drewN | apply Kd.R_drew)); exact HO206.out) hb); have n1_ := Aside0.mk (below_step (by repeat (first | (with_reducible first | exact HB.out | apply below_alloc | apply pw_below_drewN | apply below_drew1) | exact HB.out)) hb); clear HO206; clear HB; have HO206 := n0_; have HB := n1_; clear n0_ n1_; (try clear hb); (try clear hb2); (try clear hk); (try clear hi)))
                          go_roundg kj1
                          case measure => have := HK1.out; have := HJ1.out; omega
                          case rel => exact ⟨(x3_1 ++ (((⟨#[46, 69, 81, 10]⟩ : ByteArray) ++ t207) ++ (⟨#[10, 46, 69, 78, 10]⟩ : ByteArray))), (wrap64 (x4_1 + 1)), (by first | rfl | (simp; done) | (simp [*]; done)), (by first | rfl | (simp; done) | (simp [*]; done)), H', ⟨by have := HK1.out; have := HJ1.out; omega⟩, ⟨by repeat (first | (with_reducible first | exact HB.out | apply below_alloc | apply pw_below_drewN | apply below_drew1) | exact HB.out)⟩⟩
                        · rw [if_neg c13] at H
                          exact absurd H (by simp)
                      · rw [if_neg c12] at H
                        exact absurd H (by simp)
                    · rw [if_neg c11] at H
                      exact absurd H (by simp)
                  · rw [if_neg c9] at H
                    have c9b0 : ((Int.tmod (IntKind.u64.wrap (rd l0 x4_1)) 12) == 1) = false := beq_eq_false_iff_ne.mpr c9
                    have c9b1 : ((Int.tmod (IntKind.u64.wrap (rd l0 x4_1)) 12) != 1) = true := bne_iff_ne.mpr c9
                    by_cases c18 : (Int.tmod (IntKind.u64.wrap (rd l0 x4_1)) 12) = 2
                    · rw [if_pos c18] at H
                      have c18b0 : ((Int.tmod (IntKind.u64.wrap (rd l0 x4_1)) 12) == 2) = true := beq_iff_eq.mpr c18
                      have c18b1 : ((Int.tmod (IntKind.u64.wrap (rd l0 x4_1)) 12) != 2) = false := bne_eq_false_iff_eq.mpr c18
                      clear c18
                      by_cases c19 : x3_1.size + 17 ≤ 9223372036854775807
                      · rw [if_pos c19] at H
                        have c19b0 := eq_true c19
                        have c19b1 : decide (x3_1.size + 17 ≤ 9223372036854775807) = true := decide_eq_true c19
                        try have c19b2 : (9223372036854775807 < x3_1.size + 17) = False := eq_false (Nat.not_lt.2 c19)
                        try (have c19b3 := c19b2; simp only [ByteArray.size_append, bsz, List.length_cons, List.length_nil, Nat.zero_add, Nat.reduceAdd] at c19b3)
                        have H' := Aside0.mk H
                        clear H
                        have p203 : 0 ≤ (x4_1 : Int) := of_decide_eq_true (by first | (with_reducible assumption) | assumption)
                        have q203 : x4_1 < (l0.length : Int) := of_decide_eq_true (by first | (with_reducible assumption) | assumption)
                        obtain ⟨ad203, e203, hx203_0⟩ := Kd.at_int HR0.out x4_1 p203 q203
                        cases e203
                        replace hx203_0 := (HB.out.cell (World.block_lt_of_cell? w _ hx203_0)).trans hx203_0
                        replace p203 := eq_true p203
                        replace q203 := eq_true q203
                        go_wp2
                        go_roundg kj1
                        case measure => have := HK1.out; have := HJ1.out; omega
                        case rel => exact ⟨(x3_1 ++ (⟨#[46, 69, 81, 10, 120, 32, 111, 118, 101, 114, 32, 121, 10, 46, 69, 78, 10]⟩ : ByteArray)), (wrap64 (x4_1 + 1)), (by first | rfl | (simp; done) | (simp [*]; done)), (by first | rfl | (simp; done) | (simp [*]; done)), H', ⟨by have := HK1.out; have := HJ1.out; omega⟩, ⟨by repeat (first | (with_reducible first | exact HB.out | apply below_alloc | apply pw_below_drewN | apply below_drew1) | exact HB.out)⟩⟩
                      · rw [if_neg c19] at H
                        exact absurd H (by simp)
                    · rw [if_neg c18] at H
                      have c18b0 : ((Int.tmod (IntKind.u64.wrap (rd l0 x4_1)) 12) == 2) = false := beq_eq_false_iff_ne.mpr c18
                      have c18b1 : ((Int.tmod (IntKind.u64.wrap (rd l0 x4_1)) 12) != 2) = true := bne_iff_ne.mpr c18
                      by_cases c20 : (Int.tmod (IntKind.u64.wrap (rd l0 x4_1)) 12) = 3
                      · rw [if_pos c20] at H
                        have c20b0 : ((Int.tmod (IntKind.u64.wrap (rd l0 x4_1)) 12) == 3) = true := beq_iff_eq.mpr c20
                        have c20b1 : ((Int.tmod (IntKind.u64.wrap (rd l0 x4_1)) 12) != 3) = false := bne_eq_false_iff_eq.mpr c20
                        clear c20
                        by_cases c21 : x3_1.size + 35 ≤ 9223372036854775807
                        · rw [if_pos c21] at H
                          have c21b0 := eq_true c21
                          have c21b1 : decide (x3_1.size + 35 ≤ 9223372036854775807) = true := decide_eq_true c21
                          try have c21b2 : (9223372036854775807 < x3_1.size + 35) = False := eq_false (Nat.not_lt.2 c21)
                          try (have c21b3 := c21b2; simp only [ByteArray.size_append, bsz, List.length_cons, List.length_nil, Nat.zero_add, Nat.reduceAdd] at c21b3)
                          have H' := Aside0.mk H
                          clear H
                          have p203 : 0 ≤ (x4_1 : Int) := of_decide_eq_true (by first | (with_reducible assumption) | assumption)
                          have q203 : x4_1 < (l0.length : Int) := of_decide_eq_true (by first | (with_reducible assumption) | assumption)
                          obtain ⟨ad203, e203, hx203_0⟩ := Kd.at_int HR0.out x4_1 p203 q203
                          cases e203
                          replace hx203_0 := (HB.out.cell (World.block_lt_of_cell? w _ hx203_0)).trans hx203_0
                          replace p203 := eq_true p203
                          replace q203 := eq_true q203
                          go_wp2
                          go_roundg kj1
                          case measure => have := HK1.out; have := HJ1.out; omega
                          case rel => exact ⟨(x3_1 ++ (⟨#[46, 71, 49, 10, 48, 32, 48, 10, 53, 32, 55, 10, 97, 32, 51, 32, 52, 10, 116, 105, 99, 107, 115, 32, 108, 101, 102, 116, 32, 50, 10, 46, 71, 50, 10]⟩ : ByteArray)), (wrap64 (x4_1 + 1)), (by first | rfl | (simp; done) | (simp [*]; done)), (by first | rfl | (simp; done) | (simp [*]; done)), H', ⟨by have := HK1.out; have := HJ1.out; omega⟩, ⟨by repeat (first | (with_reducible first | exact HB.out | apply below_alloc | apply pw_below_drewN | apply below_drew1) | exact HB.out)⟩⟩
                        · rw [if_neg c21] at H
                          exact absurd H (by simp)
                      · rw [if_neg c20] at H
                        have c20b0 : ((Int.tmod (IntKind.u64.wrap (rd l0 x4_1)) 12) == 3) = false := beq_eq_false_iff_ne.mpr c20
                        have c20b1 : ((Int.tmod (IntKind.u64.wrap (rd l0 x4_1)) 12) != 3) = true := bne_iff_ne.mpr c20
                        by_cases c22 : (Int.tmod (IntKind.u64.wrap (rd l0 x4_1)) 12) = 4
                        · rw [if_pos c22] at H
                          have c22b0 : ((Int.tmod (IntKind.u64.wrap (rd l0 x4_1)) 12) == 4) = true := beq_iff_eq.mpr c22
                          have c22b1 : ((Int.tmod (IntKind.u64.wrap (rd l0 x4_1)) 12) != 4) = false := bne_eq_false_iff_eq.mpr c22
                          clear c22
                          obtain ⟨y208, hy208⟩ : ∃ y_ : List ByteArray, y_ = (([(⟨#[98, 111, 120]⟩ : ByteArray), (⟨#[98, 111, 120, 59, 32, 97, 114, 114, 111, 119, 59, 32, 99, 105, 114, 99, 108, 101, 32, 34, 120, 34]⟩ : ByteArray), (⟨#[108, 105, 110, 101, 32, 114, 105, 103, 104, 116, 32, 49, 48, 48, 10, 34, 116, 101, 120, 116, 34]⟩ : ByteArray), (⟨#[]⟩ : ByteArray), (⟨#[98, 111, 120, 120]⟩ : ByteArray), (⟨#[101, 108, 108, 105, 112, 115, 101, 32, 97, 116, 32, 49, 48, 48, 44, 50, 48, 48]⟩ : ByteArray)] : List ByteArray)) := ⟨_, rfl⟩
                          replace H : (if 0 ≤ (Int.tmod (IntKind.u64.wrap (Int.tdiv (IntKind.u64.wrap (rd l0 x4_1)) 12)) 6) then (if (Int.tmod (IntKind.u64.wrap (Int.tdiv (IntKind.u64.wrap (rd l0 x4_1)) 12)) 6) < (y208.length : Int) then (if 4 + (rdOf ByteArray.empty y208 (Int.tmod (IntKind.u64.wrap (Int.tdiv (IntKind.u64.wrap (rd l0 x4_1)) 12)) 6)).size ≤ 9223372036854775807 then (if ((⟨#[46, 80, 83, 10]⟩ : ByteArray) ++ (rdOf ByteArray.empty y208 (Int.tmod (IntKind.u64.wrap (Int.tdiv (IntKind.u64.wrap (rd l0 x4_1)) 12)) 6))).size + 5 ≤ 9223372036854775807 then (if x3_1.size + (((⟨#[46, 80, 83, 10]⟩ : ByteArray) ++ (rdOf ByteArray.empty y208 (Int.tmod (IntKind.u64.wrap (Int.tdiv (IntKind.u64.wrap (rd l0 x4_1)) 12)) 6))) ++ (⟨#[10, 46, 80, 69, 10]⟩ : ByteArray)).size ≤ 9223372036854775807 then (frisketlaw29_Text.l0 kj1 l0 (x3_1 ++ (((⟨#[46, 80, 83, 10]⟩ : ByteArray) ++ (rdOf ByteArray.empty y208 (Int.tmod (IntKind.u64.wrap (Int.tdiv (IntKind.u64.wrap (rd l0 x4_1)) 12)) 6))) ++ (⟨#[10, 46, 80, 69, 10]⟩ : ByteArray))) (wrap64 (x4_1 + 1))) else (none)) else (none)) else (none)) else (none)) else (none)) = some r := by first | (rw [hy208]; with_reducible exact H) | (have H2_ := (Option.bind_some _ _).symm.trans H; rw [hy208]; with_reducible exact H2_) | (have H2_ := (Option.bind_some _ _).symm.trans H; with_reducible exact H2_) | with_reducible exact H | (rw [hy208]; exact H) | exact H
                          have Ny208 := Aside0.mk hy208
                          clear hy208
                          obtain ⟨ji23, hji23⟩ : ∃ j_ : Int, (Int.tmod (IntKind.u64.wrap (Int.tdiv (IntKind.u64.wrap (rd l0 x4_1)) 12)) 6) = j_ := ⟨_, rfl⟩
                          replace H : (if 0 ≤ (ji23) then (if (ji23) < (y208.length : Int) then (if 4 + (rdOf ByteArray.empty y208 (ji23)).size ≤ 9223372036854775807 then (if ((⟨#[46, 80, 83, 10]⟩ : ByteArray) ++ (rdOf ByteArray.empty y208 (ji23))).size + 5 ≤ 9223372036854775807 then (if x3_1.size + (((⟨#[46, 80, 83, 10]⟩ : ByteArray) ++ (rdOf ByteArray.empty y208 (ji23))) ++ (⟨#[10, 46, 80, 69, 10]⟩ : ByteArray)).size ≤ 9223372036854775807 then (frisketlaw29_Text.l0 kj1 l0 (x3_1 ++ (((⟨#[46, 80, 83, 10]⟩ : ByteArray) ++ (rdOf ByteArray.empty y208 (ji23))) ++ (⟨#[10, 46, 80, 69, 10]⟩ : ByteArray))) (wrap64 (x4_1 + 1))) else (none)) else (none)) else (none)) else (none)) else (none)) = some r := by first | (rw [hji23] at H; exact H) | (simp only [hji23] at H ⊢; exact H)
                          by_cases c24 : 0 ≤ (ji23)
                          · rw [if_pos c24] at H
                            have c24b0 : decide (0 ≤ (ji23)) = true := decide_eq_true c24
                            clear c24
                            by_cases c25 : (ji23) < (y208.length : Int)
                            · rw [if_pos c25] at H
                              have c25b0 : decide ((ji23) < (y208.length : Int)) = true := decide_eq_true c25
                              clear c25
                              by_cases c26 : 4 + (rdOf ByteArray.empty y208 (ji23)).size ≤ 9223372036854775807
                              · rw [if_pos c26] at H
                                have c26b0 := eq_true c26
                                have c26b1 : decide (4 + (rdOf ByteArray.empty y208 (ji23)).size ≤ 9223372036854775807) = true := decide_eq_true c26
                                try have c26b2 : (9223372036854775807 < 4 + (rdOf ByteArray.empty y208 (ji23)).size) = False := eq_false (Nat.not_lt.2 c26)
                                try (have c26b3 := c26b2; simp only [ByteArray.size_append, bsz, List.length_cons, List.length_nil, Nat.zero_add, Nat.reduceAdd] at c26b3)
                                by_cases c27 : ((⟨#[46, 80, 83, 10]⟩ : ByteArray) ++ (rdOf ByteArray.empty y208 (ji23))).size + 5 ≤ 9223372036854775807
                                · rw [if_pos c27] at H
                                  have c27b0 := eq_true c27
                                  have c27b1 : decide (((⟨#[46, 80, 83, 10]⟩ : ByteArray) ++ (rdOf ByteArray.empty y208 (ji23))).size + 5 ≤ 9223372036854775807) = true := decide_eq_true c27
                                  try have c27b2 : (9223372036854775807 < ((⟨#[46, 80, 83, 10]⟩ : ByteArray) ++ (rdOf ByteArray.empty y208 (ji23))).size + 5) = False := eq_false (Nat.not_lt.2 c27)
                                  try (have c27b3 := c27b2; simp only [ByteArray.size_append, bsz, List.length_cons, List.length_nil, Nat.zero_add, Nat.reduceAdd] at c27b3)
                                  by_cases c28 : x3_1.size + (((⟨#[46, 80, 83, 10]⟩ : ByteArray) ++ (rdOf ByteArray.empty y208 (ji23))) ++ (⟨#[10, 46, 80, 69, 10]⟩ : ByteArray)).size ≤ 9223372036854775807
                                  · rw [if_pos c28] at H
                                    have c28b0 := eq_true c28
                                    have c28b1 : decide (x3_1.size + (((⟨#[46, 80, 83, 10]⟩ : ByteArray) ++ (rdOf ByteArray.empty y208 (ji23))) ++ (⟨#[10, 46, 80, 69, 10]⟩ : ByteArray)).size ≤ 9223372036854775807) = true := decide_eq_true c28
                                    try have c28b2 : (9223372036854775807 < x3_1.size + (((⟨#[46, 80, 83, 10]⟩ : ByteArray) ++ (rdOf ByteArray.empty y208 (ji23))) ++ (⟨#[10, 46, 80, 69, 10]⟩ : ByteArray)).size) = False := eq_false (Nat.not_lt.2 c28)
                                    try (have c28b3 := c28b2; simp only [ByteArray.size_append, bsz, List.length_cons, List.length_nil, Nat.zero_add, Nat.reduceAdd] at c28b3)
                                    have H' := Aside0.mk H
                                    clear H
                                    have p203 : 0 ≤ (x4_1 : Int) := of_decide_eq_true (by first | (with_reducible assumption) | assumption)
                                    have q203 : x4_1 < (l0.length : Int) := of_decide_eq_true (by first | (with_reducible assumption) | assumption)
                                    obtain ⟨ad203, e203, hx203_0⟩ := Kd.at_int HR0.out x4_1 p203 q203
                                    cases e203
                                    replace hx203_0 := (HB.out.cell (World.block_lt_of_cell? w _ hx203_0)).trans hx203_0
                                    replace p203 := eq_true p203
                                    replace q203 := eq_true q203
                                    go_wp2_with (first | ((with_reducible refine gate_dst (N := 55) rfl ?_); refine Kd.R_lit Kd.string _ 9 ?hg (N := 55) ?hd (xs := ([(⟨#[98, 111, 120]⟩ : ByteArray), (⟨#[98, 111, 120, 59, 32, 97, 114, 114, 111, 119, 59, 32, 99, 105, 114, 99, 108, 101, 32, 34, 120, 34]⟩ : ByteArray), (⟨#[108, 105, 110, 101, 32, 114, 105, 103, 104, 116, 32, 49, 48, 48, 10, 34, 116, 101, 120, 116, 34]⟩ : ByteArray), (⟨#[]⟩ : ByteArray), (⟨#[98, 111, 120, 120]⟩ : ByteArray), (⟨#[101, 108, 108, 105, 112, 115, 101, 32, 97, 116, 32, 49, 48, 48, 44, 50, 48, 48]⟩ : ByteArray)] : List ByteArray)) (inner := [.string (⟨#[98, 111, 120]⟩ : ByteArray), .string (⟨#[98, 111, 120, 59, 32, 97, 114, 114, 111, 119, 59, 32, 99, 105, 114, 99, 108, 101, 32, 34, 120, 34]⟩ : ByteArray), .string (⟨#[108, 105, 110, 101, 32, 114, 105, 103, 104, 116, 32, 49, 48, 48, 10, 34, 116, 101, 120, 116, 34]⟩ : ByteArray), .string (⟨#[]⟩ : ByteArray), .string (⟨#[98, 111, 120, 120]⟩ : ByteArray), .string (⟨#[101, 108, 108, 105, 112, 115, 101, 32, 97, 116, 32, 49, 48, 48, 44, 50, 48, 48]⟩ : ByteArray)]) (ok := fun _ => True) (okp := fun _ => True) ?hr ?hp (fun _ hk => hk) trivial (Below.refl _ _) (Nat.le_refl _) (by simp) ?_; (case hd => rfl); (case hg => rfl); (case hr => first | (go_simp; done) | (go_simp; rfl)); (case hp => exact (Reps.one (show Kd.M Kd.string _ _ _ (⟨#[98, 111, 120]⟩ : ByteArray) [.string (⟨#[98, 111, 120]⟩ : ByteArray)] from rfl) (Reps.one (show Kd.M Kd.string _ _ _ (⟨#[98, 111, 120, 59, 32, 97, 114, 114, 111, 119, 59, 32, 99, 105, 114, 99, 108, 101, 32, 34, 120, 34]⟩ : ByteArray) [.string (⟨#[98, 111, 120, 59, 32, 97, 114, 114, 111, 119, 59, 32, 99, 105, 114, 99, 108, 101, 32, 34, 120, 34]⟩ : ByteArray)] from rfl) (Reps.one (show Kd.M Kd.string _ _ _ (⟨#[108, 105, 110, 101, 32, 114, 105, 103, 104, 116, 32, 49, 48, 48, 10, 34, 116, 101, 120, 116, 34]⟩ : ByteArray) [.string (⟨#[108, 105, 110, 101, 32, 114, 105, 103, 104, 116, 32, 49, 48, 48, 10, 34, 116, 101, 120, 116, 34]⟩ : ByteArray)] from rfl) (Reps.one (show Kd.M Kd.string _ _ _ (⟨#[]⟩ : ByteArray) [.string (⟨#[]⟩ : ByteArray)] from rfl) (Reps.one (show Kd.M Kd.string _ _ _ (⟨#[98, 111, 120, 120]⟩ : ByteArray) [.string (⟨#[98, 111, 120, 120]⟩ : ByteArray)] from rfl) (Reps.one (show Kd.M Kd.string _ _ _ (⟨#[101, 108, 108, 105, 112, 115, 101, 32, 97, 116, 32, 49, 48, 48, 44, 50, 48, 48]⟩ : ByteArray) [.string (⟨#[101, 108, 108, 105, 112, 115, 101, 32, 97, 116, 32, 49, 48, 48, 44, 50, 48, 48]⟩ : ByteArray)] from rfl) (Reps.none _ _)))))))); intro v209 w29 ho30 hb hg_ hnew_; clear hg_ hnew_; (first | rw [← Ny208.out] at ho30 | (simp only [Int.reduceToNat] at ho30; rw [← Ny208.out] at ho30)); have n0_ := Aside0.mk (Kd.R_lower ho30 (below_size (by repeat (first | (with_reducible first | exact HB.out | apply below_alloc | apply pw_below_drewN | apply below_drew1) | exact HB.out)))); have n1_ := Aside0.mk (below_step (by repeat (first | (with_reducible first | exact HB.out | apply below_alloc | apply pw_below_drewN | apply below_drew1) | exact HB.out)) hb); clear HB; have HO210 := n0_; have HB := n1_; clear n0_ n1_; clear hb ho30; obtain ⟨Ao31, co31, eo31⟩ := Kd.R_slice HO210.out; subst eo31; have p211 : 0 ≤ ((ji23) : Int) := of_decide_eq_true (by first | (with_reducible assumption) | assumption); have q211 : (ji23) < (y208.length : Int) := of_decide_eq_true (by first | (with_reducible assumption) | assumption); obtain ⟨ad211, e211, hx211_0⟩ := Kd.at_string (Kd.R_reads' HO210.out).2.2 (ji23) p211 q211; cases e211; replace p211 := eq_true p211; replace q211 := eq_true q211))
                                    go_roundg kj1
                                    case measure => have := HK1.out; have := HJ1.out; omega
                                    case rel => exact ⟨(x3_1 ++ (((⟨#[46, 80, 83, 10]⟩ : ByteArray) ++ (rdOf ByteArray.empty y208 (ji23))) ++ (⟨#[10, 46, 80, 69, 10]⟩ : ByteArray))), (wrap64 (x4_1 + 1)), (by first | rfl | (simp; done) | (simp only [← hji23] <;> (first | rfl | simp)) | (simp [*]; done)), (by first | rfl | (simp; done) | (simp [*]; done)), H', ⟨by have := HK1.out; have := HJ1.out; omega⟩, ⟨by repeat (first | (with_reducible first | exact HB.out | apply below_alloc | apply pw_below_drewN | apply below_drew1) | exact HB.out)⟩⟩
                                  · rw [if_neg c28] at H
                                    exact absurd H (by simp)
                                · rw [if_neg c27] at H
                                  exact absurd H (by simp)
                              · rw [if_neg c26] at H
                                exact absurd H (by simp)
                            · rw [if_neg c25] at H
                              exact absurd H (by simp)
                          · rw [if_neg c24] at H
                            exact absurd H (by simp)
                        · rw [if_neg c22] at H
                          have c22b0 : ((Int.tmod (IntKind.u64.wrap (rd l0 x4_1)) 12) == 4) = false := beq_eq_false_iff_ne.mpr c22
                          have c22b1 : ((Int.tmod (IntKind.u64.wrap (rd l0 x4_1)) 12) != 4) = true := bne_iff_ne.mpr c22
                          by_cases c32 : (Int.tmod (IntKind.u64.wrap (rd l0 x4_1)) 12) = 5
                          · rw [if_pos c32] at H
                            have c32b0 : ((Int.tmod (IntKind.u64.wrap (rd l0 x4_1)) 12) == 5) = true := beq_iff_eq.mpr c32
                            have c32b1 : ((Int.tmod (IntKind.u64.wrap (rd l0 x4_1)) 12) != 5) = false := bne_eq_false_iff_eq.mpr c32
                            clear c32
                            obtain ⟨y212, hy212⟩ : ∃ y_ : List ByteArray, y_ = (([(⟨#[108, 32, 114, 46, 10, 97, 9, 49, 10, 98, 98, 9, 50, 50]⟩ : ByteArray), (⟨#[99, 32, 99, 59, 10, 120]⟩ : ByteArray), (⟨#[108, 46, 10]⟩ : ByteArray), (⟨#[99, 101, 110, 116, 101, 114, 59, 10, 108, 32, 108, 10, 110, 32, 110, 46, 10, 97, 9, 98, 10, 49, 46, 53, 9, 50, 50, 46, 50, 53]⟩ : ByteArray)] : List ByteArray)) := ⟨_, rfl⟩
                            replace H : (if 0 ≤ (Int.tmod (IntKind.u64.wrap (Int.tdiv (IntKind.u64.wrap (rd l0 x4_1)) 12)) 4) then (if (Int.tmod (IntKind.u64.wrap (Int.tdiv (IntKind.u64.wrap (rd l0 x4_1)) 12)) 4) < (y212.length : Int) then (if 4 + (rdOf ByteArray.empty y212 (Int.tmod (IntKind.u64.wrap (Int.tdiv (IntKind.u64.wrap (rd l0 x4_1)) 12)) 4)).size ≤ 9223372036854775807 then (if ((⟨#[46, 84, 83, 10]⟩ : ByteArray) ++ (rdOf ByteArray.empty y212 (Int.tmod (IntKind.u64.wrap (Int.tdiv (IntKind.u64.wrap (rd l0 x4_1)) 12)) 4))).size + 5 ≤ 9223372036854775807 then (if x3_1.size + (((⟨#[46, 84, 83, 10]⟩ : ByteArray) ++ (rdOf ByteArray.empty y212 (Int.tmod (IntKind.u64.wrap (Int.tdiv (IntKind.u64.wrap (rd l0 x4_1)) 12)) 4))) ++ (⟨#[10, 46, 84, 69, 10]⟩ : ByteArray)).size ≤ 9223372036854775807 then (frisketlaw29_Text.l0 kj1 l0 (x3_1 ++ (((⟨#[46, 84, 83, 10]⟩ : ByteArray) ++ (rdOf ByteArray.empty y212 (Int.tmod (IntKind.u64.wrap (Int.tdiv (IntKind.u64.wrap (rd l0 x4_1)) 12)) 4))) ++ (⟨#[10, 46, 84, 69, 10]⟩ : ByteArray))) (wrap64 (x4_1 + 1))) else (none)) else (none)) else (none)) else (none)) else (none)) = some r := by first | (rw [hy212]; with_reducible exact H) | (have H2_ := (Option.bind_some _ _).symm.trans H; rw [hy212]; with_reducible exact H2_) | (have H2_ := (Option.bind_some _ _).symm.trans H; with_reducible exact H2_) | with_reducible exact H | (rw [hy212]; exact H) | exact H
                            have Ny212 := Aside0.mk hy212
                            clear hy212
                            obtain ⟨ji33, hji33⟩ : ∃ j_ : Int, (Int.tmod (IntKind.u64.wrap (Int.tdiv (IntKind.u64.wrap (rd l0 x4_1)) 12)) 4) = j_ := ⟨_, rfl⟩
                            replace H : (if 0 ≤ (ji33) then (if (ji33) < (y212.length : Int) then (if 4 + (rdOf ByteArray.empty y212 (ji33)).size ≤ 9223372036854775807 then (if ((⟨#[46, 84, 83, 10]⟩ : ByteArray) ++ (rdOf ByteArray.empty y212 (ji33))).size + 5 ≤ 9223372036854775807 then (if x3_1.size + (((⟨#[46, 84, 83, 10]⟩ : ByteArray) ++ (rdOf ByteArray.empty y212 (ji33))) ++ (⟨#[10, 46, 84, 69, 10]⟩ : ByteArray)).size ≤ 9223372036854775807 then (frisketlaw29_Text.l0 kj1 l0 (x3_1 ++ (((⟨#[46, 84, 83, 10]⟩ : ByteArray) ++ (rdOf ByteArray.empty y212 (ji33))) ++ (⟨#[10, 46, 84, 69, 10]⟩ : ByteArray))) (wrap64 (x4_1 + 1))) else (none)) else (none)) else (none)) else (none)) else (none)) = some r := by first | (rw [hji33] at H; exact H) | (simp only [hji33] at H ⊢; exact H)
                            by_cases c34 : 0 ≤ (ji33)
                            · rw [if_pos c34] at H
                              have c34b0 : decide (0 ≤ (ji33)) = true := decide_eq_true c34
                              clear c34
                              by_cases c35 : (ji33) < (y212.length : Int)
                              · rw [if_pos c35] at H
                                have c35b0 : decide ((ji33) < (y212.length : Int)) = true := decide_eq_true c35
                                clear c35
                                by_cases c36 : 4 + (rdOf ByteArray.empty y212 (ji33)).size ≤ 9223372036854775807
                                · rw [if_pos c36] at H
                                  have c36b0 := eq_true c36
                                  have c36b1 : decide (4 + (rdOf ByteArray.empty y212 (ji33)).size ≤ 9223372036854775807) = true := decide_eq_true c36
                                  try have c36b2 : (9223372036854775807 < 4 + (rdOf ByteArray.empty y212 (ji33)).size) = False := eq_false (Nat.not_lt.2 c36)
                                  try (have c36b3 := c36b2; simp only [ByteArray.size_append, bsz, List.length_cons, List.length_nil, Nat.zero_add, Nat.reduceAdd] at c36b3)
                                  by_cases c37 : ((⟨#[46, 84, 83, 10]⟩ : ByteArray) ++ (rdOf ByteArray.empty y212 (ji33))).size + 5 ≤ 9223372036854775807
                                  · rw [if_pos c37] at H
                                    have c37b0 := eq_true c37
                                    have c37b1 : decide (((⟨#[46, 84, 83, 10]⟩ : ByteArray) ++ (rdOf ByteArray.empty y212 (ji33))).size + 5 ≤ 9223372036854775807) = true := decide_eq_true c37
                                    try have c37b2 : (9223372036854775807 < ((⟨#[46, 84, 83, 10]⟩ : ByteArray) ++ (rdOf ByteArray.empty y212 (ji33))).size + 5) = False := eq_false (Nat.not_lt.2 c37)
                                    try (have c37b3 := c37b2; simp only [ByteArray.size_append, bsz, List.length_cons, List.length_nil, Nat.zero_add, Nat.reduceAdd] at c37b3)
                                    by_cases c38 : x3_1.size + (((⟨#[46, 84, 83, 10]⟩ : ByteArray) ++ (rdOf ByteArray.empty y212 (ji33))) ++ (⟨#[10, 46, 84, 69, 10]⟩ : ByteArray)).size ≤ 9223372036854775807
                                    · rw [if_pos c38] at H
                                      have c38b0 := eq_true c38
                                      have c38b1 : decide (x3_1.size + (((⟨#[46, 84, 83, 10]⟩ : ByteArray) ++ (rdOf ByteArray.empty y212 (ji33))) ++ (⟨#[10, 46, 84, 69, 10]⟩ : ByteArray)).size ≤ 9223372036854775807) = true := decide_eq_true c38
                                      try have c38b2 : (9223372036854775807 < x3_1.size + (((⟨#[46, 84, 83, 10]⟩ : ByteArray) ++ (rdOf ByteArray.empty y212 (ji33))) ++ (⟨#[10, 46, 84, 69, 10]⟩ : ByteArray)).size) = False := eq_false (Nat.not_lt.2 c38)
                                      try (have c38b3 := c38b2; simp only [ByteArray.size_append, bsz, List.length_cons, List.length_nil, Nat.zero_add, Nat.reduceAdd] at c38b3)
                                      have H' := Aside0.mk H
                                      clear H
                                      have p203 : 0 ≤ (x4_1 : Int) := of_decide_eq_true (by first | (with_reducible assumption) | assumption)
                                      have q203 : x4_1 < (l0.length : Int) := of_decide_eq_true (by first | (with_reducible assumption) | assumption)
                                      obtain ⟨ad203, e203, hx203_0⟩ := Kd.at_int HR0.out x4_1 p203 q203
                                      cases e203
                                      replace hx203_0 := (HB.out.cell (World.block_lt_of_cell? w _ hx203_0)).trans hx203_0
                                      replace p203 := eq_true p203
                                      replace q203 := eq_true q203
                                      go_wp2_with (first | ((with_reducible refine gate_dst (N := 67) rfl ?_); refine Kd.R_lit Kd.string _ 9 ?hg (N := 67) ?hd (xs := ([(⟨#[108, 32, 114, 46, 10, 97, 9, 49, 10, 98, 98, 9, 50, 50]⟩ : ByteArray), (⟨#[99, 32, 99, 59, 10, 120]⟩ : ByteArray), (⟨#[108, 46, 10]⟩ : ByteArray), (⟨#[99, 101, 110, 116, 101, 114, 59, 10, 108, 32, 108, 10, 110, 32, 110, 46, 10, 97, 9, 98, 10, 49, 46, 53, 9, 50, 50, 46, 50, 53]⟩ : ByteArray)] : List ByteArray)) (inner := [.string (⟨#[108, 32, 114, 46, 10, 97, 9, 49, 10, 98, 98, 9, 50, 50]⟩ : ByteArray), .string (⟨#[99, 32, 99, 59, 10, 120]⟩ : ByteArray), .string (⟨#[108, 46, 10]⟩ : ByteArray), .string (⟨#[99, 101, 110, 116, 101, 114, 59, 10, 108, 32, 108, 10, 110, 32, 110, 46, 10, 97, 9, 98, 10, 49, 46, 53, 9, 50, 50, 46, 50, 53]⟩ : ByteArray)]) (ok := fun _ => True) (okp := fun _ => True) ?hr ?hp (fun _ hk => hk) trivial (Below.refl _ _) (Nat.le_refl _) (by simp) ?_; (case hd => rfl); (case hg => rfl); (case hr => first | (go_simp; done) | (go_simp; rfl)); (case hp => exact (Reps.one (show Kd.M Kd.string _ _ _ (⟨#[108, 32, 114, 46, 10, 97, 9, 49, 10, 98, 98, 9, 50, 50]⟩ : ByteArray) [.string (⟨#[108, 32, 114, 46, 10, 97, 9, 49, 10, 98, 98, 9, 50, 50]⟩ : ByteArray)] from rfl) (Reps.one (show Kd.M Kd.string _ _ _ (⟨#[99, 32, 99, 59, 10, 120]⟩ : ByteArray) [.string (⟨#[99, 32, 99, 59, 10, 120]⟩ : ByteArray)] from rfl) (Reps.one (show Kd.M Kd.string _ _ _ (⟨#[108, 46, 10]⟩ : ByteArray) [.string (⟨#[108, 46, 10]⟩ : ByteArray)] from rfl) (Reps.one (show Kd.M Kd.string _ _ _ (⟨#[99, 101, 110, 116, 101, 114, 59, 10, 108, 32, 108, 10, 110, 32, 110, 46, 10, 97, 9, 98, 10, 49, 46, 53, 9, 50, 50, 46, 50, 53]⟩ : ByteArray) [.string (⟨#[99, 101, 110, 116, 101, 114, 59, 10, 108, 32, 108, 10, 110, 32, 110, 46, 10, 97, 9, 98, 10, 49, 46, 53, 9, 50, 50, 46, 50, 53]⟩ : ByteArray)] from rfl) (Reps.none _ _)))))); intro v213 w39 ho40 hb hg_ hnew_; clear hg_ hnew_; (first | rw [← Ny212.out] at ho40 | (simp only [Int.reduceToNat] at ho40; rw [← Ny212.out] at ho40)); have n0_ := Aside0.mk (Kd.R_lower ho40 (below_size (by repeat (first | (with_reducible first | exact HB.out | apply below_alloc | apply pw_below_drewN | apply below_drew1) | exact HB.out)))); have n1_ := Aside0.mk (below_step (by repeat (first | (with_reducible first | exact HB.out | apply below_alloc | apply pw_below_drewN | apply below_drew1) | exact HB.out)) hb); clear HB; have HO214 := n0_; have HB := n1_; clear n0_ n1_; clear hb ho40; obtain ⟨Ao41, co41, eo41⟩ := Kd.R_slice HO214.out; subst eo41; have p215 : 0 ≤ ((ji33) : Int) := of_decide_eq_true (by first | (with_reducible assumption) | assumption); have q215 : (ji33) < (y212.length : Int) := of_decide_eq_true (by first | (with_reducible assumption) | assumption); obtain ⟨ad215, e215, hx215_0⟩ := Kd.at_string (Kd.R_reads' HO214.out).2.2 (ji33) p215 q215; cases e215; replace p215 := eq_true p215; replace q215 := eq_true q215))
                                      go_roundg kj1
                                      case measure => have := HK1.out; have := HJ1.out; omega
                                      case rel => exact ⟨(x3_1 ++ (((⟨#[46, 84, 83, 10]⟩ : ByteArray) ++ (rdOf ByteArray.empty y212 (ji33))) ++ (⟨#[10, 46, 84, 69, 10]⟩ : ByteArray))), (wrap64 (x4_1 + 1)), (by first | rfl | (simp; done) | (simp only [← hji33] <;> (first | rfl | simp)) | (simp [*]; done)), (by first | rfl | (simp; done) | (simp [*]; done)), H', ⟨by have := HK1.out; have := HJ1.out; omega⟩, ⟨by repeat (first | (with_reducible first | exact HB.out | apply below_alloc | apply pw_below_drewN | apply below_drew1) | exact HB.out)⟩⟩
                                    · rw [if_neg c38] at H
                                      exact absurd H (by simp)
                                  · rw [if_neg c37] at H
                                    exact absurd H (by simp)
                                · rw [if_neg c36] at H
                                  exact absurd H (by simp)
                              · rw [if_neg c35] at H
                                exact absurd H (by simp)
                            · rw [if_neg c34] at H
                              exact absurd H (by simp)
                          · rw [if_neg c32] at H
                            have c32b0 : ((Int.tmod (IntKind.u64.wrap (rd l0 x4_1)) 12) == 5) = false := beq_eq_false_iff_ne.mpr c32
                            have c32b1 : ((Int.tmod (IntKind.u64.wrap (rd l0 x4_1)) 12) != 5) = true := bne_iff_ne.mpr c32
                            by_cases c42 : (Int.tmod (IntKind.u64.wrap (rd l0 x4_1)) 12) = 6
                            · rw [if_pos c42] at H
                              have c42b0 : ((Int.tmod (IntKind.u64.wrap (rd l0 x4_1)) 12) == 6) = true := beq_iff_eq.mpr c42
                              have c42b1 : ((Int.tmod (IntKind.u64.wrap (rd l0 x4_1)) 12) != 6) = false := bne_eq_false_iff_eq.mpr c42
                              clear c42
                              obtain ⟨y216, hy216⟩ : ∃ y_ : List ByteArray, y_ = (([(⟨#[75, 110, 117, 116, 104]⟩ : ByteArray), (⟨#[84, 114, 111, 102, 102, 32, 49, 57, 55, 54]⟩ : ByteArray), (⟨#[110, 111, 98, 111, 100, 121]⟩ : ByteArray), (⟨#[65, 104, 111, 32, 68, 101, 115, 105, 103, 110]⟩ : ByteArray)] : List ByteArray)) := ⟨_, rfl⟩
                              replace H : (if 0 ≤ (Int.tmod (IntKind.u64.wrap (Int.tdiv (IntKind.u64.wrap (rd l0 x4_1)) 12)) 4) then (if (Int.tmod (IntKind.u64.wrap (Int.tdiv (IntKind.u64.wrap (rd l0 x4_1)) 12)) 4) < (y216.length : Int) then (if 3 + (rdOf ByteArray.empty y216 (Int.tmod (IntKind.u64.wrap (Int.tdiv (IntKind.u64.wrap (rd l0 x4_1)) 12)) 4)).size ≤ 9223372036854775807 then (if ((⟨#[46, 91, 10]⟩ : ByteArray) ++ (rdOf ByteArray.empty y216 (Int.tmod (IntKind.u64.wrap (Int.tdiv (IntKind.u64.wrap (rd l0 x4_1)) 12)) 4))).size + 4 ≤ 9223372036854775807 then (if x3_1.size + (((⟨#[46, 91, 10]⟩ : ByteArray) ++ (rdOf ByteArray.empty y216 (Int.tmod (IntKind.u64.wrap (Int.tdiv (IntKind.u64.wrap (rd l0 x4_1)) 12)) 4))) ++ (⟨#[10, 46, 93, 10]⟩ : ByteArray)).size ≤ 9223372036854775807 then (frisketlaw29_Text.l0 kj1 l0 (x3_1 ++ (((⟨#[46, 91, 10]⟩ : ByteArray) ++ (rdOf ByteArray.empty y216 (Int.tmod (IntKind.u64.wrap (Int.tdiv (IntKind.u64.wrap (rd l0 x4_1)) 12)) 4))) ++ (⟨#[10, 46, 93, 10]⟩ : ByteArray))) (wrap64 (x4_1 + 1))) else (none)) else (none)) else (none)) else (none)) else (none)) = some r := by first | (rw [hy216]; with_reducible exact H) | (have H2_ := (Option.bind_some _ _).symm.trans H; rw [hy216]; with_reducible exact H2_) | (have H2_ := (Option.bind_some _ _).symm.trans H; with_reducible exact H2_) | with_reducible exact H | (rw [hy216]; exact H) | exact H
                              have Ny216 := Aside0.mk hy216
                              clear hy216
                              obtain ⟨ji43, hji43⟩ : ∃ j_ : Int, (Int.tmod (IntKind.u64.wrap (Int.tdiv (IntKind.u64.wrap (rd l0 x4_1)) 12)) 4) = j_ := ⟨_, rfl⟩
                              replace H : (if 0 ≤ (ji43) then (if (ji43) < (y216.length : Int) then (if 3 + (rdOf ByteArray.empty y216 (ji43)).size ≤ 9223372036854775807 then (if ((⟨#[46, 91, 10]⟩ : ByteArray) ++ (rdOf ByteArray.empty y216 (ji43))).size + 4 ≤ 9223372036854775807 then (if x3_1.size + (((⟨#[46, 91, 10]⟩ : ByteArray) ++ (rdOf ByteArray.empty y216 (ji43))) ++ (⟨#[10, 46, 93, 10]⟩ : ByteArray)).size ≤ 9223372036854775807 then (frisketlaw29_Text.l0 kj1 l0 (x3_1 ++ (((⟨#[46, 91, 10]⟩ : ByteArray) ++ (rdOf ByteArray.empty y216 (ji43))) ++ (⟨#[10, 46, 93, 10]⟩ : ByteArray))) (wrap64 (x4_1 + 1))) else (none)) else (none)) else (none)) else (none)) else (none)) = some r := by first | (rw [hji43] at H; exact H) | (simp only [hji43] at H ⊢; exact H)
                              by_cases c44 : 0 ≤ (ji43)
                              · rw [if_pos c44] at H
                                have c44b0 : decide (0 ≤ (ji43)) = true := decide_eq_true c44
                                clear c44
                                by_cases c45 : (ji43) < (y216.length : Int)
                                · rw [if_pos c45] at H
                                  have c45b0 : decide ((ji43) < (y216.length : Int)) = true := decide_eq_true c45
                                  clear c45
                                  by_cases c46 : 3 + (rdOf ByteArray.empty y216 (ji43)).size ≤ 9223372036854775807
                                  · rw [if_pos c46] at H
                                    have c46b0 := eq_true c46
                                    have c46b1 : decide (3 + (rdOf ByteArray.empty y216 (ji43)).size ≤ 9223372036854775807) = true := decide_eq_true c46
                                    try have c46b2 : (9223372036854775807 < 3 + (rdOf ByteArray.empty y216 (ji43)).size) = False := eq_false (Nat.not_lt.2 c46)
                                    try (have c46b3 := c46b2; simp only [ByteArray.size_append, bsz, List.length_cons, List.length_nil, Nat.zero_add, Nat.reduceAdd] at c46b3)
                                    by_cases c47 : ((⟨#[46, 91, 10]⟩ : ByteArray) ++ (rdOf ByteArray.empty y216 (ji43))).size + 4 ≤ 9223372036854775807
                                    · rw [if_pos c47] at H
                                      have c47b0 := eq_true c47
                                      have c47b1 : decide (((⟨#[46, 91, 10]⟩ : ByteArray) ++ (rdOf ByteArray.empty y216 (ji43))).size + 4 ≤ 9223372036854775807) = true := decide_eq_true c47
                                      try have c47b2 : (9223372036854775807 < ((⟨#[46, 91, 10]⟩ : ByteArray) ++ (rdOf ByteArray.empty y216 (ji43))).size + 4) = False := eq_false (Nat.not_lt.2 c47)
                                      try (have c47b3 := c47b2; simp only [ByteArray.size_append, bsz, List.length_cons, List.length_nil, Nat.zero_add, Nat.reduceAdd] at c47b3)
                                      by_cases c48 : x3_1.size + (((⟨#[46, 91, 10]⟩ : ByteArray) ++ (rdOf ByteArray.empty y216 (ji43))) ++ (⟨#[10, 46, 93, 10]⟩ : ByteArray)).size ≤ 9223372036854775807
                                      · rw [if_pos c48] at H
                                        have c48b0 := eq_true c48
                                        have c48b1 : decide (x3_1.size + (((⟨#[46, 91, 10]⟩ : ByteArray) ++ (rdOf ByteArray.empty y216 (ji43))) ++ (⟨#[10, 46, 93, 10]⟩ : ByteArray)).size ≤ 9223372036854775807) = true := decide_eq_true c48
                                        try have c48b2 : (9223372036854775807 < x3_1.size + (((⟨#[46, 91, 10]⟩ : ByteArray) ++ (rdOf ByteArray.empty y216 (ji43))) ++ (⟨#[10, 46, 93, 10]⟩ : ByteArray)).size) = False := eq_false (Nat.not_lt.2 c48)
                                        try (have c48b3 := c48b2; simp only [ByteArray.size_append, bsz, List.length_cons, List.length_nil, Nat.zero_add, Nat.reduceAdd] at c48b3)
                                        have H' := Aside0.mk H
                                        clear H
                                        have p203 : 0 ≤ (x4_1 : Int) := of_decide_eq_true (by first | (with_reducible assumption) | assumption)
                                        have q203 : x4_1 < (l0.length : Int) := of_decide_eq_true (by first | (with_reducible assumption) | assumption)
                                        obtain ⟨ad203, e203, hx203_0⟩ := Kd.at_int HR0.out x4_1 p203 q203
                                        cases e203
                                        replace hx203_0 := (HB.out.cell (World.block_lt_of_cell? w _ hx203_0)).trans hx203_0
                                        replace p203 := eq_true p203
                                        replace q203 := eq_true q203
                                        go_wp2_with (first | ((with_reducible refine gate_dst (N := 79) rfl ?_); refine Kd.R_lit Kd.string _ 9 ?hg (N := 79) ?hd (xs := ([(⟨#[75, 110, 117, 116, 104]⟩ : ByteArray), (⟨#[84, 114, 111, 102, 102, 32, 49, 57, 55, 54]⟩ : ByteArray), (⟨#[110, 111, 98, 111, 100, 121]⟩ : ByteArray), (⟨#[65, 104, 111, 32, 68, 101, 115, 105, 103, 110]⟩ : ByteArray)] : List ByteArray)) (inner := [.string (⟨#[75, 110, 117, 116, 104]⟩ : ByteArray), .string (⟨#[84, 114, 111, 102, 102, 32, 49, 57, 55, 54]⟩ : ByteArray), .string (⟨#[110, 111, 98, 111, 100, 121]⟩ : ByteArray), .string (⟨#[65, 104, 111, 32, 68, 101, 115, 105, 103, 110]⟩ : ByteArray)]) (ok := fun _ => True) (okp := fun _ => True) ?hr ?hp (fun _ hk => hk) trivial (Below.refl _ _) (Nat.le_refl _) (by simp) ?_; (case hd => rfl); (case hg => rfl); (case hr => first | (go_simp; done) | (go_simp; rfl)); (case hp => exact (Reps.one (show Kd.M Kd.string _ _ _ (⟨#[75, 110, 117, 116, 104]⟩ : ByteArray) [.string (⟨#[75, 110, 117, 116, 104]⟩ : ByteArray)] from rfl) (Reps.one (show Kd.M Kd.string _ _ _ (⟨#[84, 114, 111, 102, 102, 32, 49, 57, 55, 54]⟩ : ByteArray) [.string (⟨#[84, 114, 111, 102, 102, 32, 49, 57, 55, 54]⟩ : ByteArray)] from rfl) (Reps.one (show Kd.M Kd.string _ _ _ (⟨#[110, 111, 98, 111, 100, 121]⟩ : ByteArray) [.string (⟨#[110, 111, 98, 111, 100, 121]⟩ : ByteArray)] from rfl) (Reps.one (show Kd.M Kd.string _ _ _ (⟨#[65, 104, 111, 32, 68, 101, 115, 105, 103, 110]⟩ : ByteArray) [.string (⟨#[65, 104, 111, 32, 68, 101, 115, 105, 103, 110]⟩ : ByteArray)] from rfl) (Reps.none _ _)))))); intro v217 w49 ho50 hb hg_ hnew_; clear hg_ hnew_; (first | rw [← Ny216.out] at ho50 | (simp only [Int.reduceToNat] at ho50; rw [← Ny216.out] at ho50)); have n0_ := Aside0.mk (Kd.R_lower ho50 (below_size (by repeat (first | (with_reducible first | exact HB.out | apply below_alloc | apply pw_below_drewN | apply below_drew1) | exact HB.out)))); have n1_ := Aside0.mk (below_step (by repeat (first | (with_reducible first | exact HB.out | apply below_alloc | apply pw_below_drewN | apply below_drew1) | exact HB.out)) hb); clear HB; have HO218 := n0_; have HB := n1_; clear n0_ n1_; clear hb ho50; obtain ⟨Ao51, co51, eo51⟩ := Kd.R_slice HO218.out; subst eo51; have p219 : 0 ≤ ((ji43) : Int) := of_decide_eq_true (by first | (with_reducible assumption) | assumption); have q219 : (ji43) < (y216.length : Int) := of_decide_eq_true (by first | (with_reducible assumption) | assumption); obtain ⟨ad219, e219, hx219_0⟩ := Kd.at_string (Kd.R_reads' HO218.out).2.2 (ji43) p219 q219; cases e219; replace p219 := eq_true p219; replace q219 := eq_true q219))
                                        go_roundg kj1
                                        case measure => have := HK1.out; have := HJ1.out; omega
                                        case rel => exact ⟨(x3_1 ++ (((⟨#[46, 91, 10]⟩ : ByteArray) ++ (rdOf ByteArray.empty y216 (ji43))) ++ (⟨#[10, 46, 93, 10]⟩ : ByteArray))), (wrap64 (x4_1 + 1)), (by first | rfl | (simp; done) | (simp only [← hji43] <;> (first | rfl | simp)) | (simp [*]; done)), (by first | rfl | (simp; done) | (simp [*]; done)), H', ⟨by have := HK1.out; have := HJ1.out; omega⟩, ⟨by repeat (first | (with_reducible first | exact HB.out | apply below_alloc | apply pw_below_drewN | apply below_drew1) | exact HB.out)⟩⟩
                                      · rw [if_neg c48] at H
                                        exact absurd H (by simp)
                                    · rw [if_neg c47] at H
                                      exact absurd H (by simp)
                                  · rw [if_neg c46] at H
                                    exact absurd H (by simp)
                                · rw [if_neg c45] at H
                                  exact absurd H (by simp)
                              · rw [if_neg c44] at H
                                exact absurd H (by simp)
                            · rw [if_neg c42] at H
                              have c42b0 : ((Int.tmod (IntKind.u64.wrap (rd l0 x4_1)) 12) == 6) = false := beq_eq_false_iff_ne.mpr c42
                              have c42b1 : ((Int.tmod (IntKind.u64.wrap (rd l0 x4_1)) 12) != 6) = true := bne_iff_ne.mpr c42
                              by_cases c52 : (Int.tmod (IntKind.u64.wrap (rd l0 x4_1)) 12) = 7
                              · rw [if_pos c52] at H
                                have c52b0 : ((Int.tmod (IntKind.u64.wrap (rd l0 x4_1)) 12) == 7) = true := beq_iff_eq.mpr c52
                                have c52b1 : ((Int.tmod (IntKind.u64.wrap (rd l0 x4_1)) 12) != 7) = false := bne_eq_false_iff_eq.mpr c52
                                clear c52
                                by_cases c53 : x3_1.size + 4 ≤ 9223372036854775807
                                · rw [if_pos c53] at H
                                  have c53b0 := eq_true c53
                                  have c53b1 : decide (x3_1.size + 4 ≤ 9223372036854775807) = true := decide_eq_true c53
                                  try have c53b2 : (9223372036854775807 < x3_1.size + 4) = False := eq_false (Nat.not_lt.2 c53)
                                  try (have c53b3 := c53b2; simp only [ByteArray.size_append, bsz, List.length_cons, List.length_nil, Nat.zero_add, Nat.reduceAdd] at c53b3)
                                  have H' := Aside0.mk H
                                  clear H
                                  have p203 : 0 ≤ (x4_1 : Int) := of_decide_eq_true (by first | (with_reducible assumption) | assumption)
                                  have q203 : x4_1 < (l0.length : Int) := of_decide_eq_true (by first | (with_reducible assumption) | assumption)
                                  obtain ⟨ad203, e203, hx203_0⟩ := Kd.at_int HR0.out x4_1 p203 q203
                                  cases e203
                                  replace hx203_0 := (HB.out.cell (World.block_lt_of_cell? w _ hx203_0)).trans hx203_0
                                  replace p203 := eq_true p203
                                  replace q203 := eq_true q203
                                  go_wp2
                                  go_roundg kj1
                                  case measure => have := HK1.out; have := HJ1.out; omega
                                  case rel => exact ⟨(x3_1 ++ (⟨#[46, 91, 93, 10]⟩ : ByteArray)), (wrap64 (x4_1 + 1)), (by first | rfl | (simp; done) | (simp [*]; done)), (by first | rfl | (simp; done) | (simp [*]; done)), H', ⟨by have := HK1.out; have := HJ1.out; omega⟩, ⟨by repeat (first | (with_reducible first | exact HB.out | apply below_alloc | apply pw_below_drewN | apply below_drew1) | exact HB.out)⟩⟩
                                · rw [if_neg c53] at H
                                  exact absurd H (by simp)
                              · rw [if_neg c52] at H
                                have c52b0 : ((Int.tmod (IntKind.u64.wrap (rd l0 x4_1)) 12) == 7) = false := beq_eq_false_iff_ne.mpr c52
                                have c52b1 : ((Int.tmod (IntKind.u64.wrap (rd l0 x4_1)) 12) != 7) = true := bne_iff_ne.mpr c52
                                by_cases c54 : (Int.tmod (IntKind.u64.wrap (rd l0 x4_1)) 12) = 8
                                · rw [if_pos c54] at H
                                  have c54b0 : ((Int.tmod (IntKind.u64.wrap (rd l0 x4_1)) 12) == 8) = true := beq_iff_eq.mpr c54
                                  have c54b1 : ((Int.tmod (IntKind.u64.wrap (rd l0 x4_1)) 12) != 8) = false := bne_eq_false_iff_eq.mpr c54
                                  clear c54
                                  obtain ⟨y220, hy220⟩ : ∃ y_ : List ByteArray, y_ = (([(⟨#[97, 116, 111, 109, 32, 97, 32, 67, 10, 97, 116, 111, 109, 32, 98, 32, 79, 10, 98, 111, 110, 100, 32, 115, 105, 110, 103, 108, 101, 32, 97, 32, 98, 32, 101]⟩ : ByteArray), (⟨#[114, 105, 110, 103, 32, 114, 32, 54, 10, 97, 116, 111, 109, 32, 120, 32, 78, 10, 98, 111, 110, 100, 32, 100, 111, 117, 98, 108, 101, 32, 114, 49, 32, 120, 32, 119]⟩ : ByteArray), (⟨#[97, 116, 111, 109, 32, 97, 32, 67, 10, 98, 111, 110, 100, 32, 113, 117, 97, 100, 32, 97, 32, 98, 32, 101]⟩ : ByteArray), (⟨#[]⟩ : ByteArray)] : List ByteArray)) := ⟨_, rfl⟩
                                  replace H : (if 0 ≤ (Int.tmod (IntKind.u64.wrap (Int.tdiv (IntKind.u64.wrap (rd l0 x4_1)) 12)) 4) then (if (Int.tmod (IntKind.u64.wrap (Int.tdiv (IntKind.u64.wrap (rd l0 x4_1)) 12)) 4) < (y220.length : Int) then (if 4 + (rdOf ByteArray.empty y220 (Int.tmod (IntKind.u64.wrap (Int.tdiv (IntKind.u64.wrap (rd l0 x4_1)) 12)) 4)).size ≤ 9223372036854775807 then (if ((⟨#[46, 67, 72, 10]⟩ : ByteArray) ++ (rdOf ByteArray.empty y220 (Int.tmod (IntKind.u64.wrap (Int.tdiv (IntKind.u64.wrap (rd l0 x4_1)) 12)) 4))).size + 5 ≤ 9223372036854775807 then (if x3_1.size + (((⟨#[46, 67, 72, 10]⟩ : ByteArray) ++ (rdOf ByteArray.empty y220 (Int.tmod (IntKind.u64.wrap (Int.tdiv (IntKind.u64.wrap (rd l0 x4_1)) 12)) 4))) ++ (⟨#[10, 46, 67, 69, 10]⟩ : ByteArray)).size ≤ 9223372036854775807 then (frisketlaw29_Text.l0 kj1 l0 (x3_1 ++ (((⟨#[46, 67, 72, 10]⟩ : ByteArray) ++ (rdOf ByteArray.empty y220 (Int.tmod (IntKind.u64.wrap (Int.tdiv (IntKind.u64.wrap (rd l0 x4_1)) 12)) 4))) ++ (⟨#[10, 46, 67, 69, 10]⟩ : ByteArray))) (wrap64 (x4_1 + 1))) else (none)) else (none)) else (none)) else (none)) else (none)) = some r := by first | (rw [hy220]; with_reducible exact H) | (have H2_ := (Option.bind_some _ _).symm.trans H; rw [hy220]; with_reducible exact H2_) | (have H2_ := (Option.bind_some _ _).symm.trans H; with_reducible exact H2_) | with_reducible exact H | (rw [hy220]; exact H) | exact H
                                  have Ny220 := Aside0.mk hy220
                                  clear hy220
                                  obtain ⟨ji55, hji55⟩ : ∃ j_ : Int, (Int.tmod (IntKind.u64.wrap (Int.tdiv (IntKind.u64.wrap (rd l0 x4_1)) 12)) 4) = j_ := ⟨_, rfl⟩
                                  replace H : (if 0 ≤ (ji55) then (if (ji55) < (y220.length : Int) then (if 4 + (rdOf ByteArray.empty y220 (ji55)).size ≤ 9223372036854775807 then (if ((⟨#[46, 67, 72, 10]⟩ : ByteArray) ++ (rdOf ByteArray.empty y220 (ji55))).size + 5 ≤ 9223372036854775807 then (if x3_1.size + (((⟨#[46, 67, 72, 10]⟩ : ByteArray) ++ (rdOf ByteArray.empty y220 (ji55))) ++ (⟨#[10, 46, 67, 69, 10]⟩ : ByteArray)).size ≤ 9223372036854775807 then (frisketlaw29_Text.l0 kj1 l0 (x3_1 ++ (((⟨#[46, 67, 72, 10]⟩ : ByteArray) ++ (rdOf ByteArray.empty y220 (ji55))) ++ (⟨#[10, 46, 67, 69, 10]⟩ : ByteArray))) (wrap64 (x4_1 + 1))) else (none)) else (none)) else (none)) else (none)) else (none)) = some r := by first | (rw [hji55] at H; exact H) | (simp only [hji55] at H ⊢; exact H)
                                  by_cases c56 : 0 ≤ (ji55)
                                  · rw [if_pos c56] at H
                                    have c56b0 : decide (0 ≤ (ji55)) = true := decide_eq_true c56
                                    clear c56
                                    by_cases c57 : (ji55) < (y220.length : Int)
                                    · rw [if_pos c57] at H
                                      have c57b0 : decide ((ji55) < (y220.length : Int)) = true := decide_eq_true c57
                                      clear c57
                                      by_cases c58 : 4 + (rdOf ByteArray.empty y220 (ji55)).size ≤ 9223372036854775807
                                      · rw [if_pos c58] at H
                                        have c58b0 := eq_true c58
                                        have c58b1 : decide (4 + (rdOf ByteArray.empty y220 (ji55)).size ≤ 9223372036854775807) = true := decide_eq_true c58
                                        try have c58b2 : (9223372036854775807 < 4 + (rdOf ByteArray.empty y220 (ji55)).size) = False := eq_false (Nat.not_lt.2 c58)
                                        try (have c58b3 := c58b2; simp only [ByteArray.size_append, bsz, List.length_cons, List.length_nil, Nat.zero_add, Nat.reduceAdd] at c58b3)
                                        by_cases c59 : ((⟨#[46, 67, 72, 10]⟩ : ByteArray) ++ (rdOf ByteArray.empty y220 (ji55))).size + 5 ≤ 9223372036854775807
                                        · rw [if_pos c59] at H
                                          have c59b0 := eq_true c59
                                          have c59b1 : decide (((⟨#[46, 67, 72, 10]⟩ : ByteArray) ++ (rdOf ByteArray.empty y220 (ji55))).size + 5 ≤ 9223372036854775807) = true := decide_eq_true c59
                                          try have c59b2 : (9223372036854775807 < ((⟨#[46, 67, 72, 10]⟩ : ByteArray) ++ (rdOf ByteArray.empty y220 (ji55))).size + 5) = False := eq_false (Nat.not_lt.2 c59)
                                          try (have c59b3 := c59b2; simp only [ByteArray.size_append, bsz, List.length_cons, List.length_nil, Nat.zero_add, Nat.reduceAdd] at c59b3)
                                          by_cases c60 : x3_1.size + (((⟨#[46, 67, 72, 10]⟩ : ByteArray) ++ (rdOf ByteArray.empty y220 (ji55))) ++ (⟨#[10, 46, 67, 69, 10]⟩ : ByteArray)).size ≤ 9223372036854775807
                                          · rw [if_pos c60] at H
                                            have c60b0 := eq_true c60
                                            have c60b1 : decide (x3_1.size + (((⟨#[46, 67, 72, 10]⟩ : ByteArray) ++ (rdOf ByteArray.empty y220 (ji55))) ++ (⟨#[10, 46, 67, 69, 10]⟩ : ByteArray)).size ≤ 9223372036854775807) = true := decide_eq_true c60
                                            try have c60b2 : (9223372036854775807 < x3_1.size + (((⟨#[46, 67, 72, 10]⟩ : ByteArray) ++ (rdOf ByteArray.empty y220 (ji55))) ++ (⟨#[10, 46, 67, 69, 10]⟩ : ByteArray)).size) = False := eq_false (Nat.not_lt.2 c60)
                                            try (have c60b3 := c60b2; simp only [ByteArray.size_append, bsz, List.length_cons, List.length_nil, Nat.zero_add, Nat.reduceAdd] at c60b3)
                                            have H' := Aside0.mk H
                                            clear H
                                            have p203 : 0 ≤ (x4_1 : Int) := of_decide_eq_true (by first | (with_reducible assumption) | assumption)
                                            have q203 : x4_1 < (l0.length : Int) := of_decide_eq_true (by first | (with_reducible assumption) | assumption)
                                            obtain ⟨ad203, e203, hx203_0⟩ := Kd.at_int HR0.out x4_1 p203 q203
                                            cases e203
                                            replace hx203_0 := (HB.out.cell (World.block_lt_of_cell? w _ hx203_0)).trans hx203_0
                                            replace p203 := eq_true p203
                                            replace q203 := eq_true q203
                                            go_wp2_with (first | ((with_reducible refine gate_dst (N := 95) rfl ?_); refine Kd.R_lit Kd.string _ 9 ?hg (N := 95) ?hd (xs := ([(⟨#[97, 116, 111, 109, 32, 97, 32, 67, 10, 97, 116, 111, 109, 32, 98, 32, 79, 10, 98, 111, 110, 100, 32, 115, 105, 110, 103, 108, 101, 32, 97, 32, 98, 32, 101]⟩ : ByteArray), (⟨#[114, 105, 110, 103, 32, 114, 32, 54, 10, 97, 116, 111, 109, 32, 120, 32, 78, 10, 98, 111, 110, 100, 32, 100, 111, 117, 98, 108, 101, 32, 114, 49, 32, 120, 32, 119]⟩ : ByteArray), (⟨#[97, 116, 111, 109, 32, 97, 32, 67, 10, 98, 111, 110, 100, 32, 113, 117, 97, 100, 32, 97, 32, 98, 32, 101]⟩ : ByteArray), (⟨#[]⟩ : ByteArray)] : List ByteArray)) (inner := [.string (⟨#[97, 116, 111, 109, 32, 97, 32, 67, 10, 97, 116, 111, 109, 32, 98, 32, 79, 10, 98, 111, 110, 100, 32, 115, 105, 110, 103, 108, 101, 32, 97, 32, 98, 32, 101]⟩ : ByteArray), .string (⟨#[114, 105, 110, 103, 32, 114, 32, 54, 10, 97, 116, 111, 109, 32, 120, 32, 78, 10, 98, 111, 110, 100, 32, 100, 111, 117, 98, 108, 101, 32, 114, 49, 32, 120, 32, 119]⟩ : ByteArray), .string (⟨#[97, 116, 111, 109, 32, 97, 32, 67, 10, 98, 111, 110, 100, 32, 113, 117, 97, 100, 32, 97, 32, 98, 32, 101]⟩ : ByteArray), .string (⟨#[]⟩ : ByteArray)]) (ok := fun _ => True) (okp := fun _ => True) ?hr ?hp (fun _ hk => hk) trivial (Below.refl _ _) (Nat.le_refl _) (by simp) ?_; (case hd => rfl); (case hg => rfl); (case hr => first | (go_simp; done) | (go_simp; rfl)); (case hp => exact (Reps.one (show Kd.M Kd.string _ _ _ (⟨#[97, 116, 111, 109, 32, 97, 32, 67, 10, 97, 116, 111, 109, 32, 98, 32, 79, 10, 98, 111, 110, 100, 32, 115, 105, 110, 103, 108, 101, 32, 97, 32, 98, 32, 101]⟩ : ByteArray) [.string (⟨#[97, 116, 111, 109, 32, 97, 32, 67, 10, 97, 116, 111, 109, 32, 98, 32, 79, 10, 98, 111, 110, 100, 32, 115, 105, 110, 103, 108, 101, 32, 97, 32, 98, 32, 101]⟩ : ByteArray)] from rfl) (Reps.one (show Kd.M Kd.string _ _ _ (⟨#[114, 105, 110, 103, 32, 114, 32, 54, 10, 97, 116, 111, 109, 32, 120, 32, 78, 10, 98, 111, 110, 100, 32, 100, 111, 117, 98, 108, 101, 32, 114, 49, 32, 120, 32, 119]⟩ : ByteArray) [.string (⟨#[114, 105, 110, 103, 32, 114, 32, 54, 10, 97, 116, 111, 109, 32, 120, 32, 78, 10, 98, 111, 110, 100, 32, 100, 111, 117, 98, 108, 101, 32, 114, 49, 32, 120, 32, 119]⟩ : ByteArray)] from rfl) (Reps.one (show Kd.M Kd.string _ _ _ (⟨#[97, 116, 111, 109, 32, 97, 32, 67, 10, 98, 111, 110, 100, 32, 113, 117, 97, 100, 32, 97, 32, 98, 32, 101]⟩ : ByteArray) [.string (⟨#[97, 116, 111, 109, 32, 97, 32, 67, 10, 98, 111, 110, 100, 32, 113, 117, 97, 100, 32, 97, 32, 98, 32, 101]⟩ : ByteArray)] from rfl) (Reps.one (show Kd.M Kd.string _ _ _ (⟨#[]⟩ : ByteArray) [.string (⟨#[]⟩ : ByteArray)] from rfl) (Reps.none _ _)))))); intro v221 w61 ho62 hb hg_ hnew_; clear hg_ hnew_; (first | rw [← Ny220.out] at ho62 | (simp only [Int.reduceToNat] at ho62; rw [← Ny220.out] at ho62)); have n0_ := Aside0.mk (Kd.R_lower ho62 (below_size (by repeat (first | (with_reducible first | exact HB.out | apply below_alloc | apply pw_below_drewN | apply below_drew1) | exact HB.out)))); have n1_ := Aside0.mk (below_step (by repeat (first | (with_reducible first | exact HB.out | apply below_alloc | apply pw_below_drewN | apply below_drew1) | exact HB.out)) hb); clear HB; have HO222 := n0_; have HB := n1_; clear n0_ n1_; clear hb ho62; obtain ⟨Ao63, co63, eo63⟩ := Kd.R_slice HO222.out; subst eo63; have p223 : 0 ≤ ((ji55) : Int) := of_decide_eq_true (by first | (with_reducible assumption) | assumption); have q223 : (ji55) < (y220.length : Int) := of_decide_eq_true (by first | (with_reducible assumption) | assumption); obtain ⟨ad223, e223, hx223_0⟩ := Kd.at_string (Kd.R_reads' HO222.out).2.2 (ji55) p223 q223; cases e223; replace p223 := eq_true p223; replace q223 := eq_true q223))
                                            go_roundg kj1
                                            case measure => have := HK1.out; have := HJ1.out; omega
                                            case rel => exact ⟨(x3_1 ++ (((⟨#[46, 67, 72, 10]⟩ : ByteArray) ++ (rdOf ByteArray.empty y220 (ji55))) ++ (⟨#[10, 46, 67, 69, 10]⟩ : ByteArray))), (wrap64 (x4_1 + 1)), (by first | rfl | (simp; done) | (simp only [← hji55] <;> (first | rfl | simp)) | (simp [*]; done)), (by first | rfl | (simp; done) | (simp [*]; done)), H', ⟨by have := HK1.out; have := HJ1.out; omega⟩, ⟨by repeat (first | (with_reducible first | exact HB.out | apply below_alloc | apply pw_below_drewN | apply below_drew1) | exact HB.out)⟩⟩
                                          · rw [if_neg c60] at H
                                            exact absurd H (by simp)
                                        · rw [if_neg c59] at H
                                          exact absurd H (by simp)
                                      · rw [if_neg c58] at H
                                        exact absurd H (by simp)
                                    · rw [if_neg c57] at H
                                      exact absurd H (by simp)
                                  · rw [if_neg c56] at H
                                    exact absurd H (by simp)
                                · rw [if_neg c54] at H
                                  have c54b0 : ((Int.tmod (IntKind.u64.wrap (rd l0 x4_1)) 12) == 8) = false := beq_eq_false_iff_ne.mpr c54
                                  have c54b1 : ((Int.tmod (IntKind.u64.wrap (rd l0 x4_1)) 12) != 8) = true := bne_iff_ne.mpr c54
                                  by_cases c64 : (Int.tmod (IntKind.u64.wrap (rd l0 x4_1)) 12) = 9
                                  · rw [if_pos c64] at H
                                    have c64b0 : ((Int.tmod (IntKind.u64.wrap (rd l0 x4_1)) 12) == 9) = true := beq_iff_eq.mpr c64
                                    have c64b1 : ((Int.tmod (IntKind.u64.wrap (rd l0 x4_1)) 12) != 9) = false := bne_eq_false_iff_eq.mpr c64
                                    clear c64
                                    obtain ⟨y224, hy224⟩ : ∃ y_ : List ByteArray, y_ = (([(⟨#[46, 80, 83]⟩ : ByteArray), (⟨#[46, 80, 69]⟩ : ByteArray), (⟨#[46, 84, 83]⟩ : ByteArray), (⟨#[46, 69, 78]⟩ : ByteArray), (⟨#[46, 71, 49]⟩ : ByteArray), (⟨#[46, 91]⟩ : ByteArray), (⟨#[120, 46, 84, 83]⟩ : ByteArray), (⟨#[46, 69, 81, 32, 120]⟩ : ByteArray), (⟨#[]⟩ : ByteArray)] : List ByteArray)) := ⟨_, rfl⟩
                                    replace H : (if 0 ≤ (Int.tmod (IntKind.u64.wrap (Int.tdiv (IntKind.u64.wrap (rd l0 x4_1)) 12)) 9) then (if (Int.tmod (IntKind.u64.wrap (Int.tdiv (IntKind.u64.wrap (rd l0 x4_1)) 12)) 9) < (y224.length : Int) then (if (rdOf ByteArray.empty y224 (Int.tmod (IntKind.u64.wrap (Int.tdiv (IntKind.u64.wrap (rd l0 x4_1)) 12)) 9)).size + 1 ≤ 9223372036854775807 then (if x3_1.size + ((rdOf ByteArray.empty y224 (Int.tmod (IntKind.u64.wrap (Int.tdiv (IntKind.u64.wrap (rd l0 x4_1)) 12)) 9)) ++ (⟨#[10]⟩ : ByteArray)).size ≤ 9223372036854775807 then (frisketlaw29_Text.l0 kj1 l0 (x3_1 ++ ((rdOf ByteArray.empty y224 (Int.tmod (IntKind.u64.wrap (Int.tdiv (IntKind.u64.wrap (rd l0 x4_1)) 12)) 9)) ++ (⟨#[10]⟩ : ByteArray))) (wrap64 (x4_1 + 1))) else (none)) else (none)) else (none)) else (none)) = some r := by first | (rw [hy224]; with_reducible exact H) | (have H2_ := (Option.bind_some _ _).symm.trans H; rw [hy224]; with_reducible exact H2_) | (have H2_ := (Option.bind_some _ _).symm.trans H; with_reducible exact H2_) | with_reducible exact H | (rw [hy224]; exact H) | exact H
                                    have Ny224 := Aside0.mk hy224
                                    clear hy224
                                    obtain ⟨ji65, hji65⟩ : ∃ j_ : Int, (Int.tmod (IntKind.u64.wrap (Int.tdiv (IntKind.u64.wrap (rd l0 x4_1)) 12)) 9) = j_ := ⟨_, rfl⟩
                                    replace H : (if 0 ≤ (ji65) then (if (ji65) < (y224.length : Int) then (if (rdOf ByteArray.empty y224 (ji65)).size + 1 ≤ 9223372036854775807 then (if x3_1.size + ((rdOf ByteArray.empty y224 (ji65)) ++ (⟨#[10]⟩ : ByteArray)).size ≤ 9223372036854775807 then (frisketlaw29_Text.l0 kj1 l0 (x3_1 ++ ((rdOf ByteArray.empty y224 (ji65)) ++ (⟨#[10]⟩ : ByteArray))) (wrap64 (x4_1 + 1))) else (none)) else (none)) else (none)) else (none)) = some r := by first | (rw [hji65] at H; exact H) | (simp only [hji65] at H ⊢; exact H)
                                    by_cases c66 : 0 ≤ (ji65)
                                    · rw [if_pos c66] at H
                                      have c66b0 : decide (0 ≤ (ji65)) = true := decide_eq_true c66
                                      clear c66
                                      by_cases c67 : (ji65) < (y224.length : Int)
                                      · rw [if_pos c67] at H
                                        have c67b0 : decide ((ji65) < (y224.length : Int)) = true := decide_eq_true c67
                                        clear c67
                                        by_cases c68 : (rdOf ByteArray.empty y224 (ji65)).size + 1 ≤ 9223372036854775807
                                        · rw [if_pos c68] at H
                                          have c68b0 := eq_true c68
                                          have c68b1 : decide ((rdOf ByteArray.empty y224 (ji65)).size + 1 ≤ 9223372036854775807) = true := decide_eq_true c68
                                          try have c68b2 : (9223372036854775807 < (rdOf ByteArray.empty y224 (ji65)).size + 1) = False := eq_false (Nat.not_lt.2 c68)
                                          try (have c68b3 := c68b2; simp only [ByteArray.size_append, bsz, List.length_cons, List.length_nil, Nat.zero_add, Nat.reduceAdd] at c68b3)
                                          by_cases c69 : x3_1.size + ((rdOf ByteArray.empty y224 (ji65)) ++ (⟨#[10]⟩ : ByteArray)).size ≤ 9223372036854775807
                                          · rw [if_pos c69] at H
                                            have c69b0 := eq_true c69
                                            have c69b1 : decide (x3_1.size + ((rdOf ByteArray.empty y224 (ji65)) ++ (⟨#[10]⟩ : ByteArray)).size ≤ 9223372036854775807) = true := decide_eq_true c69
                                            try have c69b2 : (9223372036854775807 < x3_1.size + ((rdOf ByteArray.empty y224 (ji65)) ++ (⟨#[10]⟩ : ByteArray)).size) = False := eq_false (Nat.not_lt.2 c69)
                                            try (have c69b3 := c69b2; simp only [ByteArray.size_append, bsz, List.length_cons, List.length_nil, Nat.zero_add, Nat.reduceAdd] at c69b3)
                                            have H' := Aside0.mk H
                                            clear H
                                            have p203 : 0 ≤ (x4_1 : Int) := of_decide_eq_true (by first | (with_reducible assumption) | assumption)
                                            have q203 : x4_1 < (l0.length : Int) := of_decide_eq_true (by first | (with_reducible assumption) | assumption)
                                            obtain ⟨ad203, e203, hx203_0⟩ := Kd.at_int HR0.out x4_1 p203 q203
                                            cases e203
                                            replace hx203_0 := (HB.out.cell (World.block_lt_of_cell? w _ hx203_0)).trans hx203_0
                                            replace p203 := eq_true p203
                                            replace q203 := eq_true q203
                                            go_wp2_with (first | ((with_reducible refine gate_dst (N := 107) rfl ?_); refine Kd.R_lit Kd.string _ 9 ?hg (N := 107) ?hd (xs := ([(⟨#[46, 80, 83]⟩ : ByteArray), (⟨#[46, 80, 69]⟩ : ByteArray), (⟨#[46, 84, 83]⟩ : ByteArray), (⟨#[46, 69, 78]⟩ : ByteArray), (⟨#[46, 71, 49]⟩ : ByteArray), (⟨#[46, 91]⟩ : ByteArray), (⟨#[120, 46, 84, 83]⟩ : ByteArray), (⟨#[46, 69, 81, 32, 120]⟩ : ByteArray), (⟨#[]⟩ : ByteArray)] : List ByteArray)) (inner := [.string (⟨#[46, 80, 83]⟩ : ByteArray), .string (⟨#[46, 80, 69]⟩ : ByteArray), .string (⟨#[46, 84, 83]⟩ : ByteArray), .string (⟨#[46, 69, 78]⟩ : ByteArray), .string (⟨#[46, 71, 49]⟩ : ByteArray), .string (⟨#[46, 91]⟩ : ByteArray), .string (⟨#[120, 46, 84, 83]⟩ : ByteArray), .string (⟨#[46, 69, 81, 32, 120]⟩ : ByteArray), .string (⟨#[]⟩ : ByteArray)]) (ok := fun _ => True) (okp := fun _ => True) ?hr ?hp (fun _ hk => hk) trivial (Below.refl _ _) (Nat.le_refl _) (by simp) ?_; (case hd => rfl); (case hg => rfl); (case hr => first | (go_simp; done) | (go_simp; rfl)); (case hp => exact (Reps.one (show Kd.M Kd.string _ _ _ (⟨#[46, 80, 83]⟩ : ByteArray) [.string (⟨#[46, 80, 83]⟩ : ByteArray)] from rfl) (Reps.one (show Kd.M Kd.string _ _ _ (⟨#[46, 80, 69]⟩ : ByteArray) [.string (⟨#[46, 80, 69]⟩ : ByteArray)] from rfl) (Reps.one (show Kd.M Kd.string _ _ _ (⟨#[46, 84, 83]⟩ : ByteArray) [.string (⟨#[46, 84, 83]⟩ : ByteArray)] from rfl) (Reps.one (show Kd.M Kd.string _ _ _ (⟨#[46, 69, 78]⟩ : ByteArray) [.string (⟨#[46, 69, 78]⟩ : ByteArray)] from rfl) (Reps.one (show Kd.M Kd.string _ _ _ (⟨#[46, 71, 49]⟩ : ByteArray) [.string (⟨#[46, 71, 49]⟩ : ByteArray)] from rfl) (Reps.one (show Kd.M Kd.string _ _ _ (⟨#[46, 91]⟩ : ByteArray) [.string (⟨#[46, 91]⟩ : ByteArray)] from rfl) (Reps.one (show Kd.M Kd.string _ _ _ (⟨#[120, 46, 84, 83]⟩ : ByteArray) [.string (⟨#[120, 46, 84, 83]⟩ : ByteArray)] from rfl) (Reps.one (show Kd.M Kd.string _ _ _ (⟨#[46, 69, 81, 32, 120]⟩ : ByteArray) [.string (⟨#[46, 69, 81, 32, 120]⟩ : ByteArray)] from rfl) (Reps.one (show Kd.M Kd.string _ _ _ (⟨#[]⟩ : ByteArray) [.string (⟨#[]⟩ : ByteArray)] from rfl) (Reps.none _ _))))))))))); intro v225 w70 ho71 hb hg_ hnew_; clear hg_ hnew_; (first | rw [← Ny224.out] at ho71 | (simp only [Int.reduceToNat] at ho71; rw [← Ny224.out] at ho71)); have n0_ := Aside0.mk (Kd.R_lower ho71 (below_size (by repeat (first | (with_reducible first | exact HB.out | apply below_alloc | apply pw_below_drewN | apply below_drew1) | exact HB.out)))); have n1_ := Aside0.mk (below_step (by repeat (first | (with_reducible first | exact HB.out | apply below_alloc | apply pw_below_drewN | apply below_drew1) | exact HB.out)) hb); clear HB; have HO226 := n0_; have HB := n1_; clear n0_ n1_; clear hb ho71; obtain ⟨Ao72, co72, eo72⟩ := Kd.R_slice HO226.out; subst eo72; have p227 : 0 ≤ ((ji65) : Int) := of_decide_eq_true (by first | (with_reducible assumption) | assumption); have q227 : (ji65) < (y224.length : Int) := of_decide_eq_true (by first | (with_reducible assumption) | assumption); obtain ⟨ad227, e227, hx227_0⟩ := Kd.at_string (Kd.R_reads' HO226.out).2.2 (ji65) p227 q227; cases e227; replace p227 := eq_true p227; replace q227 := eq_true q227))
                                            go_roundg kj1
                                            case measure => have := HK1.out; have := HJ1.out; omega
                                            case rel => exact ⟨(x3_1 ++ ((rdOf ByteArray.empty y224 (ji65)) ++ (⟨#[10]⟩ : ByteArray))), (wrap64 (x4_1 + 1)), (by first | rfl | (simp; done) | (simp only [← hji65] <;> (first | rfl | simp)) | (simp [*]; done)), (by first | rfl | (simp; done) | (simp [*]; done)), H', ⟨by have := HK1.out; have := HJ1.out; omega⟩, ⟨by repeat (first | (with_reducible first | exact HB.out | apply below_alloc | apply pw_below_drewN | apply below_drew1) | exact HB.out)⟩⟩
                                          · rw [if_neg c69] at H
                                            exact absurd H (by simp)
                                        · rw [if_neg c68] at H
                                          exact absurd H (by simp)
                                      · rw [if_neg c67] at H
                                        exact absurd H (by simp)
                                    · rw [if_neg c66] at H
                                      exact absurd H (by simp)
                                  · rw [if_neg c64] at H
                                    have c64b0 : ((Int.tmod (IntKind.u64.wrap (rd l0 x4_1)) 12) == 9) = false := beq_eq_false_iff_ne.mpr c64
                                    have c64b1 : ((Int.tmod (IntKind.u64.wrap (rd l0 x4_1)) 12) != 9) = true := bne_iff_ne.mpr c64
                                    by_cases c73 : (Int.tmod (IntKind.u64.wrap (rd l0 x4_1)) 12) = 10
                                    · rw [if_pos c73] at H
                                      have c73b0 : ((Int.tmod (IntKind.u64.wrap (rd l0 x4_1)) 12) == 10) = true := beq_iff_eq.mpr c73
                                      have c73b1 : ((Int.tmod (IntKind.u64.wrap (rd l0 x4_1)) 12) != 10) = false := bne_eq_false_iff_eq.mpr c73
                                      clear c73
                                      obtain ⟨y228, hy228⟩ : ∃ y_ : List ByteArray, y_ = (([(⟨#[48, 32, 48]⟩ : ByteArray), (⟨#[98, 97, 100]⟩ : ByteArray), (⟨#[102, 114, 97, 109, 101, 32, 53, 48, 48, 32, 52, 48, 48, 10, 49, 32, 49, 10, 50, 32, 51]⟩ : ByteArray)] : List ByteArray)) := ⟨_, rfl⟩
                                      replace H : (if 0 ≤ (Int.tmod (IntKind.u64.wrap (Int.tdiv (IntKind.u64.wrap (rd l0 x4_1)) 12)) 3) then (if (Int.tmod (IntKind.u64.wrap (Int.tdiv (IntKind.u64.wrap (rd l0 x4_1)) 12)) 3) < (y228.length : Int) then (if 4 + (rdOf ByteArray.empty y228 (Int.tmod (IntKind.u64.wrap (Int.tdiv (IntKind.u64.wrap (rd l0 x4_1)) 12)) 3)).size ≤ 9223372036854775807 then (if ((⟨#[46, 71, 49, 10]⟩ : ByteArray) ++ (rdOf ByteArray.empty y228 (Int.tmod (IntKind.u64.wrap (Int.tdiv (IntKind.u64.wrap (rd l0 x4_1)) 12)) 3))).size + 5 ≤ 9223372036854775807 then (if x3_1.size + (((⟨#[46, 71, 49, 10]⟩ : ByteArray) ++ (rdOf ByteArray.empty y228 (Int.tmod (IntKind.u64.wrap (Int.tdiv (IntKind.u64.wrap (rd l0 x4_1)) 12)) 3))) ++ (⟨#[10, 46, 71, 50, 10]⟩ : ByteArray)).size ≤ 9223372036854775807 then (frisketlaw29_Text.l0 kj1 l0 (x3_1 ++ (((⟨#[46, 71, 49, 10]⟩ : ByteArray) ++ (rdOf ByteArray.empty y228 (Int.tmod (IntKind.u64.wrap (Int.tdiv (IntKind.u64.wrap (rd l0 x4_1)) 12)) 3))) ++ (⟨#[10, 46, 71, 50, 10]⟩ : ByteArray))) (wrap64 (x4_1 + 1))) else (none)) else (none)) else (none)) else (none)) else (none)) = some r := by first | (rw [hy228]; with_reducible exact H) | (have H2_ := (Option.bind_some _ _).symm.trans H; rw [hy228]; with_reducible exact H2_) | (have H2_ := (Option.bind_some _ _).symm.trans H; with_reducible exact H2_) | with_reducible exact H | (rw [hy228]; exact H) | exact H
                                      have Ny228 := Aside0.mk hy228
                                      clear hy228
                                      obtain ⟨ji74, hji74⟩ : ∃ j_ : Int, (Int.tmod (IntKind.u64.wrap (Int.tdiv (IntKind.u64.wrap (rd l0 x4_1)) 12)) 3) = j_ := ⟨_, rfl⟩
                                      replace H : (if 0 ≤ (ji74) then (if (ji74) < (y228.length : Int) then (if 4 + (rdOf ByteArray.empty y228 (ji74)).size ≤ 9223372036854775807 then (if ((⟨#[46, 71, 49, 10]⟩ : ByteArray) ++ (rdOf ByteArray.empty y228 (ji74))).size + 5 ≤ 9223372036854775807 then (if x3_1.size + (((⟨#[46, 71, 49, 10]⟩ : ByteArray) ++ (rdOf ByteArray.empty y228 (ji74))) ++ (⟨#[10, 46, 71, 50, 10]⟩ : ByteArray)).size ≤ 9223372036854775807 then (frisketlaw29_Text.l0 kj1 l0 (x3_1 ++ (((⟨#[46, 71, 49, 10]⟩ : ByteArray) ++ (rdOf ByteArray.empty y228 (ji74))) ++ (⟨#[10, 46, 71, 50, 10]⟩ : ByteArray))) (wrap64 (x4_1 + 1))) else (none)) else (none)) else (none)) else (none)) else (none)) = some r := by first | (rw [hji74] at H; exact H) | (simp only [hji74] at H ⊢; exact H)
                                      by_cases c75 : 0 ≤ (ji74)
                                      · rw [if_pos c75] at H
                                        have c75b0 : decide (0 ≤ (ji74)) = true := decide_eq_true c75
                                        clear c75
                                        by_cases c76 : (ji74) < (y228.length : Int)
                                        · rw [if_pos c76] at H
                                          have c76b0 : decide ((ji74) < (y228.length : Int)) = true := decide_eq_true c76
                                          clear c76
                                          by_cases c77 : 4 + (rdOf ByteArray.empty y228 (ji74)).size ≤ 9223372036854775807
                                          · rw [if_pos c77] at H
                                            have c77b0 := eq_true c77
                                            have c77b1 : decide (4 + (rdOf ByteArray.empty y228 (ji74)).size ≤ 9223372036854775807) = true := decide_eq_true c77
                                            try have c77b2 : (9223372036854775807 < 4 + (rdOf ByteArray.empty y228 (ji74)).size) = False := eq_false (Nat.not_lt.2 c77)
                                            try (have c77b3 := c77b2; simp only [ByteArray.size_append, bsz, List.length_cons, List.length_nil, Nat.zero_add, Nat.reduceAdd] at c77b3)
                                            by_cases c78 : ((⟨#[46, 71, 49, 10]⟩ : ByteArray) ++ (rdOf ByteArray.empty y228 (ji74))).size + 5 ≤ 9223372036854775807
                                            · rw [if_pos c78] at H
                                              have c78b0 := eq_true c78
                                              have c78b1 : decide (((⟨#[46, 71, 49, 10]⟩ : ByteArray) ++ (rdOf ByteArray.empty y228 (ji74))).size + 5 ≤ 9223372036854775807) = true := decide_eq_true c78
                                              try have c78b2 : (9223372036854775807 < ((⟨#[46, 71, 49, 10]⟩ : ByteArray) ++ (rdOf ByteArray.empty y228 (ji74))).size + 5) = False := eq_false (Nat.not_lt.2 c78)
                                              try (have c78b3 := c78b2; simp only [ByteArray.size_append, bsz, List.length_cons, List.length_nil, Nat.zero_add, Nat.reduceAdd] at c78b3)
                                              by_cases c79 : x3_1.size + (((⟨#[46, 71, 49, 10]⟩ : ByteArray) ++ (rdOf ByteArray.empty y228 (ji74))) ++ (⟨#[10, 46, 71, 50, 10]⟩ : ByteArray)).size ≤ 9223372036854775807
                                              · rw [if_pos c79] at H
                                                have c79b0 := eq_true c79
                                                have c79b1 : decide (x3_1.size + (((⟨#[46, 71, 49, 10]⟩ : ByteArray) ++ (rdOf ByteArray.empty y228 (ji74))) ++ (⟨#[10, 46, 71, 50, 10]⟩ : ByteArray)).size ≤ 9223372036854775807) = true := decide_eq_true c79
                                                try have c79b2 : (9223372036854775807 < x3_1.size + (((⟨#[46, 71, 49, 10]⟩ : ByteArray) ++ (rdOf ByteArray.empty y228 (ji74))) ++ (⟨#[10, 46, 71, 50, 10]⟩ : ByteArray)).size) = False := eq_false (Nat.not_lt.2 c79)
                                                try (have c79b3 := c79b2; simp only [ByteArray.size_append, bsz, List.length_cons, List.length_nil, Nat.zero_add, Nat.reduceAdd] at c79b3)
                                                have H' := Aside0.mk H
                                                clear H
                                                have p203 : 0 ≤ (x4_1 : Int) := of_decide_eq_true (by first | (with_reducible assumption) | assumption)
                                                have q203 : x4_1 < (l0.length : Int) := of_decide_eq_true (by first | (with_reducible assumption) | assumption)
                                                obtain ⟨ad203, e203, hx203_0⟩ := Kd.at_int HR0.out x4_1 p203 q203
                                                cases e203
                                                replace hx203_0 := (HB.out.cell (World.block_lt_of_cell? w _ hx203_0)).trans hx203_0
                                                replace p203 := eq_true p203
                                                replace q203 := eq_true q203
                                                go_wp2_with (first | ((with_reducible refine gate_dst (N := 118) rfl ?_); refine Kd.R_lit Kd.string _ 9 ?hg (N := 118) ?hd (xs := ([(⟨#[48, 32, 48]⟩ : ByteArray), (⟨#[98, 97, 100]⟩ : ByteArray), (⟨#[102, 114, 97, 109, 101, 32, 53, 48, 48, 32, 52, 48, 48, 10, 49, 32, 49, 10, 50, 32, 51]⟩ : ByteArray)] : List ByteArray)) (inner := [.string (⟨#[48, 32, 48]⟩ : ByteArray), .string (⟨#[98, 97, 100]⟩ : ByteArray), .string (⟨#[102, 114, 97, 109, 101, 32, 53, 48, 48, 32, 52, 48, 48, 10, 49, 32, 49, 10, 50, 32, 51]⟩ : ByteArray)]) (ok := fun _ => True) (okp := fun _ => True) ?hr ?hp (fun _ hk => hk) trivial (Below.refl _ _) (Nat.le_refl _) (by simp) ?_; (case hd => rfl); (case hg => rfl); (case hr => first | (go_simp; done) | (go_simp; rfl)); (case hp => exact (Reps.one (show Kd.M Kd.string _ _ _ (⟨#[48, 32, 48]⟩ : ByteArray) [.string (⟨#[48, 32, 48]⟩ : ByteArray)] from rfl) (Reps.one (show Kd.M Kd.string _ _ _ (⟨#[98, 97, 100]⟩ : ByteArray) [.string (⟨#[98, 97, 100]⟩ : ByteArray)] from rfl) (Reps.one (show Kd.M Kd.string _ _ _ (⟨#[102, 114, 97, 109, 101, 32, 53, 48, 48, 32, 52, 48, 48, 10, 49, 32, 49, 10, 50, 32, 51]⟩ : ByteArray) [.string (⟨#[102, 114, 97, 109, 101, 32, 53, 48, 48, 32, 52, 48, 48, 10, 49, 32, 49, 10, 50, 32, 51]⟩ : ByteArray)] from rfl) (Reps.none _ _))))); intro v229 w80 ho81 hb hg_ hnew_; clear hg_ hnew_; (first | rw [← Ny228.out] at ho81 | (simp only [Int.reduceToNat] at ho81; rw [← Ny228.out] at ho81)); have n0_ := Aside0.mk (Kd.R_lower ho81 (below_size (by repeat (first | (with_reducible first | exact HB.out | apply below_alloc | apply pw_below_drewN | apply below_drew1) | exact HB.out)))); have n1_ := Aside0.mk (below_step (by repeat (first | (with_reducible first | exact HB.out | apply below_alloc | apply pw_below_drewN | apply below_drew1) | exact HB.out)) hb); clear HB; have HO230 := n0_; have HB := n1_; clear n0_ n1_; clear hb ho81; obtain ⟨Ao82, co82, eo82⟩ := Kd.R_slice HO230.out; subst eo82; have p231 : 0 ≤ ((ji74) : Int) := of_decide_eq_true (by first | (with_reducible assumption) | assumption); have q231 : (ji74) < (y228.length : Int) := of_decide_eq_true (by first | (with_reducible assumption) | assumption); obtain ⟨ad231, e231, hx231_0⟩ := Kd.at_string (Kd.R_reads' HO230.out).2.2 (ji74) p231 q231; cases e231; replace p231 := eq_true p231; replace q231 := eq_true q231))
                                                go_roundg kj1
                                                case measure => have := HK1.out; have := HJ1.out; omega
                                                case rel => exact ⟨(x3_1 ++ (((⟨#[46, 71, 49, 10]⟩ : ByteArray) ++ (rdOf ByteArray.empty y228 (ji74))) ++ (⟨#[10, 46, 71, 50, 10]⟩ : ByteArray))), (wrap64 (x4_1 + 1)), (by first | rfl | (simp; done) | (simp only [← hji74] <;> (first | rfl | simp)) | (simp [*]; done)), (by first | rfl | (simp; done) | (simp [*]; done)), H', ⟨by have := HK1.out; have := HJ1.out; omega⟩, ⟨by repeat (first | (with_reducible first | exact HB.out | apply below_alloc | apply pw_below_drewN | apply below_drew1) | exact HB.out)⟩⟩
                                              · rw [if_neg c79] at H
                                                exact absurd H (by simp)
                                            · rw [if_neg c78] at H
                                              exact absurd H (by simp)
                                          · rw [if_neg c77] at H
                                            exact absurd H (by simp)
                                        · rw [if_neg c76] at H
                                          exact absurd H (by simp)
                                      · rw [if_neg c75] at H
                                        exact absurd H (by simp)
                                    · rw [if_neg c73] at H
                                      have c73b0 : ((Int.tmod (IntKind.u64.wrap (rd l0 x4_1)) 12) == 10) = false := beq_eq_false_iff_ne.mpr c73
                                      have c73b1 : ((Int.tmod (IntKind.u64.wrap (rd l0 x4_1)) 12) != 10) = true := bne_iff_ne.mpr c73
                                      by_cases c83 : (Int.tmod (IntKind.u64.wrap (rd l0 x4_1)) 12) = 11
                                      · rw [if_pos c83] at H
                                        have c83b0 : ((Int.tmod (IntKind.u64.wrap (rd l0 x4_1)) 12) == 11) = true := beq_iff_eq.mpr c83
                                        have c83b1 : ((Int.tmod (IntKind.u64.wrap (rd l0 x4_1)) 12) != 11) = false := bne_eq_false_iff_eq.mpr c83
                                        clear c83
                                        by_cases c84 : x3_1.size + 4 ≤ 9223372036854775807
                                        · rw [if_pos c84] at H
                                          have c84b0 := eq_true c84
                                          have c84b1 : decide (x3_1.size + 4 ≤ 9223372036854775807) = true := decide_eq_true c84
                                          try have c84b2 : (9223372036854775807 < x3_1.size + 4) = False := eq_false (Nat.not_lt.2 c84)
                                          try (have c84b3 := c84b2; simp only [ByteArray.size_append, bsz, List.length_cons, List.length_nil, Nat.zero_add, Nat.reduceAdd] at c84b3)
                                          have H' := Aside0.mk H
                                          clear H
                                          have p203 : 0 ≤ (x4_1 : Int) := of_decide_eq_true (by first | (with_reducible assumption) | assumption)
                                          have q203 : x4_1 < (l0.length : Int) := of_decide_eq_true (by first | (with_reducible assumption) | assumption)
                                          obtain ⟨ad203, e203, hx203_0⟩ := Kd.at_int HR0.out x4_1 p203 q203
                                          cases e203
                                          replace hx203_0 := (HB.out.cell (World.block_lt_of_cell? w _ hx203_0)).trans hx203_0
                                          replace p203 := eq_true p203
                                          replace q203 := eq_true q203
                                          go_wp2
                                          go_roundg kj1
                                          case measure => have := HK1.out; have := HJ1.out; omega
                                          case rel => exact ⟨(x3_1 ++ (⟨#[109, 111, 114, 101]⟩ : ByteArray)), (wrap64 (x4_1 + 1)), (by first | rfl | (simp; done) | (simp [*]; done)), (by first | rfl | (simp; done) | (simp [*]; done)), H', ⟨by have := HK1.out; have := HJ1.out; omega⟩, ⟨by repeat (first | (with_reducible first | exact HB.out | apply below_alloc | apply pw_below_drewN | apply below_drew1) | exact HB.out)⟩⟩
                                        · rw [if_neg c84] at H
                                          exact absurd H (by simp)
                                      · rw [if_neg c83] at H
                                        have c83b0 : ((Int.tmod (IntKind.u64.wrap (rd l0 x4_1)) 12) == 11) = false := beq_eq_false_iff_ne.mpr c83
                                        have c83b1 : ((Int.tmod (IntKind.u64.wrap (rd l0 x4_1)) 12) != 11) = true := bne_iff_ne.mpr c83
                                        have H' := Aside0.mk H
                                        clear H
                                        have p203 : 0 ≤ (x4_1 : Int) := of_decide_eq_true (by first | (with_reducible assumption) | assumption)
                                        have q203 : x4_1 < (l0.length : Int) := of_decide_eq_true (by first | (with_reducible assumption) | assumption)
                                        obtain ⟨ad203, e203, hx203_0⟩ := Kd.at_int HR0.out x4_1 p203 q203
                                        cases e203
                                        replace hx203_0 := (HB.out.cell (World.block_lt_of_cell? w _ hx203_0)).trans hx203_0
                                        replace p203 := eq_true p203
                                        replace q203 := eq_true q203
                                        go_wp2
                                        go_roundg kj1
                                        case measure => have := HK1.out; have := HJ1.out; omega
                                        case rel => exact ⟨(x3_1), (wrap64 (x4_1 + 1)), (by first | rfl | (simp; done) | (simp [*]; done)), (by first | rfl | (simp; done) | (simp [*]; done)), H', ⟨by have := HK1.out; have := HJ1.out; omega⟩, ⟨by repeat (first | (with_reducible first | exact HB.out | apply below_alloc | apply pw_below_drewN | apply below_drew1) | exact HB.out)⟩⟩
              · rw [if_neg c6] at H
                exact absurd H (by simp)
            · rw [if_neg c5] at H
              exact absurd H (by simp)
          · replace c4 := Bool.eq_false_iff.mpr c4
            subst c4
            have H1 : (some x3_1) = some r := by rw [if_neg (show ¬ (false = true) by decide)] at H; exact H
            clear H
            have H := H1
            clear H1
            obtain rfl := Option.some.inj H
            go_wp2
            go_ret
            exact ⟨by first | rfl | (simp [errW_none, errW_some] <;> rfl) | (simp [*, errW_none, errW_some] <;> rfl), by repeat (first | (with_reducible first | exact HB.out | apply below_alloc | apply pw_below_drewN | apply below_drew1) | exact HB.out)⟩

/-! ### frisketlaw29_PipeBlocks: function 3 -/
def frisketlaw29_PipeBlocks.f (k : Nat) (a0 : ByteArray) (l1 : List Int) : Option (Bool) := if (a0.size : Int) > 1500 then ((frisketlaw29_sane.f k).bind fun t232 => (some t232)) else ((frisketlaw29_shaped.f k a0).bind fun t233 => (if t233 = true then ((frisketlaw29_Text.f k l1).bind fun t234 => ((frisketlaw29_shaped.f k t234).bind fun t235 => (if t235 = true then ((frisketlaw29_Text.f k l1).bind fun t236 => (if t236.size + a0.size ≤ 9223372036854775807 then ((frisketlaw29_shaped.f k (t236 ++ a0)).bind fun t237 => (if t237 = true then ((frisketlaw29_sane.f k).bind fun t238 => (some t238)) else (some false))) else (none))) else (some false)))) else (some false)))
theorem frisketlaw29_PipeBlocks.mono : ∀ a0 a1 k, LeO (frisketlaw29_PipeBlocks.f k a0 a1) (frisketlaw29_PipeBlocks.f (k + 1) a0 a1) := by
  intro a0 a1 k
  unfold frisketlaw29_PipeBlocks.f
  repeat' first
      | (with_reducible exact frisketlaw29_Text.mono _ _)
      | (with_reducible exact frisketlaw29_sane.mono _)
      | (with_reducible exact frisketlaw29_shaped.mono _ _)
      | (with_reducible exact LeO.refl _)
      | (with_reducible exact LeO.none _)
      | (with_reducible refine LeO.ite ?_ ?_)
      | (with_reducible refine LeO.bind ?_ (fun _ => ?_))
      | exact frisketlaw29_Text.mono _ _
      | exact frisketlaw29_sane.mono _
      | exact frisketlaw29_shaped.mono _ _
      | exact LeO.none _
      | refine LeO.ite ?_ ?_
      | refine LeO.bind ?_ (fun _ => ?_)
set_option maxHeartbeats 8000000 in
set_option maxRecDepth 100000 in
theorem frisketlaw29_PipeBlocks.calls (k : Nat) (a0 : ByteArray) (A1 : Option Addr) (c1 : Nat) (l1 : List Int) (r : Bool) (w : World) (hr1 : Kd.C (Kd.int .i64) w A1 l1.length l1) (hc1 : l1.length ≤ c1) (hv_ : LaidV w) (h : frisketlaw29_PipeBlocks.f k a0 l1 = some r) :
    Calls Tryz.prog 3 #[.string a0, .slice A1 l1.length c1] w fun e w' => e = .returned (.bool r) ∧ Below w.heap.size w w' := by
  have HV_ := Aside0.mk hv_
  clear hv_
  have HR1 := Aside0.mk hr1
  have HC1 := Aside0.mk hc1
  clear hr1 hc1
  have HB := Aside0.mk (Below.refl w.heap.size w)
  have H : (if (a0.size : Int) > 1500 then ((frisketlaw29_sane.f k).bind fun t232 => (some t232)) else ((frisketlaw29_shaped.f k a0).bind fun t233 => (if t233 = true then ((frisketlaw29_Text.f k l1).bind fun t234 => ((frisketlaw29_shaped.f k t234).bind fun t235 => (if t235 = true then ((frisketlaw29_Text.f k l1).bind fun t236 => (if t236.size + a0.size ≤ 9223372036854775807 then ((frisketlaw29_shaped.f k (t236 ++ a0)).bind fun t237 => (if t237 = true then ((frisketlaw29_sane.f k).bind fun t238 => (some t238)) else (some false))) else (none))) else (some false)))) else (some false)))) = some r := h
  clear h
  by_cases c3 : (a0.size : Int) > 1500
  · rw [if_pos c3] at H
    have c3b0 : decide (1500 < (a0.size : Int)) = true := decide_eq_true c3
    have c3b1 : decide (1500 < a0.size) = true := decide_eq_true (by omega)
    clear c3
    replace H := Option.bind_eq_some_iff.mp H
    obtain ⟨t232, A40, H⟩ := H
    replace H : (some t232) = some r := H
    have A4 := Aside0.mk A40
    clear A40
    obtain rfl := Option.some.inj H
    go_enter Tryz.func3, Tryz.ntmps3
    go_wp2_with (first | ((with_reducible refine gate_callee (f := 4) rfl ?_); refine goesL_ (some 8) rfl rfl Tryz.func4 (by kernel_rfl) rfl #[] rfl (by (try simp only [List.map_toArray, List.map_cons, List.map_nil]); first | done | rfl | (simp only [List.length_drop, List.length_take]; rfl)) ?_; (with_reducible refine (frisketlaw29_sane.calls k  t232 _ ?side1 A4.out).mono ?_); (case side1 => exact LaidV.mono HV_.out (by repeat (first | (with_reducible first | exact HB.out | apply below_alloc | apply pw_below_drewN | apply below_drew1) | exact HB.out))); rintro e w5 ⟨rfl, hb⟩; refine ⟨_, rfl, ?_⟩; have n0_ := Aside0.mk (below_step (by repeat (first | (with_reducible first | exact HB.out | apply below_alloc | apply pw_below_drewN | apply below_drew1) | exact HB.out)) hb); clear HB; have HB := n0_; clear n0_; (try clear hb); (try clear hb2); (try clear hk); (try clear hi)))
    go_ret
    exact ⟨by first | rfl | (simp [errW_none, errW_some] <;> rfl) | (simp [*, errW_none, errW_some] <;> rfl), by repeat (first | (with_reducible first | exact HB.out | apply below_alloc | apply pw_below_drewN | apply below_drew1) | exact HB.out)⟩
  · rw [if_neg c3] at H
    have c3b0 : decide (1500 < (a0.size : Int)) = false := decide_eq_false c3
    have c3b1 : decide (1500 < a0.size) = false := decide_eq_false (by omega)
    clear c3
    replace H := Option.bind_eq_some_iff.mp H
    obtain ⟨t233, A60, H⟩ := H
    replace H : (if t233 = true then ((frisketlaw29_Text.f k l1).bind fun t234 => ((frisketlaw29_shaped.f k t234).bind fun t235 => (if t235 = true then ((frisketlaw29_Text.f k l1).bind fun t236 => (if t236.size + a0.size ≤ 9223372036854775807 then ((frisketlaw29_shaped.f k (t236 ++ a0)).bind fun t237 => (if t237 = true then ((frisketlaw29_sane.f k).bind fun t238 => (some t238)) else (some false))) else (none))) else (some false)))) else (some false)) = some r := H
    have A6 := Aside0.mk A60
    clear A60
    by_cases c7 : t233 = true
    · subst c7
      have H1 : ((frisketlaw29_Text.f k l1).bind fun t234 => ((frisketlaw29_shaped.f k t234).bind fun t235 => (if t235 = true then ((frisketlaw29_Text.f k l1).bind fun t236 => (if t236.size + a0.size ≤ 9223372036854775807 then ((frisketlaw29_shaped.f k (t236 ++ a0)).bind fun t237 => (if t237 = true then ((frisketlaw29_sane.f k).bind fun t238 => (some t238)) else (some false))) else (none))) else (some false)))) = some r := by rw [if_pos rfl] at H; exact H
      clear H
      have H := H1
      clear H1
      replace H := Option.bind_eq_some_iff.mp H
      obtain ⟨t234, A80, H⟩ := H
      replace H : ((frisketlaw29_shaped.f k t234).bind fun t235 => (if t235 = true then ((frisketlaw29_Text.f k l1).bind fun t236 => (if t236.size + a0.size ≤ 9223372036854775807 then ((frisketlaw29_shaped.f k (t236 ++ a0)).bind fun t237 => (if t237 = true then ((frisketlaw29_sane.f k).bind fun t238 => (some t238)) else (some false))) else (none))) else (some false))) = some r := H
      have A8 := Aside0.mk A80
      clear A80
      replace H := Option.bind_eq_some_iff.mp H
      obtain ⟨t235, A90, H⟩ := H
      replace H : (if t235 = true then ((frisketlaw29_Text.f k l1).bind fun t236 => (if t236.size + a0.size ≤ 9223372036854775807 then ((frisketlaw29_shaped.f k (t236 ++ a0)).bind fun t237 => (if t237 = true then ((frisketlaw29_sane.f k).bind fun t238 => (some t238)) else (some false))) else (none))) else (some false)) = some r := H
      have A9 := Aside0.mk A90
      clear A90
      by_cases c10 : t235 = true
      · subst c10
        have H1 : ((frisketlaw29_Text.f k l1).bind fun t236 => (if t236.size + a0.size ≤ 9223372036854775807 then ((frisketlaw29_shaped.f k (t236 ++ a0)).bind fun t237 => (if t237 = true then ((frisketlaw29_sane.f k).bind fun t238 => (some t238)) else (some false))) else (none))) = some r := by rw [if_pos rfl] at H; exact H
        clear H
        have H := H1
        clear H1
        replace H := Option.bind_eq_some_iff.mp H
        obtain ⟨t236, A110, H⟩ := H
        replace H : (if t236.size + a0.size ≤ 9223372036854775807 then ((frisketlaw29_shaped.f k (t236 ++ a0)).bind fun t237 => (if t237 = true then ((frisketlaw29_sane.f k).bind fun t238 => (some t238)) else (some false))) else (none)) = some r := H
        have A11 := Aside0.mk A110
        have E_ : t236 = t234 := Option.some.inj (A11.out.symm.trans A8.out)
        subst t236
        clear A110
        by_cases c12 : t234.size + a0.size ≤ 9223372036854775807
        · rw [if_pos c12] at H
          have c12b0 := eq_true c12
          have c12b1 : decide (t234.size + a0.size ≤ 9223372036854775807) = true := decide_eq_true c12
          try have c12b2 : (9223372036854775807 < t234.size + a0.size) = False := eq_false (Nat.not_lt.2 c12)
          try (have c12b3 := c12b2; simp only [ByteArray.size_append, bsz, List.length_cons, List.length_nil, Nat.zero_add, Nat.reduceAdd] at c12b3)
          replace H := Option.bind_eq_some_iff.mp H
          obtain ⟨t237, A130, H⟩ := H
          replace H : (if t237 = true then ((frisketlaw29_sane.f k).bind fun t238 => (some t238)) else (some false)) = some r := H
          have A13 := Aside0.mk A130
          clear A130
          by_cases c14 : t237 = true
          · subst c14
            have H1 : ((frisketlaw29_sane.f k).bind fun t238 => (some t238)) = some r := by rw [if_pos rfl] at H; exact H
            clear H
            have H := H1
            clear H1
            replace H := Option.bind_eq_some_iff.mp H
            obtain ⟨t238, A150, H⟩ := H
            replace H : (some t238) = some r := H
            have A15 := Aside0.mk A150
            clear A150
            obtain rfl := Option.some.inj H
            go_enter Tryz.func3, Tryz.ntmps3
            go_wp2_with (first | ((with_reducible refine gate_callee (f := 5) rfl ?_); refine goesL_ (some 10) rfl rfl Tryz.func5 (by kernel_rfl) rfl #[.string a0] rfl (by (try simp only [List.map_toArray, List.map_cons, List.map_nil]); first | done | rfl | (simp only [List.length_drop, List.length_take]; rfl)) ?_; (with_reducible refine (frisketlaw29_shaped.calls k a0 true _ ?side1 A6.out).mono ?_); (case side1 => exact LaidV.mono HV_.out (by repeat (first | (with_reducible first | exact HB.out | apply below_alloc | apply pw_below_drewN | apply below_drew1) | exact HB.out))); rintro e w16 ⟨rfl, hb⟩; refine ⟨_, rfl, ?_⟩; have n0_ := Aside0.mk (below_step (by repeat (first | (with_reducible first | exact HB.out | apply below_alloc | apply pw_below_drewN | apply below_drew1) | exact HB.out)) hb); clear HB; have HB := n0_; clear n0_; (try clear hb); (try clear hb2); (try clear hk); (try clear hi)) | (go_at_call 6; (with_reducible refine (frisketlaw29_Text.calls k _ _ l1 t234 _ ?side1 ?side2 A8.out).mono ?_); (case side1 => repeat (first | exact (Kd.C_below HR1.out HB.out) | (with_reducible refine Kd.C_alloc ?_ _) | (with_reducible refine Kd.C_drewN ?_ _) | (with_reducible refine Kd.C_drew ?_))); (case side2 => exact HC1.out); rintro e w17 ⟨rfl, hb⟩; have n0_ := Aside0.mk (below_step (by repeat (first | (with_reducible first | exact HB.out | apply below_alloc | apply pw_below_drewN | apply below_drew1) | exact HB.out)) hb); clear HB; have HB := n0_; clear n0_; (try clear hb); (try clear hb2); (try clear hk); (try clear hi)) | (go_at_call 5; (with_reducible refine (frisketlaw29_shaped.calls k t234 true _ ?side1 A9.out).mono ?_); (case side1 => exact LaidV.mono HV_.out (by repeat (first | (with_reducible first | exact HB.out | apply below_alloc | apply pw_below_drewN | apply below_drew1) | exact HB.out))); rintro e w18 ⟨rfl, hb⟩; have n0_ := Aside0.mk (below_step (by repeat (first | (with_reducible first | exact HB.out | apply below_alloc | apply pw_below_drewN | apply below_drew1) | exact HB.out)) hb); clear HB; have HB := n0_; clear n0_; (try clear hb); (try clear hb2); (try clear hk); (try clear hi)) | (go_at_call 6; (with_reducible refine (frisketlaw29_Text.calls k _ _ l1 t234 _ ?side1 ?side2 A11.out).mono ?_); (case side1 => repeat (first | exact (Kd.C_below HR1.out HB.out) | (with_reducible refine Kd.C_alloc ?_ _) | (with_reducible refine Kd.C_drewN ?_ _) | (with_reducible refine Kd.C_drew ?_))); (case side2 => exact HC1.out); rintro e w19 ⟨rfl, hb⟩; have n0_ := Aside0.mk (below_step (by repeat (first | (with_reducible first | exact HB.out | apply below_alloc | apply pw_below_drewN | apply below_drew1) | exact HB.out)) hb); clear HB; have HB := n0_; clear n0_; (try clear hb); (try clear hb2); (try clear hk); (try clear hi)) | (go_at_call 5; (with_reducible refine (frisketlaw29_shaped.calls k (t234 ++ a0) true _ ?side1 A13.out).mono ?_); (case side1 => exact LaidV.mono HV_.out (by repeat (first | (with_reducible first | exact HB.out | apply below_alloc | apply pw_below_drewN | apply below_drew1) | exact HB.out))); rintro e w20 ⟨rfl, hb⟩; have n0_ := Aside0.mk (below_step (by repeat (first | (with_reducible first | exact HB.out | apply below_alloc | apply pw_below_drewN | apply below_drew1) | exact HB.out)) hb); clear HB; have HB := n0_; clear n0_; (try clear hb); (try clear hb2); (try clear hk); (try clear hi)) | (go_at_call 4; (with_reducible refine (frisketlaw29_sane.calls k  t238 _ ?side1 A15.out).mono ?_); (case side1 => exact LaidV.mono HV_.out (by repeat (first | (with_reducible first | exact HB.out | apply below_alloc | apply pw_below_drewN | apply below_drew1) | exact HB.out))); rintro e w21 ⟨rfl, hb⟩; have n0_ := Aside0.mk (below_step (by repeat (first | (with_reducible first | exact HB.out | apply below_alloc | apply pw_below_drewN | apply below_drew1) | exact HB.out)) hb); clear HB; have HB := n0_; clear n0_; (try clear hb); (try clear hb2); (try clear hk); (try clear hi)))
            go_ret
            exact ⟨by first | rfl | (simp [errW_none, errW_some] <;> rfl) | (simp [*, errW_none, errW_some] <;> rfl), by repeat (first | (with_reducible first | exact HB.out | apply below_alloc | apply pw_below_drewN | apply below_drew1) | exact HB.out)⟩
          · replace c14 := Bool.eq_false_iff.mpr c14
            subst c14
            have H1 : (some false) = some r := by rw [if_neg (show ¬ (false = true) by decide)] at H; exact H
            clear H
            have H := H1
            clear H1
            obtain rfl := Option.some.inj H
            go_enter Tryz.func3, Tryz.ntmps3
            go_wp2_with (first | ((with_reducible refine gate_callee (f := 5) rfl ?_); refine goesL_ (some 10) rfl rfl Tryz.func5 (by kernel_rfl) rfl #[.string a0] rfl (by (try simp only [List.map_toArray, List.map_cons, List.map_nil]); first | done | rfl | (simp only [List.length_drop, List.length_take]; rfl)) ?_; (with_reducible refine (frisketlaw29_shaped.calls k a0 true _ ?side1 A6.out).mono ?_); (case side1 => exact LaidV.mono HV_.out (by repeat (first | (with_reducible first | exact HB.out | apply below_alloc | apply pw_below_drewN | apply below_drew1) | exact HB.out))); rintro e w22 ⟨rfl, hb⟩; refine ⟨_, rfl, ?_⟩; have n0_ := Aside0.mk (below_step (by repeat (first | (with_reducible first | exact HB.out | apply below_alloc | apply pw_below_drewN | apply below_drew1) | exact HB.out)) hb); clear HB; have HB := n0_; clear n0_; (try clear hb); (try clear hb2); (try clear hk); (try clear hi)) | (go_at_call 6; (with_reducible refine (frisketlaw29_Text.calls k _ _ l1 t234 _ ?side1 ?side2 A8.out).mono ?_); (case side1 => repeat (first | exact (Kd.C_below HR1.out HB.out) | (with_reducible refine Kd.C_alloc ?_ _) | (with_reducible refine Kd.C_drewN ?_ _) | (with_reducible refine Kd.C_drew ?_))); (case side2 => exact HC1.out); rintro e w23 ⟨rfl, hb⟩; have n0_ := Aside0.mk (below_step (by repeat (first | (with_reducible first | exact HB.out | apply below_alloc | apply pw_below_drewN | apply below_drew1) | exact HB.out)) hb); clear HB; have HB := n0_; clear n0_; (try clear hb); (try clear hb2); (try clear hk); (try clear hi)) | (go_at_call 5; (with_reducible refine (frisketlaw29_shaped.calls k t234 true _ ?side1 A9.out).mono ?_); (case side1 => exact LaidV.mono HV_.out (by repeat (first | (with_reducible first | exact HB.out | apply below_alloc | apply pw_below_drewN | apply below_drew1) | exact HB.out))); rintro e w24 ⟨rfl, hb⟩; have n0_ := Aside0.mk (below_step (by repeat (first | (with_reducible first | exact HB.out | apply below_alloc | apply pw_below_drewN | apply below_drew1) | exact HB.out)) hb); clear HB; have HB := n0_; clear n0_; (try clear hb); (try clear hb2); (try clear hk); (try clear hi)) | (go_at_call 6; (with_reducible refine (frisketlaw29_Text.calls k _ _ l1 t234 _ ?side1 ?side2 A11.out).mono ?_); (case side1 => repeat (first | exact (Kd.C_below HR1.out HB.out) | (with_reducible refine Kd.C_alloc ?_ _) | (with_reducible refine Kd.C_drewN ?_ _) | (with_reducible refine Kd.C_drew ?_))); (case side2 => exact HC1.out); rintro e w25 ⟨rfl, hb⟩; have n0_ := Aside0.mk (below_step (by repeat (first | (with_reducible first | exact HB.out | apply below_alloc | apply pw_below_drewN | apply below_drew1) | exact HB.out)) hb); clear HB; have HB := n0_; clear n0_; (try clear hb); (try clear hb2); (try clear hk); (try clear hi)) | (go_at_call 5; (with_reducible refine (frisketlaw29_shaped.calls k (t234 ++ a0) false _ ?side1 A13.out).mono ?_); (case side1 => exact LaidV.mono HV_.out (by repeat (first | (with_reducible first | exact HB.out | apply below_alloc | apply pw_below_drewN | apply below_drew1) | exact HB.out))); rintro e w26 ⟨rfl, hb⟩; have n0_ := Aside0.mk (below_step (by repeat (first | (with_reducible first | exact HB.out | apply below_alloc | apply pw_below_drewN | apply below_drew1) | exact HB.out)) hb); clear HB; have HB := n0_; clear n0_; (try clear hb); (try clear hb2); (try clear hk); (try clear hi)))
            go_ret
            exact ⟨by first | rfl | (simp [errW_none, errW_some] <;> rfl) | (simp [*, errW_none, errW_some] <;> rfl), by repeat (first | (with_reducible first | exact HB.out | apply below_alloc | apply pw_below_drewN | apply below_drew1) | exact HB.out)⟩
        · rw [if_neg c12] at H
          exact absurd H (by simp)
      · replace c10 := Bool.eq_false_iff.mpr c10
        subst c10
        have H1 : (some false) = some r := by rw [if_neg (show ¬ (false = true) by decide)] at H; exact H
        clear H
        have H := H1
        clear H1
        obtain rfl := Option.some.inj H
        go_enter Tryz.func3, Tryz.ntmps3
        go_wp2_with (first | ((with_reducible refine gate_callee (f := 5) rfl ?_); refine goesL_ (some 10) rfl rfl Tryz.func5 (by kernel_rfl) rfl #[.string a0] rfl (by (try simp only [List.map_toArray, List.map_cons, List.map_nil]); first | done | rfl | (simp only [List.length_drop, List.length_take]; rfl)) ?_; (with_reducible refine (frisketlaw29_shaped.calls k a0 true _ ?side1 A6.out).mono ?_); (case side1 => exact LaidV.mono HV_.out (by repeat (first | (with_reducible first | exact HB.out | apply below_alloc | apply pw_below_drewN | apply below_drew1) | exact HB.out))); rintro e w27 ⟨rfl, hb⟩; refine ⟨_, rfl, ?_⟩; have n0_ := Aside0.mk (below_step (by repeat (first | (with_reducible first | exact HB.out | apply below_alloc | apply pw_below_drewN | apply below_drew1) | exact HB.out)) hb); clear HB; have HB := n0_; clear n0_; (try clear hb); (try clear hb2); (try clear hk); (try clear hi)) | (go_at_call 6; (with_reducible refine (frisketlaw29_Text.calls k _ _ l1 t234 _ ?side1 ?side2 A8.out).mono ?_); (case side1 => repeat (first | exact (Kd.C_below HR1.out HB.out) | (with_reducible refine Kd.C_alloc ?_ _) | (with_reducible refine Kd.C_drewN ?_ _) | (with_reducible refine Kd.C_drew ?_))); (case side2 => exact HC1.out); rintro e w28 ⟨rfl, hb⟩; have n0_ := Aside0.mk (below_step (by repeat (first | (with_reducible first | exact HB.out | apply below_alloc | apply pw_below_drewN | apply below_drew1) | exact HB.out)) hb); clear HB; have HB := n0_; clear n0_; (try clear hb); (try clear hb2); (try clear hk); (try clear hi)) | (go_at_call 5; (with_reducible refine (frisketlaw29_shaped.calls k t234 false _ ?side1 A9.out).mono ?_); (case side1 => exact LaidV.mono HV_.out (by repeat (first | (with_reducible first | exact HB.out | apply below_alloc | apply pw_below_drewN | apply below_drew1) | exact HB.out))); rintro e w29 ⟨rfl, hb⟩; have n0_ := Aside0.mk (below_step (by repeat (first | (with_reducible first | exact HB.out | apply below_alloc | apply pw_below_drewN | apply below_drew1) | exact HB.out)) hb); clear HB; have HB := n0_; clear n0_; (try clear hb); (try clear hb2); (try clear hk); (try clear hi)))
        go_ret
        exact ⟨by first | rfl | (simp [errW_none, errW_some] <;> rfl) | (simp [*, errW_none, errW_some] <;> rfl), by repeat (first | (with_reducible first | exact HB.out | apply below_alloc | apply pw_below_drewN | apply below_drew1) | exact HB.out)⟩
    · replace c7 := Bool.eq_false_iff.mpr c7
      subst c7
      have H1 : (some false) = some r := by rw [if_neg (show ¬ (false = true) by decide)] at H; exact H
      clear H
      have H := H1
      clear H1
      obtain rfl := Option.some.inj H
      go_enter Tryz.func3, Tryz.ntmps3
      go_wp2_with (first | ((with_reducible refine gate_callee (f := 5) rfl ?_); refine goesL_ (some 10) rfl rfl Tryz.func5 (by kernel_rfl) rfl #[.string a0] rfl (by (try simp only [List.map_toArray, List.map_cons, List.map_nil]); first | done | rfl | (simp only [List.length_drop, List.length_take]; rfl)) ?_; (with_reducible refine (frisketlaw29_shaped.calls k a0 false _ ?side1 A6.out).mono ?_); (case side1 => exact LaidV.mono HV_.out (by repeat (first | (with_reducible first | exact HB.out | apply below_alloc | apply pw_below_drewN | apply below_drew1) | exact HB.out))); rintro e w30 ⟨rfl, hb⟩; refine ⟨_, rfl, ?_⟩; have n0_ := Aside0.mk (below_step (by repeat (first | (with_reducible first | exact HB.out | apply below_alloc | apply pw_below_drewN | apply below_drew1) | exact HB.out)) hb); clear HB; have HB := n0_; clear n0_; (try clear hb); (try clear hb2); (try clear hk); (try clear hi)))
      go_ret
      exact ⟨by first | rfl | (simp [errW_none, errW_some] <;> rfl) | (simp [*, errW_none, errW_some] <;> rfl), by repeat (first | (with_reducible first | exact HB.out | apply below_alloc | apply pw_below_drewN | apply below_drew1) | exact HB.out)⟩

/-- THE ONE PURE STATEMENT of frisketlaw29_PipeBlocks: yours. -/
def frisketlaw29_PipeBlocks.Pure : Prop := ∀ (a0 : ByteArray) (l1 : List Int), a0.size ≤ 140737488351232 → l1.length ≤ maxLen → l1.length * 8 ≤ 140737488351232 → (∀ x ∈ l1, (Lit.int .i64 x).wf = true) → ∃ k, frisketlaw29_PipeBlocks.f k a0 l1 = some true
theorem frisketlaw29_PipeBlocks.walk (P : frisketlaw29_PipeBlocks.Pure) (a0 : ByteArray) (a1 : Option Addr) (len1 cap1 : Nat) (z1 : List Int) (w : World) (w0 : a0.size ≤ 140737488351232) (w1 : (a1 = none ∧ len1 = 0 ∧ cap1 = 0 ∧ z1 = []) ∨ ∃ x, a1 = some x ∧ len1 ≤ cap1 ∧ cap1 ≤ maxLen ∧ z1.length = cap1 ∧ (∀ i, i < z1.length → w.cell? (x.add i) = some (.int .i64 (z1.getD i 0))) ∧ ∀ n ∈ z1, (Lit.int .i64 n).wf = true) (y1 : len1 * 8 ≤ 140737488351232) (hv_ : LaidV w) :
    Calls Tryz.prog 3 #[.string a0, .slice a1 len1 cap1] w fun e w' => e = .returned (.bool true) ∧ Below w.heap.size w w' := by
  obtain ⟨l1, rfl, hr1, hm1, hw1, hc1⟩ := ReadsInt.ofRowC w1
  obtain ⟨k, h⟩ := P a0 l1 w0 hm1 y1 hw1
  refine (frisketlaw29_PipeBlocks.calls k a0 _ _ l1 true w (Kd.C_of_reads (d := (0 : Int)) (h1 := fun _ => rfl) hr1) hc1 hv_ h).mono ?_
  rintro e w' ⟨rfl, hd⟩
  exact ⟨rfl, hd⟩

end Go.Proofs.YtjgalagflhmhdaaGreatDoor.QPipe
