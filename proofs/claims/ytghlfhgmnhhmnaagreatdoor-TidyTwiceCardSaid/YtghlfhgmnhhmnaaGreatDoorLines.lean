/-
 tidy.lines: a text's lines, and whether none is too long. Condition: the text is shorter than 2^32 bytes (the library's own bound), else '.f' tells nothing.
-/
import Derived.Test.YtghlfhgmnhhmnaaGreatDoorGiven
import Derived.WalkKit
import Derived.WalkLawsBesides
import Derived.WalkSpells
import Derived.Deep.LoopGhost
namespace Go.Proofs.YtghlfhgmnhhmnaaGreatDoor.QTidy
open Go.RowKit Go.Proofs.YtghlfhgmnhhmnaaGreatDoorW.PrintWords Go.Proofs.YtghlfhgmnhhmnaaGreatDoorW.PrintLast Go.Proofs.YtghlfhgmnhhmnaaGreatDoorW.PrintMore
set_option linter.unusedVariables false
set_option linter.unusedSimpArgs false

/-- Is a line too long? -/
def longB (s : ByteArray) : Bool := decide (2000 < s.size)

theorem lines_long (s : ByteArray) (w : World) : Calls Tryz.prog 50 #[.string s] w fun e w' => e = .returned (.bool (longB s)) ∧ Drawn0 w w' := by
 go_enter Tryz.func50, Tryz.ntmps50
 go_wp2
 go_ret
 exact ⟨by rw [show longB s = decide ((2000 : Int) < (s.size : Int)) from by rw [longB, decide_eq_decide]; omega]; rfl, ⟨0, rfl⟩⟩

def firstLong : List ByteArray → Int → Int
 | [], _ => -1
 | s :: l, i => if longB s = true then i else firstLong l (i + 1)
theorem firstLong_any : ∀ (l : List ByteArray) (i : Int), 0 ≤ i → (decide (firstLong l i ≥ 0) = l.any longB)
 | [], i, h => by simp [firstLong]
 | s :: l, i, h => by
  unfold firstLong
  by_cases c : longB s = true
  ·rw [if_pos c, List.any_cons, c]; simpa using h
  ·rw [if_neg c, firstLong_any l (i + 1) (by omega), List.any_cons]
   simp [c]
theorem firstLong_drop (l : List ByteArray) (i : Nat) (h : i < l.length) : firstLong (l.drop i) i = if longB (l.getD i ByteArray.empty) = true then (i : Int) else firstLong (l.drop (i + 1)) ((i + 1 : Nat) : Int) := by
 rw [List.drop_eq_getElem_cons h, firstLong, List.getD_eq_getElem?_getD, List.getElem?_eq_getElem h]
 simp

set_option maxHeartbeats 2000000 in
theorem indexFunc_long (A0 : Option Addr) (c0 : Nat) (l0 : List ByteArray) (w : World) (hr0 : Kd.C Kd.string w A0 l0.length l0) (hc0 : l0.length ≤ c0) :
  Calls Tryz.prog 83 #[.slice A0 l0.length c0, .func (.func 50) #[] #[]] w fun e w' => e = .returned (.int .i64 (firstLong l0 0)) ∧ Drawn0 w w' := by
 have HR0 := Aside0.mk hr0
 have HL := Aside0.mk hr0.2.1
 clear hr0
 go_enter Tryz.func83, Tryz.ntmps83
 go_wp2
 go_loopg [8] l0.length (fun g v8 w' => ∃ i : Nat, v8 = .int .i64 i ∧ i + g = l0.length ∧ Aside0 (firstLong (l0.drop i) i = firstLong l0 0) ∧ Drawn0 w w')
 case atStart => exact ⟨0, rfl, by omega, ⟨rfl⟩, ⟨0, rfl⟩⟩
 case round =>
  obtain ⟨i, rfl, hi, HF, ⟨m, rfl⟩⟩ := hrel
  have hle := HL.out
  cases gk with
  | zero =>
   obtain rfl : i = l0.length := by omega
   have c0 : decide ((l0.length : Int) < (l0.length : Int)) = false := decide_eq_false (by omega)
   have hf : firstLong l0 0 = -1 := by rw [← HF.out, List.drop_length]; rfl
   have HG := Aside0.mk hf
   clear hf
   go_wp2
   go_ret
   exact ⟨by rw [HG.out]; rfl, ⟨m, rfl⟩⟩
  | succ g =>
   have hlt : i < l0.length := by omega
   obtain ⟨ad, e, hcell⟩ := Kd.at_string HR0.out (i : Int) (by omega) (by omega)
   cases e
   have hrd : rdOf ByteArray.empty l0 (i : Int) = l0.getD i ByteArray.empty := by simp [rdOf]
   rw [hrd, Int.toNat_natCast] at hcell
   clear hrd
   rw [firstLong_drop l0 i hlt] at HF
   generalize l0.getD i ByteArray.empty = x at hcell HF
   have hw1 : IntKind.i64.wrap ((i : Int) + 1) = (i : Int) + 1 := by simp [IntKind.wrap, IntKind.signed, IntKind.bits]; omega
   cases hlong : longB x
   ·have HLo := Aside0.mk hlong
    clear hlong
    go_wp2_with (go_at_call 50; refine (lines_long _ _).mono ?_; rintro e w' ⟨rfl, ⟨nd, rfl⟩⟩; rw [HLo.out])
    go_roundg g
    case measure => omega
    case rel => exact ⟨i + 1, by simp, by omega, ⟨by rw [← HF.out, HLo.out]; simp⟩, ⟨_, rfl⟩⟩
   ·have HLo := Aside0.mk hlong
    clear hlong
    go_wp2_with (go_at_call 50; refine (lines_long _ _).mono ?_; rintro e w' ⟨rfl, ⟨nd, rfl⟩⟩; rw [HLo.out])
    go_ret
    exact ⟨by rw [← HF.out, HLo.out]; simp, ⟨_, rfl⟩⟩

set_option maxHeartbeats 2000000 in
theorem containsFunc_long (A0 : Option Addr) (c0 : Nat) (l0 : List ByteArray) (w : World) (hr0 : Kd.C Kd.string w A0 l0.length l0) (hc0 : l0.length ≤ c0) :
  Calls Tryz.prog 49 #[.slice A0 l0.length c0, .func (.func 50) #[] #[]] w fun e w' => e = .returned (.bool (l0.any longB)) ∧ Drawn0 w w' := by
 have hC := fun W (h : Kd.C Kd.string W A0 l0.length l0) => indexFunc_long A0 c0 l0 W h hc0
 go_enter Tryz.func49, Tryz.ntmps49
 go_wp2_with (go_at_call 83; refine (indexFunc_long _ _ _ _ hr0 hc0).mono ?_; rintro e w' ⟨rfl, ⟨nd, rfl⟩⟩)
 go_ret
 exact ⟨by rw [← firstLong_any l0 0 (by omega)]; rfl, ⟨_, rfl⟩⟩

/-- A text's lines: the last line feed apart, cut at line feeds. -/
def cutLines (s : ByteArray) : List ByteArray := Lib.splitB ⟨#[10]⟩ 0 (Lib.countB ⟨(Lib.trimSuffix s.data.toList [10]).toArray⟩ ⟨#[10]⟩) ⟨(Lib.trimSuffix s.data.toList [10]).toArray⟩
def tidy_lines.f (a0 : ByteArray) : Option (List ByteArray × Bool) :=
 if 60000 < a0.size then some ([], false) else if a0.toList = [] then some ([], true) else some (cutLines a0, !(cutLines a0).any longB)
set_option maxHeartbeats 2000000 in
theorem tidy_lines.calls (a0 : ByteArray) (r1 : List ByteArray) (r2 : Bool) (w : World) (hv_ : LaidV w) (h : tidy_lines.f a0 = some (r1, r2)) :
  Calls Tryz.prog 23 #[.string a0] w fun e w' => ∃ v0_ : Value, e = .returned (.tuple #[v0_, .bool r2]) ∧ Kd.R Kd.string 9 w' w.heap.size (fun _ => True) v0_ r1 ∧ Below w.heap.size w w' := by
 unfold tidy_lines.f at h
 by_cases h1 : 60000 < a0.size
 ·rw [if_pos h1] at h
  obtain ⟨rfl, rfl⟩ := Prod.mk.inj (Option.some.inj h)
  have b1 : decide ((60000 : Int) < (a0.size : Int)) = true := decide_eq_true (by omega)
  go_enter Tryz.func23, Tryz.ntmps23
  go_wp2
  go_ret2
  exact ⟨_, rfl, Kd.R_nil _ _ _ _ _, Below.refl _ _⟩
 ·rw [if_neg h1] at h
  have b1 : decide ((60000 : Int) < (a0.size : Int)) = false := decide_eq_false (by omega)
  by_cases h2 : a0.toList = []
  ·rw [if_pos h2] at h
   obtain ⟨rfl, rfl⟩ := Prod.mk.inj (Option.some.inj h)
   have b2 : a0.toList.isEmpty = true := by rw [h2]; rfl
   go_enter Tryz.func23, Tryz.ntmps23
   go_wp2
   go_ret2
   exact ⟨_, rfl, Kd.R_nil _ _ _ _ _, Below.refl _ _⟩
  ·rw [if_neg h2] at h
   obtain ⟨rfl, rfl⟩ := Prod.mk.inj (Option.some.inj h)
   have b2 : a0.toList.isEmpty = false := by cases hl : a0.toList with
    | nil => exact absurd hl h2
    | cons _ _ => rfl
   have b3 : (a0.toList == []) = false := by rw [beq_eq_false_iff_ne]; exact h2
   have hsz : (Lib.trimSuffix a0.data.toList [10]).length < 4294967281 := by
    have h3 : (Lib.trimSuffix a0.data.toList [10]).length ≤ a0.data.toList.length := by unfold Lib.trimSuffix; split <;> first | exact Nat.le_refl _ | (simp only [List.length_take]; omega)
    have h4 : a0.data.toList.length = a0.size := (Lib.size_eq a0).symm
    omega
   have hS := fun W (hW : LaidV W) => strings_Split.calls ⟨(Lib.trimSuffix a0.data.toList [10]).toArray⟩ ⟨#[10]⟩ (cutLines a0) W hW (by unfold strings_Split.f cutLines; rw [if_pos ⟨by simpa [ByteArray.size] using hsz, by decide⟩])
   have HS := Aside0.mk hS
   clear hS h1 h2 hsz
   have HV := Aside0.mk hv_
   clear hv_
   have hs63 : a0.size ≤ 9223372036854775807 := by have := of_decide_eq_false b1; omega
   have HT := Aside0.mk (Tryz.strings_TrimSuffix a0 ⟨#[10]⟩ w hs63)
   clear hs63
   go_enter Tryz.func23, Tryz.ntmps23
   go_wp2_with fail
   refine HT.out.mono ?_
   rintro e w' ⟨rfl, hw⟩
   rw [hw]
   clear hw
   go_wp2_with fail
   refine (HS.out _ HV.out).mono ?_
   rintro e w1 ⟨v0, rfl, hR, hB⟩
   obtain ⟨A, c, hv, hlc, hC⟩ := Kd.R_reads hR
   subst hv
   have HR := Aside0.mk hR
   have HB := Aside0.mk hB
   have HC := Aside0.mk hC
   clear hR hB hC
   go_wp2_with fail
   refine (containsFunc_long _ _ _ _ HC.out hlc).mono ?_
   rintro e w' ⟨rfl, ⟨nd, rfl⟩⟩
   go_wp2
   go_ret2
   exact ⟨_, rfl, Kd.R_drewN HR.out _, pw_below_drewN HB.out _⟩

end Go.Proofs.YtghlfhgmnhhmnaaGreatDoor.QTidy
