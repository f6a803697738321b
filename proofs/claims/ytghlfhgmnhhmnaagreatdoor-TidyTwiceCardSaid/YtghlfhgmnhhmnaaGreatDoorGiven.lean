/-
 Contracts of functions of Go's library at this translation, in the form that the seat's printed texts use: for each function a plain Lean function '.f' ('none': outside of what is told here) and '.calls', which is proved of the shelf's contracts. Conditions: those of the '.f' alone; 'LaidV w' where a package-level variable of the library's is read.
-/
import Derived.Test.YtghlfhgmnhhmnaaGreatDoorShelf
import Derived.Test.YtghlfhgmnhhmnaaGreatDoorAny
import Derived.Shelf.Strings.SlTrimAscii
import Derived.WalkSmall
import Derived.Test.YtghlfhgmnhhmnaaGreatDoorWWords
import Derived.Test.YtghlfhgmnhhmnaaGreatDoorWLast
import Derived.Test.YtghlfhgmnhhmnaaGreatDoorWMore
namespace Go.Proofs.YtghlfhgmnhhmnaaGreatDoor.QTidy
open Go.RowKit Go.Proofs.YtghlfhgmnhhmnaaGreatDoorW.PrintWords Go.Proofs.YtghlfhgmnhhmnaaGreatDoorW.PrintLast Go.Proofs.YtghlfhgmnhhmnaaGreatDoorW.PrintMore

/-- What the library's package-level variables hold: bytealg.MaxLen some int, strings.asciiSpace its table. -/
def LaidV (w : World) : Prop := (∃ m : Int, w.cell? ⟨1, 0, none⟩ = some (.int .i64 m)) ∧ Lib.TabIs Tryz.prog w "strings.asciiSpace" .u8 Lib.asciiSpaceTab ∧ 1 < w.heap.size

theorem globalAscii : Tryz.prog.globalNamed "strings.asciiSpace" = some 0 := by kernel_rfl

theorem LaidV.mono {w w' : World} (h : LaidV w) (hb : Below w.heap.size w w') : LaidV w' := by
 obtain ⟨⟨m, hm⟩, ht, hs⟩ := h
 refine ⟨⟨m, ?_⟩, ?_, Nat.lt_of_lt_of_le hs hb.size⟩
 ·exact (hb.cell (p := ⟨1, 0, none⟩) (Nat.lt_of_le_of_lt (by decide) hs)).trans hm
 ·exact var?_below hb globalAscii (Nat.lt_of_le_of_lt (by decide) hs) ht

def AsciiB (s : ByteArray) : Bool := s.data.toList.all fun b => decide (b.toNat < 128)
theorem AsciiB.get {s : ByteArray} (h : AsciiB s = true) : ∀ (j : Nat) (b : UInt8), s.data.toList[j]? = some b → b.toNat < 128 := by
 intro j b hj
 have := List.all_eq_true.1 h b (List.mem_of_getElem? hj)
 simpa using this

theorem bsz (l : List UInt8) : (⟨⟨l⟩⟩ : ByteArray).size = l.length := rfl
/-- A block's field that is stored twice and read again. -/
theorem dbl_set {w : World} {g : Nat} {t : TypeId} {c0 c1 c2 c3 : Value} (h : w.heap[g]? = some (.cells #[c0, c1, c2, c3] t (0, 0))) : ∀ u0 u1 u2 : Value, (((w.setCell ⟨g, 0, none⟩ u0).setCell ⟨g, 2, none⟩ u1).setCell ⟨g, 2, none⟩ u2).cell? ⟨g, 2, none⟩ = some u2 :=
 fun u0 u1 u2 => (blk_cell (blk_set (blk_set (blk_set h 0 u0) 2 u1) 2 u2) 2).trans rfl
theorem drawn0_of_eq {w w' : World} (h : w' = w) : Drawn0 w w' := by subst h; exact ⟨0, rfl⟩

/-! ### strings.IndexByte -/
def strings_IndexByte.f (a0 : ByteArray) (a1 : Int) : Option Int := some (Lib.indexByte a0.data.toList a1.toNat.toUInt8)
theorem strings_IndexByte.calls (a0 : ByteArray) (a1 : Int) (r : Int) (w : World) (h : strings_IndexByte.f a0 a1 = some r) :
  Calls Tryz.prog 58 #[.string a0, .int .u8 a1] w fun e w' => e = .returned (.int .i64 r) ∧ Drawn0 w w' := by
 obtain rfl := Option.some.inj h
 exact (Tryz.strings_IndexByte a0 a1 w).mono fun e w' hw => ⟨hw.1, drawn0_of_eq hw.2⟩

/-! ### strings.Contains, one byte -/
def strings_Contains.f (a0 : ByteArray) (a1 : ByteArray) : Option Bool := match a1 with
 | ⟨⟨[c]⟩⟩ => some (decide (0 ≤ Lib.indexByte a0.data.toList c))
 | _ => none
theorem strings_Contains.calls (a0 : ByteArray) (a1 : ByteArray) (r : Bool) (w : World) (h : strings_Contains.f a0 a1 = some r) :
  Calls Tryz.prog 19 #[.string a0, .string a1] w fun e w' => e = .returned (.bool r) ∧ Drawn0 w w' := by
 unfold strings_Contains.f at h
 split at h
 ·obtain rfl := Option.some.inj h
  exact (Tryz.strings_Contains_one a0 _ w).mono fun e w' hw => ⟨hw.1, drawn0_of_eq hw.2⟩
 ·cases h

/-! ### strings.TrimRight, one ASCII byte -/
def strings_TrimRight.f (a0 : ByteArray) (a1 : ByteArray) : Option ByteArray := match a1 with
 | ⟨⟨[c]⟩⟩ => if c.toNat < 128 ∧ a0.size ≤ 9223372036854775807 then some ⟨(Lib.trimRightB a0.data.toList c).toArray⟩ else none
 | _ => none
theorem strings_TrimRight.calls (a0 : ByteArray) (a1 : ByteArray) (r : ByteArray) (w : World) (h : strings_TrimRight.f a0 a1 = some r) :
  Calls Tryz.prog 91 #[.string a0, .string a1] w fun e w' => e = .returned (.string r) ∧ Drawn0 w w' := by
 unfold strings_TrimRight.f at h
 split at h
 ·rename_i c
  by_cases hc : c.toNat < 128 ∧ a0.size ≤ 9223372036854775807
  ·rw [if_pos hc] at h
   obtain rfl := Option.some.inj h
   exact (Tryz.strings_TrimRight_one a0 c hc.1 w hc.2).mono fun e w' hw => ⟨hw.1, drawn0_of_eq hw.2⟩
  ·rw [if_neg hc] at h; cases h
 ·cases h

/-! ### strings.TrimLeft, an ASCII cutset -/
def strings_TrimLeft.f (a0 : ByteArray) (a1 : ByteArray) : Option ByteArray := if AsciiB a1 = true ∧ a1.size < 4294967281 then some ⟨(Lib.trimLeftS a0.data.toList a1.data.toList).toArray⟩ else none
theorem strings_TrimLeft.calls (a0 : ByteArray) (a1 : ByteArray) (r : ByteArray) (w : World) (h : strings_TrimLeft.f a0 a1 = some r) :
  Calls Tryz.prog 35 #[.string a0, .string a1] w fun e w' => e = .returned (.string r) ∧ Below w.heap.size w w' := by
 unfold strings_TrimLeft.f at h
 by_cases hc : AsciiB a1 = true ∧ a1.size < 4294967281
 ·rw [if_pos hc] at h
  obtain rfl := Option.some.inj h
  exact Any.strings_TrimLeft_laid Tryz.lays161 (by kernel_rfl) a0 a1 w hc.2 (AsciiB.get hc.1)
 ·rw [if_neg hc] at h; cases h

/-! ### strings.IndexAny, chars of ASCII -/
def strings_IndexAny.f (a0 : ByteArray) (a1 : ByteArray) : Option Int := if (a0.size < 4294967281 ∧ a1.size < 4294967281) ∧ AsciiB a1 = true then some (Lib.indexAny a0.data.toList a1.data.toList) else none
theorem strings_IndexAny.calls (a0 : ByteArray) (a1 : ByteArray) (r : Int) (w : World) (h : strings_IndexAny.f a0 a1 = some r) :
  Calls Tryz.prog 36 #[.string a0, .string a1] w fun e w' => e = .returned (.int .i64 r) ∧ Below w.heap.size w w' := by
 unfold strings_IndexAny.f at h
 split at h
 ·rename_i hc
  obtain rfl := Option.some.inj h
  exact Any.strings_IndexAny_any Tryz.lays153 (by kernel_rfl) a0 a1 w hc.1.1 hc.1.2 (AsciiB.get hc.2)
 ·cases h

/-! ### strings.ContainsAny, chars of ASCII -/
def strings_ContainsAny.f (a0 : ByteArray) (a1 : ByteArray) : Option Bool := if (a0.size < 4294967281 ∧ a1.size < 4294967281) ∧ AsciiB a1 = true then some (Lib.containsAny a0.data.toList a1.data.toList) else none
theorem strings_ContainsAny.calls (a0 : ByteArray) (a1 : ByteArray) (r : Bool) (w : World) (h : strings_ContainsAny.f a0 a1 = some r) :
  Calls Tryz.prog 70 #[.string a0, .string a1] w fun e w' => e = .returned (.bool r) ∧ Below w.heap.size w w' := by
 unfold strings_ContainsAny.f at h
 split at h
 ·rename_i hc
  obtain rfl := Option.some.inj h
  exact Any.strings_ContainsAny_any Tryz.lays150 (by kernel_rfl) a0 a1 w hc.1.1 hc.1.2 (AsciiB.get hc.2)
 ·cases h

/-- A row that the call has just laid. -/
theorem row_laid (w : World) (xs : List ByteArray) (hm : xs.length ≤ 9223372036854775807) : Kd.R Kd.string 9 (w.alloc (.cells (xs.map Value.string).toArray 9)) w.heap.size (fun _ => True) (.slice (some ⟨w.heap.size, 0, none⟩) xs.length xs.length) xs := by
 refine Kd.R_of_own ?_ (fun _ _ => trivial)
 have h2 := World.ownsRow_lit (base := w.heap.size) (e := 9) (size := 1) w (xs.map Value.string).toArray xs.length (Nat.le_refl _) (by simpa [maxLen] using hm) (by simp)
 simpa [encs] using h2

/-! ### strings.Fields, ASCII -/
def strings_Fields.f (a0 : ByteArray) : Option (List ByteArray) := if a0.size < 4294967281 ∧ AsciiB a0 = true ∧ (Lib.fields a0.data.toList).length ≤ 9223372036854775807 then some ((Lib.fields a0.data.toList).map fun l => ⟨l.toArray⟩) else none
theorem strings_Fields.calls (a0 : ByteArray) (r : List ByteArray) (w : World) (hv_ : LaidV w) (h : strings_Fields.f a0 = some r) :
  Calls Tryz.prog 38 #[.string a0] w fun e w' => ∃ v0_ : Value, e = .returned (v0_) ∧ Kd.R Kd.string 9 w' w.heap.size (fun _ => True) v0_ r ∧ Below w.heap.size w w' := by
 unfold strings_Fields.f at h
 split at h
 ·rename_i hc
  obtain rfl := Option.some.inj h
  refine (Tryz.strings_Fields_laid a0 w hc.1 (AsciiB.get hc.2.1) hv_.2.1).mono ?_
  rintro e w' ⟨rfl, rfl⟩
  have hr := row_laid w ((Lib.fields a0.data.toList).map fun l => (⟨l.toArray⟩ : ByteArray)) (by simpa using hc.2.2)
  rw [List.length_map, List.map_map] at hr
  exact ⟨_, rfl, hr, below_alloc (Below.refl _ _) _⟩
 ·cases h

/-! ### strings.Split, one byte or more -/
def strings_Split.f (a0 : ByteArray) (a1 : ByteArray) : Option (List ByteArray) := if a0.size < 4294967281 ∧ 1 ≤ a1.size then some (Lib.splitB a1 0 (Lib.countB a0 a1) a0) else none
theorem strings_Split.calls (a0 : ByteArray) (a1 : ByteArray) (r : List ByteArray) (w : World) (hv_ : LaidV w) (h : strings_Split.f a0 a1 = some r) :
  Calls Tryz.prog 47 #[.string a0, .string a1] w fun e w' => ∃ v0_ : Value, e = .returned (v0_) ∧ Kd.R Kd.string 9 w' w.heap.size (fun _ => True) v0_ r ∧ Below w.heap.size w w' := by
 unfold strings_Split.f at h
 split at h
 ·rename_i hc
  obtain rfl := Option.some.inj h
  obtain ⟨m, hm⟩ := hv_.1
  refine (Tryz.strings_Split a0 a1 m w hc.1 hm hc.2).mono ?_
  rintro e w' ⟨rfl, rfl⟩
  have hl := Lib.splitB_all a1 hc.2 0 _ a0 rfl
  have hle := Lib.countB_le a1 hc.2 _ a0 (Nat.le_refl _)
  have hr := row_laid w (Lib.splitB a1 0 (Lib.countB a0 a1) a0) (by omega)
  rw [hl] at hr
  exact ⟨_, rfl, hr, below_alloc (Below.refl _ _) _⟩
 ·cases h

/-! ### strings.ReplaceAll -/
def strings_ReplaceAll.f (a0 : ByteArray) (a1 : ByteArray) (a2 : ByteArray) : Option ByteArray := if a0.size < 4294967281 ∧ 1 ≤ a1.size ∧ a0.size + Lib.countB a0 a1 * a2.size ≤ 140737488355328 then some ⟨(Lib.replaceAll a0.data.toList a1.data.toList a2.data.toList).toArray⟩ else none
theorem strings_ReplaceAll.calls (a0 : ByteArray) (a1 : ByteArray) (a2 : ByteArray) (r : ByteArray) (w : World) (hv_ : LaidV w) (h : strings_ReplaceAll.f a0 a1 a2 = some r) :
  Calls Tryz.prog 104 #[.string a0, .string a1, .string a2] w fun e w' => e = .returned (.string r) ∧ Below w.heap.size w w' := by
 unfold strings_ReplaceAll.f at h
 split at h
 ·rename_i hc
  obtain rfl := Option.some.inj h
  obtain ⟨m, hm⟩ := hv_.1
  exact Tryz.strings_ReplaceAll a0 a1 a2 m w hc.1 hm hc.2.1 hc.2.2
 ·cases h

/-! ### strings.Join -/
def strings_Join.f (l0 : List ByteArray) (a1 : ByteArray) : Option ByteArray := if l0.length ≤ 140737488355328 ∧ (Lib.join (l0.map (·.data.toList)) a1.data.toList).length ≤ 140737488355328 then some ⟨(Lib.join (l0.map (·.data.toList)) a1.data.toList).toArray⟩ else none
theorem strings_Join.calls (A0 : Option Addr) (c0 : Nat) (l0 : List ByteArray) (a1 : ByteArray) (r : ByteArray) (w : World) (hr0 : Kd.C Kd.string w A0 l0.length l0) (hc0 : l0.length ≤ c0) (h : strings_Join.f l0 a1 = some r) :
  Calls Tryz.prog 24 #[.slice A0 l0.length c0, .string a1] w fun e w' => e = .returned (.string r) ∧ Below w.heap.size w w' := by
 unfold strings_Join.f at h
 split at h
 ·rename_i hc
  obtain rfl := Option.some.inj h
  have hr := Kd.reads_of_C (d := ByteArray.empty) hr0
  cases l0 with
  | nil => exact (Tryz.strings_Join_none A0 c0 a1 w).mono fun e w' hw => by obtain ⟨rfl, rfl⟩ := hw; exact ⟨rfl, Below.refl _ _⟩
  | cons x xs =>
   obtain ⟨⟨b, o, s⟩, rfl, hcell⟩ := hr.2.2 (by simp)
   have h0 := hcell 0 (by simp)
   obtain rfl : s = none := by
    cases s with
    | none => rfl
    | some s =>
     exfalso
     simp only [Addr.add, if_true, World.cell?, Option.isSome_some] at h0
     split at h0 <;> cases h0
   refine Tryz.strings_Join b o c0 (x :: xs) a1 w (fun j y hj => ?_) ?_ hc.1 hc0 hc.2
   ·obtain ⟨hl, hp⟩ := List.getElem?_eq_some_iff.1 hj
    have h2 := hcell j hl
    rw [List.getD_eq_getElem?_getD, hj] at h2
    simp only [Addr.add] at h2
    split at h2
    ·subst j; simpa using h2
    ·simpa using h2
   ·exact World.block_lt_of_cell? w _ h0
 ·cases h
end Go.Proofs.YtghlfhgmnhhmnaaGreatDoor.QTidy
