/-
  Contracts of functions of Go's library at this translation, in the form that the seat's printed texts use: for each function a plain Lean function '.f' ('none': outside of what is told here) and '.calls', which is proved of the shelf's contracts. Conditions: those of the '.f' alone; 'LaidV w' where a package-level variable of the library's is read.
-/
import Derived.Test.YtjgalagflhmhdaaGreatDoorShelf
import Derived.Test.YtjgalagflhmhdaaGreatDoorAny
import Derived.WalkSmall
import Derived.Test.YtjgalagflhmhdaaGreatDoorWWords
import Derived.Test.YtjgalagflhmhdaaGreatDoorWLast
import Derived.Test.YtjgalagflhmhdaaGreatDoorWMore
namespace Go.Proofs.YtjgalagflhmhdaaGreatDoor.QPipe
open Go.RowKit Go.Proofs.YtjgalagflhmhdaaGreatDoorW.PrintWords Go.Proofs.YtjgalagflhmhdaaGreatDoorW.PrintLast Go.Proofs.YtjgalagflhmhdaaGreatDoorW.PrintMore

/-- What the library's package-level variable holds: bytealg.MaxLen some int. -/
def LaidV (w : World) : Prop := (∃ m : Int, w.cell? ⟨0, 0, none⟩ = some (.int .i64 m)) ∧ 0 < w.heap.size
theorem LaidV.mono {w w' : World} (h : LaidV w) (hb : Below w.heap.size w w') : LaidV w' := by
  obtain ⟨⟨m, hm⟩, hs⟩ := h
  refine ⟨⟨m, ?_⟩, Nat.lt_of_lt_of_le hs hb.size⟩
  exact (hb.cell (p := ⟨0, 0, none⟩) (Nat.lt_of_le_of_lt (by decide) hs)).trans hm

def AsciiB (s : ByteArray) : Bool := s.data.toList.all fun b => decide (b.toNat < 128)
theorem AsciiB.get {s : ByteArray} (h : AsciiB s = true) : ∀ (j : Nat) (b : UInt8), s.data.toList[j]? = some b → b.toNat < 128 := by
  intro j b hj
  have := List.all_eq_true.1 h b (List.mem_of_getElem? hj)
  simpa using this

theorem bsz (l : List UInt8) : (⟨⟨l⟩⟩ : ByteArray).size = l.length := rfl
theorem drawn0_of_eq {w w' : World} (h : w' = w) : Drawn0 w w' := by subst h; exact ⟨0, rfl⟩

/-! ### strings.IndexByte -/
def strings_IndexByte.f (a0 : ByteArray) (a1 : Int) : Option Int := some (Lib.indexByte a0.data.toList a1.toNat.toUInt8)
theorem strings_IndexByte.calls (a0 : ByteArray) (a1 : Int) (r : Int) (w : World) (h : strings_IndexByte.f a0 a1 = some r) :
    Calls Tryz.prog 16 #[.string a0, .int .u8 a1] w fun e w' => e = .returned (.int .i64 r) ∧ Drawn0 w w' := by
  obtain rfl := Option.some.inj h
  exact (Tryz.strings_IndexByte a0 a1 w).mono fun e w' hw => ⟨hw.1, drawn0_of_eq hw.2⟩

/-! ### strings.ContainsAny, chars of ASCII -/
def strings_ContainsAny.f (a0 : ByteArray) (a1 : ByteArray) : Option Bool := if (a0.size < 4294967281 ∧ a1.size < 4294967281) ∧ AsciiB a1 = true then some (Lib.containsAny a0.data.toList a1.data.toList) else none
theorem strings_ContainsAny.calls (a0 : ByteArray) (a1 : ByteArray) (r : Bool) (w : World) (h : strings_ContainsAny.f a0 a1 = some r) :
    Calls Tryz.prog 18 #[.string a0, .string a1] w fun e w' => e = .returned (.bool r) ∧ Below w.heap.size w w' := by
  unfold strings_ContainsAny.f at h
  split at h
  · rename_i hc
    obtain rfl := Option.some.inj h
    exact Any.strings_ContainsAny_any Tryz.lays150 (by kernel_rfl) a0 a1 w hc.1.1 hc.1.2 (AsciiB.get hc.2)
  · cases h

/-- A row that the call has just laid. -/
theorem row_laid (w : World) (xs : List ByteArray) (hm : xs.length ≤ 9223372036854775807) : Kd.R Kd.string 9 (w.alloc (.cells (xs.map Value.string).toArray 9)) w.heap.size (fun _ => True) (.slice (some ⟨w.heap.size, 0, none⟩) xs.length xs.length) xs := by
  refine Kd.R_of_own ?_ (fun _ _ => trivial)
  have h2 := World.ownsRow_lit (base := w.heap.size) (e := 9) (size := 1) w (xs.map Value.string).toArray xs.length (Nat.le_refl _) (by simpa [maxLen] using hm) (by simp)
  simpa [encs] using h2

/-! ### strings.Split, one byte or more -/
def strings_Split.f (a0 : ByteArray) (a1 : ByteArray) : Option (List ByteArray) := if a0.size < 4294967281 ∧ 1 ≤ a1.size then some (Lib.splitB a1 0 (Lib.countB a0 a1) a0) else none
theorem strings_Split.calls (a0 : ByteArray) (a1 : ByteArray) (r : List ByteArray) (w : World) (hv_ : LaidV w) (h : strings_Split.f a0 a1 = some r) :
    Calls Tryz.prog 19 #[.string a0, .string a1] w fun e w' => ∃ v0_ : Value, e = .returned (v0_) ∧ Kd.R Kd.string 9 w' w.heap.size (fun _ => True) v0_ r ∧ Below w.heap.size w w' := by
  unfold strings_Split.f at h
  split at h
  · rename_i hc
    obtain rfl := Option.some.inj h
    obtain ⟨m, hm⟩ := hv_.1
    refine (Tryz.strings_Split a0 a1 m w hc.1 hm hc.2).mono ?_
    rintro e w' ⟨rfl, rfl⟩
    have hl := Lib.splitB_all a1 hc.2 0 _ a0 rfl
    have hle := Lib.countB_le a1 hc.2 _ a0 (Nat.le_refl _)
    have hr := row_laid w (Lib.splitB a1 0 (Lib.countB a0 a1) a0) (by omega)
    rw [hl] at hr
    exact ⟨_, rfl, hr, below_alloc (Below.refl _ _) _⟩
  · cases h

/-! ### strings.Cut -/
def strings_Cut.f (a0 : ByteArray) (a1 : ByteArray) : Option (ByteArray × ByteArray × Bool) := if a0.size < 4294967281 then some (⟨(Lib.cut a0.data.toList a1.data.toList).1.toArray⟩, ⟨(Lib.cut a0.data.toList a1.data.toList).2.1.toArray⟩, (Lib.cut a0.data.toList a1.data.toList).2.2) else none
theorem strings_Cut.calls (a0 : ByteArray) (a1 : ByteArray) (r1 r2 : ByteArray) (r3 : Bool) (w : World) (hv_ : LaidV w) (h : strings_Cut.f a0 a1 = some (r1, r2, r3)) :
    Calls Tryz.prog 17 #[.string a0, .string a1] w fun e w' => e = .returned (.tuple #[.string r1, .string r2, .bool r3]) ∧ Drawn0 w w' := by
  unfold strings_Cut.f at h
  split at h
  · rename_i hc
    obtain ⟨rfl, h2⟩ := Prod.mk.inj (Option.some.inj h)
    obtain ⟨rfl, rfl⟩ := Prod.mk.inj h2
    obtain ⟨m, hm⟩ := hv_.1
    refine (Tryz.strings_Cut a0 a1 m w hc hm).mono ?_
    rintro e w' ⟨rfl, n, rfl⟩
    exact ⟨rfl, n, rfl⟩
  · cases h
end Go.Proofs.YtjgalagflhmhdaaGreatDoor.QPipe
