/-
  frisketlaw37.TidyMade: the checks by the kernel, line by line.
-/
import Derived.Test.YtghlfhgmnhhmnaaGreatDoorSameLaw
import Derived.Test.YtghlfhgmnhhmnaaGreatDoorQTidyx15
namespace Go.Proofs.YtghlfhgmnhhmnaaGreatDoor.QTidy
open Go.RowKit Go.Proofs.YtghlfhgmnhhmnaaGreatDoorW.PrintWords Go.Proofs.YtghlfhgmnhhmnaaGreatDoorW.PrintLast Go.Proofs.YtghlfhgmnhhmnaaGreatDoorW.PrintMore
set_option linter.unusedVariables false
set_option linter.unusedSimpArgs false

/-- The lines of 'bits'. -/
def bitsL : List ByteArray := (frisketlaw37_bits.f).getD []
theorem bits_some : frisketlaw37_bits.f = some bitsL := rfl
theorem bits_len : bitsL.length = 49 := rfl
theorem bits_size : ∀ x ∈ bitsL, x.size ≤ 16 := by decide
theorem bits_no : ∀ x ∈ bitsL, 10 ∉ x.data.toList := by decide +kernel
theorem mem_any {l : List ByteArray} {p : ByteArray} (h : (l.any fun y => decide (y = p)) = true) : p ∈ l := by
  obtain ⟨y, hy, e⟩ := List.any_eq_true.1 h
  rw [← of_decide_eq_true e]; exact hy
theorem mem_any2 {l : List (ByteArray × ByteArray)} {p q : ByteArray} (h : (l.any fun y => decide (y.1 = p) && decide (y.2 = q)) = true) : (p, q) ∈ l := by
  obtain ⟨y, hy, e⟩ := List.any_eq_true.1 h
  simp only [Bool.and_eq_true, decide_eq_true_eq] at e
  rw [← e.1, ← e.2]; exact hy
theorem nilT : (⟨#[]⟩ : ByteArray).toList = [] := by rw [Lib.toList_data]
theorem bits_nil : (⟨#[]⟩ : ByteArray) ∈ bitsL := mem_any (by decide +kernel)

/-- The ends of definitions and of blocks that these lines bring. -/
def defL : List ByteArray := [⟨#[46]⟩, ⟨#[121, 121]⟩, ⟨#[101, 110]⟩]
def blkL2 : List (ByteArray × ByteArray) := [(⟨#[46, 84, 69]⟩, ⟨#[84, 69]⟩), (⟨#[46, 69, 78]⟩, ⟨#[69, 78]⟩), (⟨#[46, 80, 69]⟩, ⟨#[80, 69]⟩), (⟨#[46, 71, 50]⟩, ⟨#[71, 50]⟩), (⟨#[46, 67, 69]⟩, ⟨#[67, 69]⟩), (⟨#[46, 93]⟩, ⟨#[93]⟩)]
def chkJ (K : Nat) (x : ByteArray) : Bool := match tidy_joins.f x, frisketref37_joins.f K x with
  | some a, some b => a == b
  | _, _ => false
def chkL (K : Nat) (x : ByteArray) : Bool := match tidy_line.f K x, frisketref37_line.f K x with
  | some a, some b => decide (a = b) && decide (a.size ≤ 100)
  | _, _ => false
def chkD (K : Nat) (x d : ByteArray) : Bool := match stepF K x d ⟨#[]⟩ true, stepR K x false 1 d with
  | some (n, d', b', w'), some (n2, wn', e') => decide (n = n2) && decide (d' = d) && decide (b' = ⟨#[]⟩) && ((w' && decide (wn' = 1) && decide (e' = d)) || (!w' && decide (wn' = 0)))
  | _, _ => false
def eqO : Option Bool → Option Bool → Bool
  | some a, some c => a == c
  | _, _ => false
def chkB (x b e : ByteArray) : Bool := eqO (tidy_opens.f x b) (frisketref37_begins.f x e)
def chkF (K : Nat) (x : ByteArray) : Bool := match tidy_begins.f K x, frisketref37_definition.f K x with
  | some (p, is), some (p2, is2) => is == is2 && (if is = true then decide (p = p2) && (defL.any fun y => decide (y = p)) else match blkF x, blkR x blkPairs 0 ⟨#[]⟩ with
    | some b', some (wn', e') => (decide (b' = ⟨#[]⟩) && decide (wn' = 0)) || (decide (wn' = 2) && (blkL2.any fun y => decide (y.1 = b') && decide (y.2 = e')))
    | _, _ => false)
  | _, _ => false
theorem ckJ : ∀ x ∈ bitsL, chkJ 300 x = true := by decide +kernel
theorem ckL : ∀ x ∈ bitsL, chkL 300 x = true := by decide +kernel
theorem ckD : ∀ x ∈ bitsL, ∀ d ∈ defL, chkD 300 x d = true := by decide +kernel
theorem ckB : ∀ x ∈ bitsL, ∀ p ∈ blkL2, chkB x p.1 p.2 = true := by decide +kernel
theorem ckF : ∀ x ∈ bitsL, chkF 300 x = true := by decide +kernel
theorem blk2_ne : ∀ p ∈ blkL2, ¬ p.1.toList = [] := by decide +kernel
theorem mSane : frisketlaw37_sane.f 300 = some true := by decide +kernel

end Go.Proofs.YtghlfhgmnhhmnaaGreatDoor.QTidy
