-- written by a program of this session (wip/myprint.py, over the kit's print)
import Derived.Test.YtghlfhgmnhhmnaaDoorQTidyx0
namespace Go.Proofs.YtghlfhgmnhhmnaaDoor.QTidy
open Go.RowKit Go.Proofs.YtghlfhgmnhhmnaaDoorW.PrintWords Go.Proofs.YtghlfhgmnhhmnaaDoorW.PrintLast Go.Proofs.YtghlfhgmnhhmnaaDoorW.PrintMore
attribute [local go_sem] max2_int min2_int max_two min_two max_three min_three max_four min_four   -- for this text's walks alone
set_option linter.unusedVariables false
set_option linter.unusedSimpArgs false

/-! ### frisketlaw37_bits: function 4 -/
def frisketlaw37_bits.f  : Option (List ByteArray) := some (([(⟨#[116, 101, 120, 116]⟩ : ByteArray), (⟨#[116, 101, 120, 116, 32, 32]⟩ : ByteArray), (⟨#[116, 101, 120, 116, 32, 92]⟩ : ByteArray), (⟨#[92]⟩ : ByteArray), (⟨#[92, 92]⟩ : ByteArray), (⟨#[97, 92, 32]⟩ : ByteArray), (⟨#[46, 32, 32, 115, 112, 32, 32, 32, 50, 32]⟩ : ByteArray), (⟨#[46, 98, 114]⟩ : ByteArray), (⟨#[39, 32, 32, 98, 114, 32, 32]⟩ : ByteArray), (⟨#[46, 32, 32, 32]⟩ : ByteArray), (⟨#[46]⟩ : ByteArray), (⟨#[46, 100, 101, 32, 120, 120]⟩ : ByteArray), (⟨#[46, 100, 101, 32, 120, 120, 32, 121, 121]⟩ : ByteArray), (⟨#[46, 32, 32, 97, 109, 32, 120]⟩ : ByteArray), (⟨#[46, 46]⟩ : ByteArray), (⟨#[46, 121, 121]⟩ : ByteArray), (⟨#[46, 121, 121, 32, 122]⟩ : ByteArray), (⟨#[46, 46, 32]⟩ : ByteArray), (⟨#[46, 105, 103]⟩ : ByteArray), (⟨#[46, 105, 103, 32, 101, 110]⟩ : ByteArray), (⟨#[46, 101, 110]⟩ : ByteArray), (⟨#[46, 84, 83]⟩ : ByteArray), (⟨#[46, 84, 69]⟩ : ByteArray), (⟨#[46, 69, 81, 32, 120]⟩ : ByteArray), (⟨#[46, 69, 78]⟩ : ByteArray), (⟨#[46, 80, 83, 32, 50, 32, 51]⟩ : ByteArray), (⟨#[46, 80, 69]⟩ : ByteArray), (⟨#[46, 71, 49]⟩ : ByteArray), (⟨#[46, 71, 50]⟩ : ByteArray), (⟨#[46, 91]⟩ : ByteArray), (⟨#[46, 93]⟩ : ByteArray), (⟨#[46, 67, 72]⟩ : ByteArray), (⟨#[46, 67, 69]⟩ : ByteArray), (⟨#[46, 120, 120, 32, 32, 97, 32, 32, 32, 98, 32]⟩ : ByteArray), (⟨#[46, 102, 116, 32, 32, 34, 82, 34, 32, 32]⟩ : ByteArray), (⟨#[46, 99, 101, 32, 34, 97, 32, 98, 34, 32, 99]⟩ : ByteArray), (⟨#[46, 116, 97, 32, 49, 105, 32, 32, 50, 105, 9, 82]⟩ : ByteArray), (⟨#[46, 110, 114, 32, 120, 32, 34, 34, 32]⟩ : ByteArray), (⟨#[46, 108, 108, 32, 51, 105, 32, 92]⟩ : ByteArray), (⟨#[]⟩ : ByteArray), (⟨#[32, 32, 32]⟩ : ByteArray), (⟨#[46, 100, 101]⟩ : ByteArray), (⟨#[46, 115, 112, 32, 34]⟩ : ByteArray), (⟨#[46, 105, 110, 32, 97, 92, 32]⟩ : ByteArray), (⟨#[39, 100, 101, 32, 113]⟩ : ByteArray), (⟨#[46, 9, 115, 112, 32, 51]⟩ : ByteArray), (⟨#[46, 119, 104, 32, 45, 49, 105, 32, 92, 34, 110, 111, 116, 101]⟩ : ByteArray), (⟨#[46, 100, 101, 120, 120]⟩ : ByteArray), (⟨#[46, 84, 83, 120]⟩ : ByteArray)] : List ByteArray))
set_option maxHeartbeats 8000000 in
set_option maxRecDepth 100000 in
theorem frisketlaw37_bits.calls  (r : List ByteArray) (w : World) (h : frisketlaw37_bits.f  = some r) :
    Calls Tryd.prog 4 #[] w fun e w' => ∃ v0_ : Value, e = .returned (v0_) ∧ Kd.R Kd.string 9 w' w.heap.size (fun _ => True) v0_ r ∧ Below w.heap.size w w' := by
  have HB := Aside0.mk (Below.refl w.heap.size w)
  have H : (some (([(⟨#[116, 101, 120, 116]⟩ : ByteArray), (⟨#[116, 101, 120, 116, 32, 32]⟩ : ByteArray), (⟨#[116, 101, 120, 116, 32, 92]⟩ : ByteArray), (⟨#[92]⟩ : ByteArray), (⟨#[92, 92]⟩ : ByteArray), (⟨#[97, 92, 32]⟩ : ByteArray), (⟨#[46, 32, 32, 115, 112, 32, 32, 32, 50, 32]⟩ : ByteArray), (⟨#[46, 98, 114]⟩ : ByteArray), (⟨#[39, 32, 32, 98, 114, 32, 32]⟩ : ByteArray), (⟨#[46, 32, 32, 32]⟩ : ByteArray), (⟨#[46]⟩ : ByteArray), (⟨#[46, 100, 101, 32, 120, 120]⟩ : ByteArray), (⟨#[46, 100, 101, 32, 120, 120, 32, 121, 121]⟩ : ByteArray), (⟨#[46, 32, 32, 97, 109, 32, 120]⟩ : ByteArray), (⟨#[46, 46]⟩ : ByteArray), (⟨#[46, 121, 121]⟩ : ByteArray), (⟨#[46, 121, 121, 32, 122]⟩ : ByteArray), (⟨#[46, 46, 32]⟩ : ByteArray), (⟨#[46, 105, 103]⟩ : ByteArray), (⟨#[46, 105, 103, 32, 101, 110]⟩ : ByteArray), (⟨#[46, 101, 110]⟩ : ByteArray), (⟨#[46, 84, 83]⟩ : ByteArray), (⟨#[46, 84, 69]⟩ : ByteArray), (⟨#[46, 69, 81, 32, 120]⟩ : ByteArray), (⟨#[46, 69, 78]⟩ : ByteArray), (⟨#[46, 80, 83, 32, 50, 32, 51]⟩ : ByteArray), (⟨#[46, 80, 69]⟩ : ByteArray), (⟨#[46, 71, 49]⟩ : ByteArray), (⟨#[46, 71, 50]⟩ : ByteArray), (⟨#[46, 91]⟩ : ByteArray), (⟨#[46, 93]⟩ : ByteArray), (⟨#[46, 67, 72]⟩ : ByteArray), (⟨#[46, 67, 69]⟩ : ByteArray), (⟨#[46, 120, 120, 32, 32, 97, 32, 32, 32, 98, 32]⟩ : ByteArray), (⟨#[46, 102, 116, 32, 32, 34, 82, 34, 32, 32]⟩ : ByteArray), (⟨#[46, 99, 101, 32, 34, 97, 32, 98, 34, 32, 99]⟩ : ByteArray), (⟨#[46, 116, 97, 32, 49, 105, 32, 32, 50, 105, 9, 82]⟩ : ByteArray), (⟨#[46, 110, 114, 32, 120, 32, 34, 34, 32]⟩ : ByteArray), (⟨#[46, 108, 108, 32, 51, 105, 32, 92]⟩ : ByteArray), (⟨#[]⟩ : ByteArray), (⟨#[32, 32, 32]⟩ : ByteArray), (⟨#[46, 100, 101]⟩ : ByteArray), (⟨#[46, 115, 112, 32, 34]⟩ : ByteArray), (⟨#[46, 105, 110, 32, 97, 92, 32]⟩ : ByteArray), (⟨#[39, 100, 101, 32, 113]⟩ : ByteArray), (⟨#[46, 9, 115, 112, 32, 51]⟩ : ByteArray), (⟨#[46, 119, 104, 32, 45, 49, 105, 32, 92, 34, 110, 111, 116, 101]⟩ : ByteArray), (⟨#[46, 100, 101, 120, 120]⟩ : ByteArray), (⟨#[46, 84, 83, 120]⟩ : ByteArray)] : List ByteArray))) = some r := h
  clear h
  obtain ⟨y101, hy101⟩ : ∃ y_ : List ByteArray, y_ = (([(⟨#[116, 101, 120, 116]⟩ : ByteArray), (⟨#[116, 101, 120, 116, 32, 32]⟩ : ByteArray), (⟨#[116, 101, 120, 116, 32, 92]⟩ : ByteArray), (⟨#[92]⟩ : ByteArray), (⟨#[92, 92]⟩ : ByteArray), (⟨#[97, 92, 32]⟩ : ByteArray), (⟨#[46, 32, 32, 115, 112, 32, 32, 32, 50, 32]⟩ : ByteArray), (⟨#[46, 98, 114]⟩ : ByteArray), (⟨#[39, 32, 32, 98, 114, 32, 32]⟩ : ByteArray), (⟨#[46, 32, 32, 32]⟩ : ByteArray), (⟨#[46]⟩ : ByteArray), (⟨#[46, 100, 101, 32, 120, 120]⟩ : ByteArray), (⟨#[46, 100, 101, 32, 120, 120, 32, 121, 121]⟩ : ByteArray), (⟨#[46, 32, 32, 97, 109, 32, 120]⟩ : ByteArray), (⟨#[46, 46]⟩ : ByteArray), (⟨#[46, 121, 121]⟩ : ByteArray), (⟨#[46, 121, 121, 32, 122]⟩ : ByteArray), (⟨#[46, 46, 32]⟩ : ByteArray), (⟨#[46, 105, 103]⟩ : ByteArray), (⟨#[46, 105, 103, 32, 101, 110]⟩ : ByteArray), (⟨#[46, 101, 110]⟩ : ByteArray), (⟨#[46, 84, 83]⟩ : ByteArray), (⟨#[46, 84, 69]⟩ : ByteArray), (⟨#[46, 69, 81, 32, 120]⟩ : ByteArray), (⟨#[46, 69, 78]⟩ : ByteArray), (⟨#[46, 80, 83, 32, 50, 32, 51]⟩ : ByteArray), (⟨#[46, 80, 69]⟩ : ByteArray), (⟨#[46, 71, 49]⟩ : ByteArray), (⟨#[46, 71, 50]⟩ : ByteArray), (⟨#[46, 91]⟩ : ByteArray), (⟨#[46, 93]⟩ : ByteArray), (⟨#[46, 67, 72]⟩ : ByteArray), (⟨#[46, 67, 69]⟩ : ByteArray), (⟨#[46, 120, 120, 32, 32, 97, 32, 32, 32, 98, 32]⟩ : ByteArray), (⟨#[46, 102, 116, 32, 32, 34, 82, 34, 32, 32]⟩ : ByteArray), (⟨#[46, 99, 101, 32, 34, 97, 32, 98, 34, 32, 99]⟩ : ByteArray), (⟨#[46, 116, 97, 32, 49, 105, 32, 32, 50, 105, 9, 82]⟩ : ByteArray), (⟨#[46, 110, 114, 32, 120, 32, 34, 34, 32]⟩ : ByteArray), (⟨#[46, 108, 108, 32, 51, 105, 32, 92]⟩ : ByteArray), (⟨#[]⟩ : ByteArray), (⟨#[32, 32, 32]⟩ : ByteArray), (⟨#[46, 100, 101]⟩ : ByteArray), (⟨#[46, 115, 112, 32, 34]⟩ : ByteArray), (⟨#[46, 105, 110, 32, 97, 92, 32]⟩ : ByteArray), (⟨#[39, 100, 101, 32, 113]⟩ : ByteArray), (⟨#[46, 9, 115, 112, 32, 51]⟩ : ByteArray), (⟨#[46, 119, 104, 32, 45, 49, 105, 32, 92, 34, 110, 111, 116, 101]⟩ : ByteArray), (⟨#[46, 100, 101, 120, 120]⟩ : ByteArray), (⟨#[46, 84, 83, 120]⟩ : ByteArray)] : List ByteArray)) := ⟨_, rfl⟩
  replace H : (some y101) = some r := by first | (rw [hy101]; with_reducible exact H) | (have H2_ := (Option.bind_some _ _).symm.trans H; rw [hy101]; with_reducible exact H2_) | (have H2_ := (Option.bind_some _ _).symm.trans H; with_reducible exact H2_) | with_reducible exact H | (rw [hy101]; exact H) | exact H
  have Ny101 := Aside0.mk hy101
  clear hy101
  obtain rfl := Option.some.inj H
  go_enter Tryd.func4, Tryd.ntmps4
  go_wp2_with (first | ((with_reducible refine gate_dst (N := 1) rfl ?_); refine Kd.R_lit Kd.string _ 9 ?hg (N := 1) ?hd (xs := ([(⟨#[116, 101, 120, 116]⟩ : ByteArray), (⟨#[116, 101, 120, 116, 32, 32]⟩ : ByteArray), (⟨#[116, 101, 120, 116, 32, 92]⟩ : ByteArray), (⟨#[92]⟩ : ByteArray), (⟨#[92, 92]⟩ : ByteArray), (⟨#[97, 92, 32]⟩ : ByteArray), (⟨#[46, 32, 32, 115, 112, 32, 32, 32, 50, 32]⟩ : ByteArray), (⟨#[46, 98, 114]⟩ : ByteArray), (⟨#[39, 32, 32, 98, 114, 32, 32]⟩ : ByteArray), (⟨#[46, 32, 32, 32]⟩ : ByteArray), (⟨#[46]⟩ : ByteArray), (⟨#[46, 100, 101, 32, 120, 120]⟩ : ByteArray), (⟨#[46, 100, 101, 32, 120, 120, 32, 121, 121]⟩ : ByteArray), (⟨#[46, 32, 32, 97, 109, 32, 120]⟩ : ByteArray), (⟨#[46, 46]⟩ : ByteArray), (⟨#[46, 121, 121]⟩ : ByteArray), (⟨#[46, 121, 121, 32, 122]⟩ : ByteArray), (⟨#[46, 46, 32]⟩ : ByteArray), (⟨#[46, 105, 103]⟩ : ByteArray), (⟨#[46, 105, 103, 32, 101, 110]⟩ : ByteArray), (⟨#[46, 101, 110]⟩ : ByteArray), (⟨#[46, 84, 83]⟩ : ByteArray), (⟨#[46, 84, 69]⟩ : ByteArray), (⟨#[46, 69, 81, 32, 120]⟩ : ByteArray), (⟨#[46, 69, 78]⟩ : ByteArray), (⟨#[46, 80, 83, 32, 50, 32, 51]⟩ : ByteArray), (⟨#[46, 80, 69]⟩ : ByteArray), (⟨#[46, 71, 49]⟩ : ByteArray), (⟨#[46, 71, 50]⟩ : ByteArray), (⟨#[46, 91]⟩ : ByteArray), (⟨#[46, 93]⟩ : ByteArray), (⟨#[46, 67, 72]⟩ : ByteArray), (⟨#[46, 67, 69]⟩ : ByteArray), (⟨#[46, 120, 120, 32, 32, 97, 32, 32, 32, 98, 32]⟩ : ByteArray), (⟨#[46, 102, 116, 32, 32, 34, 82, 34, 32, 32]⟩ : ByteArray), (⟨#[46, 99, 101, 32, 34, 97, 32, 98, 34, 32, 99]⟩ : ByteArray), (⟨#[46, 116, 97, 32, 49, 105, 32, 32, 50, 105, 9, 82]⟩ : ByteArray), (⟨#[46, 110, 114, 32, 120, 32, 34, 34, 32]⟩ : ByteArray), (⟨#[46, 108, 108, 32, 51, 105, 32, 92]⟩ : ByteArray), (⟨#[]⟩ : ByteArray), (⟨#[32, 32, 32]⟩ : ByteArray), (⟨#[46, 100, 101]⟩ : ByteArray), (⟨#[46, 115, 112, 32, 34]⟩ : ByteArray), (⟨#[46, 105, 110, 32, 97, 92, 32]⟩ : ByteArray), (⟨#[39, 100, 101, 32, 113]⟩ : ByteArray), (⟨#[46, 9, 115, 112, 32, 51]⟩ : ByteArray), (⟨#[46, 119, 104, 32, 45, 49, 105, 32, 92, 34, 110, 111, 116, 101]⟩ : ByteArray), (⟨#[46, 100, 101, 120, 120]⟩ : ByteArray), (⟨#[46, 84, 83, 120]⟩ : ByteArray)] : List ByteArray)) (inner := [.string (⟨#[116, 101, 120, 116]⟩ : ByteArray), .string (⟨#[116, 101, 120, 116, 32, 32]⟩ : ByteArray), .string (⟨#[116, 101, 120, 116, 32, 92]⟩ : ByteArray), .string (⟨#[92]⟩ : ByteArray), .string (⟨#[92, 92]⟩ : ByteArray), .string (⟨#[97, 92, 32]⟩ : ByteArray), .string (⟨#[46, 32, 32, 115, 112, 32, 32, 32, 50, 32]⟩ : ByteArray), .string (⟨#[46, 98, 114]⟩ : ByteArray), .string (⟨#[39, 32, 32, 98, 114, 32, 32]⟩ : ByteArray), .string (⟨#[46, 32, 32, 32]⟩ : ByteArray), .string (⟨#[46]⟩ : ByteArray), .string (⟨#[46, 100, 101, 32, 120, 120]⟩ : ByteArray), .string (⟨#[46, 100, 101, 32, 120, 120, 32, 121, 121]⟩ : ByteArray), .string (⟨#[46, 32, 32, 97, 109, 32, 120]⟩ : ByteArray), .string (⟨#[46, 46]⟩ : ByteArray), .string (⟨#[46, 121, 121]⟩ : ByteArray), .string (⟨#[46, 121, 121, 32, 122]⟩ : ByteArray), .string (⟨#[46, 46, 32]⟩ : ByteArray), .string (⟨#[46, 105, 103]⟩ : ByteArray), .string (⟨#[46, 105, 103, 32, 101, 110]⟩ : ByteArray), .string (⟨#[46, 101, 110]⟩ : ByteArray), .string (⟨#[46, 84, 83]⟩ : ByteArray), .string (⟨#[46, 84, 69]⟩ : ByteArray), .string (⟨#[46, 69, 81, 32, 120]⟩ : ByteArray), .string (⟨#[46, 69, 78]⟩ : ByteArray), .string (⟨#[46, 80, 83, 32, 50, 32, 51]⟩ : ByteArray), .string (⟨#[46, 80, 69]⟩ : ByteArray), .string (⟨#[46, 71, 49]⟩ : ByteArray), .string (⟨#[46, 71, 50]⟩ : ByteArray), .string (⟨#[46, 91]⟩ : ByteArray), .string (⟨#[46, 93]⟩ : ByteArray), .string (⟨#[46, 67, 72]⟩ : ByteArray), .string (⟨#[46, 67, 69]⟩ : ByteArray), .string (⟨#[46, 120, 120, 32, 32, 97, 32, 32, 32, 98, 32]⟩ : ByteArray), .string (⟨#[46, 102, 116, 32, 32, 34, 82, 34, 32, 32]⟩ : ByteArray), .string (⟨#[46, 99, 101, 32, 34, 97, 32, 98, 34, 32, 99]⟩ : ByteArray), .string (⟨#[46, 116, 97, 32, 49, 105, 32, 32, 50, 105, 9, 82]⟩ : ByteArray), .string (⟨#[46, 110, 114, 32, 120, 32, 34, 34, 32]⟩ : ByteArray), .string (⟨#[46, 108, 108, 32, 51, 105, 32, 92]⟩ : ByteArray), .string (⟨#[]⟩ : ByteArray), .string (⟨#[32, 32, 32]⟩ : ByteArray), .string (⟨#[46, 100, 101]⟩ : ByteArray), .string (⟨#[46, 115, 112, 32, 34]⟩ : ByteArray), .string (⟨#[46, 105, 110, 32, 97, 92, 32]⟩ : ByteArray), .string (⟨#[39, 100, 101, 32, 113]⟩ : ByteArray), .string (⟨#[46, 9, 115, 112, 32, 51]⟩ : ByteArray), .string (⟨#[46, 119, 104, 32, 45, 49, 105, 32, 92, 34, 110, 111, 116, 101]⟩ : ByteArray), .string (⟨#[46, 100, 101, 120, 120]⟩ : ByteArray), .string (⟨#[46, 84, 83, 120]⟩ : ByteArray)]) (ok := fun _ => True) (okp := fun _ => True) ?hr ?hp (fun _ hk => hk) trivial (Below.refl _ _) (Nat.le_refl _) (by simp) ?_; (case hd => rfl); (case hg => rfl); (case hr => first | (go_simp; done) | (go_simp; rfl)); (case hp => exact (Reps.one (show Kd.M Kd.string _ _ _ (⟨#[116, 101, 120, 116]⟩ : ByteArray) [.string (⟨#[116, 101, 120, 116]⟩ : ByteArray)] from rfl) (Reps.one (show Kd.M Kd.string _ _ _ (⟨#[116, 101, 120, 116, 32, 32]⟩ : ByteArray) [.string (⟨#[116, 101, 120, 116, 32, 32]⟩ : ByteArray)] from rfl) (Reps.one (show Kd.M Kd.string _ _ _ (⟨#[116, 101, 120, 116, 32, 92]⟩ : ByteArray) [.string (⟨#[116, 101, 120, 116, 32, 92]⟩ : ByteArray)] from rfl) (Reps.one (show Kd.M Kd.string _ _ _ (⟨#[92]⟩ : ByteArray) [.string (⟨#[92]⟩ : ByteArray)] from rfl) (Reps.one (show Kd.M Kd.string _ _ _ (⟨#[92, 92]⟩ : ByteArray) [.string (⟨#[92, 92]⟩ : ByteArray)] from rfl) (Reps.one (show Kd.M Kd.string _ _ _ (⟨#[97, 92, 32]⟩ : ByteArray) [.string (⟨#[97, 92, 32]⟩ : ByteArray)] from rfl) (Reps.one (show Kd.M Kd.string _ _ _ (⟨#[46, 32, 32, 115, 112, 32, 32, 32, 50, 32]⟩ : ByteArray) [.string (⟨#[46, 32, 32, 115, 112, 32, 32, 32, 50, 32]⟩ : ByteArray)] from rfl) (Reps.one (show Kd.M Kd.string _ _ _ (⟨#[46, 98, 114]⟩ : ByteArray) [.string (⟨#[46, 98, 114]⟩ : ByteArray)] from rfl) (Reps.one (show Kd.M Kd.string _ _ _ (⟨#[39, 32, 32, 98, 114, 32, 32]⟩ : ByteArray) [.string (⟨#[39, 32, 32, 98, 114, 32, 32]⟩ : ByteArray)] from rfl) (Reps.one (show Kd.M Kd.string _ _ _ (⟨#[46, 32, 32, 32]⟩ : ByteArray) [.string (⟨#[46, 32, 32, 32]⟩ : ByteArray)] from rfl) (Reps.one (show Kd.M Kd.string _ _ _ (⟨#[46]⟩ : ByteArray) [.string (⟨#[46]⟩ : ByteArray)] from rfl) (Reps.one (show Kd.M Kd.string _ _ _ (⟨#[46, 100, 101, 32, 120, 120]⟩ : ByteArray) [.string (⟨#[46, 100, 101, 32, 120, 120]⟩ : ByteArray)] from rfl) (Reps.one (show Kd.M Kd.string _ _ _ (⟨#[46, 100, 101, 32, 120, 120, 32, 121, 121]⟩ : ByteArray) [.string (⟨#[46, 100, 101, 32, 120, 120, 32, 121, 121]⟩ : ByteArray)] from rfl) (Reps.one (show Kd.M Kd.string _ _ _ (⟨#[46, 32, 32, 97, 109, 32, 120]⟩ : ByteArray) [.string (⟨#[46, 32, 32, 97, 109, 32, 120]⟩ : ByteArray)] from rfl) (Reps.one (show Kd.M Kd.string _ _ _ (⟨#[46, 46]⟩ : ByteArray) [.string (⟨#[46, 46]⟩ : ByteArray)] from rfl) (Reps.one (show Kd.M Kd.string _ _ _ (⟨#[46, 121, 121]⟩ : ByteArray) [.string (⟨#[46, 121, 121]⟩ : ByteArray)] from rfl) (Reps.one (show Kd.M Kd.string _ _ _ (⟨#[46, 121, 121, 32, 122]⟩ : ByteArray) [.string (⟨#[46, 121, 121, 32, 122]⟩ : ByteArray)] from rfl) (Reps.one (show Kd.M Kd.string _ _ _ (⟨#[46, 46, 32]⟩ : ByteArray) [.string (⟨#[46, 46, 32]⟩ : ByteArray)] from rfl) (Reps.one (show Kd.M Kd.string _ _ _ (⟨#[46, 105, 103]⟩ : ByteArray) [.string (⟨#[46, 105, 103]⟩ : ByteArray)] from rfl) (Reps.one (show Kd.M Kd.string _ _ _ (⟨#[46, 105, 103, 32, 101, 110]⟩ : ByteArray) [.string (⟨#[46, 105, 103, 32, 101, 110]⟩ : ByteArray)] from rfl) (Reps.one (show Kd.M Kd.string _ _ _ (⟨#[46, 101, 110]⟩ : ByteArray) [.string (⟨#[46, 101, 110]⟩ : ByteArray)] from rfl) (Reps.one (show Kd.M Kd.string _ _ _ (⟨#[46, 84, 83]⟩ : ByteArray) [.string (⟨#[46, 84, 83]⟩ : ByteArray)] from rfl) (Reps.one (show Kd.M Kd.string _ _ _ (⟨#[46, 84, 69]⟩ : ByteArray) [.string (⟨#[46, 84, 69]⟩ : ByteArray)] from rfl) (Reps.one (show Kd.M Kd.string _ _ _ (⟨#[46, 69, 81, 32, 120]⟩ : ByteArray) [.string (⟨#[46, 69, 81, 32, 120]⟩ : ByteArray)] from rfl) (Reps.one (show Kd.M Kd.string _ _ _ (⟨#[46, 69, 78]⟩ : ByteArray) [.string (⟨#[46, 69, 78]⟩ : ByteArray)] from rfl) (Reps.one (show Kd.M Kd.string _ _ _ (⟨#[46, 80, 83, 32, 50, 32, 51]⟩ : ByteArray) [.string (⟨#[46, 80, 83, 32, 50, 32, 51]⟩ : ByteArray)] from rfl) (Reps.one (show Kd.M Kd.string _ _ _ (⟨#[46, 80, 69]⟩ : ByteArray) [.string (⟨#[46, 80, 69]⟩ : ByteArray)] from rfl) (Reps.one (show Kd.M Kd.string _ _ _ (⟨#[46, 71, 49]⟩ : ByteArray) [.string (⟨#[46, 71, 49]⟩ : ByteArray)] from rfl) (Reps.one (show Kd.M Kd.string _ _ _ (⟨#[46, 71, 50]⟩ : ByteArray) [.string (⟨#[46, 71, 50]⟩ : ByteArray)] from rfl) (Reps.one (show Kd.M Kd.string _ _ _ (⟨#[46, 91]⟩ : ByteArray) [.string (⟨#[46, 91]⟩ : ByteArray)] from rfl) (Reps.one (show Kd.M Kd.string _ _ _ (⟨#[46, 93]⟩ : ByteArray) [.string (⟨#[46, 93]⟩ : ByteArray)] from rfl) (Reps.one (show Kd.M Kd.string _ _ _ (⟨#[46, 67, 72]⟩ : ByteArray) [.string (⟨#[46, 67, 72]⟩ : ByteArray)] from rfl) (Reps.one (show Kd.M Kd.string _ _ _ (⟨#[46, 67, 69]⟩ : ByteArray) [.string (⟨#[46, 67, 69]⟩ : ByteArray)] from rfl) (Reps.one (show Kd.M Kd.string _ _ _ (⟨#[46, 120, 120, 32, 32, 97, 32, 32, 32, 98, 32]⟩ : ByteArray) [.string (⟨#[46, 120, 120, 32, 32, 97, 32, 32, 32, 98, 32]⟩ : ByteArray)] from rfl) (Reps.one (show Kd.M Kd.string _ _ _ (⟨#[46, 102, 116, 32, 32, 34, 82, 34, 32, 32]⟩ : ByteArray) [.string (⟨#[46, 102, 116, 32, 32, 34, 82, 34, 32, 32]⟩ : ByteArray)] from rfl) (Reps.one (show Kd.M Kd.string _ _ _ (⟨#[46, 99, 101, 32, 34, 97, 32, 98, 34, 32, 99]⟩ : ByteArray) [.string (⟨#[46, 99, 101, 32, 34, 97, 32, 98, 34, 32, 99]⟩ : ByteArray)] from rfl) (Reps.one (show Kd.M Kd.string _ _ _ (⟨#[46, 116, 97, 32, 49, 105, 32, 32, 50, 105, 9, 82]⟩ : ByteArray) [.string (⟨#[46, 116, 97, 32, 49, 105, 32, 32, 50, 105, 9, 82]⟩ : ByteArray)] from rfl) (Reps.one (show Kd.M Kd.string _ _ _ (⟨#[46, 110, 114, 32, 120, 32, 34, 34, 32]⟩ : ByteArray) [.string (⟨#[46, 110, 114, 32, 120, 32, 34, 34, 32]⟩ : ByteArray)] from rfl) (Reps.one (show Kd.M Kd.string _ _ _ (⟨#[46, 108, 108, 32, 51, 105, 32, 92]⟩ : ByteArray) [.string (⟨#[46, 108, 108, 32, 51, 105, 32, 92]⟩ : ByteArray)] from rfl) (Reps.one (show Kd.M Kd.string _ _ _ (⟨#[]⟩ : ByteArray) [.string (⟨#[]⟩ : ByteArray)] from rfl) (Reps.one (show Kd.M Kd.string _ _ _ (⟨#[32, 32, 32]⟩ : ByteArray) [.string (⟨#[32, 32, 32]⟩ : ByteArray)] from rfl) (Reps.one (show Kd.M Kd.string _ _ _ (⟨#[46, 100, 101]⟩ : ByteArray) [.string (⟨#[46, 100, 101]⟩ : ByteArray)] from rfl) (Reps.one (show Kd.M Kd.string _ _ _ (⟨#[46, 115, 112, 32, 34]⟩ : ByteArray) [.string (⟨#[46, 115, 112, 32, 34]⟩ : ByteArray)] from rfl) (Reps.one (show Kd.M Kd.string _ _ _ (⟨#[46, 105, 110, 32, 97, 92, 32]⟩ : ByteArray) [.string (⟨#[46, 105, 110, 32, 97, 92, 32]⟩ : ByteArray)] from rfl) (Reps.one (show Kd.M Kd.string _ _ _ (⟨#[39, 100, 101, 32, 113]⟩ : ByteArray) [.string (⟨#[39, 100, 101, 32, 113]⟩ : ByteArray)] from rfl) (Reps.one (show Kd.M Kd.string _ _ _ (⟨#[46, 9, 115, 112, 32, 51]⟩ : ByteArray) [.string (⟨#[46, 9, 115, 112, 32, 51]⟩ : ByteArray)] from rfl) (Reps.one (show Kd.M Kd.string _ _ _ (⟨#[46, 119, 104, 32, 45, 49, 105, 32, 92, 34, 110, 111, 116, 101]⟩ : ByteArray) [.string (⟨#[46, 119, 104, 32, 45, 49, 105, 32, 92, 34, 110, 111, 116, 101]⟩ : ByteArray)] from rfl) (Reps.one (show Kd.M Kd.string _ _ _ (⟨#[46, 100, 101, 120, 120]⟩ : ByteArray) [.string (⟨#[46, 100, 101, 120, 120]⟩ : ByteArray)] from rfl) (Reps.one (show Kd.M Kd.string _ _ _ (⟨#[46, 84, 83, 120]⟩ : ByteArray) [.string (⟨#[46, 84, 83, 120]⟩ : ByteArray)] from rfl) (Reps.none _ _))))))))))))))))))))))))))))))))))))))))))))))))))); intro v102 w1 ho2 hb hg_ hnew_; clear hg_ hnew_; (first | rw [← Ny101.out] at ho2 | (simp only [Int.reduceToNat] at ho2; rw [← Ny101.out] at ho2)); have n0_ := Aside0.mk (Kd.R_lower ho2 (below_size (by repeat (first | (with_reducible first | exact HB.out | apply below_alloc | apply pw_below_drewN | apply below_drew1) | exact HB.out)))); have n1_ := Aside0.mk (below_step (by repeat (first | (with_reducible first | exact HB.out | apply below_alloc | apply pw_below_drewN | apply below_drew1) | exact HB.out)) hb); clear HB; have HO103 := n0_; have HB := n1_; clear n0_ n1_; clear hb ho2))
  go_ret
  exact ⟨_, by first | rfl | (simp [errW_none, errW_some] <;> rfl) | (simp [*, errW_none, errW_some] <;> rfl), by (with_reducible repeat (first | apply Kd.R_alloc | apply Kd.R_drewN | apply Kd.R_drew)); exact HO103.out, by repeat (first | (with_reducible first | exact HB.out | apply below_alloc | apply pw_below_drewN | apply below_drew1) | exact HB.out)⟩

/-! ### tidy_joins: function 24 -/
def tidy_joins.f (a0 : ByteArray) : Option (Bool) := (strings_TrimRight.f a0 (⟨#[92]⟩ : ByteArray)).bind fun t104 => (some ((Int.tmod (wrap64 ((a0.size : Int) - (t104.size : Int))) 2) == 1))
set_option maxHeartbeats 8000000 in
set_option maxRecDepth 100000 in
theorem tidy_joins.calls (a0 : ByteArray) (r : Bool) (w : World) (h : tidy_joins.f a0 = some r) :
    Calls Tryd.prog 24 #[.string a0] w fun e w' => e = .returned (.bool r) ∧ Drawn0 w w' := by
  have H : ((strings_TrimRight.f a0 (⟨#[92]⟩ : ByteArray)).bind fun t104 => (some ((Int.tmod (wrap64 ((a0.size : Int) - (t104.size : Int))) 2) == 1))) = some r := h
  clear h
  replace H := Option.bind_eq_some_iff.mp H
  obtain ⟨t104, A20, H⟩ := H
  replace H : (some ((Int.tmod (wrap64 ((a0.size : Int) - (t104.size : Int))) 2) == 1)) = some r := H
  have A2 := Aside0.mk A20
  clear A20
  obtain rfl := Option.some.inj H
  go_enter Tryd.func24, Tryd.ntmps24
  go_wp2_with (first | ((with_reducible refine gate_callee (f := 40) rfl ?_); refine goesL_ (some 6) rfl rfl Tryd.func40 (by kernel_rfl) rfl #[.string a0, .string (⟨#[92]⟩ : ByteArray)] rfl (by (try simp only [List.map_toArray, List.map_cons, List.map_nil]); first | done | rfl | (simp only [List.length_drop, List.length_take]; rfl)) ?_; (with_reducible refine (strings_TrimRight.calls a0 (⟨#[92]⟩ : ByteArray) t104 _ A2.out).mono ?_); rintro e w' ⟨rfl, ⟨nd, rfl⟩⟩; refine ⟨_, rfl, ?_⟩))
  go_ret
  exact ⟨by first | rfl | (simp; done) | (simp [*]; done), by repeat (first | exact Drawn0.refl _ | apply Drawn0.step)⟩

/-! ### stringslite_HasPrefix: function 89 -/
def stringslite_HasPrefix.f (a0 : ByteArray) (a1 : ByteArray) : Option (Bool) := if (a0.size : Int) ≥ (a1.size : Int) then (if 0 ≤ (a1.size : Int) then (if (a1.size : Int) ≤ (a0.size : Int) then (some ((a0.extract 0 ((a1.size : Int) : Int).toNat).toList == a1.toList)) else (none)) else (none)) else (some false)
set_option maxHeartbeats 8000000 in
set_option maxRecDepth 100000 in
theorem stringslite_HasPrefix.calls (a0 : ByteArray) (a1 : ByteArray) (r : Bool) (w : World) (h : stringslite_HasPrefix.f a0 a1 = some r) :
    Calls Tryd.prog 89 #[.string a0, .string a1] w fun e w' => e = .returned (.bool r) ∧ Drawn0 w w' := by
  have H : (if (a0.size : Int) ≥ (a1.size : Int) then (if 0 ≤ (a1.size : Int) then (if (a1.size : Int) ≤ (a0.size : Int) then (some ((a0.extract 0 ((a1.size : Int) : Int).toNat).toList == a1.toList)) else (none)) else (none)) else (some false)) = some r := h
  clear h
  by_cases c3 : (a0.size : Int) ≥ (a1.size : Int)
  · rw [if_pos c3] at H
    have c3b0 : decide ((a1.size : Int) ≤ (a0.size : Int)) = true := decide_eq_true c3
    have c3b1 : decide (a1.size ≤ a0.size) = true := decide_eq_true (Int.ofNat_le.mp c3)
    clear c3
    by_cases c4 : 0 ≤ (a1.size : Int)
    · rw [if_pos c4] at H
      have c4b0 := eq_true c4
      have c4b1 : decide (0 ≤ (a1.size : Int)) = true := decide_eq_true c4
      clear c4
      by_cases c5 : (a1.size : Int) ≤ (a0.size : Int)
      · rw [if_pos c5] at H
        have c5b0 := eq_true c5
        have c5b1 : decide ((a1.size : Int) ≤ (a0.size : Int)) = true := decide_eq_true c5
        clear c5
        obtain rfl := Option.some.inj H
        go_enter Tryd.func89, Tryd.ntmps89
        go_wp2
        go_ret
        exact ⟨by first | rfl | (simp; done) | (simp [*]; done), by repeat (first | exact Drawn0.refl _ | apply Drawn0.step)⟩
      · rw [if_neg c5] at H
        exact absurd H (by simp)
    · rw [if_neg c4] at H
      exact absurd H (by simp)
  · rw [if_neg c3] at H
    have c3b0 : decide ((a1.size : Int) ≤ (a0.size : Int)) = false := decide_eq_false c3
    have c3b1 : decide (a1.size ≤ a0.size) = false := decide_eq_false (fun h => c3 (Int.ofNat_le.mpr h))
    clear c3
    obtain rfl := Option.some.inj H
    go_enter Tryd.func89, Tryd.ntmps89
    go_wp2
    go_ret
    exact ⟨by first | rfl | (simp; done) | (simp [*]; done), by repeat (first | exact Drawn0.refl _ | apply Drawn0.step)⟩

/-! ### stringslite_CutPrefix: function 81 -/
def stringslite_CutPrefix.f (a0 : ByteArray) (a1 : ByteArray) : Option (ByteArray × Bool) := (stringslite_HasPrefix.f a0 a1).bind fun t105 => (if t105 = true then (if 0 ≤ (a1.size : Int) then (if (a1.size : Int) ≤ (a0.size : Int) then (some (a0.extract ((a1.size : Int) : Int).toNat a0.size, true)) else (none)) else (none)) else (some (a0, false)))
set_option maxHeartbeats 8000000 in
set_option maxRecDepth 100000 in
theorem stringslite_CutPrefix.calls (a0 : ByteArray) (a1 : ByteArray) (r1 : ByteArray) (r2 : Bool) (w : World) (h : stringslite_CutPrefix.f a0 a1 = some (r1, r2)) :
    Calls Tryd.prog 81 #[.string a0, .string a1] w fun e w' => e = .returned (.tuple #[.string r1, .bool r2]) ∧ Drawn0 w w' := by
  have H : ((stringslite_HasPrefix.f a0 a1).bind fun t105 => (if t105 = true then (if 0 ≤ (a1.size : Int) then (if (a1.size : Int) ≤ (a0.size : Int) then (some (a0.extract ((a1.size : Int) : Int).toNat a0.size, true)) else (none)) else (none)) else (some (a0, false)))) = some (r1, r2) := h
  clear h
  replace H := Option.bind_eq_some_iff.mp H
  obtain ⟨t105, A30, H⟩ := H
  replace H : (if t105 = true then (if 0 ≤ (a1.size : Int) then (if (a1.size : Int) ≤ (a0.size : Int) then (some (a0.extract ((a1.size : Int) : Int).toNat a0.size, true)) else (none)) else (none)) else (some (a0, false))) = some (r1, r2) := H
  have A3 := Aside0.mk A30
  clear A30
  by_cases c4 : t105 = true
  · subst c4
    have H1 : (if 0 ≤ (a1.size : Int) then (if (a1.size : Int) ≤ (a0.size : Int) then (some (a0.extract ((a1.size : Int) : Int).toNat a0.size, true)) else (none)) else (none)) = some (r1, r2) := by rw [if_pos rfl] at H; exact H
    clear H
    have H := H1
    clear H1
    by_cases c5 : 0 ≤ (a1.size : Int)
    · rw [if_pos c5] at H
      have c5b0 := eq_true c5
      have c5b1 : decide (0 ≤ (a1.size : Int)) = true := decide_eq_true c5
      clear c5
      by_cases c6 : (a1.size : Int) ≤ (a0.size : Int)
      · rw [if_pos c6] at H
        have c6b0 := eq_true c6
        have c6b1 : decide ((a1.size : Int) ≤ (a0.size : Int)) = true := decide_eq_true c6
        clear c6
        simp only [Option.some.injEq, Prod.mk.injEq] at H
        obtain ⟨rfl, rfl⟩ := H
        go_enter Tryd.func81, Tryd.ntmps81
        go_wp2_with (first | ((with_reducible refine gate_callee (f := 89) rfl ?_); refine goesL_ (some 8) rfl rfl Tryd.func89 (by kernel_rfl) rfl #[.string a0, .string a1] rfl (by (try simp only [List.map_toArray, List.map_cons, List.map_nil]); first | done | rfl | (simp only [List.length_drop, List.length_take]; rfl)) ?_; (with_reducible refine (stringslite_HasPrefix.calls a0 a1 true _ A3.out).mono ?_); rintro e w' ⟨rfl, ⟨nd, rfl⟩⟩; refine ⟨_, rfl, ?_⟩))
        go_ret2
        exact ⟨by first | rfl | (simp; done) | (simp [*]; done), by repeat (first | exact Drawn0.refl _ | apply Drawn0.step)⟩
      · rw [if_neg c6] at H
        exact absurd H (by simp)
    · rw [if_neg c5] at H
      exact absurd H (by simp)
  · replace c4 := Bool.eq_false_iff.mpr c4
    subst c4
    have H1 : (some (a0, false)) = some (r1, r2) := by rw [if_neg (show ¬ (false = true) by decide)] at H; exact H
    clear H
    have H := H1
    clear H1
    simp only [Option.some.injEq, Prod.mk.injEq] at H
    obtain ⟨rfl, rfl⟩ := H
    go_enter Tryd.func81, Tryd.ntmps81
    go_wp2_with (first | ((with_reducible refine gate_callee (f := 89) rfl ?_); refine goesL_ (some 8) rfl rfl Tryd.func89 (by kernel_rfl) rfl #[.string a0, .string a1] rfl (by (try simp only [List.map_toArray, List.map_cons, List.map_nil]); first | done | rfl | (simp only [List.length_drop, List.length_take]; rfl)) ?_; (with_reducible refine (stringslite_HasPrefix.calls a0 a1 false _ A3.out).mono ?_); rintro e w' ⟨rfl, ⟨nd, rfl⟩⟩; refine ⟨_, rfl, ?_⟩))
    go_ret2
    exact ⟨by first | rfl | (simp; done) | (simp [*]; done), by repeat (first | exact Drawn0.refl _ | apply Drawn0.step)⟩

/-! ### strings_CutPrefix: function 68 -/
def strings_CutPrefix.f (a0 : ByteArray) (a1 : ByteArray) : Option (ByteArray × Bool) := (stringslite_CutPrefix.f a0 a1).bind fun bt106 => (some (bt106.1, bt106.2))
set_option maxHeartbeats 8000000 in
set_option maxRecDepth 100000 in
theorem strings_CutPrefix.calls (a0 : ByteArray) (a1 : ByteArray) (r1 : ByteArray) (r2 : Bool) (w : World) (h : strings_CutPrefix.f a0 a1 = some (r1, r2)) :
    Calls Tryd.prog 68 #[.string a0, .string a1] w fun e w' => e = .returned (.tuple #[.string r1, .bool r2]) ∧ Drawn0 w w' := by
  have H : ((stringslite_CutPrefix.f a0 a1).bind fun bt106 => (some (bt106.1, bt106.2))) = some (r1, r2) := h
  clear h
  replace H := Option.bind_eq_some_iff.mp H
  obtain ⟨⟨t106, t107⟩, A30, H⟩ := H
  replace H : (some (t106, t107)) = some (r1, r2) := H
  have A3 := Aside0.mk A30
  clear A30
  simp only [Option.some.injEq, Prod.mk.injEq] at H
  obtain ⟨rfl, rfl⟩ := H
  go_enter Tryd.func68, Tryd.ntmps68
  go_wp2_with (first | ((with_reducible refine gate_callee (f := 81) rfl ?_); refine goesL_ (some 8) rfl rfl Tryd.func81 (by kernel_rfl) rfl #[.string a0, .string a1] rfl (by (try simp only [List.map_toArray, List.map_cons, List.map_nil]); first | done | rfl | (simp only [List.length_drop, List.length_take]; rfl)) ?_; (with_reducible refine (stringslite_CutPrefix.calls a0 a1 t106 t107 _ A3.out).mono ?_); rintro e w' ⟨rfl, ⟨nd, rfl⟩⟩; refine ⟨_, rfl, ?_⟩))
  go_ret2
  exact ⟨by first | rfl | (simp; done) | (simp [*]; done), by repeat (first | exact Drawn0.refl _ | apply Drawn0.step)⟩

/-! ### tidy_opens: function 41 -/
def tidy_opens.f (a0 : ByteArray) (a1 : ByteArray) : Option (Bool) := (strings_CutPrefix.f a0 a1).bind fun bt108 => (if bt108.2 = true then (if bt108.1.toList = ([] : List UInt8) then (some true) else (if 0 < (bt108.1.size : Int) then ((strings_IndexByte.f (⟨#[32, 9]⟩ : ByteArray) (bt bt108.1 0)).bind fun t110 => (some (decide (t110 ≥ 0)))) else (none))) else (some false))
set_option maxHeartbeats 8000000 in
set_option maxRecDepth 100000 in
theorem tidy_opens.calls (a0 : ByteArray) (a1 : ByteArray) (r : Bool) (w : World) (h : tidy_opens.f a0 a1 = some r) :
    Calls Tryd.prog 41 #[.string a0, .string a1] w fun e w' => e = .returned (.bool r) ∧ Drawn0 w w' := by
  have H : ((strings_CutPrefix.f a0 a1).bind fun bt108 => (if bt108.2 = true then (if bt108.1.toList = ([] : List UInt8) then (some true) else (if 0 < (bt108.1.size : Int) then ((strings_IndexByte.f (⟨#[32, 9]⟩ : ByteArray) (bt bt108.1 0)).bind fun t110 => (some (decide (t110 ≥ 0)))) else (none))) else (some false))) = some r := h
  clear h
  replace H := Option.bind_eq_some_iff.mp H
  obtain ⟨⟨t108, t109⟩, A30, H⟩ := H
  replace H : (if t109 = true then (if t108.toList = ([] : List UInt8) then (some true) else (if 0 < (t108.size : Int) then ((strings_IndexByte.f (⟨#[32, 9]⟩ : ByteArray) (bt t108 0)).bind fun t110 => (some (decide (t110 ≥ 0)))) else (none))) else (some false)) = some r := H
  have A3 := Aside0.mk A30
  clear A30
  by_cases c4 : t109 = true
  · subst c4
    have H1 : (if t108.toList = ([] : List UInt8) then (some true) else (if 0 < (t108.size : Int) then ((strings_IndexByte.f (⟨#[32, 9]⟩ : ByteArray) (bt t108 0)).bind fun t110 => (some (decide (t110 ≥ 0)))) else (none))) = some r := by rw [if_pos rfl] at H; exact H
    clear H
    have H := H1
    clear H1
    by_cases c5 : t108.toList = ([] : List UInt8)
    · rw [if_pos c5] at H
      have c5b0 : (t108.toList == ([] : List UInt8)) = true := beq_iff_eq.mpr c5
      have c5b1 : (t108.toList != ([] : List UInt8)) = false := bne_eq_false_iff_eq.mpr c5
      clear c5
      obtain rfl := Option.some.inj H
      go_enter Tryd.func41, Tryd.ntmps41
      go_wp2_with (first | ((with_reducible refine gate_callee (f := 68) rfl ?_); refine goesL_ (some 10) rfl rfl Tryd.func68 (by kernel_rfl) rfl #[.string a0, .string a1] rfl (by (try simp only [List.map_toArray, List.map_cons, List.map_nil]); first | done | rfl | (simp only [List.length_drop, List.length_take]; rfl)) ?_; (with_reducible refine (strings_CutPrefix.calls a0 a1 t108 true _ A3.out).mono ?_); rintro e w' ⟨rfl, ⟨nd, rfl⟩⟩; refine ⟨_, rfl, ?_⟩))
      go_ret
      exact ⟨by first | rfl | (simp; done) | (simp [*]; done), by repeat (first | exact Drawn0.refl _ | apply Drawn0.step)⟩
    · rw [if_neg c5] at H
      have c5b0 : (t108.toList == ([] : List UInt8)) = false := beq_eq_false_iff_ne.mpr c5
      have c5b1 : (t108.toList != ([] : List UInt8)) = true := bne_iff_ne.mpr c5
      by_cases c6 : 0 < (t108.size : Int)
      · rw [if_pos c6] at H
        have c6b0 : decide (0 < (t108.size : Int)) = true := decide_eq_true c6
        have c6b1 : decide (0 < t108.size) = true := decide_eq_true (by omega)
        clear c6
        replace H := Option.bind_eq_some_iff.mp H
        obtain ⟨t110, A80, H⟩ := H
        replace H : (some (decide (t110 ≥ 0))) = some r := H
        have A8 := Aside0.mk A80
        clear A80
        obtain rfl := Option.some.inj H
        go_enter Tryd.func41, Tryd.ntmps41
        go_wp2_with (first | ((with_reducible refine gate_callee (f := 68) rfl ?_); refine goesL_ (some 10) rfl rfl Tryd.func68 (by kernel_rfl) rfl #[.string a0, .string a1] rfl (by (try simp only [List.map_toArray, List.map_cons, List.map_nil]); first | done | rfl | (simp only [List.length_drop, List.length_take]; rfl)) ?_; (with_reducible refine (strings_CutPrefix.calls a0 a1 t108 true _ A3.out).mono ?_); rintro e w' ⟨rfl, ⟨nd, rfl⟩⟩; refine ⟨_, rfl, ?_⟩; have p7 : 0 ≤ (0 : Int) := (by omega); have q7 : 0 < t108.size := (by have : (0 : Int) < (t108.size : Int) := of_decide_eq_true (by first | (with_reducible assumption) | assumption); omega); have hx7 : ∀ h : 0 < t108.size, ((t108[0]'h).toNat : Int) = bt t108 0 := bt_at t108 0; clear p7; have qi7 : (0 < (t108.size : Int)) = True := eq_true (of_decide_eq_true (by first | (with_reducible assumption) | assumption)); replace q7 := eq_true q7) | (go_at_call 44; (with_reducible refine (strings_IndexByte.calls (⟨#[32, 9]⟩ : ByteArray) (bt t108 0) t110 _ A8.out).mono ?_); rintro e w' ⟨rfl, ⟨nd, rfl⟩⟩))
        go_ret
        exact ⟨by first | rfl | (simp; done) | (simp [*]; done), by repeat (first | exact Drawn0.refl _ | apply Drawn0.step)⟩
      · rw [if_neg c6] at H
        exact absurd H (by simp)
  · replace c4 := Bool.eq_false_iff.mpr c4
    subst c4
    have H1 : (some false) = some r := by rw [if_neg (show ¬ (false = true) by decide)] at H; exact H
    clear H
    have H := H1
    clear H1
    obtain rfl := Option.some.inj H
    go_enter Tryd.func41, Tryd.ntmps41
    go_wp2_with (first | ((with_reducible refine gate_callee (f := 68) rfl ?_); refine goesL_ (some 10) rfl rfl Tryd.func68 (by kernel_rfl) rfl #[.string a0, .string a1] rfl (by (try simp only [List.map_toArray, List.map_cons, List.map_nil]); first | done | rfl | (simp only [List.length_drop, List.length_take]; rfl)) ?_; (with_reducible refine (strings_CutPrefix.calls a0 a1 t108 false _ A3.out).mono ?_); rintro e w' ⟨rfl, ⟨nd, rfl⟩⟩; refine ⟨_, rfl, ?_⟩))
    go_ret
    exact ⟨by first | rfl | (simp; done) | (simp [*]; done), by repeat (first | exact Drawn0.refl _ | apply Drawn0.step)⟩

/-! ### tidy_control: function 26 -/
def tidy_control.f (a0 : ByteArray) : Option (Bool) := if a0.toList = ([] : List UInt8) then (some false) else (if 0 < (a0.size : Int) then (if (bt a0 0) = 46 then (some true) else (some ((bt a0 0) == 39))) else (none))
set_option maxHeartbeats 8000000 in
set_option maxRecDepth 100000 in
theorem tidy_control.calls (a0 : ByteArray) (r : Bool) (w : World) (h : tidy_control.f a0 = some r) :
    Calls Tryd.prog 26 #[.string a0] w fun e w' => e = .returned (.bool r) ∧ Drawn0 w w' := by
  have H : (if a0.toList = ([] : List UInt8) then (some false) else (if 0 < (a0.size : Int) then (if (bt a0 0) = 46 then (some true) else (some ((bt a0 0) == 39))) else (none))) = some r := h
  clear h
  by_cases c2 : a0.toList = ([] : List UInt8)
  · rw [if_pos c2] at H
    have c2b0 : (a0.toList == ([] : List UInt8)) = true := beq_iff_eq.mpr c2
    have c2b1 : (a0.toList != ([] : List UInt8)) = false := bne_eq_false_iff_eq.mpr c2
    clear c2
    obtain rfl := Option.some.inj H
    go_enter Tryd.func26, Tryd.ntmps26
    go_wp2
    go_ret
    exact ⟨by first | rfl | (simp; done) | (simp [*]; done), by repeat (first | exact Drawn0.refl _ | apply Drawn0.step)⟩
  · rw [if_neg c2] at H
    have c2b0 : (a0.toList == ([] : List UInt8)) = false := beq_eq_false_iff_ne.mpr c2
    have c2b1 : (a0.toList != ([] : List UInt8)) = true := bne_iff_ne.mpr c2
    by_cases c3 : 0 < (a0.size : Int)
    · rw [if_pos c3] at H
      have c3b0 : decide (0 < (a0.size : Int)) = true := decide_eq_true c3
      have c3b1 : decide (0 < a0.size) = true := decide_eq_true (by omega)
      clear c3
      by_cases c5 : (bt a0 0) = 46
      · rw [if_pos c5] at H
        have c5b0 : ((bt a0 0) == 46) = true := beq_iff_eq.mpr c5
        have c5b1 : ((bt a0 0) != 46) = false := bne_eq_false_iff_eq.mpr c5
        clear c5
        obtain rfl := Option.some.inj H
        have p4 : 0 ≤ (0 : Int) := (by omega)
        have q4 : 0 < a0.size := (by have : (0 : Int) < (a0.size : Int) := of_decide_eq_true (by first | (with_reducible assumption) | assumption); omega)
        have hx4 : ∀ h : 0 < a0.size, ((a0[0]'h).toNat : Int) = bt a0 0 := bt_at a0 0
        clear p4
        have qi4 : (0 < (a0.size : Int)) = True := eq_true (of_decide_eq_true (by first | (with_reducible assumption) | assumption))
        replace q4 := eq_true q4
        go_enter Tryd.func26, Tryd.ntmps26
        go_wp2
        go_ret
        exact ⟨by first | rfl | (simp; done) | (simp [*]; done), by repeat (first | exact Drawn0.refl _ | apply Drawn0.step)⟩
      · rw [if_neg c5] at H
        have c5b0 : ((bt a0 0) == 46) = false := beq_eq_false_iff_ne.mpr c5
        have c5b1 : ((bt a0 0) != 46) = true := bne_iff_ne.mpr c5
        obtain rfl := Option.some.inj H
        have p4 : 0 ≤ (0 : Int) := (by omega)
        have q4 : 0 < a0.size := (by have : (0 : Int) < (a0.size : Int) := of_decide_eq_true (by first | (with_reducible assumption) | assumption); omega)
        have hx4 : ∀ h : 0 < a0.size, ((a0[0]'h).toNat : Int) = bt a0 0 := bt_at a0 0
        clear p4
        have qi4 : (0 < (a0.size : Int)) = True := eq_true (of_decide_eq_true (by first | (with_reducible assumption) | assumption))
        replace q4 := eq_true q4
        have p6 : 0 ≤ (0 : Int) := (by omega)
        have q6 : 0 < a0.size := (by have : (0 : Int) < (a0.size : Int) := of_decide_eq_true (by first | (with_reducible assumption) | assumption); omega)
        have hx6 : ∀ h : 0 < a0.size, ((a0[0]'h).toNat : Int) = bt a0 0 := bt_at a0 0
        clear p6
        have qi6 : (0 < (a0.size : Int)) = True := eq_true (of_decide_eq_true (by first | (with_reducible assumption) | assumption))
        replace q6 := eq_true q6
        go_enter Tryd.func26, Tryd.ntmps26
        go_wp2
        go_ret
        exact ⟨by first | rfl | (simp; done) | (simp [*]; done), by repeat (first | exact Drawn0.refl _ | apply Drawn0.step)⟩
    · rw [if_neg c3] at H
      exact absurd H (by simp)

/-! ### request_Words: function 33 -/
def request_Words.l0 : Nat → ByteArray → List ByteArray → Option (List ByteArray)
  | 0, _, _ => none
  | k + 1, x0, x3 => if x0.toList = ([] : List UInt8) then (some x3) else ((request_word.f x0).bind fun bt112 => (if x3.length < 8796093022208 then ((strings_TrimLeft.f bt112.2 (⟨#[32, 9]⟩ : ByteArray)).bind fun t117 => (request_Words.l0 k t117 (x3 ++ [bt112.1]))) else (none)))
def request_Words.f (k : Nat) (a0 : ByteArray) : Option (List ByteArray) := (strings_TrimLeft.f a0 (⟨#[32, 9]⟩ : ByteArray)).bind fun t111 => (request_Words.l0 k t111 ([] : List ByteArray))
theorem request_Words.mono_l : ∀ k, (∀ y0 y1, LeO (request_Words.l0 k y0 y1) (request_Words.l0 (k + 1) y0 y1))
  | 0 => fun _ _ r h => by simp [request_Words.l0] at h
  | k + 1 => by
    have ih0 := request_Words.mono_l k
    · intro y0 y1
      unfold request_Words.l0
      repeat' first
      | (with_reducible exact ih0 _ _)
      | (with_reducible exact LeO.refl _)
      | (with_reducible exact LeO.none _)
      | (with_reducible refine LeO.ite ?_ ?_)
      | (with_reducible refine LeO.bind ?_ (fun _ => ?_))
      | exact ih0 _ _
      | exact LeO.none _
      | refine LeO.ite ?_ ?_
      | refine LeO.bind ?_ (fun _ => ?_)
theorem request_Words.mono : ∀ a0 k, LeO (request_Words.f k a0) (request_Words.f (k + 1) a0) := by
  intro a0 k
  have ih0 := request_Words.mono_l k
  unfold request_Words.f
  repeat' first
      | (with_reducible exact ih0 _ _)
      | (with_reducible exact LeO.refl _)
      | (with_reducible exact LeO.none _)
      | (with_reducible refine LeO.ite ?_ ?_)
      | (with_reducible refine LeO.bind ?_ (fun _ => ?_))
      | exact ih0 _ _
      | exact LeO.none _
      | refine LeO.ite ?_ ?_
      | refine LeO.bind ?_ (fun _ => ?_)
set_option maxHeartbeats 8000000 in
set_option maxRecDepth 100000 in
theorem request_Words.calls (k : Nat) (a0 : ByteArray) (r : List ByteArray) (w : World) (h : request_Words.f k a0 = some r) :
    Calls Tryd.prog 33 #[.string a0] w fun e w' => ∃ v0_ : Value, e = .returned (v0_) ∧ Kd.R Kd.string 9 w' w.heap.size (fun _ => True) v0_ r ∧ Below w.heap.size w w' := by
  have HB := Aside0.mk (Below.refl w.heap.size w)
  have H : ((strings_TrimLeft.f a0 (⟨#[32, 9]⟩ : ByteArray)).bind fun t111 => (request_Words.l0 k t111 ([] : List ByteArray))) = some r := h
  clear h
  replace H := Option.bind_eq_some_iff.mp H
  obtain ⟨t111, A20, H⟩ := H
  replace H : (request_Words.l0 k t111 ([] : List ByteArray)) = some r := H
  have A2 := Aside0.mk A20
  clear A20
  have H' := Aside0.mk H
  clear H
  go_enter Tryd.func33, Tryd.ntmps33
  go_wp2_with (first | ((with_reducible refine gate_callee (f := 28) rfl ?_); refine goesL_ (some 6) rfl rfl Tryd.func28 (by kernel_rfl) rfl #[.string a0, .string (⟨#[32, 9]⟩ : ByteArray)] rfl (by (try simp only [List.map_toArray, List.map_cons, List.map_nil]); first | done | rfl | (simp only [List.length_drop, List.length_take]; rfl)) ?_; (with_reducible refine (strings_TrimLeft.calls a0 (⟨#[32, 9]⟩ : ByteArray) t111 _ A2.out).mono ?_); rintro e w3 ⟨rfl, hb⟩; refine ⟨_, rfl, ?_⟩; have n0_ := Aside0.mk (below_step (by repeat (first | (with_reducible first | exact HB.out | apply below_alloc | apply pw_below_drewN | apply below_drew1) | exact HB.out)) hb); clear HB; have HB := n0_; clear n0_; (try clear hb); (try clear hb2); (try clear hk); (try clear hi)))
  go_loopg [0, 3] k (fun kq v0 v3 w' => ∃ (x0_1 : ByteArray) (x3_1 : List ByteArray), v0 = .string x0_1 ∧ Aside0 (request_Words.l0 kq x0_1 x3_1 = some r) ∧ Aside0 (kq ≤ k) ∧ Aside0 (Kd.R Kd.string 9 w' w.heap.size (fun _ => True) v3 x3_1) ∧ Aside0 (Below w.heap.size w w'))
  case atStart => exact ⟨(t111), (([] : List ByteArray)), (by first | rfl | (simp; done) | (simp [*]; done)), H', ⟨Nat.le_refl _⟩, ⟨by first | exact Kd.R_nil _ _ _ _ _ | exact Kd.N_nil _ _ _ _ _ | exact Kd.V_nil _ _ _ _ _ | exact Kd.Q_nil _ _ _ _ _ | exact Kd.S_nil _ _ _ _ _⟩, ⟨by repeat (first | (with_reducible first | exact HB.out | apply below_alloc | apply pw_below_drewN | apply below_drew1) | exact HB.out)⟩⟩
  case round =>
    clear H'
    try clear c2
    try clear p2
    try clear c3
    obtain ⟨x0_1, x3_1, rfl, HA, HK1, HO_3, HB⟩ := hrel
    cases gk with
    | zero => exact absurd HA.out (by simp [request_Words.l0])
    | succ k1 =>
      have H := HA.out
      clear HA
      simp only [request_Words.l0] at H
      by_cases c4 : x0_1.toList = ([] : List UInt8)
      · rw [if_pos c4] at H
        have c4b0 : (x0_1.toList == ([] : List UInt8)) = true := beq_iff_eq.mpr c4
        have c4b1 : (x0_1.toList != ([] : List UInt8)) = false := bne_eq_false_iff_eq.mpr c4
        clear c4
        obtain rfl := Option.some.inj H
        go_wp2
        go_ret
        exact ⟨_, by first | rfl | (simp [errW_none, errW_some] <;> rfl) | (simp [*, errW_none, errW_some] <;> rfl), by (with_reducible repeat (first | apply Kd.R_alloc | apply Kd.R_drewN | apply Kd.R_drew)); exact HO_3.out, by repeat (first | (with_reducible first | exact HB.out | apply below_alloc | apply pw_below_drewN | apply below_drew1) | exact HB.out)⟩
      · rw [if_neg c4] at H
        have c4b0 : (x0_1.toList == ([] : List UInt8)) = false := beq_eq_false_iff_ne.mpr c4
        have c4b1 : (x0_1.toList != ([] : List UInt8)) = true := bne_iff_ne.mpr c4
        replace H := Option.bind_eq_some_iff.mp H
        obtain ⟨⟨t112, t113⟩, A50, H⟩ := H
        replace H : (if x3_1.length < 8796093022208 then ((strings_TrimLeft.f t113 (⟨#[32, 9]⟩ : ByteArray)).bind fun t117 => (request_Words.l0 k1 t117 (x3_1 ++ [t112]))) else (none)) = some r := H
        have A5 := Aside0.mk A50
        clear A50
        by_cases c6 : x3_1.length < 8796093022208
        · rw [if_pos c6] at H
          have LMc6 := Aside0.mk c6
          clear c6
          obtain ⟨y114, hy114⟩ : ∃ y_ : List ByteArray, y_ = (x3_1 ++ [t112]) := ⟨_, rfl⟩
          replace H : ((strings_TrimLeft.f t113 (⟨#[32, 9]⟩ : ByteArray)).bind fun t117 => (request_Words.l0 k1 t117 y114)) = some r := by first | (rw [hy114]; with_reducible exact H) | (have H2_ := (Option.bind_some _ _).symm.trans H; rw [hy114]; with_reducible exact H2_) | (have H2_ := (Option.bind_some _ _).symm.trans H; with_reducible exact H2_) | with_reducible exact H | (rw [hy114]; exact H) | exact H
          have Ny114 := Aside0.mk hy114
          clear hy114
          replace H := Option.bind_eq_some_iff.mp H
          obtain ⟨t117, A70, H⟩ := H
          replace H : (request_Words.l0 k1 t117 y114) = some r := H
          have A7 := Aside0.mk A70
          clear A70
          have H' := Aside0.mk H
          clear H
          go_wp2_with (first | ((with_reducible refine gate_callee (f := 60) rfl ?_); refine goesL_ (some 13) rfl rfl Tryd.func60 (by kernel_rfl) rfl #[.string x0_1] rfl (by (try simp only [List.map_toArray, List.map_cons, List.map_nil]); first | done | rfl | (simp only [List.length_drop, List.length_take]; rfl)) ?_; (with_reducible refine (request_word.calls x0_1 t112 t113 _ A5.out).mono ?_); rintro e w8 ⟨rfl, hb⟩; refine ⟨_, rfl, ?_⟩; have n0_ := Aside0.mk (Kd.R_below (by (with_reducible repeat (first | apply Kd.R_alloc | apply Kd.R_drewN | apply Kd.R_drew)); exact HO_3.out) hb); have n1_ := Aside0.mk (below_step (by repeat (first | (with_reducible first | exact HB.out | apply below_alloc | apply pw_below_drewN | apply below_drew1) | exact HB.out)) hb); clear HO_3; clear HB; have HO_3 := n0_; have HB := n1_; clear n0_ n1_; (try clear hb); (try clear hb2); (try clear hk); (try clear hi)) | ((with_reducible refine gate_builtin (b := .append) (xs := #[.tmp 16, .tmp 18]) rfl ?_); at_builtin; refine Kd.R_append Kd.string (w0 := w) w.heap.size rfl (.tmp 16) (.tmp 18) 26 9 (.string ⟨#[]⟩) 16 rfl Tryd.underlying26 info9 rfl (by decide) (by omega) u3 x3_1 t112 [.string t112] (fun _ => True) (fun _ => False) rfl rfl ?aP (fun _ hk => hk.elim) ?aF ?aO ?aB ?aS ?aL ?_; (case aP => exact rfl); (case aB => exact (by repeat (first | (with_reducible first | exact HB.out | apply below_alloc | apply pw_below_drewN | apply below_drew1) | exact HB.out))); (case aF => exact (fun _ _ => trivial)); (case aO => exact (by (with_reducible repeat (first | apply Kd.R_alloc | apply Kd.R_drewN | apply Kd.R_drew)); exact HO_3.out)); (case aS => exact (below_size (by repeat (first | (with_reducible first | exact HB.out | apply below_alloc | apply pw_below_drewN | apply below_drew1) | exact HB.out)))); (case aL => have := LMc6.out; omega); intro v115 w9 ho hb hg hat; rw [← Ny114.out] at ho; have n0_ := Aside0.mk (hb); have n1_ := Aside0.mk (ho); clear HB; clear HO_3; have HB := n0_; have HO116 := n1_; clear n0_ n1_; clear ho hb hg hat) | ((with_reducible refine gate_callee (f := 28) rfl ?_); refine goesL_ (some 10) rfl rfl Tryd.func28 (by kernel_rfl) rfl #[.string t113, .string (⟨#[32, 9]⟩ : ByteArray)] rfl (by (try simp only [List.map_toArray, List.map_cons, List.map_nil]); first | done | rfl | (simp only [List.length_drop, List.length_take]; rfl)) ?_; (with_reducible refine (strings_TrimLeft.calls t113 (⟨#[32, 9]⟩ : ByteArray) t117 _ A7.out).mono ?_); rintro e w10 ⟨rfl, hb⟩; refine ⟨_, rfl, ?_⟩; have n0_ := Aside0.mk (Kd.R_below (by (with_reducible repeat (first | apply Kd.R_alloc | apply Kd.R_drewN | apply Kd.R_drew)); exact HO116.out) hb); have n1_ := Aside0.mk (below_step (by repeat (first | (with_reducible first | exact HB.out | apply below_alloc | apply pw_below_drewN | apply below_drew1) | exact HB.out)) hb); clear HO116; clear HB; have HO116 := n0_; have HB := n1_; clear n0_ n1_; (try clear hb); (try clear hb2); (try clear hk); (try clear hi)))
          go_roundg k1
          case measure => have := HK1.out; omega
          case rel => exact ⟨(t117), (y114), (by first | rfl | (simp; done) | (simp [*]; done)), H', ⟨by have := HK1.out; omega⟩, ⟨by (with_reducible repeat (first | apply Kd.R_alloc | apply Kd.R_drewN | apply Kd.R_drew)); exact HO116.out⟩, ⟨by repeat (first | (with_reducible first | exact HB.out | apply below_alloc | apply pw_below_drewN | apply below_drew1) | exact HB.out)⟩⟩
        · rw [if_neg c6] at H
          exact absurd H (by simp)

/-! ### request_fits: function 82 -/
def request_fits.f (a0 : ByteArray) : Option (Bool) := if (a0.size : Int) ≤ 2000 then ((strings_Contains.f a0 (⟨#[10]⟩ : ByteArray)).bind fun t118 => (some (!t118))) else (some false)
set_option maxHeartbeats 8000000 in
set_option maxRecDepth 100000 in
theorem request_fits.calls (a0 : ByteArray) (r : Bool) (w : World) (h : request_fits.f a0 = some r) :
    Calls Tryd.prog 82 #[.string a0] w fun e w' => e = .returned (.bool r) ∧ Drawn0 w w' := by
  have H : (if (a0.size : Int) ≤ 2000 then ((strings_Contains.f a0 (⟨#[10]⟩ : ByteArray)).bind fun t118 => (some (!t118))) else (some false)) = some r := h
  clear h
  by_cases c2 : (a0.size : Int) ≤ 2000
  · rw [if_pos c2] at H
    have c2b0 : decide ((a0.size : Int) ≤ 2000) = true := decide_eq_true c2
    have c2b1 : decide (a0.size ≤ 2000) = true := decide_eq_true (by omega)
    clear c2
    replace H := Option.bind_eq_some_iff.mp H
    obtain ⟨t118, A30, H⟩ := H
    replace H : (some (!t118)) = some r := H
    have A3 := Aside0.mk A30
    clear A30
    obtain rfl := Option.some.inj H
    go_enter Tryd.func82, Tryd.ntmps82
    go_wp2_with (first | (go_at_call 58; (with_reducible refine (strings_Contains.calls a0 (⟨#[10]⟩ : ByteArray) t118 _ A3.out).mono ?_); rintro e w' ⟨rfl, ⟨nd, rfl⟩⟩))
    go_ret
    exact ⟨by first | rfl | (simp; done) | (simp [*]; done), by repeat (first | exact Drawn0.refl _ | apply Drawn0.step)⟩
  · rw [if_neg c2] at H
    have c2b0 : decide ((a0.size : Int) ≤ 2000) = false := decide_eq_false c2
    have c2b1 : decide (a0.size ≤ 2000) = false := decide_eq_false (by omega)
    clear c2
    obtain rfl := Option.some.inj H
    go_enter Tryd.func82, Tryd.ntmps82
    go_wp2
    go_ret
    exact ⟨by first | rfl | (simp; done) | (simp [*]; done), by repeat (first | exact Drawn0.refl _ | apply Drawn0.step)⟩

/-! ### request_letter: function 92 -/
def request_letter.f (a0 : Int) : Option (Bool) := if a0 ≥ 97 then (if a0 ≤ 122 then (some true) else (if a0 ≥ 65 then (if a0 ≤ 90 then (some true) else (if a0 ≥ 48 then (some (decide (a0 ≤ 57))) else (some false))) else (if a0 ≥ 48 then (some (decide (a0 ≤ 57))) else (some false)))) else (if a0 ≥ 65 then (if a0 ≤ 90 then (some true) else (if a0 ≥ 48 then (some (decide (a0 ≤ 57))) else (some false))) else (if a0 ≥ 48 then (some (decide (a0 ≤ 57))) else (some false)))
set_option maxHeartbeats 8000000 in
set_option maxRecDepth 100000 in
theorem request_letter.calls (a0 : Int) (r : Bool) (w : World) (h : request_letter.f a0 = some r) :
    Calls Tryd.prog 92 #[.int .u8 a0] w fun e w' => e = .returned (.bool r) ∧ Drawn0 w w' := by
  have H : (if a0 ≥ 97 then (if a0 ≤ 122 then (some true) else (if a0 ≥ 65 then (if a0 ≤ 90 then (some true) else (if a0 ≥ 48 then (some (decide (a0 ≤ 57))) else (some false))) else (if a0 ≥ 48 then (some (decide (a0 ≤ 57))) else (some false)))) else (if a0 ≥ 65 then (if a0 ≤ 90 then (some true) else (if a0 ≥ 48 then (some (decide (a0 ≤ 57))) else (some false))) else (if a0 ≥ 48 then (some (decide (a0 ≤ 57))) else (some false)))) = some r := h
  clear h
  by_cases c2 : a0 ≥ 97
  · rw [if_pos c2] at H
    have c2b0 : decide (97 ≤ a0) = true := decide_eq_true c2
    clear c2
    by_cases c3 : a0 ≤ 122
    · rw [if_pos c3] at H
      have c3b0 : decide (a0 ≤ 122) = true := decide_eq_true c3
      clear c3
      obtain rfl := Option.some.inj H
      go_enter Tryd.func92, Tryd.ntmps92
      go_wp2
      go_ret
      exact ⟨by first | rfl | (simp; done) | (simp [*]; done), by repeat (first | exact Drawn0.refl _ | apply Drawn0.step)⟩
    · rw [if_neg c3] at H
      have c3b0 : decide (a0 ≤ 122) = false := decide_eq_false c3
      clear c3
      by_cases c4 : a0 ≥ 65
      · rw [if_pos c4] at H
        have c4b0 : decide (65 ≤ a0) = true := decide_eq_true c4
        clear c4
        by_cases c5 : a0 ≤ 90
        · rw [if_pos c5] at H
          have c5b0 : decide (a0 ≤ 90) = true := decide_eq_true c5
          clear c5
          obtain rfl := Option.some.inj H
          go_enter Tryd.func92, Tryd.ntmps92
          go_wp2
          go_ret
          exact ⟨by first | rfl | (simp; done) | (simp [*]; done), by repeat (first | exact Drawn0.refl _ | apply Drawn0.step)⟩
        · rw [if_neg c5] at H
          have c5b0 : decide (a0 ≤ 90) = false := decide_eq_false c5
          clear c5
          by_cases c6 : a0 ≥ 48
          · rw [if_pos c6] at H
            have c6b0 : decide (48 ≤ a0) = true := decide_eq_true c6
            clear c6
            obtain rfl := Option.some.inj H
            go_enter Tryd.func92, Tryd.ntmps92
            go_wp2
            go_ret
            exact ⟨by first | rfl | (simp; done) | (simp [*]; done), by repeat (first | exact Drawn0.refl _ | apply Drawn0.step)⟩
          · rw [if_neg c6] at H
            have c6b0 : decide (48 ≤ a0) = false := decide_eq_false c6
            clear c6
            obtain rfl := Option.some.inj H
            go_enter Tryd.func92, Tryd.ntmps92
            go_wp2
            go_ret
            exact ⟨by first | rfl | (simp; done) | (simp [*]; done), by repeat (first | exact Drawn0.refl _ | apply Drawn0.step)⟩
      · rw [if_neg c4] at H
        have c4b0 : decide (65 ≤ a0) = false := decide_eq_false c4
        clear c4
        by_cases c7 : a0 ≥ 48
        · rw [if_pos c7] at H
          have c7b0 : decide (48 ≤ a0) = true := decide_eq_true c7
          clear c7
          obtain rfl := Option.some.inj H
          go_enter Tryd.func92, Tryd.ntmps92
          go_wp2
          go_ret
          exact ⟨by first | rfl | (simp; done) | (simp [*]; done), by repeat (first | exact Drawn0.refl _ | apply Drawn0.step)⟩
        · rw [if_neg c7] at H
          have c7b0 : decide (48 ≤ a0) = false := decide_eq_false c7
          clear c7
          obtain rfl := Option.some.inj H
          go_enter Tryd.func92, Tryd.ntmps92
          go_wp2
          go_ret
          exact ⟨by first | rfl | (simp; done) | (simp [*]; done), by repeat (first | exact Drawn0.refl _ | apply Drawn0.step)⟩
  · rw [if_neg c2] at H
    have c2b0 : decide (97 ≤ a0) = false := decide_eq_false c2
    clear c2
    by_cases c8 : a0 ≥ 65
    · rw [if_pos c8] at H
      have c8b0 : decide (65 ≤ a0) = true := decide_eq_true c8
      clear c8
      by_cases c9 : a0 ≤ 90
      · rw [if_pos c9] at H
        have c9b0 : decide (a0 ≤ 90) = true := decide_eq_true c9
        clear c9
        obtain rfl := Option.some.inj H
        go_enter Tryd.func92, Tryd.ntmps92
        go_wp2
        go_ret
        exact ⟨by first | rfl | (simp; done) | (simp [*]; done), by repeat (first | exact Drawn0.refl _ | apply Drawn0.step)⟩
      · rw [if_neg c9] at H
        have c9b0 : decide (a0 ≤ 90) = false := decide_eq_false c9
        clear c9
        by_cases c10 : a0 ≥ 48
        · rw [if_pos c10] at H
          have c10b0 : decide (48 ≤ a0) = true := decide_eq_true c10
          clear c10
          obtain rfl := Option.some.inj H
          go_enter Tryd.func92, Tryd.ntmps92
          go_wp2
          go_ret
          exact ⟨by first | rfl | (simp; done) | (simp [*]; done), by repeat (first | exact Drawn0.refl _ | apply Drawn0.step)⟩
        · rw [if_neg c10] at H
          have c10b0 : decide (48 ≤ a0) = false := decide_eq_false c10
          clear c10
          obtain rfl := Option.some.inj H
          go_enter Tryd.func92, Tryd.ntmps92
          go_wp2
          go_ret
          exact ⟨by first | rfl | (simp; done) | (simp [*]; done), by repeat (first | exact Drawn0.refl _ | apply Drawn0.step)⟩
    · rw [if_neg c8] at H
      have c8b0 : decide (65 ≤ a0) = false := decide_eq_false c8
      clear c8
      by_cases c11 : a0 ≥ 48
      · rw [if_pos c11] at H
        have c11b0 : decide (48 ≤ a0) = true := decide_eq_true c11
        clear c11
        obtain rfl := Option.some.inj H
        go_enter Tryd.func92, Tryd.ntmps92
        go_wp2
        go_ret
        exact ⟨by first | rfl | (simp; done) | (simp [*]; done), by repeat (first | exact Drawn0.refl _ | apply Drawn0.step)⟩
      · rw [if_neg c11] at H
        have c11b0 : decide (48 ≤ a0) = false := decide_eq_false c11
        clear c11
        obtain rfl := Option.some.inj H
        go_enter Tryd.func92, Tryd.ntmps92
        go_wp2
        go_ret
        exact ⟨by first | rfl | (simp; done) | (simp [*]; done), by repeat (first | exact Drawn0.refl _ | apply Drawn0.step)⟩

/-! ### request_controls: function 83 -/
def request_controls.f (a0 : Int) : Option (Bool) := (request_letter.f a0).bind fun t119 => (if t119 = true then (some false) else (if a0 = 32 then (some false) else (if a0 = 9 then (some false) else (some (a0 != 92)))))
set_option maxHeartbeats 8000000 in
set_option maxRecDepth 100000 in
theorem request_controls.calls (a0 : Int) (r : Bool) (w : World) (h : request_controls.f a0 = some r) :
    Calls Tryd.prog 83 #[.int .u8 a0] w fun e w' => e = .returned (.bool r) ∧ Drawn0 w w' := by
  have H : ((request_letter.f a0).bind fun t119 => (if t119 = true then (some false) else (if a0 = 32 then (some false) else (if a0 = 9 then (some false) else (some (a0 != 92)))))) = some r := h
  clear h
  replace H := Option.bind_eq_some_iff.mp H
  obtain ⟨t119, A20, H⟩ := H
  replace H : (if t119 = true then (some false) else (if a0 = 32 then (some false) else (if a0 = 9 then (some false) else (some (a0 != 92))))) = some r := H
  have A2 := Aside0.mk A20
  clear A20
  by_cases c3 : t119 = true
  · subst c3
    have H1 : (some false) = some r := by rw [if_pos rfl] at H; exact H
    clear H
    have H := H1
    clear H1
    obtain rfl := Option.some.inj H
    go_enter Tryd.func83, Tryd.ntmps83
    go_wp2_with (first | ((with_reducible refine gate_callee (f := 92) rfl ?_); refine goesL_ (some 4) rfl rfl Tryd.func92 (by kernel_rfl) rfl #[.int .u8 a0] rfl (by (try simp only [List.map_toArray, List.map_cons, List.map_nil]); first | done | rfl | (simp only [List.length_drop, List.length_take]; rfl)) ?_; (with_reducible refine (request_letter.calls a0 true _ A2.out).mono ?_); rintro e w' ⟨rfl, ⟨nd, rfl⟩⟩; refine ⟨_, rfl, ?_⟩))
    go_ret
    exact ⟨by first | rfl | (simp; done) | (simp [*]; done), by repeat (first | exact Drawn0.refl _ | apply Drawn0.step)⟩
  · replace c3 := Bool.eq_false_iff.mpr c3
    subst c3
    have H1 : (if a0 = 32 then (some false) else (if a0 = 9 then (some false) else (some (a0 != 92)))) = some r := by rw [if_neg (show ¬ (false = true) by decide)] at H; exact H
    clear H
    have H := H1
    clear H1
    by_cases c4 : a0 = 32
    · rw [if_pos c4] at H
      have c4b0 : (a0 == 32) = true := beq_iff_eq.mpr c4
      have c4b1 : (a0 != 32) = false := bne_eq_false_iff_eq.mpr c4
      clear c4
      obtain rfl := Option.some.inj H
      go_enter Tryd.func83, Tryd.ntmps83
      go_wp2_with (first | ((with_reducible refine gate_callee (f := 92) rfl ?_); refine goesL_ (some 4) rfl rfl Tryd.func92 (by kernel_rfl) rfl #[.int .u8 a0] rfl (by (try simp only [List.map_toArray, List.map_cons, List.map_nil]); first | done | rfl | (simp only [List.length_drop, List.length_take]; rfl)) ?_; (with_reducible refine (request_letter.calls a0 false _ A2.out).mono ?_); rintro e w' ⟨rfl, ⟨nd, rfl⟩⟩; refine ⟨_, rfl, ?_⟩))
      go_ret
      exact ⟨by first | rfl | (simp; done) | (simp [*]; done), by repeat (first | exact Drawn0.refl _ | apply Drawn0.step)⟩
    · rw [if_neg c4] at H
      have c4b0 : (a0 == 32) = false := beq_eq_false_iff_ne.mpr c4
      have c4b1 : (a0 != 32) = true := bne_iff_ne.mpr c4
      by_cases c5 : a0 = 9
      · rw [if_pos c5] at H
        have c5b0 : (a0 == 9) = true := beq_iff_eq.mpr c5
        have c5b1 : (a0 != 9) = false := bne_eq_false_iff_eq.mpr c5
        clear c5
        obtain rfl := Option.some.inj H
        go_enter Tryd.func83, Tryd.ntmps83
        go_wp2_with (first | ((with_reducible refine gate_callee (f := 92) rfl ?_); refine goesL_ (some 4) rfl rfl Tryd.func92 (by kernel_rfl) rfl #[.int .u8 a0] rfl (by (try simp only [List.map_toArray, List.map_cons, List.map_nil]); first | done | rfl | (simp only [List.length_drop, List.length_take]; rfl)) ?_; (with_reducible refine (request_letter.calls a0 false _ A2.out).mono ?_); rintro e w' ⟨rfl, ⟨nd, rfl⟩⟩; refine ⟨_, rfl, ?_⟩))
        go_ret
        exact ⟨by first | rfl | (simp; done) | (simp [*]; done), by repeat (first | exact Drawn0.refl _ | apply Drawn0.step)⟩
      · rw [if_neg c5] at H
        have c5b0 : (a0 == 9) = false := beq_eq_false_iff_ne.mpr c5
        have c5b1 : (a0 != 9) = true := bne_iff_ne.mpr c5
        obtain rfl := Option.some.inj H
        go_enter Tryd.func83, Tryd.ntmps83
        go_wp2_with (first | ((with_reducible refine gate_callee (f := 92) rfl ?_); refine goesL_ (some 4) rfl rfl Tryd.func92 (by kernel_rfl) rfl #[.int .u8 a0] rfl (by (try simp only [List.map_toArray, List.map_cons, List.map_nil]); first | done | rfl | (simp only [List.length_drop, List.length_take]; rfl)) ?_; (with_reducible refine (request_letter.calls a0 false _ A2.out).mono ?_); rintro e w' ⟨rfl, ⟨nd, rfl⟩⟩; refine ⟨_, rfl, ?_⟩))
        go_ret
        exact ⟨by first | rfl | (simp; done) | (simp [*]; done), by repeat (first | exact Drawn0.refl _ | apply Drawn0.step)⟩

/-! ### request_cut: function 84 -/
def request_cut.f (a0 : ByteArray) : Option (ByteArray × ByteArray) := (strings_IndexAny.f a0 (⟨#[32, 9]⟩ : ByteArray)).bind fun t120 => (if t120 ≥ 0 then (if 0 ≤ t120 then (if t120 ≤ (a0.size : Int) then (some (a0.extract 0 (t120 : Int).toNat, a0.extract (t120 : Int).toNat a0.size)) else (none)) else (none)) else (some (a0, (⟨#[]⟩ : ByteArray))))
set_option maxHeartbeats 8000000 in
set_option maxRecDepth 100000 in
theorem request_cut.calls (a0 : ByteArray) (r1 : ByteArray) (r2 : ByteArray) (w : World) (h : request_cut.f a0 = some (r1, r2)) :
    Calls Tryd.prog 84 #[.string a0] w fun e w' => e = .returned (.tuple #[.string r1, .string r2]) ∧ Below w.heap.size w w' := by
  have HB := Aside0.mk (Below.refl w.heap.size w)
  have H : ((strings_IndexAny.f a0 (⟨#[32, 9]⟩ : ByteArray)).bind fun t120 => (if t120 ≥ 0 then (if 0 ≤ t120 then (if t120 ≤ (a0.size : Int) then (some (a0.extract 0 (t120 : Int).toNat, a0.extract (t120 : Int).toNat a0.size)) else (none)) else (none)) else (some (a0, (⟨#[]⟩ : ByteArray))))) = some (r1, r2) := h
  clear h
  replace H := Option.bind_eq_some_iff.mp H
  obtain ⟨t120, A20, H⟩ := H
  replace H : (if t120 ≥ 0 then (if 0 ≤ t120 then (if t120 ≤ (a0.size : Int) then (some (a0.extract 0 (t120 : Int).toNat, a0.extract (t120 : Int).toNat a0.size)) else (none)) else (none)) else (some (a0, (⟨#[]⟩ : ByteArray)))) = some (r1, r2) := H
  have A2 := Aside0.mk A20
  clear A20
  by_cases c3 : t120 ≥ 0
  · rw [if_pos c3] at H
    have c3b0 : decide (0 ≤ t120) = true := decide_eq_true c3
    clear c3
    by_cases c4 : 0 ≤ t120
    · rw [if_pos c4] at H
      have c4b0 := eq_true c4
      have c4b1 : decide (0 ≤ t120) = true := decide_eq_true c4
      clear c4
      by_cases c5 : t120 ≤ (a0.size : Int)
      · rw [if_pos c5] at H
        have c5b0 := eq_true c5
        have c5b1 : decide (t120 ≤ (a0.size : Int)) = true := decide_eq_true c5
        clear c5
        have c6b0 := eq_true (of_decide_eq_true (by first | (with_reducible assumption) | assumption) : 0 ≤ t120)
        have c7b0 := eq_true (of_decide_eq_true (by first | (with_reducible assumption) | assumption) : t120 ≤ (a0.size : Int))
        simp only [Option.some.injEq, Prod.mk.injEq] at H
        obtain ⟨rfl, rfl⟩ := H
        go_enter Tryd.func84, Tryd.ntmps84
        go_wp2_with (first | (go_at_call 29; (with_reducible refine (strings_IndexAny.calls a0 (⟨#[32, 9]⟩ : ByteArray) t120 _ A2.out).mono ?_); rintro e w8 ⟨rfl, hb⟩; have n0_ := Aside0.mk (below_step (by repeat (first | (with_reducible first | exact HB.out | apply below_alloc | apply pw_below_drewN | apply below_drew1) | exact HB.out)) hb); clear HB; have HB := n0_; clear n0_; (try clear hb); (try clear hb2); (try clear hk); (try clear hi)))
        repeat (go_quiet (first | (go_at_call 29; (with_reducible refine (strings_IndexAny.calls a0 (⟨#[32, 9]⟩ : ByteArray) t120 _ A2.out).mono ?_); rintro e w8 ⟨rfl, hb⟩; have n0_ := Aside0.mk (below_step (by repeat (first | (with_reducible first | exact HB.out | apply below_alloc | apply pw_below_drewN | apply below_drew1) | exact HB.out)) hb); clear HB; have HB := n0_; clear n0_; (try clear hb); (try clear hb2); (try clear hk); (try clear hi))); try go_wp2_with (first | (go_at_call 29; (with_reducible refine (strings_IndexAny.calls a0 (⟨#[32, 9]⟩ : ByteArray) t120 _ A2.out).mono ?_); rintro e w8 ⟨rfl, hb⟩; have n0_ := Aside0.mk (below_step (by repeat (first | (with_reducible first | exact HB.out | apply below_alloc | apply pw_below_drewN | apply below_drew1) | exact HB.out)) hb); clear HB; have HB := n0_; clear n0_; (try clear hb); (try clear hb2); (try clear hk); (try clear hi))))
        go_ret2
        exact ⟨by first | rfl | (simp [errW_none, errW_some] <;> rfl) | (simp [*, errW_none, errW_some] <;> rfl), by repeat (first | (with_reducible first | exact HB.out | apply below_alloc | apply pw_below_drewN | apply below_drew1) | exact HB.out)⟩
      · rw [if_neg c5] at H
        exact absurd H (by simp)
    · rw [if_neg c4] at H
      exact absurd H (by simp)
  · rw [if_neg c3] at H
    have c3b0 : decide (0 ≤ t120) = false := decide_eq_false c3
    clear c3
    simp only [Option.some.injEq, Prod.mk.injEq] at H
    obtain ⟨rfl, rfl⟩ := H
    go_enter Tryd.func84, Tryd.ntmps84
    go_wp2_with (first | (go_at_call 29; (with_reducible refine (strings_IndexAny.calls a0 (⟨#[32, 9]⟩ : ByteArray) t120 _ A2.out).mono ?_); rintro e w9 ⟨rfl, hb⟩; have n0_ := Aside0.mk (below_step (by repeat (first | (with_reducible first | exact HB.out | apply below_alloc | apply pw_below_drewN | apply below_drew1) | exact HB.out)) hb); clear HB; have HB := n0_; clear n0_; (try clear hb); (try clear hb2); (try clear hk); (try clear hi)))
    repeat (go_quiet (first | (go_at_call 29; (with_reducible refine (strings_IndexAny.calls a0 (⟨#[32, 9]⟩ : ByteArray) t120 _ A2.out).mono ?_); rintro e w9 ⟨rfl, hb⟩; have n0_ := Aside0.mk (below_step (by repeat (first | (with_reducible first | exact HB.out | apply below_alloc | apply pw_below_drewN | apply below_drew1) | exact HB.out)) hb); clear HB; have HB := n0_; clear n0_; (try clear hb); (try clear hb2); (try clear hk); (try clear hi))); try go_wp2_with (first | (go_at_call 29; (with_reducible refine (strings_IndexAny.calls a0 (⟨#[32, 9]⟩ : ByteArray) t120 _ A2.out).mono ?_); rintro e w9 ⟨rfl, hb⟩; have n0_ := Aside0.mk (below_step (by repeat (first | (with_reducible first | exact HB.out | apply below_alloc | apply pw_below_drewN | apply below_drew1) | exact HB.out)) hb); clear HB; have HB := n0_; clear n0_; (try clear hb); (try clear hb2); (try clear hk); (try clear hi))))
    go_ret2
    exact ⟨by first | rfl | (simp [errW_none, errW_some] <;> rfl) | (simp [*, errW_none, errW_some] <;> rfl), by repeat (first | (with_reducible first | exact HB.out | apply below_alloc | apply pw_below_drewN | apply below_drew1) | exact HB.out)⟩

end Go.Proofs.YtghlfhgmnhhmnaaDoor.QTidy
