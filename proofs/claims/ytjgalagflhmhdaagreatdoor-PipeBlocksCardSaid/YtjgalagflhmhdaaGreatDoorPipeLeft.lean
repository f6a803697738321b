/-
  pipe.Left: the letters of languages that are still in a text. Conditions: a text shorter than 2^32 bytes, and enough rounds ('none' else).
-/
import Derived.Test.YtjgalagflhmhdaaGreatDoorQPipex3
import Derived.Lib.AppendStr
import Derived.Laws.Runes
import Derived.Lib.SlBytesConst
namespace Go.Proofs.YtjgalagflhmhdaaGreatDoor.QPipe
open Go.RowKit Go.Proofs.YtjgalagflhmhdaaGreatDoorW.PrintWords Go.Proofs.YtjgalagflhmhdaaGreatDoorW.PrintLast Go.Proofs.YtjgalagflhmhdaaGreatDoorW.PrintMore
set_option linter.unusedVariables false
set_option linter.unusedSimpArgs false

/-- The letters, and the signs that begin their blocks. -/
def lettersB : List (UInt8 × List UInt8) := [(114, [46, 91]), (99, [46, 67, 72]), (103, [46, 71, 49]), (112, [46, 80, 83]), (116, [46, 84, 83]), (101, [46, 69, 81])]
def leftGo (k : Nat) (L : List ByteArray) : List (UInt8 × List UInt8) → List UInt8 → Option ByteArray
  | [], out => some ⟨out.toArray⟩
  | p :: l, out => (slices_Contains_string_string.f k L ⟨p.2.toArray⟩).bind fun h => if h = true then leftGo k L l (out ++ [p.1]) else
    if p.1 = 114 then (slices_Contains_string_string.f k L (⟨#[46, 91, 93]⟩ : ByteArray)).bind fun h2 => if h2 = true then leftGo k L l (out ++ [p.1]) else leftGo k L l out
    else leftGo k L l out
def pipe_Left.f (k : Nat) (a0 : ByteArray) : Option ByteArray := (strings_Split.f a0 (⟨#[10]⟩ : ByteArray)).bind fun L => leftGo k L lettersB []
theorem leftGo.mono (k : Nat) (L : List ByteArray) : ∀ (l : List (UInt8 × List UInt8)) (out : List UInt8), LeO (leftGo k L l out) (leftGo (k + 1) L l out)
  | [], _ => LeO.refl _
  | p :: l, out => by
    unfold leftGo
    refine LeO.bind (slices_Contains_string_string.mono _ _ _) (fun h => LeO.ite (leftGo.mono k L l _) (LeO.ite (LeO.bind (slices_Contains_string_string.mono _ _ _) (fun h2 => LeO.ite (leftGo.mono k L l _) (leftGo.mono k L l _))) (leftGo.mono k L l _)))
theorem pipe_Left.mono : ∀ a0 k, LeO (pipe_Left.f k a0) (pipe_Left.f (k + 1) a0) := by
  intro a0 k
  unfold pipe_Left.f
  exact LeO.bind (LeO.refl _) (fun L => leftGo.mono k L _ _)

theorem run_lookup_lang {w : World} {r : Nat} (hb : w.heap[r]? = some (.map langMap 6)) (n : Int) (v : Value) (i : Nat) (h : Instr.findNow (.int .u8) (.int .u8 n) langMap.toList 0 = some (some (i, v))) :
    (Instr.lookup 58 (.map (some r)) (.int .u8 n) false).run Tryz.prog w = .ok v w := by
  have hck : (Instr.checkKey (Array.isEmpty langMap) 10000 5 (.int .u8 n)).run Tryz.prog w = .ok () w := Go.MapKept.run_checkKey Tryz.underlying5 (by simp [Go.MapKept.IsKey]) _ 9999
  simp [Instr.lookup, run_underlying Tryz.underlying58, Result.andThen, Go.MapKept.run_getObj_map hb, hck, Go.MapKept.run_findKey Tryz.underlying5 h]

theorem run_field_lang (w : World) (s : ByteArray) (x y : Value) : (Instr.field 57 (.agg #[.string s, x, y]) 0).run Tryz.prog w = .ok (.string s) w := by
  simp [Instr.field, run_underlying Tryz.underlying57, Result.andThen, part, asAgg, go_sem]

/-- The loop's state. -/
def LInv (k : Nat) (r : ByteArray) (L : List ByteArray) (w2 : World) (n : Nat) (v4 v12 : Value) (w' : World) : Prop :=
  ∃ (i : Nat) (out : List UInt8), v4 = .string ⟨out.toArray⟩ ∧ v12 = .int .i64 i ∧ Aside0 (i + n = 6) ∧ Aside0 (out.length ≤ i) ∧ Aside0 (leftGo k L (lettersB.drop i) out = some r) ∧ Aside0 (Below w2.heap.size w2 w')

def rowC : Array Value := #[.int .u8 114, .int .u8 99, .int .u8 103, .int .u8 112, .int .u8 116, .int .u8 101]
theorem letter_facts (i : Nat) (hi : i < 6) : ∃ (c : UInt8) (s : List UInt8) (e f : Value), lettersB.drop i = (c, s) :: lettersB.drop (i + 1) ∧ Instr.findNow (.int .u8) (.int .u8 (c.toNat : Int)) langMap.toList 0 = some (some (i, .agg #[.string ⟨s.toArray⟩, e, f])) ∧ rowC[i]? = some (.int .u8 (c.toNat : Int)) ∧ Utf8.encode (c.toNat : Int) = ⟨#[c]⟩ := by
  obtain rfl | rfl | rfl | rfl | rfl | rfl : i = 0 ∨ i = 1 ∨ i = 2 ∨ i = 3 ∨ i = 4 ∨ i = 5 := by omega
  · exact ⟨114, [46, 91], .string ⟨([46, 93] : List UInt8).toArray⟩, .nilFunc, rfl, by kernel_rfl, by kernel_rfl, by kernel_rfl⟩
  · exact ⟨99, [46, 67, 72], .string ⟨([46, 67, 69] : List UInt8).toArray⟩, fnV 34, rfl, by kernel_rfl, by kernel_rfl, by kernel_rfl⟩
  · exact ⟨103, [46, 71, 49], .string ⟨([46, 71, 50] : List UInt8).toArray⟩, fnV 38, rfl, by kernel_rfl, by kernel_rfl, by kernel_rfl⟩
  · exact ⟨112, [46, 80, 83], .string ⟨([46, 80, 69] : List UInt8).toArray⟩, fnV 41, rfl, by kernel_rfl, by kernel_rfl, by kernel_rfl⟩
  · exact ⟨116, [46, 84, 83], .string ⟨([46, 84, 69] : List UInt8).toArray⟩, fnV 44, rfl, by kernel_rfl, by kernel_rfl, by kernel_rfl⟩
  · exact ⟨101, [46, 69, 81], .string ⟨([46, 69, 78] : List UInt8).toArray⟩, fnV 46, rfl, by kernel_rfl, by kernel_rfl, by kernel_rfl⟩
theorem below_drewN1 {B : Nat} {a w : World} (h : Below B a w) (n : Nat) : Below B a (w.drewN n) := ⟨h.os, h.tape, h.output, h.size, h.block⟩
theorem cell_new (w : World) (C : Array Value) (t : TypeId) (z : Nat × Nat) (i : Nat) : (w.alloc (.cells C t z)).cell? ⟨w.heap.size, i, none⟩ = C[i]? := by
  have h := heap_new w (.cells C t z)
  unfold World.cell?
  rw [h]
  simp
theorem str_snoc (out : List UInt8) (c : UInt8) : (⟨out.toArray⟩ : ByteArray) ++ ⟨#[c]⟩ = ⟨(out ++ [c]).toArray⟩ := by
  apply ByteArray.ext
  apply Array.toList_inj.1
  rw [ByteArray.data_append, Array.toList_append]

set_option maxHeartbeats 16000000 in
set_option maxRecDepth 100000 in
theorem pipe_Left.calls (k : Nat) (a0 : ByteArray) (r : ByteArray) (w : World) (hv_ : LaidV w) (h : pipe_Left.f k a0 = some r) :
    Calls Tryz.prog 13 #[.string a0] w fun e w' => e = .returned (.string r) ∧ Below w.heap.size w w' := by
  unfold pipe_Left.f at h
  obtain ⟨L, hL, hgo⟩ := Option.bind_eq_some_iff.1 h
  have HL := Aside0.mk hL
  have HGO := Aside0.mk hgo
  have HV := Aside0.mk hv_
  clear h hL hgo hv_
  go_enter Tryz.func13, Tryz.ntmps13
  go_wp2_with fail
  refine (strings_Split.calls _ _ _ _ HV.out HL.out).mono ?_
  rintro e w1 ⟨v, rfl, hR, hB1⟩
  obtain ⟨A, cS, rfl⟩ := Kd.R_slice hR
  have hC := (Kd.R_reads' hR).2.2
  have hcl := (Kd.R_reads' hR).2.1
  have HC := Aside0.mk hC
  have HCL := Aside0.mk hcl
  have HB1 := Aside0.mk hB1
  clear hR hC hcl hB1
  have hcv := fun (w : World) (C : Array Value) (n c : Nat) => Lib.run_convert_bytes_const (P := Tryz.prog) w 53 5 C n c Tryz.underlying53 Tryz.underlying5
  go_wp2
  go_loopg [4, 12] 6 (fun n v4 v12 w' => LInv k r L (w1.alloc (.cells rowC 5 (6, 7))) n v4 v12 w')
  case atStart => exact ⟨0, [], rfl, rfl, ⟨rfl⟩, ⟨by simp⟩, ⟨HGO.out⟩, ⟨Below.refl _ _⟩⟩
  case round =>
    clear hcv
    obtain ⟨i, out, rfl, rfl, HI, HO, HG, HB⟩ := hrel
    have hBW : Below w.heap.size w wr := HB1.out.trans (((Below.refl _ _).alloc (Nat.le_refl _) _).trans (HB.out.mono (by simp)) |>.mono HB1.out.size)
    have HBW := Aside0.mk hBW
    clear hBW
    cases gk with
    | zero =>
      have hi := HI.out
      obtain rfl : i = 6 := by omega
      have hr : (⟨out.toArray⟩ : ByteArray) = r := Option.some.inj HG.out
      have HR := Aside0.mk hr
      clear hr hi
      go_wp2
      go_ret
      exact ⟨by first | rfl | (rw [← HR.out]; rfl), HBW.out⟩
    | succ g =>
      have hi : i < 6 := by have := HI.out; omega
      obtain ⟨c, s, fe, ff, hdrop, hfind, hrow, henc⟩ := letter_facts i hi
      have hg := HG.out
      rw [hdrop, leftGo] at hg
      obtain ⟨h1, hc1, hrest⟩ := Option.bind_eq_some_iff.1 hg
      have hcell : wr.cell? ⟨w1.heap.size, i, none⟩ = some (.int .u8 (c.toNat : Int)) := (HB.out.cell (p := ⟨w1.heap.size, i, none⟩) (by simp)).trans ((cell_new w1 rowC 5 (6, 7) i).trans hrow)
      have HF := Aside0.mk hfind
      have HC1 := Aside0.mk hc1
      have HRest := Aside0.mk hrest
      have hiz : (i : Int) < 6 := by omega
      have hi0 : (0 : Int) ≤ (i : Int) := by omega
      have hc0 : (0 : Int) ≤ (c.toNat : Int) := by omega
      have hc2 : (c.toNat : Int) < 256 := by have := c.toNat_lt; omega
      have hwi : IntKind.i64.wrap ((i : Int) + 1) = ((i + 1 : Nat) : Int) := by simp [IntKind.wrap, IntKind.signed, IntKind.bits]; omega
      clear hdrop hfind hrow hg hc1 hrest
      have hszO : (⟨out.toArray⟩ : ByteArray).size + (⟨#[c]⟩ : ByteArray).size ≤ 9223372036854775807 := by have := HO.out; simp [ByteArray.size]; omega
      have hcat := str_snoc out c
      go_wp2_with fail
      refine (languages_calls _).mono ?_
      rintro e w3 ⟨rfl, hw3⟩
      have hM : w3.heap[wr.heap.size]? = some (.map langMap 6) := by rw [hw3]; exact heap_new wr _
      have hlk := run_lookup_lang hM _ _ _ HF.out
      have hfl := run_field_lang w3 (⟨s.toArray⟩ : ByteArray) fe ff
      have hB3 : Below wr.heap.size wr w3 := by rw [hw3]; exact (Below.refl _ _).alloc (Nat.le_refl _) _
      have HB3 := Aside0.mk hB3
      have hbw3 : Below w1.heap.size w1 w3 := (((Below.refl _ _).alloc (Nat.le_refl _) _).trans (HB.out.mono (by simp))).trans (hB3.mono (by have := HB.out.size; simp at this; omega))
      have HBW3 := Aside0.mk hbw3
      clear hw3 hM hB3 hbw3
      go_wp2_with fail
      refine (slices_Contains_string_string.calls k _ _ L _ h1 _ (Kd.C_below HC.out HBW3.out) HCL.out HC1.out).mono ?_
      rintro e w4 ⟨rfl, nd, rfl⟩
      clear hlk hfl
      have hfin : ∀ (o' : List UInt8) (w' : World), o'.length ≤ i + 1 → leftGo k L (lettersB.drop (i + 1)) o' = some r → Below w3.heap.size w3 w' → LInv k r L (w1.alloc (.cells rowC 5 (6, 7))) g (.string ⟨o'.toArray⟩) (.int .i64 ((i + 1 : Nat) : Int)) w' := by
        intro o' w' h1 h2 h3
        refine ⟨i + 1, o', rfl, rfl, ⟨by have := HI.out; omega⟩, ⟨h1⟩, ⟨h2⟩, ⟨?_⟩⟩
        have s1 := HB.out.size
        have s2 := HB3.out.size
        exact (HB.out.trans (HB3.out.mono s1)).trans (h3.mono (by omega))
      have HFIN := Aside0.mk hfin
      clear hfin
      cases h1 with
      | true =>
        have hr := HRest.out
        rw [if_pos rfl] at hr
        have HR1 := Aside0.mk hr
        clear hr HRest
        go_wp2
        go_roundg g
        case measure => omega
        case rel => exact HFIN.out _ _ (by have := HO.out; simp; omega) HR1.out (below_drewN1 (Below.refl _ _) _)
      | false =>
        have hr := HRest.out
        rw [if_neg (by simp)] at hr
        by_cases c114 : c = 114
        · have hq : ((c.toNat : Int) == 114) = true := by subst c114; rfl
          rw [if_pos c114] at hr
          obtain ⟨h2, hc3, hr2⟩ := Option.bind_eq_some_iff.1 hr
          have HC3 := Aside0.mk hc3
          have HR2 := Aside0.mk hr2
          clear hr hc3 hr2 c114 HRest
          go_wp2_with fail
          refine (slices_Contains_string_string.calls k _ _ L _ h2 _ (Kd.C_below HC.out (below_drewN1 HBW3.out _)) HCL.out HC3.out).mono ?_
          rintro e w5 ⟨rfl, nd2, rfl⟩
          cases h2 with
          | true =>
            have hr := HR2.out
            rw [if_pos rfl] at hr
            have HR1 := Aside0.mk hr
            clear hr HR2
            go_wp2
            go_roundg g
            case measure => omega
            case rel => exact HFIN.out _ _ (by have := HO.out; simp; omega) HR1.out (below_drewN1 (Below.refl _ _) _)
          | false =>
            have hr := HR2.out
            rw [if_neg (by simp)] at hr
            have HR1 := Aside0.mk hr
            clear hr HR2
            go_wp2
            go_roundg g
            case measure => omega
            case rel => exact HFIN.out _ _ (by have := HO.out; omega) HR1.out (below_drewN1 (Below.refl _ _) _)
        · have hq : ((c.toNat : Int) == 114) = false := beq_eq_false_iff_ne.2 (fun e => c114 (UInt8.toNat_inj.1 (by show c.toNat = 114; omega)))
          rw [if_neg c114] at hr
          have HR1 := Aside0.mk hr
          clear hr c114 HRest
          go_wp2
          go_roundg g
          case measure => omega
          case rel => exact HFIN.out _ _ (by have := HO.out; omega) HR1.out (below_drewN1 (Below.refl _ _) _)
end Go.Proofs.YtjgalagflhmhdaaGreatDoor.QPipe
