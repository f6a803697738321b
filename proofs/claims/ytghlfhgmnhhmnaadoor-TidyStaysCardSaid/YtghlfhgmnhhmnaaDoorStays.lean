/-
  frisketlaw37.TidyStays: the walk.
-/
import Derived.Test.YtghlfhgmnhhmnaaDoorKinds
import Derived.Test.YtghlfhgmnhhmnaaDoorQTidyx5
import Derived.Test.YtghlfhgmnhhmnaaDoorQTidyx5
import Derived.Test.YtghlfhgmnhhmnaaDoorQTidyx1
namespace Go.Proofs.YtghlfhgmnhhmnaaDoor.QTidy
open Go.RowKit Go.Proofs.YtghlfhgmnhhmnaaDoorW.PrintWords Go.Proofs.YtghlfhgmnhhmnaaDoorW.PrintLast Go.Proofs.YtghlfhgmnhhmnaaDoorW.PrintMore
set_option linter.unusedVariables false
set_option linter.unusedSimpArgs false

/-- The pairs of a beginning and an end. -/
def pairsL : List (ByteArray × ByteArray) := [(⟨#[46, 100, 101, 32, 120, 120]⟩, ⟨#[46, 46]⟩), (⟨#[46, 84, 83]⟩, ⟨#[46, 84, 69]⟩), (⟨#[46, 69, 81]⟩, ⟨#[46, 69, 78]⟩), (⟨#[46, 80, 83]⟩, ⟨#[46, 80, 69]⟩), (⟨#[46, 71, 49]⟩, ⟨#[46, 71, 50]⟩), (⟨#[46, 91]⟩, ⟨#[46, 93]⟩), (⟨#[46, 67, 72]⟩, ⟨#[46, 67, 69]⟩), (⟨#[46, 105, 103, 32, 122, 122]⟩, ⟨#[46, 122, 122]⟩)]

theorem pick8 (block : Int) : wrap64 ((IntKind.u64.wrap block).tmod 8) = 0 ∨ wrap64 ((IntKind.u64.wrap block).tmod 8) = 1 ∨ wrap64 ((IntKind.u64.wrap block).tmod 8) = 2 ∨ wrap64 ((IntKind.u64.wrap block).tmod 8) = 3 ∨ wrap64 ((IntKind.u64.wrap block).tmod 8) = 4 ∨ wrap64 ((IntKind.u64.wrap block).tmod 8) = 5 ∨ wrap64 ((IntKind.u64.wrap block).tmod 8) = 6 ∨ wrap64 ((IntKind.u64.wrap block).tmod 8) = 7 := by
  have h : 0 ≤ IntKind.u64.wrap block := by simp [IntKind.wrap, IntKind.signed, IntKind.bits]; omega
  have h2 : (IntKind.u64.wrap block).tmod 8 = (IntKind.u64.wrap block) % 8 := Int.tmod_eq_emod_of_nonneg h
  rw [h2]
  have h3 : wrap64 ((IntKind.u64.wrap block) % 8) = (IntKind.u64.wrap block) % 8 := by
    have : 0 ≤ (IntKind.u64.wrap block) % 8 ∧ (IntKind.u64.wrap block) % 8 < 8 := by omega
    simp [wrap64, IntKind.wrap, IntKind.signed, IntKind.bits]; omega
  rw [h3]
  omega

theorem pair_laid (w : World) (o1 o2 : Obj) : ((w.alloc o1).alloc o2).heap[w.heap.size + 1]? = some o2 := by
  have := heap_alloc_new (w.alloc o1) o2
  simpa using this
/-- What stands behind the choice of the pair. -/
def Chosen (w : World) (wc : World) (s6 : Value) : Prop := ∃ p : ByteArray × ByteArray, p ∈ pairsL ∧ s6 = .pointer (some ⟨w.heap.size + 1, 0, none⟩) ∧ wc.cell? ⟨w.heap.size + 1, 0, none⟩ = some (.string p.1) ∧ wc.cell? ⟨w.heap.size + 1, 1, none⟩ = some (.string p.2) ∧ w.heap.size + 2 ≤ wc.heap.size ∧ Below w.heap.size w wc
theorem Chosen.of (w : World) (o1 : Obj) (a b : ByteArray) (t : Nat) (h : (a, b) ∈ pairsL) : Chosen w ((w.alloc o1).alloc (.cells #[.string a, .string b] t)) (.pointer (some ⟨w.heap.size + 1, 0, none⟩)) :=
  ⟨(a, b), h, rfl, (blk_cell (pair_laid w o1 _) 0).trans rfl, (blk_cell (pair_laid w o1 _) 1).trans rfl, by simp, below_alloc (below_alloc (Below.refl _ _) _) _⟩

/-- The lines of 'bits'. -/
def bitsL : List ByteArray := (frisketlaw37_bits.f).getD []
theorem bits_some : frisketlaw37_bits.f = some bitsL := rfl
theorem bits_len : bitsL.length = 49 := rfl
theorem bits_size : ∀ x ∈ bitsL, x.size ≤ 16 := by decide
/-- The line of a number. -/
def bitOf (q : Int) : ByteArray := rdOf ByteArray.empty bitsL (wrap64 ((IntKind.u64.wrap q).tmod 49))
/-- The lines that are passed over. -/
def skipB (p2 x : ByteArray) : Bool := (x.toList == p2.toList) || (x.toList == [46, 46]) || (x.toList == []) || (bt x ((x.size : Int) - 1) == 92)
def stepB (p2 s : ByteArray) (q : Int) : ByteArray := if skipB p2 (bitOf q) = true then s else s ++ (bitOf q ++ (⟨#[10]⟩ : ByteArray))
def stayB (p2 s : ByteArray) (l : List Int) : ByteArray := l.foldl (stepB p2) s
/-- The text. -/
def staysText (p : ByteArray × ByteArray) (l : List Int) : ByteArray := stayB p.2 (p.1 ++ (⟨#[10]⟩ : ByteArray)) (l.take 40) ++ (p.2 ++ (⟨#[10]⟩ : ByteArray))
theorem pick49 (q : Int) : 0 ≤ wrap64 ((IntKind.u64.wrap q).tmod 49) ∧ wrap64 ((IntKind.u64.wrap q).tmod 49) < 49 := by
  have h : 0 ≤ IntKind.u64.wrap q := by simp [IntKind.wrap, IntKind.signed, IntKind.bits]; omega
  have h2 : (IntKind.u64.wrap q).tmod 49 = (IntKind.u64.wrap q) % 49 := Int.tmod_eq_emod_of_nonneg h
  rw [h2]
  have h3 : wrap64 ((IntKind.u64.wrap q) % 49) = (IntKind.u64.wrap q) % 49 := by
    have : 0 ≤ (IntKind.u64.wrap q) % 49 ∧ (IntKind.u64.wrap q) % 49 < 49 := by omega
    simp [wrap64, IntKind.wrap, IntKind.signed, IntKind.bits]; omega
  rw [h3]
  omega
theorem bitOf_mem (q : Int) : bitOf q ∈ bitsL := by
  obtain ⟨h0, h1⟩ := pick49 q
  unfold bitOf rdOf
  have : (wrap64 ((IntKind.u64.wrap q).tmod 49)).toNat < bitsL.length := by rw [bits_len]; omega
  rw [List.getD_eq_getElem?_getD, List.getElem?_eq_getElem this]
  exact List.getElem_mem _
theorem bitOf_size (q : Int) : (bitOf q).size ≤ 16 := bits_size _ (bitOf_mem q)
theorem pairs_size : ∀ p ∈ pairsL, p.1.size ≤ 6 ∧ p.2.size ≤ 4 := by decide

/-- The loop's state. -/
def SInv (p : ByteArray × ByteArray) (wc : World) (l0 : List Int) (n : Nat) (v8 v9 : Value) (w' : World) : Prop :=
  ∃ (i : Nat) (s : ByteArray), v8 = .string s ∧ v9 = .int .i64 i ∧ Aside0 (i + n = min l0.length 40) ∧ Aside0 (s = stayB p.2 (p.1 ++ (⟨#[10]⟩ : ByteArray)) (l0.take i)) ∧ Aside0 (s.size ≤ 20 + 20 * i) ∧ Aside0 (Below wc.heap.size wc w')

set_option maxHeartbeats 8000000 in
set_option maxRecDepth 100000 in
theorem stays_walk (A0 : Option Addr) (c0 : Nat) (l0 : List Int) (block : Int) (w : World) (hr0 : Kd.C (Kd.int .i64) w A0 l0.length l0) (hc0 : l0.length ≤ c0) (hv_ : LaidV w)
    (k1 k2 : Nat) (hT : ∀ p ∈ pairsL, tidy_Tidy.f k1 (staysText p l0) = some (staysText p l0, 0)) (hSane : frisketlaw37_sane.f k2 = some true) :
    Calls Tryd.prog 3 #[.slice A0 l0.length c0, .int .i64 block] w fun e w' => e = .returned (.bool true) ∧ Below w.heap.size w w' := by
  have HR0 := Aside0.mk hr0
  have HC0 := Aside0.mk hc0
  have HV := Aside0.mk hv_
  have HT := Aside0.mk hT
  have HSA := Aside0.mk hSane
  have HP8 := Aside0.mk (pick8 block)
  clear hr0 hc0 hv_ hT hSane
  go_enter Tryd.func3, Tryd.ntmps3
  go_upto_region 2 with (fail)
  go_cut [6] from 22 (fun s6 wc => Chosen w wc s6)
  case first =>
    rcases HP8.out with hidx | hidx | hidx | hidx | hidx | hidx | hidx | hidx <;> (go_wp2; go_meet; refine Chosen.of _ _ _ _ _ ?_; simp [pairsL])
  case rest =>
    obtain ⟨p, hp, rfl, hc1, hc2, hsz, hb⟩ := hcut
    go_upto_region 3 with fail
    have HP := Aside0.mk hp
    have HC1 := Aside0.mk hc1
    have HC2 := Aside0.mk hc2
    have HSZ := Aside0.mk hsz
    have HB := Aside0.mk hb
    clear hp hc1 hc2 hsz hb
    go_wp2_with fail
    refine (frisketlaw37_bits.calls bitsL wc bits_some).mono ?_
    rintro e w1 ⟨v0, rfl, ho, hb1⟩
    obtain ⟨A1, c1, rfl⟩ := Kd.R_slice ho
    have HRB := Aside0.mk (Kd.R_reads' ho).2.2
    have HCB := Aside0.mk (Kd.R_reads' ho).2.1
    have HB1 := Aside0.mk hb1
    clear ho hb1
    have hc1 : w1.cell? ⟨w.heap.size + 1, 0, none⟩ = some (.string p.1) := (HB1.out.cell (p := ⟨w.heap.size + 1, 0, none⟩) (by have := HSZ.out; show w.heap.size + 1 < wc.heap.size; omega)).trans HC1.out
    have hs1 : (9223372036854775807 < p.1.size + 1) = False := eq_false (by have := (pairs_size p HP.out).1; omega)
    have HCW : Aside0 (w1.cell? ⟨w.heap.size + 1, 1, none⟩ = some (.string p.2)) := ⟨(HB1.out.cell (p := ⟨w.heap.size + 1, 1, none⟩) (by have := HSZ.out; show w.heap.size + 1 < wc.heap.size; omega)).trans HC2.out⟩
    have HBW := Aside0.mk (HB.out.trans (HB1.out.mono HB.out.size))
    have HSW : Aside0 (w.heap.size + 2 ≤ w1.heap.size) := ⟨by have := HSZ.out; have := HB1.out.size; omega⟩
    rw [bits_len]
    go_wp2_with fail
    clear hc1 hs1 HB HB1 HC1 HC2
    go_loopg [8, 9] (min l0.length 40) (fun n v8 v9 w' => SInv p w1 l0 n v8 v9 w')
    case atStart => exact ⟨0, _, rfl, rfl, ⟨by omega⟩, ⟨rfl⟩, ⟨by have := (pairs_size p HP.out).1; show (p.1 ++ (⟨#[10]⟩ : ByteArray)).size ≤ _; rw [ByteArray.size_append]; have : (⟨#[10]⟩ : ByteArray).size = 1 := rfl; omega⟩, ⟨Below.refl _ _⟩⟩
    case round =>
      obtain ⟨i, s, rfl, rfl, HI, HS, HZ, HBr⟩ := hrel
      have hc2 : wr.cell? ⟨w.heap.size + 1, 1, none⟩ = some (.string p.2) := (HBr.out.cell (p := ⟨w.heap.size + 1, 1, none⟩) (by have := HSW.out; show w.heap.size + 1 < w1.heap.size; omega)).trans HCW.out
      cases gk with
      | zero =>
        have hi := HI.out
        have hss : (9223372036854775807 < p.2.size + 1) = False := eq_false (by have := (pairs_size p HP.out).2; omega)
        have hss2 : (9223372036854775807 < s.size + (p.2.size + 1)) = False := eq_false (by have := (pairs_size p HP.out).2; have := HZ.out; omega)
        by_cases hl : i < l0.length
        · have b0 : (i < l0.length) = True := eq_true (by omega)
          have b1 : ((i : Int) < 40) = False := eq_false (by omega)
          have HTK : Aside0 (l0.take i = l0.take 40) := ⟨by rw [show i = 40 by omega]⟩
          clear hi hl
          go_wp2_with fail
          obtain ⟨T, hTe⟩ : ∃ T, s ++ (p.2 ++ (⟨#[10]⟩ : ByteArray)) = T := ⟨_, rfl⟩
          have HTT : Aside0 (tidy_Tidy.f k1 T = some (T, 0)) := ⟨by rw [← hTe, HS.out, HTK.out]; exact HT.out p HP.out⟩
          rw [hTe]
          clear hTe
          refine (tidy_Tidy.calls k1 T T 0 wr (LaidV.mono HV.out (HBW.out.trans (HBr.out.mono HBW.out.size))) HTT.out).mono ?_
          rintro e w2 ⟨rfl, hb2⟩
          have HB2 := Aside0.mk (HBW.out.trans ((HBr.out.trans (hb2.mono HBr.out.size)).mono HBW.out.size))
          clear hb2
          obtain ⟨e1, e2⟩ := strEq (s := T) rfl
          go_wp2_with (go_at_call 6; refine (frisketlaw37_sane.calls k2 true w2 (LaidV.mono HV.out HB2.out) HSA.out).mono ?_; rintro e w3 ⟨rfl, hb3⟩; have HB3 := Aside0.mk (HB2.out.trans (hb3.mono HB2.out.size)); clear hb3)
          go_ret
          exact ⟨rfl, HB3.out⟩
        · have b0 : (i < l0.length) = False := eq_false (by omega)
          have HTK : Aside0 (l0.take i = l0.take 40) := ⟨by rw [List.take_of_length_le (by omega), List.take_of_length_le (by omega)]⟩
          clear hi hl
          go_wp2_with fail
          obtain ⟨T, hTe⟩ : ∃ T, s ++ (p.2 ++ (⟨#[10]⟩ : ByteArray)) = T := ⟨_, rfl⟩
          have HTT : Aside0 (tidy_Tidy.f k1 T = some (T, 0)) := ⟨by rw [← hTe, HS.out, HTK.out]; exact HT.out p HP.out⟩
          rw [hTe]
          clear hTe
          refine (tidy_Tidy.calls k1 T T 0 wr (LaidV.mono HV.out (HBW.out.trans (HBr.out.mono HBW.out.size))) HTT.out).mono ?_
          rintro e w2 ⟨rfl, hb2⟩
          have HB2 := Aside0.mk (HBW.out.trans ((HBr.out.trans (hb2.mono HBr.out.size)).mono HBW.out.size))
          clear hb2
          obtain ⟨e1, e2⟩ := strEq (s := T) rfl
          go_wp2_with (go_at_call 6; refine (frisketlaw37_sane.calls k2 true w2 (LaidV.mono HV.out HB2.out) HSA.out).mono ?_; rintro e w3 ⟨rfl, hb3⟩; have HB3 := Aside0.mk (HB2.out.trans (hb3.mono HB2.out.size)); clear hb3)
          go_ret
          exact ⟨rfl, HB3.out⟩
      | succ n =>
        have hi := HI.out
        have hlt : i < l0.length := by omega
        have b0 : (i < l0.length) = True := eq_true (by omega)
        have b1 : ((i : Int) < 40) = True := eq_true (by omega)
        obtain ⟨ad, e, hcell0⟩ := Kd.at_int HR0.out (i : Int) (by omega) (by omega)
        cases e
        have hq : rd l0 (i : Int) = l0[i] := by simp [rd, hlt]
        have hcell : wr.cell? (ad.add i) = some (.int .i64 l0[i]) := by
          rw [hq, Int.toNat_natCast] at hcell0
          exact ((HBW.out.trans (HBr.out.mono HBW.out.size)).cell (p := ad.add i) (World.block_lt_of_cell? w _ hcell0)).trans hcell0
        clear hcell0 hq
        have HTK : Aside0 (∀ q, l0[i] = q → stepB p.2 s q = stayB p.2 (p.1 ++ (⟨#[10]⟩ : ByteArray)) (l0.take (i + 1))) := ⟨by
          rintro q rfl
          rw [HS.out, stayB, stayB, List.take_succ_eq_append_getElem hlt, List.foldl_append]; rfl⟩
        generalize hqq : l0[i] = q at hcell
        replace HTK := Aside0.mk (HTK.out q hqq)
        clear hqq
        obtain ⟨j0, j1⟩ := pick49 q
        obtain ⟨ad2, e2, hcellx⟩ := Kd.at_string HRB.out (wrap64 ((IntKind.u64.wrap q).tmod 49)) j0 (by rw [bits_len]; exact j1)
        cases e2
        have hcx : wr.cell? (ad2.add (wrap64 ((IntKind.u64.wrap q).tmod 49)).toNat) = some (.string (bitOf q)) := (HBr.out.cell (World.block_lt_of_cell? w1 _ hcellx)).trans hcellx
        clear hcellx
        have HXZ := Aside0.mk (bitOf_size q)
        have HSB : Aside0 (stepB p.2 s q = if skipB p.2 (bitOf q) = true then s else s ++ (bitOf q ++ (⟨#[10]⟩ : ByteArray))) := ⟨rfl⟩
        generalize bitOf q = x at hcx HXZ HSB
        have hw1 : IntKind.i64.wrap ((i : Int) + 1) = (i : Int) + 1 := by simp [IntKind.wrap, IntKind.signed, IntKind.bits]; omega
        have b2 : (0 ≤ wrap64 ((IntKind.u64.wrap q).tmod 49)) = True := eq_true j0
        have b3 : (wrap64 ((IntKind.u64.wrap q).tmod 49) < 49) = True := eq_true j1
        clear hi hlt j0 j1
        by_cases q1 : x.toList = p.2.toList
        · have Q1 := Aside0.mk q1
          obtain ⟨e1, e2⟩ := strEq q1
          clear q1
          go_wp2_with fail
          go_roundg n
          case measure => omega
          case rel =>
            refine ⟨i + 1, s, rfl, by simp, ⟨by have := HI.out; omega⟩, ⟨?_⟩, ⟨by have := HZ.out; omega⟩, HBr⟩
            rw [← HTK.out, HSB.out, if_pos (by simp [skipB, Q1.out])]
        · have Q1 := Aside0.mk q1
          obtain ⟨e1, e2⟩ := strNe q1
          clear q1
          by_cases q2 : x.toList = [46, 46]
          · have Q2 := Aside0.mk q2
            obtain ⟨e3, e4⟩ := strEq q2
            clear q2
            go_wp2_with fail
            go_roundg n
            case measure => omega
            case rel =>
              refine ⟨i + 1, s, rfl, by simp, ⟨by have := HI.out; omega⟩, ⟨?_⟩, ⟨by have := HZ.out; omega⟩, HBr⟩
              rw [← HTK.out, HSB.out, if_pos (by simp [skipB, Q2.out])]
          · have Q2 := Aside0.mk q2
            obtain ⟨e3, e4⟩ := strNe q2
            clear q2
            by_cases q3 : x.toList = []
            · have Q3 := Aside0.mk q3
              obtain ⟨e5, e6⟩ := strEq q3
              have e7 := strEmpty q3
              clear q3
              go_wp2_with fail
              go_roundg n
              case measure => omega
              case rel =>
                refine ⟨i + 1, s, rfl, by simp, ⟨by have := HI.out; omega⟩, ⟨?_⟩, ⟨by have := HZ.out; omega⟩, HBr⟩
                rw [← HTK.out, HSB.out, if_pos (by simp [skipB, Q3.out])]
            · have Q3 := Aside0.mk q3
              obtain ⟨e5, e6⟩ := strNe q3
              have e7 := strNot q3
              have hpos : 0 < x.size := by
                rcases Nat.eq_zero_or_pos x.size with h | h
                · exact absurd (by rw [Lib.toList_data]; exact List.eq_nil_of_length_eq_zero h) q3
                · exact h
              clear q3
              have b4 : ((1 : Int) ≤ (x.size : Int)) = True := eq_true (by omega)
              have b5 : ((x.size : Int) < 1) = False := eq_false (by omega)
              have hw2 : wrap64 ((x.size : Int) - 1) = (x.size : Int) - 1 := by have := HXZ.out; simp [wrap64, IntKind.wrap, IntKind.signed, IntKind.bits]; omega
              have hx : x.size - 1 < x.size := by omega
              have HBT : Aside0 (bt x ((x.size : Int) - 1) = ((x[x.size - 1]'hx).toNat : Int)) := ⟨by
                have h1 := bt_at x ((x.size : Int) - 1) (by omega)
                rw [← h1]
                have h2 : ((x.size : Int) - 1).toNat = x.size - 1 := by omega
                simp only [h2]⟩
              have hs1 : (9223372036854775807 < x.size + 1) = False := eq_false (by have := HXZ.out; omega)
              have hs2 : (9223372036854775807 < s.size + (x.size + 1)) = False := eq_false (by have := HXZ.out; have := HZ.out; have := HI.out; omega)
              clear hpos
              by_cases q4 : ((x[x.size - 1]'hx).toNat : Int) = 92
              · have Q4 : Aside0 (bt x ((x.size : Int) - 1) = 92) := ⟨by rw [HBT.out, q4]⟩
                have e8 : (((x[x.size - 1]'hx).toNat : Int) == 92) = true := beq_iff_eq.mpr q4
                clear q4
                go_wp2_with fail
                go_roundg n
                case measure => omega
                case rel =>
                  refine ⟨i + 1, s, rfl, by simp, ⟨by have := HI.out; omega⟩, ⟨?_⟩, ⟨by have := HZ.out; omega⟩, HBr⟩
                  rw [← HTK.out, HSB.out, if_pos (by simp [skipB, Q4.out])]
              · have Q4 : Aside0 (¬ bt x ((x.size : Int) - 1) = 92) := ⟨by rw [HBT.out]; exact q4⟩
                have e8 : (((x[x.size - 1]'hx).toNat : Int) == 92) = false := beq_eq_false_iff_ne.mpr q4
                clear q4
                go_wp2_with fail
                go_roundg n
                case measure => omega
                case rel =>
                  refine ⟨i + 1, s ++ (x ++ (⟨#[10]⟩ : ByteArray)), rfl, by simp, ⟨by have := HI.out; omega⟩, ⟨?_⟩, ⟨?_⟩, HBr⟩
                  · rw [← HTK.out, HSB.out, if_neg (by simp [skipB, Q1.out, Q2.out, Q3.out, Q4.out])]
                  · have := HZ.out; have := HXZ.out; rw [ByteArray.size_append, ByteArray.size_append]; have : (⟨#[10]⟩ : ByteArray).size = 1 := rfl; omega
end Go.Proofs.YtghlfhgmnhhmnaaDoor.QTidy
