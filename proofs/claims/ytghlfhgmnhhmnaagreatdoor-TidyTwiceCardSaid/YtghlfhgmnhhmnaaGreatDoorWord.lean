/-
 request.word: an argument at the front of a text, and what is behind it. Condition: a text that is not empty and shorter than 2^47 bytes ('none' else).
-/
import Derived.Test.YtghlfhgmnhhmnaaGreatDoorGiven
import Derived.Test.YtghlfhgmnhhmnaaGreatDoorWTab
import Derived.Test.YtghlfhgmnhhmnaaGreatDoorWFour
import Derived.WalkKit
import Derived.WalkLawsBesides
import Derived.WalkSpells
import Derived.Deep.LoopGhost
import Derived.Deep.CutBlock
import Derived.Lib.AppendStr
import Derived.Lib.ConvBytes
namespace Go.Proofs.YtghlfhgmnhhmnaaGreatDoor.QTidy
open Go.RowKit Go.Proofs.YtghlfhgmnhhmnaaGreatDoorW.PrintWords Go.Proofs.YtghlfhgmnhhmnaaGreatDoorW.PrintLast Go.Proofs.YtghlfhgmnhhmnaaGreatDoorW.PrintMore
set_option linter.unusedVariables false
set_option linter.unusedSimpArgs false

/-- The argument at the front of what is left, within quotes or not, behind what has been read; and what is behind it. -/
def wordL : List UInt8 → Bool → List UInt8 → List UInt8 × List UInt8
 | [], _, out => (out, [])
 | [c], q, out => if q = true ∧ c = 34 then (out, []) else if q = false ∧ (c = 32 ∨ c = 9) then (out, [c]) else (out ++ [c], [])
 | c :: d :: l, q, out =>
  if c = 92 then wordL l q (out ++ [c, d])
  else if q = true ∧ c = 34 then (if d = 34 then wordL l q (out ++ [d]) else wordL (d :: l) false out)
  else if q = false ∧ (c = 32 ∨ c = 9) then (out, c :: d :: l)
  else wordL (d :: l) q (out ++ [c])
def pairB (x : List UInt8 × List UInt8) : ByteArray × ByteArray := (⟨x.1.toArray⟩, ⟨x.2.toArray⟩)
def wordS : List UInt8 → List UInt8 × List UInt8
 | [] => ([], [])
 | c :: l => if c = 34 then wordL l true [] else wordL (c :: l) false []
def request_word.f (a0 : ByteArray) : Option (ByteArray × ByteArray) := if 0 < a0.size ∧ a0.size < 140737488355328 then some (pairB (wordS a0.data.toList)) else none

theorem ba_eta (t : ByteArray) : (⟨t.data.toList.toArray⟩ : ByteArray) = t := by cases t; simp
theorem ba_size (t : ByteArray) : t.data.toList.length = t.size := (Lib.size_eq t).symm
theorem ba_drop (t : ByteArray) (k : Nat) : (t.extract k t.size).data.toList = t.data.toList.drop k := Lib.extract_to_end t k
theorem ba_list (t : ByteArray) : t.toList = t.data.toList := Lib.toList_data t
/-- Bytes as numbers. -/
def ints (l : List UInt8) : List Int := l.map fun b => (b.toNat : Int)
theorem ints_str (l : List UInt8) : strOfNums (ints l) = ⟨l.toArray⟩ := by
 have h : ((fun n : Int => UInt8.ofNat n.toNat) ∘ fun b : UInt8 => (b.toNat : Int)) = id := by funext b; simp
 unfold strOfNums ints
 rw [List.map_map, h, List.map_id]
theorem bt_cons {t : ByteArray} {c : UInt8} {l : List UInt8} (h : t.data.toList = c :: l) : ∀ hh : 0 < t.size, ((t[0]'hh).toNat : Int) = (c.toNat : Int) := by
 intro hh
 have := Lib.data_getElem? t 0 hh
 rw [h] at this
 simp at this
 rw [← this]
theorem ints_snoc (l : List UInt8) (c : UInt8) : ints l ++ [(c.toNat : Int)] = ints (l ++ [c]) := by simp [ints]
theorem ne_byte {c : UInt8} {n : Nat} (h : ¬ c.toNat = n) : ((c.toNat : Int) == (n : Int)) = false := by rw [beq_eq_false_iff_ne]; omega
theorem eq_byte {c : UInt8} {n : Nat} (h : c.toNat = n) : ((c.toNat : Int) == (n : Int)) = true := by rw [beq_iff_eq]; omega
theorem infoU8 : (Tryz.prog.info? 5).map (fun i => (i.zero, i.size, i.bytes)) = some (some (.int .u8 0), 1, 1) := by kernel_rfl

theorem wordL_pair (d : UInt8) (l : List UInt8) (q : Bool) (out : List UInt8) : wordL (92 :: d :: l) q out = wordL l q (out ++ [92, d]) := by rw [wordL, if_pos rfl]
theorem wordL_one (c : UInt8) (l : List UInt8) (q : Bool) (out : List UInt8) (h1 : c = 92 → l = []) (h2 : ¬ (q = true ∧ c = 34)) (h3 : ¬ (q = false ∧ (c = 32 ∨ c = 9))) : wordL (c :: l) q out = wordL l q (out ++ [c]) := by
 cases l with
 | nil => simp only [wordL, if_neg h2, if_neg h3]
 | cons d l => rw [wordL, if_neg (fun e => by cases h1 e), if_neg h2, if_neg h3]
theorem wordL_end (c : UInt8) (l : List UInt8) (out : List UInt8) (h1 : c ≠ 92) (h3 : c = 32 ∨ c = 9) : wordL (c :: l) false out = (out, c :: l) := by
 cases l with
 | nil => rw [wordL, if_neg (by simp), if_pos ⟨rfl, h3⟩]
 | cons d l => rw [wordL, if_neg h1, if_neg (by simp), if_pos ⟨rfl, h3⟩]
theorem wordL_close (l : List UInt8) (out : List UInt8) (h : l.head? ≠ some 34) : wordL (34 :: l) true out = wordL l false out := by
 cases l with
 | nil => simp only [wordL]; rfl
 | cons d l => rw [wordL, if_neg (by decide), if_pos ⟨rfl, rfl⟩, if_neg (by simpa using h)]
theorem wordL_dbl (l : List UInt8) (out : List UInt8) : wordL (34 :: 34 :: l) true out = wordL l true (out ++ [34]) := by
 rw [wordL, if_neg (by decide), if_pos ⟨rfl, rfl⟩, if_pos rfl]
theorem blank_ix (c : UInt8) : (decide (0 ≤ Lib.indexByte [32, 9] c)) = ([32, 9] : List UInt8).contains c := (Lib.contains_iff_indexByte [32, 9] c).symm

/-- The loop's state. -/
def WInv (w : World) (n : Nat) (fin : List UInt8 × List UInt8) (g : Nat) (v0 v4 v5 : Value) (w' : World) : Prop :=
 ∃ (t : ByteArray) (out : List UInt8) (q : Bool), v0 = .string t ∧ v5 = .bool q ∧ t.size = g ∧ Aside0 (wordL t.data.toList q out = fin) ∧ Aside0 (out.length + t.size ≤ n) ∧ Aside0 (Kd.R (Kd.int .u8) 5 w' w.heap.size (fun _ => True) v4 (ints out)) ∧ Aside0 (Below w.heap.size w w')

set_option maxHeartbeats 8000000 in
set_option maxRecDepth 100000 in
theorem request_word.calls (a0 : ByteArray) (r1 r2 : ByteArray) (w : World) (h : request_word.f a0 = some (r1, r2)) :
  Calls Tryz.prog 73 #[.string a0] w fun e w' => e = .returned (.tuple #[.string r1, .string r2]) ∧ Below w.heap.size w w' := by
 unfold request_word.f at h
 by_cases hc : 0 < a0.size ∧ a0.size < 140737488355328
 case neg => rw [if_neg hc] at h; cases h
 rw [if_pos hc] at h
 obtain ⟨h0, hN⟩ := hc
 obtain ⟨rfl, rfl⟩ := Prod.mk.inj (Option.some.inj h)
 clear h
 obtain ⟨c, l, hl⟩ : ∃ c l, a0.data.toList = c :: l := by
  cases e : a0.data.toList with
  | nil => have := ba_size a0; rw [e] at this; simp at this; omega
  | cons c l => exact ⟨c, l, rfl⟩
 have hx := bt_cons hl
 have hlen : l.length + 1 = a0.size := by have := ba_size a0; rw [hl] at this; simpa using this
 have HL := Aside0.mk hl
 have hfin : wordS a0.data.toList = if c = 34 then wordL l true [] else wordL (c :: l) false [] := by rw [hl]; rfl
 generalize wordS a0.data.toList = fin at hfin ⊢
 have HF := Aside0.mk hfin
 have HN := Aside0.mk hN
 have HLN := Aside0.mk hlen
 clear hfin hl hN hlen
 have h0b : decide (0 < a0.size) = true := decide_eq_true h0
 have h0c : decide ((0 : Int) < (a0.size : Int)) = true := decide_eq_true (by omega)
 have h1c : (1 ≤ (a0.size : Int)) = True := eq_true (by omega)
 obtain ⟨q0, t0, hq0, ht0, hi⟩ : ∃ (q0 : Bool) (t0 : ByteArray), ((c.toNat : Int) == 34) = q0 ∧ (if q0 = true then a0.extract 1 a0.size else a0) = t0 ∧ WInv w a0.size fin t0.size (.string t0) (.slice none 0 0) (.bool q0) w := by
  by_cases c34 : c.toNat = 34
  ·refine ⟨true, _, eq_byte c34, rfl, _, [], true, rfl, rfl, rfl, ⟨?_⟩, ⟨?_⟩, ⟨Kd.R_nil _ _ _ _ _⟩, ⟨Below.refl _ _⟩⟩
   ·rw [if_pos rfl, ba_drop, HL.out, HF.out, if_pos (UInt8.toNat_inj.1 c34)]; rfl
   ·rw [if_pos rfl, ← ba_size, ba_drop, HL.out]; have := HLN.out; simp; omega
  ·refine ⟨false, _, ne_byte c34, rfl, _, [], false, rfl, rfl, rfl, ⟨?_⟩, ⟨?_⟩, ⟨Kd.R_nil _ _ _ _ _⟩, ⟨Below.refl _ _⟩⟩
   ·rw [if_neg (by simp), HL.out, HF.out, if_neg (fun e => c34 (UInt8.toNat_inj.2 e))]
   ·rw [if_neg (by simp)]; simp
 have HI := Aside0.mk hi
 clear hi
 have HT0 := Aside0.mk ht0
 clear ht0
 cases q0
 case true =>
  go_enter Tryz.func73, Tryz.ntmps73
  go_wp2
  go_loopg [0, 4, 5] t0.size (fun g v0 v4 v5 w' => WInv w a0.size fin g v0 v4 v5 w')
  case atStart => have := HT0.out; simp at this; subst this; exact HI.out
  case round =>
   clear HI HT0 h0 h0b h0c h1c hx hq0
   obtain ⟨t, out, q, rfl, rfl, hg, HW, HO', HO, HB⟩ := hrel
   have hsz := ba_size t
   cases hL : t.data.toList with
   | nil =>
    have e1 : t.toList.isEmpty = true := by rw [ba_list, hL]; rfl
    have e2 : (t.toList == []) = true := by rw [ba_list, hL]; rfl
    have e3 : (t.toList != []) = false := by rw [ba_list, hL]; rfl
    have hf : fin = (out, []) := by rw [← HW.out, hL]; rfl
    have HFF := Aside0.mk hf
    clear hf hL hsz
    have hcv8 := own_string (P := Tryz.prog) Tryz.underlying59 Tryz.underlying5 Tryz.underlying9 (Kd.own_of_R HO.out)
    rw [ints_str] at hcv8
    go_wp2
    go_ret2
    exact ⟨by rw [HFF.out]; rfl, HB.out⟩
   | cons c l =>
    have e1 : t.toList.isEmpty = false := by rw [ba_list, hL]; rfl
    have e2 : (t.toList == []) = false := by rw [ba_list, hL]; rfl
    have e3 : (t.toList != []) = true := by rw [ba_list, hL]; rfl
    have hx := bt_cons hL
    have hl1 : l.length + 1 = t.size := by rw [hL] at hsz; simpa using hsz
    have HLen := Aside0.mk hl1
    have p0 : (0 < t.size) = True := eq_true (by omega)
    have p1 : (0 < (t.size : Int)) = True := eq_true (by omega)
    have p2 : (1 ≤ (t.size : Int)) = True := eq_true (by omega)
    have p3 : (1 ≤ t.size) = True := eq_true (by omega)
    have hE1 : (t.extract 1 t.size).data.toList = l := by rw [ba_drop, hL]; rfl
    have hE1s : (t.extract 1 t.size).size = l.length := by rw [← ba_size, hE1]
    have HE1 := Aside0.mk hE1
    have HE1s := Aside0.mk hE1s
    have HL := Aside0.mk hL
    have HG := Aside0.mk hg
    clear hsz hl1 hE1 hE1s hL hg
    by_cases h92 : c.toNat = 92 ∧ 1 < t.size
    ·-- a pair
     obtain ⟨h92, h1s⟩ := h92
     have e4 : ((c.toNat : Int) == 92) = true := eq_byte (n := 92) h92
     have e5 : decide ((1 : Int) < (t.size : Int)) = true := decide_eq_true (by omega)
     obtain ⟨d, l', rfl⟩ : ∃ d l', l = d :: l' := by
      cases l with
      | nil => have := HLen.out; simp at this; omega
      | cons d l' => exact ⟨d, l', rfl⟩
     have p4 : (2 ≤ (t.size : Int)) = True := eq_true (by omega)
     have HT2 : Aside0 (2 ≤ t.size) := ⟨by omega⟩
     have HS2 : Aside0 ((t.extract 0 2).size = 2) := ⟨by rw [← ba_size, Lib.extract_from_zero, HL.out]; rfl⟩
     have HE2 : Aside0 (ints out ++ bytesOf (t.extract 0 2) = ints (out ++ [c, d])) := ⟨by unfold bytesOf ints; rw [Lib.extract_from_zero, HL.out]; simp⟩
     have HE3 : Aside0 ((t.extract 2 t.size).data.toList = l') := ⟨by rw [ba_drop, HL.out]; rfl⟩
     have HC92 : Aside0 (c.toNat = (92 : UInt8).toNat) := ⟨h92⟩
     clear h1s h92
     go_wp2_with (first | (at_builtin; go_loud (refine print_append_str (w0 := w) w.heap.size rfl (.tmp 23) _ 59 9 5 rfl Tryz.underlying59 Tryz.underlying9 infoU8 u4 (ints out) (t.extract 0 2) rfl rfl ?aOt ?aBt ?aSt ?aLt ?_); (case aBt => exact (by repeat (first | exact HB.out | refine below_alloc ?_ _ | refine pw_below_drewN ?_ _ | refine below_drew1 ?_))); (case aOt => exact (Kd.own_of_R (by (with_reducible repeat (first | apply Kd.R_alloc | apply Kd.R_drewN | apply Kd.R_drew)); exact HO.out))); (case aSt => exact (below_size (by repeat (first | exact HB.out | refine below_alloc ?_ _ | refine pw_below_drewN ?_ _ | refine below_drew1 ?_)))); (case aLt => have := HO'.out; have := HN.out; have := HS2.out; have := HT2.out; simp only [ints, List.length_map]; omega); intro v113 w18 ho0 hb hg; have ho := Kd.R_of_own (h1 := fun _ => rfl) (ok := fun _ => True) ho0 (fun _ _ => trivial); clear ho0; rw [HE2.out] at ho; change Kd.R (Kd.int .u8) 5 w18 w.heap.size (fun _ => True) v113 (ints (out ++ [c, d])) at ho; have HO2 := Aside0.mk ho; have HB2 := Aside0.mk hb; clear ho hb hg))
     go_roundg l'.length
     case measure => have h1 := HLen.out; have h2 := HG.out; simp only [List.length_cons] at h1; omega
     case rel => exact ⟨t.extract 2 t.size, out ++ [c, d], q, rfl, rfl, by rw [← ba_size, HE3.out], ⟨by rw [HE3.out, ← HW.out, HL.out]; rw [show c = 92 from UInt8.toNat_inj.1 HC92.out, wordL_pair]⟩, ⟨by have := HO'.out; have := HLen.out; rw [← ba_size, HE3.out]; simp at *; omega⟩, HO2, HB2⟩
    ·have HN92 : Aside0 (c = 92 → l = []) := ⟨fun e => by
      cases l with
      | nil => rfl
      | cons d l' => exact absurd ⟨by rw [e]; rfl, by have := HLen.out; simp at this; omega⟩ h92⟩
     cases q with
     | true =>
      have HBL : Aside0 (¬ ((true : Bool) = false ∧ (c = 32 ∨ c = 9))) := ⟨by simp⟩
      by_cases c34 : c.toNat = 34
      ·obtain rfl : c = 34 := UInt8.toNat_inj.1 c34
       have e4 : (((34 : UInt8).toNat : Int) == 92) = false := by decide
       have e6 : (((34 : UInt8).toNat : Int) == 34) = true := by decide
       by_cases hd : l.head? = some 34
       ·obtain ⟨l', rfl⟩ : ∃ l', l = 34 :: l' := by
         cases l with
         | nil => simp at hd
         | cons d l' => simp at hd; exact ⟨l', by rw [hd]⟩
        have HP : Aside0 (Lib.hasPrefix t.data.toList [34, 34] = true) := ⟨by rw [HL.out]; simp [Lib.hasPrefix]⟩
        have hx1 := bt_cons HE1.out
        have hsz1 : 1 < t.size := by have := HLen.out; simp at this; omega
        have p5 : (0 < t.size - 1) = True := eq_true (by omega)
        have p6 : (1 ≤ t.size - 1) = True := eq_true (by omega)
        have p7 : (1 ≤ ((t.size - 1 : Nat) : Int)) = True := eq_true (by omega)
        have p8 : (0 < ((t.size - 1 : Nat) : Int)) = True := eq_true (by omega)
        have HE4 : Aside0 (((t.extract 1 t.size).extract 1 (t.size - 1)).data.toList = l') := ⟨by
         have h1 := HE1s.out
         have h2 := HLen.out
         rw [show t.size - 1 = (t.extract 1 t.size).size from by omega, ba_drop, HE1.out]; rfl⟩
        clear hd hsz1 h92 c34
        go_wp2_with (first | (go_at_call 105; refine (Tryz.strings_HasPrefix _ _ _).mono ?_; rintro e w' ⟨rfl, hw⟩; rw [hw, HP.out]; clear hw) | ((with_reducible refine gate_builtin (b := .append) (xs := #[.tmp 55, .tmp 58]) rfl ?_); (try (refine gate_guard (by rfl) ?_; dsimp only)); at_builtin; refine Kd.R_append (Kd.int .u8) (w0 := w) w.heap.size rfl (.tmp 55) (.tmp 58) 59 5 (.int .u8 0) 1 rfl Tryz.underlying59 infoU8 rfl (by decide) (by omega) u4 (ints out) ((34 : UInt8).toNat : Int) [.int .u8 ((34 : UInt8).toNat : Int)] (fun _ => True) (fun _ => False) rfl rfl ?aPq1t (fun _ hk => hk.elim) ?aFq1t ?aOq1t ?aBq1t ?aSq1t ?aLq1t ?_; (case aPq1t => exact rfl); (case aBq1t => exact (by repeat (first | exact HB.out | refine below_alloc ?_ _ | refine pw_below_drewN ?_ _ | refine below_drew1 ?_))); (case aFq1t => exact (fun _ _ => trivial)); (case aOq1t => exact (by (with_reducible repeat (first | apply Kd.R_alloc | apply Kd.R_drewN | apply Kd.R_drew)); exact HO.out)); (case aSq1t => exact (below_size (by repeat (first | exact HB.out | refine below_alloc ?_ _ | refine pw_below_drewN ?_ _ | refine below_drew1 ?_)))); (case aLq1t => have := HO'.out; have := HN.out; have := HLen.out; simp only [ints, List.length_map]; omega); intro v120 w38 ho hb hg hat; rw [ints_snoc] at ho; have HB2 := Aside0.mk hb; have HO2 := Aside0.mk ho; clear ho hb hg hat))
        go_roundg l'.length
        case measure => have h1 := HLen.out; have h2 := HG.out; simp only [List.length_cons] at h1; omega
        case rel => exact ⟨_, out ++ [34], true, rfl, rfl, by rw [← ba_size, HE4.out], ⟨by rw [HE4.out, ← HW.out, HL.out, wordL_dbl]⟩, ⟨by have := HO'.out; have := HLen.out; rw [← ba_size, HE4.out]; simp only [List.length_append, List.length_singleton, List.length_cons, List.length_nil] at *; omega⟩, HO2, HB2⟩
       ·have HP : Aside0 (Lib.hasPrefix t.data.toList [34, 34] = false) := ⟨by
         rw [HL.out]
         cases l with
         | nil => rfl
         | cons d l' => simp only [List.head?_cons, Option.some.injEq] at hd; show ((34 : UInt8) == 34 && ((34 : UInt8) == d && List.isPrefixOf [] l')) = false; rw [show ((34 : UInt8) == d) = false from beq_eq_false_iff_ne.mpr (fun e => hd e.symm)]; rfl⟩
        have HHD := Aside0.mk hd
        clear hd h92 c34
        go_wp2_with (first | (go_at_call 105; refine (Tryz.strings_HasPrefix _ _ _).mono ?_; rintro e w' ⟨rfl, hw⟩; rw [hw, HP.out]; clear hw))
        go_roundg l.length
        case measure => have := HLen.out; have := HG.out; omega
        case rel => exact ⟨t.extract 1 t.size, out, false, rfl, rfl, HE1s.out, ⟨by rw [HE1.out, ← HW.out, HL.out, wordL_close l out HHD.out]⟩, ⟨by have := HO'.out; have := HLen.out; rw [HE1s.out]; omega⟩, HO, HB⟩
      ·have H34 : Aside0 (¬ ((true : Bool) = true ∧ c = 34)) := ⟨fun e => c34 (by rw [e.2]; rfl)⟩
       have e6 : ((c.toNat : Int) == 34) = false := ne_byte (n := 34) c34
       by_cases c92 : c.toNat = 92
       ·obtain rfl : c = 92 := UInt8.toNat_inj.1 c92
        have e4 : (((92 : UInt8).toNat : Int) == 92) = true := by decide
        have HLN92 : Aside0 (l = []) := ⟨HN92.out rfl⟩
        clear HN92
        have e5 : decide ((1 : Int) < (t.size : Int)) = false := decide_eq_false (fun hh => h92 ⟨rfl, by omega⟩)
        have HEQ : Aside0 (wordL (92 :: l) true out = wordL l true (out ++ [92])) := ⟨wordL_one 92 l true out (fun _ => HLN92.out) H34.out HBL.out⟩
        clear h92 c34 H34 HBL HLN92
        go_wp2_with (first | ((with_reducible refine gate_builtin (b := .append) (xs := #[.tmp 55, .tmp 58]) rfl ?_); (try (refine gate_guard (by rfl) ?_; dsimp only)); at_builtin; refine Kd.R_append (Kd.int .u8) (w0 := w) w.heap.size rfl (.tmp 55) (.tmp 58) 59 5 (.int .u8 0) 1 rfl Tryz.underlying59 infoU8 rfl (by decide) (by omega) u4 (ints out) ((92 : UInt8).toNat : Int) [.int .u8 ((92 : UInt8).toNat : Int)] (fun _ => True) (fun _ => False) rfl rfl ?aPq2t (fun _ hk => hk.elim) ?aFq2t ?aOq2t ?aBq2t ?aSq2t ?aLq2t ?_; (case aPq2t => exact rfl); (case aBq2t => exact (by repeat (first | exact HB.out | refine below_alloc ?_ _ | refine pw_below_drewN ?_ _ | refine below_drew1 ?_))); (case aFq2t => exact (fun _ _ => trivial)); (case aOq2t => exact (by (with_reducible repeat (first | apply Kd.R_alloc | apply Kd.R_drewN | apply Kd.R_drew)); exact HO.out)); (case aSq2t => exact (below_size (by repeat (first | exact HB.out | refine below_alloc ?_ _ | refine pw_below_drewN ?_ _ | refine below_drew1 ?_)))); (case aLq2t => have := HO'.out; have := HN.out; have := HLen.out; simp only [ints, List.length_map]; omega); intro v120 w38 ho hb hg hat; rw [ints_snoc] at ho; have HB2 := Aside0.mk hb; have HO2 := Aside0.mk ho; clear ho hb hg hat))
        go_roundg l.length
        case measure => have := HLen.out; have := HG.out; omega
        case rel => exact ⟨t.extract 1 t.size, out ++ [92], true, rfl, rfl, HE1s.out, ⟨by rw [HE1.out, ← HW.out, HL.out, HEQ.out]⟩, ⟨by have := HO'.out; have := HLen.out; rw [HE1s.out]; simp only [List.length_append, List.length_singleton]; omega⟩, HO2, HB2⟩
       ·have e4 : ((c.toNat : Int) == 92) = false := ne_byte (n := 92) c92
        have HEQ : Aside0 (wordL (c :: l) true out = wordL l true (out ++ [c])) := ⟨wordL_one c l true out HN92.out H34.out HBL.out⟩
        clear h92 c34 c92 H34 HBL HN92
        go_wp2_with (first | ((with_reducible refine gate_builtin (b := .append) (xs := #[.tmp 55, .tmp 58]) rfl ?_); (try (refine gate_guard (by rfl) ?_; dsimp only)); at_builtin; refine Kd.R_append (Kd.int .u8) (w0 := w) w.heap.size rfl (.tmp 55) (.tmp 58) 59 5 (.int .u8 0) 1 rfl Tryz.underlying59 infoU8 rfl (by decide) (by omega) u4 (ints out) (c.toNat : Int) [.int .u8 (c.toNat : Int)] (fun _ => True) (fun _ => False) rfl rfl ?aPq3t (fun _ hk => hk.elim) ?aFq3t ?aOq3t ?aBq3t ?aSq3t ?aLq3t ?_; (case aPq3t => exact rfl); (case aBq3t => exact (by repeat (first | exact HB.out | refine below_alloc ?_ _ | refine pw_below_drewN ?_ _ | refine below_drew1 ?_))); (case aFq3t => exact (fun _ _ => trivial)); (case aOq3t => exact (by (with_reducible repeat (first | apply Kd.R_alloc | apply Kd.R_drewN | apply Kd.R_drew)); exact HO.out)); (case aSq3t => exact (below_size (by repeat (first | exact HB.out | refine below_alloc ?_ _ | refine pw_below_drewN ?_ _ | refine below_drew1 ?_)))); (case aLq3t => have := HO'.out; have := HN.out; have := HLen.out; simp only [ints, List.length_map]; omega); intro v120 w38 ho hb hg hat; rw [ints_snoc] at ho; have HB2 := Aside0.mk hb; have HO2 := Aside0.mk ho; clear ho hb hg hat))
        go_roundg l.length
        case measure => have := HLen.out; have := HG.out; omega
        case rel => exact ⟨t.extract 1 t.size, out ++ [c], true, rfl, rfl, HE1s.out, ⟨by rw [HE1.out, ← HW.out, HL.out, HEQ.out]⟩, ⟨by have := HO'.out; have := HLen.out; rw [HE1s.out]; simp only [List.length_append, List.length_singleton]; omega⟩, HO2, HB2⟩
     | false =>
      have H34 : Aside0 (¬ ((false : Bool) = true ∧ c = 34)) := ⟨by simp⟩
      have hback : ((c.toNat : Int)).toNat.toUInt8 = c := by simp
      by_cases cb : c = 32 ∨ c = 9
      ·have hix : decide (0 ≤ Lib.indexByte [32, 9] c) = true := by rw [blank_ix]; rcases cb with rfl | rfl <;> rfl
       have c92 : c ≠ 92 := by rcases cb with rfl | rfl <;> decide
       have e4 : ((c.toNat : Int) == 92) = false := ne_byte (n := 92) (fun e => c92 (UInt8.toNat_inj.1 e))
       have HFF : Aside0 (fin = (out, c :: l)) := ⟨by rw [← HW.out, HL.out, wordL_end c l out c92 cb]⟩
       clear h92 cb c92
       go_wp2_with (first | (go_at_call 58; refine (strings_IndexByte.calls _ _ _ _ rfl).mono ?_; rintro e w' ⟨rfl, ⟨nd, rfl⟩⟩; have hcv8 := own_string (P := Tryz.prog) Tryz.underlying59 Tryz.underlying5 Tryz.underlying9 (Kd.own_of_R (Kd.R_drewN HO.out nd)); rw [ints_str] at hcv8))
       go_ret2
       exact ⟨by rw [HFF.out]; show _ = Ending.returned (.tuple #[.string ⟨out.toArray⟩, .string ⟨(c :: l).toArray⟩]); rw [← HL.out, ba_eta]; rfl, pw_below_drewN HB.out _⟩
      ·have hix : decide (0 ≤ Lib.indexByte [32, 9] c) = false := by rw [blank_ix]; simp; exact ⟨fun e => cb (.inl e), fun e => cb (.inr e)⟩
       have HBL : Aside0 (¬ ((false : Bool) = false ∧ (c = 32 ∨ c = 9))) := ⟨fun e => cb e.2⟩
       by_cases c92 : c.toNat = 92
       ·obtain rfl : c = 92 := UInt8.toNat_inj.1 c92
        have e4 : (((92 : UInt8).toNat : Int) == 92) = true := by decide
        have HLN92 : Aside0 (l = []) := ⟨HN92.out rfl⟩
        clear HN92
        have e5 : decide ((1 : Int) < (t.size : Int)) = false := decide_eq_false (fun hh => h92 ⟨rfl, by omega⟩)
        have HEQ : Aside0 (wordL (92 :: l) false out = wordL l false (out ++ [92])) := ⟨wordL_one 92 l false out (fun _ => HLN92.out) H34.out HBL.out⟩
        clear h92 cb H34 HBL HLN92
        go_wp2_with (first | (go_at_call 58; refine (strings_IndexByte.calls _ _ _ _ rfl).mono ?_; rintro e w' ⟨rfl, ⟨nd, rfl⟩⟩) | ((with_reducible refine gate_builtin (b := .append) (xs := #[.tmp 55, .tmp 58]) rfl ?_); (try (refine gate_guard (by rfl) ?_; dsimp only)); at_builtin; refine Kd.R_append (Kd.int .u8) (w0 := w) w.heap.size rfl (.tmp 55) (.tmp 58) 59 5 (.int .u8 0) 1 rfl Tryz.underlying59 infoU8 rfl (by decide) (by omega) u4 (ints out) ((92 : UInt8).toNat : Int) [.int .u8 ((92 : UInt8).toNat : Int)] (fun _ => True) (fun _ => False) rfl rfl ?aPq4t (fun _ hk => hk.elim) ?aFq4t ?aOq4t ?aBq4t ?aSq4t ?aLq4t ?_; (case aPq4t => exact rfl); (case aBq4t => exact (by repeat (first | exact HB.out | refine below_alloc ?_ _ | refine pw_below_drewN ?_ _ | refine below_drew1 ?_))); (case aFq4t => exact (fun _ _ => trivial)); (case aOq4t => exact (by (with_reducible repeat (first | apply Kd.R_alloc | apply Kd.R_drewN | apply Kd.R_drew)); exact HO.out)); (case aSq4t => exact (below_size (by repeat (first | exact HB.out | refine below_alloc ?_ _ | refine pw_below_drewN ?_ _ | refine below_drew1 ?_)))); (case aLq4t => have := HO'.out; have := HN.out; have := HLen.out; simp only [ints, List.length_map]; omega); intro v120 w38 ho hb hg hat; rw [ints_snoc] at ho; have HB2 := Aside0.mk hb; have HO2 := Aside0.mk ho; clear ho hb hg hat))
        go_roundg l.length
        case measure => have := HLen.out; have := HG.out; omega
        case rel => exact ⟨t.extract 1 t.size, out ++ [92], false, rfl, rfl, HE1s.out, ⟨by rw [HE1.out, ← HW.out, HL.out, HEQ.out]⟩, ⟨by have := HO'.out; have := HLen.out; rw [HE1s.out]; simp only [List.length_append, List.length_singleton]; omega⟩, HO2, HB2⟩
       ·have e4 : ((c.toNat : Int) == 92) = false := ne_byte (n := 92) c92
        have HEQ : Aside0 (wordL (c :: l) false out = wordL l false (out ++ [c])) := ⟨wordL_one c l false out HN92.out H34.out HBL.out⟩
        clear h92 cb c92 H34 HBL HN92
        go_wp2_with (first | (go_at_call 58; refine (strings_IndexByte.calls _ _ _ _ rfl).mono ?_; rintro e w' ⟨rfl, ⟨nd, rfl⟩⟩) | ((with_reducible refine gate_builtin (b := .append) (xs := #[.tmp 55, .tmp 58]) rfl ?_); (try (refine gate_guard (by rfl) ?_; dsimp only)); at_builtin; refine Kd.R_append (Kd.int .u8) (w0 := w) w.heap.size rfl (.tmp 55) (.tmp 58) 59 5 (.int .u8 0) 1 rfl Tryz.underlying59 infoU8 rfl (by decide) (by omega) u4 (ints out) (c.toNat : Int) [.int .u8 (c.toNat : Int)] (fun _ => True) (fun _ => False) rfl rfl ?aPq5t (fun _ hk => hk.elim) ?aFq5t ?aOq5t ?aBq5t ?aSq5t ?aLq5t ?_; (case aPq5t => exact rfl); (case aBq5t => exact (by repeat (first | exact HB.out | refine below_alloc ?_ _ | refine pw_below_drewN ?_ _ | refine below_drew1 ?_))); (case aFq5t => exact (fun _ _ => trivial)); (case aOq5t => exact (by (with_reducible repeat (first | apply Kd.R_alloc | apply Kd.R_drewN | apply Kd.R_drew)); exact HO.out)); (case aSq5t => exact (below_size (by repeat (first | exact HB.out | refine below_alloc ?_ _ | refine pw_below_drewN ?_ _ | refine below_drew1 ?_)))); (case aLq5t => have := HO'.out; have := HN.out; have := HLen.out; simp only [ints, List.length_map]; omega); intro v120 w38 ho hb hg hat; rw [ints_snoc] at ho; have HB2 := Aside0.mk hb; have HO2 := Aside0.mk ho; clear ho hb hg hat))
        go_roundg l.length
        case measure => have := HLen.out; have := HG.out; omega
        case rel => exact ⟨t.extract 1 t.size, out ++ [c], false, rfl, rfl, HE1s.out, ⟨by rw [HE1.out, ← HW.out, HL.out, HEQ.out]⟩, ⟨by have := HO'.out; have := HLen.out; rw [HE1s.out]; simp only [List.length_append, List.length_singleton]; omega⟩, HO2, HB2⟩
 case false =>
  go_enter Tryz.func73, Tryz.ntmps73
  go_wp2
  go_loopg [0, 4, 5] t0.size (fun g v0 v4 v5 w' => WInv w a0.size fin g v0 v4 v5 w')
  case atStart => have := HT0.out; simp at this; subst this; exact HI.out
  case round =>
   clear HI HT0 h0 h0b h0c h1c hx hq0
   obtain ⟨t, out, q, rfl, rfl, hg, HW, HO', HO, HB⟩ := hrel
   have hsz := ba_size t
   cases hL : t.data.toList with
   | nil =>
    have e1 : t.toList.isEmpty = true := by rw [ba_list, hL]; rfl
    have e2 : (t.toList == []) = true := by rw [ba_list, hL]; rfl
    have e3 : (t.toList != []) = false := by rw [ba_list, hL]; rfl
    have hf : fin = (out, []) := by rw [← HW.out, hL]; rfl
    have HFF := Aside0.mk hf
    clear hf hL hsz
    have hcv8 := own_string (P := Tryz.prog) Tryz.underlying59 Tryz.underlying5 Tryz.underlying9 (Kd.own_of_R HO.out)
    rw [ints_str] at hcv8
    go_wp2
    go_ret2
    exact ⟨by rw [HFF.out]; rfl, HB.out⟩
   | cons c l =>
    have e1 : t.toList.isEmpty = false := by rw [ba_list, hL]; rfl
    have e2 : (t.toList == []) = false := by rw [ba_list, hL]; rfl
    have e3 : (t.toList != []) = true := by rw [ba_list, hL]; rfl
    have hx := bt_cons hL
    have hl1 : l.length + 1 = t.size := by rw [hL] at hsz; simpa using hsz
    have HLen := Aside0.mk hl1
    have p0 : (0 < t.size) = True := eq_true (by omega)
    have p1 : (0 < (t.size : Int)) = True := eq_true (by omega)
    have p2 : (1 ≤ (t.size : Int)) = True := eq_true (by omega)
    have p3 : (1 ≤ t.size) = True := eq_true (by omega)
    have hE1 : (t.extract 1 t.size).data.toList = l := by rw [ba_drop, hL]; rfl
    have hE1s : (t.extract 1 t.size).size = l.length := by rw [← ba_size, hE1]
    have HE1 := Aside0.mk hE1
    have HE1s := Aside0.mk hE1s
    have HL := Aside0.mk hL
    have HG := Aside0.mk hg
    clear hsz hl1 hE1 hE1s hL hg
    by_cases h92 : c.toNat = 92 ∧ 1 < t.size
    ·-- a pair
     obtain ⟨h92, h1s⟩ := h92
     have e4 : ((c.toNat : Int) == 92) = true := eq_byte (n := 92) h92
     have e5 : decide ((1 : Int) < (t.size : Int)) = true := decide_eq_true (by omega)
     obtain ⟨d, l', rfl⟩ : ∃ d l', l = d :: l' := by
      cases l with
      | nil => have := HLen.out; simp at this; omega
      | cons d l' => exact ⟨d, l', rfl⟩
     have p4 : (2 ≤ (t.size : Int)) = True := eq_true (by omega)
     have HT2 : Aside0 (2 ≤ t.size) := ⟨by omega⟩
     have HS2 : Aside0 ((t.extract 0 2).size = 2) := ⟨by rw [← ba_size, Lib.extract_from_zero, HL.out]; rfl⟩
     have HE2 : Aside0 (ints out ++ bytesOf (t.extract 0 2) = ints (out ++ [c, d])) := ⟨by unfold bytesOf ints; rw [Lib.extract_from_zero, HL.out]; simp⟩
     have HE3 : Aside0 ((t.extract 2 t.size).data.toList = l') := ⟨by rw [ba_drop, HL.out]; rfl⟩
     have HC92 : Aside0 (c.toNat = (92 : UInt8).toNat) := ⟨h92⟩
     clear h1s h92
     go_wp2_with (first | (at_builtin; go_loud (refine print_append_str (w0 := w) w.heap.size rfl (.tmp 23) _ 59 9 5 rfl Tryz.underlying59 Tryz.underlying9 infoU8 u4 (ints out) (t.extract 0 2) rfl rfl ?aO ?aB ?aS ?aL ?_); (case aB => exact (by repeat (first | exact HB.out | refine below_alloc ?_ _ | refine pw_below_drewN ?_ _ | refine below_drew1 ?_))); (case aO => exact (Kd.own_of_R (by (with_reducible repeat (first | apply Kd.R_alloc | apply Kd.R_drewN | apply Kd.R_drew)); exact HO.out))); (case aS => exact (below_size (by repeat (first | exact HB.out | refine below_alloc ?_ _ | refine pw_below_drewN ?_ _ | refine below_drew1 ?_)))); (case aL => have := HO'.out; have := HN.out; have := HS2.out; have := HT2.out; simp only [ints, List.length_map]; omega); intro v113 w18 ho0 hb hg; have ho := Kd.R_of_own (h1 := fun _ => rfl) (ok := fun _ => True) ho0 (fun _ _ => trivial); clear ho0; rw [HE2.out] at ho; change Kd.R (Kd.int .u8) 5 w18 w.heap.size (fun _ => True) v113 (ints (out ++ [c, d])) at ho; have HO2 := Aside0.mk ho; have HB2 := Aside0.mk hb; clear ho hb hg))
     go_roundg l'.length
     case measure => have h1 := HLen.out; have h2 := HG.out; simp only [List.length_cons] at h1; omega
     case rel => exact ⟨t.extract 2 t.size, out ++ [c, d], q, rfl, rfl, by rw [← ba_size, HE3.out], ⟨by rw [HE3.out, ← HW.out, HL.out]; rw [show c = 92 from UInt8.toNat_inj.1 HC92.out, wordL_pair]⟩, ⟨by have := HO'.out; have := HLen.out; rw [← ba_size, HE3.out]; simp at *; omega⟩, HO2, HB2⟩
    ·have HN92 : Aside0 (c = 92 → l = []) := ⟨fun e => by
      cases l with
      | nil => rfl
      | cons d l' => exact absurd ⟨by rw [e]; rfl, by have := HLen.out; simp at this; omega⟩ h92⟩
     cases q with
     | true =>
      have HBL : Aside0 (¬ ((true : Bool) = false ∧ (c = 32 ∨ c = 9))) := ⟨by simp⟩
      by_cases c34 : c.toNat = 34
      ·obtain rfl : c = 34 := UInt8.toNat_inj.1 c34
       have e4 : (((34 : UInt8).toNat : Int) == 92) = false := by decide
       have e6 : (((34 : UInt8).toNat : Int) == 34) = true := by decide
       by_cases hd : l.head? = some 34
       ·obtain ⟨l', rfl⟩ : ∃ l', l = 34 :: l' := by
         cases l with
         | nil => simp at hd
         | cons d l' => simp at hd; exact ⟨l', by rw [hd]⟩
        have HP : Aside0 (Lib.hasPrefix t.data.toList [34, 34] = true) := ⟨by rw [HL.out]; simp [Lib.hasPrefix]⟩
        have hx1 := bt_cons HE1.out
        have hsz1 : 1 < t.size := by have := HLen.out; simp at this; omega
        have p5 : (0 < t.size - 1) = True := eq_true (by omega)
        have p6 : (1 ≤ t.size - 1) = True := eq_true (by omega)
        have p7 : (1 ≤ ((t.size - 1 : Nat) : Int)) = True := eq_true (by omega)
        have p8 : (0 < ((t.size - 1 : Nat) : Int)) = True := eq_true (by omega)
        have HE4 : Aside0 (((t.extract 1 t.size).extract 1 (t.size - 1)).data.toList = l') := ⟨by
         have h1 := HE1s.out
         have h2 := HLen.out
         rw [show t.size - 1 = (t.extract 1 t.size).size from by omega, ba_drop, HE1.out]; rfl⟩
        clear hd hsz1 h92 c34
        go_wp2_with (first | (go_at_call 105; refine (Tryz.strings_HasPrefix _ _ _).mono ?_; rintro e w' ⟨rfl, hw⟩; rw [hw, HP.out]; clear hw) | ((with_reducible refine gate_builtin (b := .append) (xs := #[.tmp 55, .tmp 58]) rfl ?_); (try (refine gate_guard (by rfl) ?_; dsimp only)); at_builtin; refine Kd.R_append (Kd.int .u8) (w0 := w) w.heap.size rfl (.tmp 55) (.tmp 58) 59 5 (.int .u8 0) 1 rfl Tryz.underlying59 infoU8 rfl (by decide) (by omega) u4 (ints out) ((34 : UInt8).toNat : Int) [.int .u8 ((34 : UInt8).toNat : Int)] (fun _ => True) (fun _ => False) rfl rfl ?aPq1 (fun _ hk => hk.elim) ?aFq1 ?aOq1 ?aBq1 ?aSq1 ?aLq1 ?_; (case aPq1 => exact rfl); (case aBq1 => exact (by repeat (first | exact HB.out | refine below_alloc ?_ _ | refine pw_below_drewN ?_ _ | refine below_drew1 ?_))); (case aFq1 => exact (fun _ _ => trivial)); (case aOq1 => exact (by (with_reducible repeat (first | apply Kd.R_alloc | apply Kd.R_drewN | apply Kd.R_drew)); exact HO.out)); (case aSq1 => exact (below_size (by repeat (first | exact HB.out | refine below_alloc ?_ _ | refine pw_below_drewN ?_ _ | refine below_drew1 ?_)))); (case aLq1 => have := HO'.out; have := HN.out; have := HLen.out; simp only [ints, List.length_map]; omega); intro v120 w38 ho hb hg hat; rw [ints_snoc] at ho; have HB2 := Aside0.mk hb; have HO2 := Aside0.mk ho; clear ho hb hg hat))
        go_roundg l'.length
        case measure => have h1 := HLen.out; have h2 := HG.out; simp only [List.length_cons] at h1; omega
        case rel => exact ⟨_, out ++ [34], true, rfl, rfl, by rw [← ba_size, HE4.out], ⟨by rw [HE4.out, ← HW.out, HL.out, wordL_dbl]⟩, ⟨by have := HO'.out; have := HLen.out; rw [← ba_size, HE4.out]; simp only [List.length_append, List.length_singleton, List.length_cons, List.length_nil] at *; omega⟩, HO2, HB2⟩
       ·have HP : Aside0 (Lib.hasPrefix t.data.toList [34, 34] = false) := ⟨by
         rw [HL.out]
         cases l with
         | nil => rfl
         | cons d l' => simp only [List.head?_cons, Option.some.injEq] at hd; show ((34 : UInt8) == 34 && ((34 : UInt8) == d && List.isPrefixOf [] l')) = false; rw [show ((34 : UInt8) == d) = false from beq_eq_false_iff_ne.mpr (fun e => hd e.symm)]; rfl⟩
        have HHD := Aside0.mk hd
        clear hd h92 c34
        go_wp2_with (first | (go_at_call 105; refine (Tryz.strings_HasPrefix _ _ _).mono ?_; rintro e w' ⟨rfl, hw⟩; rw [hw, HP.out]; clear hw))
        go_roundg l.length
        case measure => have := HLen.out; have := HG.out; omega
        case rel => exact ⟨t.extract 1 t.size, out, false, rfl, rfl, HE1s.out, ⟨by rw [HE1.out, ← HW.out, HL.out, wordL_close l out HHD.out]⟩, ⟨by have := HO'.out; have := HLen.out; rw [HE1s.out]; omega⟩, HO, HB⟩
      ·have H34 : Aside0 (¬ ((true : Bool) = true ∧ c = 34)) := ⟨fun e => c34 (by rw [e.2]; rfl)⟩
       have e6 : ((c.toNat : Int) == 34) = false := ne_byte (n := 34) c34
       by_cases c92 : c.toNat = 92
       ·obtain rfl : c = 92 := UInt8.toNat_inj.1 c92
        have e4 : (((92 : UInt8).toNat : Int) == 92) = true := by decide
        have HLN92 : Aside0 (l = []) := ⟨HN92.out rfl⟩
        clear HN92
        have e5 : decide ((1 : Int) < (t.size : Int)) = false := decide_eq_false (fun hh => h92 ⟨rfl, by omega⟩)
        have HEQ : Aside0 (wordL (92 :: l) true out = wordL l true (out ++ [92])) := ⟨wordL_one 92 l true out (fun _ => HLN92.out) H34.out HBL.out⟩
        clear h92 c34 H34 HBL HLN92
        go_wp2_with (first | ((with_reducible refine gate_builtin (b := .append) (xs := #[.tmp 55, .tmp 58]) rfl ?_); (try (refine gate_guard (by rfl) ?_; dsimp only)); at_builtin; refine Kd.R_append (Kd.int .u8) (w0 := w) w.heap.size rfl (.tmp 55) (.tmp 58) 59 5 (.int .u8 0) 1 rfl Tryz.underlying59 infoU8 rfl (by decide) (by omega) u4 (ints out) ((92 : UInt8).toNat : Int) [.int .u8 ((92 : UInt8).toNat : Int)] (fun _ => True) (fun _ => False) rfl rfl ?aPq2 (fun _ hk => hk.elim) ?aFq2 ?aOq2 ?aBq2 ?aSq2 ?aLq2 ?_; (case aPq2 => exact rfl); (case aBq2 => exact (by repeat (first | exact HB.out | refine below_alloc ?_ _ | refine pw_below_drewN ?_ _ | refine below_drew1 ?_))); (case aFq2 => exact (fun _ _ => trivial)); (case aOq2 => exact (by (with_reducible repeat (first | apply Kd.R_alloc | apply Kd.R_drewN | apply Kd.R_drew)); exact HO.out)); (case aSq2 => exact (below_size (by repeat (first | exact HB.out | refine below_alloc ?_ _ | refine pw_below_drewN ?_ _ | refine below_drew1 ?_)))); (case aLq2 => have := HO'.out; have := HN.out; have := HLen.out; simp only [ints, List.length_map]; omega); intro v120 w38 ho hb hg hat; rw [ints_snoc] at ho; have HB2 := Aside0.mk hb; have HO2 := Aside0.mk ho; clear ho hb hg hat))
        go_roundg l.length
        case measure => have := HLen.out; have := HG.out; omega
        case rel => exact ⟨t.extract 1 t.size, out ++ [92], true, rfl, rfl, HE1s.out, ⟨by rw [HE1.out, ← HW.out, HL.out, HEQ.out]⟩, ⟨by have := HO'.out; have := HLen.out; rw [HE1s.out]; simp only [List.length_append, List.length_singleton]; omega⟩, HO2, HB2⟩
       ·have e4 : ((c.toNat : Int) == 92) = false := ne_byte (n := 92) c92
        have HEQ : Aside0 (wordL (c :: l) true out = wordL l true (out ++ [c])) := ⟨wordL_one c l true out HN92.out H34.out HBL.out⟩
        clear h92 c34 c92 H34 HBL HN92
        go_wp2_with (first | ((with_reducible refine gate_builtin (b := .append) (xs := #[.tmp 55, .tmp 58]) rfl ?_); (try (refine gate_guard (by rfl) ?_; dsimp only)); at_builtin; refine Kd.R_append (Kd.int .u8) (w0 := w) w.heap.size rfl (.tmp 55) (.tmp 58) 59 5 (.int .u8 0) 1 rfl Tryz.underlying59 infoU8 rfl (by decide) (by omega) u4 (ints out) (c.toNat : Int) [.int .u8 (c.toNat : Int)] (fun _ => True) (fun _ => False) rfl rfl ?aPq3 (fun _ hk => hk.elim) ?aFq3 ?aOq3 ?aBq3 ?aSq3 ?aLq3 ?_; (case aPq3 => exact rfl); (case aBq3 => exact (by repeat (first | exact HB.out | refine below_alloc ?_ _ | refine pw_below_drewN ?_ _ | refine below_drew1 ?_))); (case aFq3 => exact (fun _ _ => trivial)); (case aOq3 => exact (by (with_reducible repeat (first | apply Kd.R_alloc | apply Kd.R_drewN | apply Kd.R_drew)); exact HO.out)); (case aSq3 => exact (below_size (by repeat (first | exact HB.out | refine below_alloc ?_ _ | refine pw_below_drewN ?_ _ | refine below_drew1 ?_)))); (case aLq3 => have := HO'.out; have := HN.out; have := HLen.out; simp only [ints, List.length_map]; omega); intro v120 w38 ho hb hg hat; rw [ints_snoc] at ho; have HB2 := Aside0.mk hb; have HO2 := Aside0.mk ho; clear ho hb hg hat))
        go_roundg l.length
        case measure => have := HLen.out; have := HG.out; omega
        case rel => exact ⟨t.extract 1 t.size, out ++ [c], true, rfl, rfl, HE1s.out, ⟨by rw [HE1.out, ← HW.out, HL.out, HEQ.out]⟩, ⟨by have := HO'.out; have := HLen.out; rw [HE1s.out]; simp only [List.length_append, List.length_singleton]; omega⟩, HO2, HB2⟩
     | false =>
      have H34 : Aside0 (¬ ((false : Bool) = true ∧ c = 34)) := ⟨by simp⟩
      have hback : ((c.toNat : Int)).toNat.toUInt8 = c := by simp
      by_cases cb : c = 32 ∨ c = 9
      ·have hix : decide (0 ≤ Lib.indexByte [32, 9] c) = true := by rw [blank_ix]; rcases cb with rfl | rfl <;> rfl
       have c92 : c ≠ 92 := by rcases cb with rfl | rfl <;> decide
       have e4 : ((c.toNat : Int) == 92) = false := ne_byte (n := 92) (fun e => c92 (UInt8.toNat_inj.1 e))
       have HFF : Aside0 (fin = (out, c :: l)) := ⟨by rw [← HW.out, HL.out, wordL_end c l out c92 cb]⟩
       clear h92 cb c92
       go_wp2_with (first | (go_at_call 58; refine (strings_IndexByte.calls _ _ _ _ rfl).mono ?_; rintro e w' ⟨rfl, ⟨nd, rfl⟩⟩; have hcv8 := own_string (P := Tryz.prog) Tryz.underlying59 Tryz.underlying5 Tryz.underlying9 (Kd.own_of_R (Kd.R_drewN HO.out nd)); rw [ints_str] at hcv8))
       go_ret2
       exact ⟨by rw [HFF.out]; show _ = Ending.returned (.tuple #[.string ⟨out.toArray⟩, .string ⟨(c :: l).toArray⟩]); rw [← HL.out, ba_eta]; rfl, pw_below_drewN HB.out _⟩
      ·have hix : decide (0 ≤ Lib.indexByte [32, 9] c) = false := by rw [blank_ix]; simp; exact ⟨fun e => cb (.inl e), fun e => cb (.inr e)⟩
       have HBL : Aside0 (¬ ((false : Bool) = false ∧ (c = 32 ∨ c = 9))) := ⟨fun e => cb e.2⟩
       by_cases c92 : c.toNat = 92
       ·obtain rfl : c = 92 := UInt8.toNat_inj.1 c92
        have e4 : (((92 : UInt8).toNat : Int) == 92) = true := by decide
        have HLN92 : Aside0 (l = []) := ⟨HN92.out rfl⟩
        clear HN92
        have e5 : decide ((1 : Int) < (t.size : Int)) = false := decide_eq_false (fun hh => h92 ⟨rfl, by omega⟩)
        have HEQ : Aside0 (wordL (92 :: l) false out = wordL l false (out ++ [92])) := ⟨wordL_one 92 l false out (fun _ => HLN92.out) H34.out HBL.out⟩
        clear h92 cb H34 HBL HLN92
        go_wp2_with (first | (go_at_call 58; refine (strings_IndexByte.calls _ _ _ _ rfl).mono ?_; rintro e w' ⟨rfl, ⟨nd, rfl⟩⟩) | ((with_reducible refine gate_builtin (b := .append) (xs := #[.tmp 55, .tmp 58]) rfl ?_); (try (refine gate_guard (by rfl) ?_; dsimp only)); at_builtin; refine Kd.R_append (Kd.int .u8) (w0 := w) w.heap.size rfl (.tmp 55) (.tmp 58) 59 5 (.int .u8 0) 1 rfl Tryz.underlying59 infoU8 rfl (by decide) (by omega) u4 (ints out) ((92 : UInt8).toNat : Int) [.int .u8 ((92 : UInt8).toNat : Int)] (fun _ => True) (fun _ => False) rfl rfl ?aPq4 (fun _ hk => hk.elim) ?aFq4 ?aOq4 ?aBq4 ?aSq4 ?aLq4 ?_; (case aPq4 => exact rfl); (case aBq4 => exact (by repeat (first | exact HB.out | refine below_alloc ?_ _ | refine pw_below_drewN ?_ _ | refine below_drew1 ?_))); (case aFq4 => exact (fun _ _ => trivial)); (case aOq4 => exact (by (with_reducible repeat (first | apply Kd.R_alloc | apply Kd.R_drewN | apply Kd.R_drew)); exact HO.out)); (case aSq4 => exact (below_size (by repeat (first | exact HB.out | refine below_alloc ?_ _ | refine pw_below_drewN ?_ _ | refine below_drew1 ?_)))); (case aLq4 => have := HO'.out; have := HN.out; have := HLen.out; simp only [ints, List.length_map]; omega); intro v120 w38 ho hb hg hat; rw [ints_snoc] at ho; have HB2 := Aside0.mk hb; have HO2 := Aside0.mk ho; clear ho hb hg hat))
        go_roundg l.length
        case measure => have := HLen.out; have := HG.out; omega
        case rel => exact ⟨t.extract 1 t.size, out ++ [92], false, rfl, rfl, HE1s.out, ⟨by rw [HE1.out, ← HW.out, HL.out, HEQ.out]⟩, ⟨by have := HO'.out; have := HLen.out; rw [HE1s.out]; simp only [List.length_append, List.length_singleton]; omega⟩, HO2, HB2⟩
       ·have e4 : ((c.toNat : Int) == 92) = false := ne_byte (n := 92) c92
        have HEQ : Aside0 (wordL (c :: l) false out = wordL l false (out ++ [c])) := ⟨wordL_one c l false out HN92.out H34.out HBL.out⟩
        clear h92 cb c92 H34 HBL HN92
        go_wp2_with (first | (go_at_call 58; refine (strings_IndexByte.calls _ _ _ _ rfl).mono ?_; rintro e w' ⟨rfl, ⟨nd, rfl⟩⟩) | ((with_reducible refine gate_builtin (b := .append) (xs := #[.tmp 55, .tmp 58]) rfl ?_); (try (refine gate_guard (by rfl) ?_; dsimp only)); at_builtin; refine Kd.R_append (Kd.int .u8) (w0 := w) w.heap.size rfl (.tmp 55) (.tmp 58) 59 5 (.int .u8 0) 1 rfl Tryz.underlying59 infoU8 rfl (by decide) (by omega) u4 (ints out) (c.toNat : Int) [.int .u8 (c.toNat : Int)] (fun _ => True) (fun _ => False) rfl rfl ?aPq5 (fun _ hk => hk.elim) ?aFq5 ?aOq5 ?aBq5 ?aSq5 ?aLq5 ?_; (case aPq5 => exact rfl); (case aBq5 => exact (by repeat (first | exact HB.out | refine below_alloc ?_ _ | refine pw_below_drewN ?_ _ | refine below_drew1 ?_))); (case aFq5 => exact (fun _ _ => trivial)); (case aOq5 => exact (by (with_reducible repeat (first | apply Kd.R_alloc | apply Kd.R_drewN | apply Kd.R_drew)); exact HO.out)); (case aSq5 => exact (below_size (by repeat (first | exact HB.out | refine below_alloc ?_ _ | refine pw_below_drewN ?_ _ | refine below_drew1 ?_)))); (case aLq5 => have := HO'.out; have := HN.out; have := HLen.out; simp only [ints, List.length_map]; omega); intro v120 w38 ho hb hg hat; rw [ints_snoc] at ho; have HB2 := Aside0.mk hb; have HO2 := Aside0.mk ho; clear ho hb hg hat))
        go_roundg l.length
        case measure => have := HLen.out; have := HG.out; omega
        case rel => exact ⟨t.extract 1 t.size, out ++ [c], false, rfl, rfl, HE1s.out, ⟨by rw [HE1.out, ← HW.out, HL.out, HEQ.out]⟩, ⟨by have := HO'.out; have := HLen.out; rw [HE1s.out]; simp only [List.length_append, List.length_singleton]; omega⟩, HO2, HB2⟩
end Go.Proofs.YtghlfhgmnhhmnaaGreatDoor.QTidy
