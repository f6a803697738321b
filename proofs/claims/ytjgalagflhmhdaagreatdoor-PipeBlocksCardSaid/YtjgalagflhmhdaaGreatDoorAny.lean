/-
  strings.IndexRune, IndexAny and ContainsAny of Go's library at texts of any bytes: an ASCII text holds no rune from 128 on; chars are ASCII bytes. Conditions: those of each theorem.
-/
import Derived.Shelf.Strings.IndexAnyAll
import Derived.Laws.RangeAny
import Derived.Laws.Runes
import Derived.Lib.OthersKept
import Derived.Shelf.Small.Utf8
import Derived.Deep.QuietTactic
import Derived.BigQuiet
import Derived.Shelf.RegionOpenPlain
import Derived.Lib.Hide
namespace Go.Proofs.YtjgalagflhmhdaaGreatDoor.QPipe
open Go.Shelf Go.RowKit Go.Lib
set_option linter.unusedVariables false
variable {P : Program} {ρ : Ren}

theorem idx_none {c : UInt8} : ∀ {l : List UInt8}, (∀ b ∈ l, b ≠ c) → Lib.indexByte l c = -1
  | [], _ => rfl
  | b :: l, h => by
    rw [Lib.indexByte, if_neg (by simpa using h b (by simp)), idx_none (fun x hx => h x (by simp [hx]))]; rfl

theorem quietAddSame {P : Program} {f : FuncId} {args : Array Value} {w : World} {a n : Nat} {v : Value}
    (h : Calls P f args (w.drewN (a + n)) fun e w' => e = .returned v ∧ w' = w.drewN (a + n)) :
    Calls P f args (w.drewN (a + n)) fun e w'' => e = .returned v ∧ ∃ m, w'' = w.drewN (a + m) :=
  h.mono fun _ _ ⟨he, hm⟩ => ⟨he, n, hm⟩
theorem belowDrewN {B : Nat} {a w : World} (h : Below B a w) (n : Nat) : Below B a (w.drewN n) := ⟨h.os, h.tape, h.output, h.size, h.block⟩

set_option maxHeartbeats 8000000 in
set_option maxRecDepth 1000000 in
/-- An ASCII text holds no rune from 128 on. -/
theorem Any.strings_IndexRune_wide (L : Lays.n152 P ρ) (s : ByteArray) (r : Int) (w : World) (h0 : 128 ≤ r) (hs : s.size < 4294967281) (hascii : ∀ (j : Nat) b, s.data.toList[j]? = some b → b.toNat < 128) :
    Calls P (ρ.f 152) #[.string s, .int .i32 r] w fun e w' => e = .returned (.int .i64 (-1)) ∧ Below w.heap.size w w' := by
  have HA : Aside (∀ (j : Nat) b, s.data.toList[j]? = some b → b.toNat < 128) := hascii
  clear hascii
  have mixed := L.mixed
  have t0 := L.t0; have a0 := L.a0; have z0 := L.z0; have v0 := L.v0
  have t3 := L.t3; have a3 := L.a3; have z3 := L.z3; have v3 := L.v3
  have t4 := L.t4; have a4 := L.a4; have z4 := L.z4; have v4 := L.v4
  have t5 := L.t5; have a5 := L.a5; have z5 := L.z5; have v5 := L.v5
  have t9 := L.t9; have a9 := L.a9; have z9 := L.z9; have v9 := L.v9
  have t21 := L.t21; have a21 := L.a21; have z21 := L.z21; have v21 := L.v21
  have t46 := L.t46; have a46 := L.a46; have z46 := L.z46; have v46 := L.v46
  have e137 : ∀ args w, (callFunc (ρ.f 137) args).run P w = .ok (.enter (ρ.f 137) args) w := enters_of L.f137 (by kernel_rfl) rfl
  have e119 : ∀ args w, (callFunc (ρ.f 119) args).run P w = .ok (.enter (ρ.f 119) args) w := enters_of L.f119 (by kernel_rfl) rfl
  by_cases hE : r = 65533
  · subst hE
    clear h0
    go_enter L.f152, Body.n152_ntmps ρ
    go_wp2
    go_loopg [5, 6] s.size (fun g _ _ wx => ∃ i : Nat, i + g = s.size ∧ wx = w.iter s i)
    case atStart => exact ⟨0, by omega, rfl⟩
    case round =>
      obtain ⟨i, hig, rfl⟩ := hrel
      cases gk with
      | zero =>
        obtain rfl : i = s.size := by omega
        have hnx := run_next_end (P := P) w s s.size
        go_wp2
        go_ret
        exact ⟨rfl, (Below.refl _ _).alloc (Nat.le_refl _) _⟩
      | succ g =>
        have hi : i < s.size := by omega
        obtain ⟨x, hx⟩ : ∃ x : UInt8, s[i]'hi = x := ⟨_, rfl⟩
        have hx128 : x.toNat < 128 := HA.out i x (by rw [← hx]; exact Lib.data_getElem? s i hi)
        have hnx := fun ty => run_next_ascii (P := P) w s i ty hi (by rw [hx]; exact hx128)
        rw [hx] at hnx
        have hne : ((x.toNat : Int) == 65533) = false := beq_eq_false_iff_ne.2 (by omega)
        clear hx
        go_wp2
        go_roundg g
        case measure => omega
        case rel => exact ⟨i + 1, by omega, rfl⟩
  · have hEb : (r == 65533) = false := beq_eq_false_iff_ne.2 hE
    cases hv : Lib.validRune r
    · go_enter L.f152, Body.n152_ntmps ρ
      go_wp2_with (go_at_fn (ρ.f 119); refine (Any.utf8_ValidRune { L with } _ _).mono ?_; rintro e w' ⟨rfl, hw⟩; rw [hw, hv])
      go_ret
      exact ⟨rfl, Below.refl _ _⟩
    · have hV : Utf8.valid r = true := by rw [validRune_eq]; exact hv
      obtain ⟨f1, f2, f3⟩ := encode_facts r hV h0
      obtain ⟨E, hen⟩ : ∃ E, Utf8.encode r = E := ⟨_, rfl⟩
      rw [hen] at f1 f2 f3
      obtain ⟨c, hc⟩ : ∃ c : UInt8, E[E.size - 1]'(by omega) = c := ⟨_, rfl⟩
      have hc128 := f3 (by omega)
      rw [hc] at hc128
      clear f3
      obtain ⟨m, hmE, hm⟩ : ∃ m, m < E.size ∧ E.size = m + 1 := ⟨E.size - 1, by omega, by omega⟩
      have hcm : E[m]'hmE = c := by
        have : m = E.size - 1 := by omega
        subst this; exact hc
      have hcz : ¬ (r < 128) := by omega
      have hsub : IntKind.i64.wrap ((E.size : Int) - 1) = (m : Int) := by simp [IntKind.wrap, IntKind.signed, IntKind.bits]; omega
      have hm4 : m ≤ 3 := by omega
      have HM : Hid (E.size = m + 1) := Lib.hid hm
      clear hm hc
      go_enter L.f152, Body.n152_ntmps ρ
      go_wp2_with (go_at_fn (ρ.f 119); refine (Any.utf8_ValidRune { L with } _ _).mono ?_; rintro e w' ⟨rfl, hw⟩; rw [hw, hv])
      go_step3
      go_wp2
      go_loopg [9] 1 (fun g s9 wx => s9 = .int .i64 (m : Int) ∧ wx = w)
      case atStart => exact ⟨rfl, rfl⟩
      case round =>
        obtain ⟨rfl, rfl⟩ := hrel
        by_cases hlt : m < s.size
        · obtain ⟨x, hx⟩ : ∃ x : UInt8, s[m]'hlt = x := ⟨_, rfl⟩
          have hx128 : x.toNat < 128 := HA.out m x (by rw [← hx]; exact Lib.data_getElem? s m hlt)
          have hne : ((x.toNat : Int) == (c.toNat : Int)) = false := beq_eq_false_iff_ne.2 (by omega)
          have hne2 : ((x.toNat : Int) != (c.toNat : Int)) = true := by simp; omega
          have hw1 : IntKind.i64.wrap ((m : Int) + 1) = (m : Int) + 1 := by simp [IntKind.wrap, IntKind.signed, IntKind.bits]; omega
          have q0 : (0 : Int) ≤ (m : Int) + 1 := by omega
          have q1 : (m : Int) + 1 ≤ (s.size : Int) := by omega
          have q2 : ((m : Int) + 1).toNat = m + 1 := by omega
          have hix : Lib.indexByte (s.extract (m + 1) s.size).data.toList ((c.toNat : Int)).toNat.toUInt8 = -1 := by
            apply idx_none
            intro b hb hbc
            have h1 := mem_extract hb
            obtain ⟨j, hj⟩ := List.getElem?_of_mem h1
            have h2 := HA.out j b hj
            rw [hbc] at h2
            simp at h2
            omega
          have HC : Aside (∀ W : World, Calls P (ρ.f 137) #[.string (s.extract (m + 1) s.size), .int .u8 (c.toNat : Int)] W fun e w' => e = .returned (.int .i64 (-1)) ∧ w' = W) := fun W => by
            refine (Any.strings_IndexByte { L with } _ _ _).mono ?_
            rintro e w' ⟨rfl, hw⟩
            exact ⟨by rw [hix], hw⟩
          clear hix
          go_wp2
          go_step3
          go_wp2
          go_quiet_o (fail)
          go_wp2
          go_quiet_o ((go_at_fn (ρ.f 137); exact quietAddSame (HC.out _)))
          go_wp2
          rw [Exit.noGoto_ret]
          go_wp2
          rw [Exit.noGoto_ret]
          go_ret
          exact ⟨rfl, belowDrewN (Below.refl _ _) _⟩
        · go_wp2
          rw [Exit.noGoto_ret]
          go_ret
          exact ⟨rfl, Below.refl _ _⟩

theorem getBang (s : ByteArray) (k : Nat) (h : k < s.size) : s.get! k = s[k]'h := by
  simp [ByteArray.get!, getElem!_pos, h]
  rfl
/-- The bytes of a wide rune's form are no ASCII bytes. -/
theorem decode_bytes (s : ByteArray) (pos : Nat) (h : pos < s.size) (ha : 128 ≤ (s[pos]'h).toNat) : ∀ j, j < (Utf8.decode s pos).2 → ∃ hj : pos + j < s.size, 128 ≤ (s[pos + j]'hj).toNat := by
  have hc : ∀ k, (decide (pos + k < s.size) && ((s.get! (pos + k)).toNat / 64 == 2)) = true → ∃ hj : pos + k < s.size, 128 ≤ (s[pos + k]'hj).toNat := by
    intro k hk
    rw [Bool.and_eq_true, beq_iff_eq] at hk
    have hl := of_decide_eq_true hk.1
    refine ⟨hl, ?_⟩
    have := hk.2
    rw [getBang s _ hl] at this
    omega
  have h0 : ∃ hj : pos + 0 < s.size, 128 ≤ (s[pos + 0]'hj).toNat := ⟨h, ha⟩
  intro j hj
  unfold Utf8.decode at hj
  simp only at hj
  split at hj
  · obtain rfl : j = 0 := by simpa using hj
    exact h0
  · split at hj
    · rename_i hx
      rw [Bool.and_eq_true] at hx
      have h1 := hc 1 hx.2
      split at hj <;> simp only at hj
      · obtain rfl | rfl : j = 0 ∨ j = 1 := by omega
        · exact h0
        · exact h1
      · obtain rfl : j = 0 := by omega
        exact h0
    · split at hj
      · rename_i hx
        simp only [Bool.and_eq_true] at hx
        have h1 := hc 1 (by simpa only [Bool.and_eq_true] using hx.1.2)
        have h2 := hc 2 (by simpa only [Bool.and_eq_true] using hx.2)
        split at hj <;> simp only at hj
        · obtain rfl | rfl | rfl : j = 0 ∨ j = 1 ∨ j = 2 := by omega
          · exact h0
          · exact h1
          · exact h2
        · obtain rfl : j = 0 := by omega
          exact h0
      · split at hj
        · rename_i hx
          simp only [Bool.and_eq_true] at hx
          have h1 := hc 1 (by simpa only [Bool.and_eq_true] using hx.1.1.2)
          have h2 := hc 2 (by simpa only [Bool.and_eq_true] using hx.1.2)
          have h3 := hc 3 (by simpa only [Bool.and_eq_true] using hx.2)
          split at hj <;> simp only at hj
          · obtain rfl | rfl | rfl | rfl : j = 0 ∨ j = 1 ∨ j = 2 ∨ j = 3 := by omega
            · exact h0
            · exact h1
            · exact h2
            · exact h3
          · obtain rfl : j = 0 := by omega
            exact h0
        · obtain rfl : j = 0 := by simpa using hj
          exact h0

theorem noAny_wide {s : ByteArray} {chars : List UInt8} {i : Nat} (hac : ∀ (j : Nat) b, chars[j]? = some b → b.toNat < 128) (h : Lib.NoAny s.data.toList chars i) (hi : i < s.size) (ha : 128 ≤ (s[i]'hi).toNat) :
    Lib.NoAny s.data.toList chars (i + (Utf8.decode s i).2) := by
  intro j b hj hb
  by_cases c : j < i
  · exact h j b c hb
  · obtain ⟨d, rfl⟩ : ∃ d, j = i + d := ⟨j - i, by omega⟩
    obtain ⟨hl, hg⟩ := decode_bytes s i hi ha d (by omega)
    have hb2 := Lib.data_getElem? s (i + d) hl
    rw [hb] at hb2
    have hb3 : 128 ≤ b.toNat := by rw [Option.some.inj hb2]; exact hg
    cases hc : chars.contains b with
    | false => rfl
    | true =>
      obtain ⟨k, hk⟩ := List.getElem?_of_mem (List.contains_iff_mem.1 hc)
      have := hac k b hk
      omega

set_option maxHeartbeats 8000000 in
set_option maxRecDepth 1000000 in
theorem Any.strings_IndexAny_shortAny (L : Lays.n153 P ρ) (s chars : ByteArray) (w : World) (h2 : 2 ≤ chars.size) (hcs : chars.size < 4294967281) (h8 : s.size ≤ 8) (hac : ∀ (j : Nat) b, chars.data.toList[j]? = some b → b.toNat < 128) :
    Calls P (ρ.f 153) #[.string s, .string chars] w fun e w' => e = .returned (.int .i64 (Lib.indexAny s.data.toList chars.data.toList)) ∧ Below w.heap.size w w' := by
  have HA : Aside (∀ (j : Nat) b, chars.data.toList[j]? = some b → b.toNat < 128) := hac
  clear hac
  have hemp : chars.toList.isEmpty = false := by
    rw [Lib.toList_data]
    cases h : chars.data.toList with
    | nil => have := Lib.size_eq chars; rw [h, List.length_nil] at this; omega
    | cons _ _ => rfl
  have hn1 : ((chars.size : Int) == 1) = false := beq_eq_false_iff_ne.2 (by omega)
  have h8z : decide ((8 : Int) < (s.size : Int)) = false := decide_eq_false (by omega)
  have t3 := L.t3; have a3 := L.a3; have z3 := L.z3; have v3 := L.v3
  have t4 := L.t4; have a4 := L.a4; have z4 := L.z4; have v4 := L.v4
  have t5 := L.t5; have a5 := L.a5; have z5 := L.z5; have v5 := L.v5
  have t9 := L.t9; have a9 := L.a9; have z9 := L.z9; have v9 := L.v9
  have t21 := L.t21; have a21 := L.a21; have z21 := L.z21; have v21 := L.v21
  have e152 : ∀ args w, (callFunc (ρ.f 152) args).run P w = .ok (.enter (ρ.f 152) args) w := enters_of L.f152 (by kernel_rfl) rfl
  have e226 : ∀ args w, (callFunc (ρ.f 226) args).run P w = .ok (.enter (ρ.f 226) args) w := enters_of L.f226 (by kernel_rfl) rfl
  go_enter L.f153, Body.n153_ntmps ρ
  go_wp2_with (go_at_fn (ρ.f 226); refine (Any.strings_shouldUseASCIISet { L with } _ _).mono ?_; rintro e w' ⟨rfl, hw⟩; rw [hw, h8z])
  go_loopg [9, 10] s.size (fun g _ _ wx => ∃ i : Nat, s.size ≤ i + g ∧ i ≤ s.size ∧ wx.heap[w.heap.size]? = some (.stringIter s i) ∧ Below w.heap.size w wx ∧ Lib.NoAny s.data.toList chars.data.toList i)
  case atStart => exact ⟨0, by omega, by omega, World.iter_heap w s 0, (Below.refl _ _).alloc (Nat.le_refl _) _, Lib.NoAny.zero _ _⟩
  case round =>
    obtain ⟨i, hig, hle, hit, hbw, hno⟩ := hrel
    have HN : Aside (Lib.NoAny s.data.toList chars.data.toList i) := hno
    have HB : Aside (Below w.heap.size w wr) := hbw
    clear hno hbw
    by_cases hi : i < s.size
    · have hnx : ∀ ty, (Instr.next (.pointer (some ⟨w.heap.size, 0, none⟩)) true ty).run P wr = _ := fun ty => Lib.run_next_any_at wr w.heap.size s i ty hit hi
      have hit2 := Lib.iterAt_heap wr w.heap.size s i (i + (Utf8.decode s i).2) hit
      have HB2 : Aside (Below w.heap.size w (wr.iterAt w.heap.size s (i + (Utf8.decode s i).2))) := Lib.below_iterAt HB.out (Nat.le_refl _) s _
      have HI2 : Aside ((wr.iterAt w.heap.size s (i + (Utf8.decode s i).2)).heap[w.heap.size]? = some (.stringIter s (i + (Utf8.decode s i).2))) := hit2
      have hsz2 : w.heap.size < (wr.iterAt w.heap.size s (i + (Utf8.decode s i).2)).heap.size := (Array.getElem?_eq_some_iff.1 hit2).1
      clear hit2
      obtain ⟨x, hx⟩ : ∃ x : UInt8, s[i]'hi = x := ⟨_, rfl⟩
      have hxl : s.data.toList[i]? = some x := by rw [← hx]; exact Lib.data_getElem? s i hi
      by_cases hx128 : x.toNat < 128
      · have hd : Utf8.decode s i = (x.toNat, 1) := by rw [decode_ascii s i hi (by rw [hx]; exact hx128), hx]
        rw [hd] at hnx HB2 HI2 hsz2
        have Hx : Aside (s.data.toList[i]? = some x) := hxl
        clear hxl hx hd
        have hcon := Lib.contains_iff_indexByte chars.data.toList x
        have hback : ((x.toNat : Int)).toNat.toUInt8 = x := by simp
        cases hin : chars.data.toList.contains x
        · rw [hin] at hcon
          have hlt : ¬ ((0 : Int) ≤ Lib.indexByte chars.data.toList x) := of_decide_eq_false hcon.symm
          clear hcon
          go_wp2_with (go_at_fn (ρ.f 152); refine (Any.strings_IndexRune_ascii { L with } _ _ _ (by omega) (by omega)).mono ?_; rintro e w' ⟨rfl, hw⟩; rw [hw, hback])
          go_roundg (gk - 1)
          case measure => omega
          case rel => exact ⟨i + 1, by omega, by omega, HI2.out, HB2.out, HN.out.succ Hx.out hin⟩
        · rw [hin] at hcon
          have hge : (0 : Int) ≤ Lib.indexByte chars.data.toList x := of_decide_eq_true hcon.symm
          clear hcon
          go_wp2_with (go_at_fn (ρ.f 152); refine (Any.strings_IndexRune_ascii { L with } _ _ _ (by omega) (by omega)).mono ?_; rintro e w' ⟨rfl, hw⟩; rw [hw, hback])
          go_ret
          exact ⟨by rw [Lib.indexAny_hit HN.out Hx.out hin]; rfl, HB2.out⟩
      · have h128 : 128 ≤ (s[i]'hi).toNat := by rw [hx]; omega
        obtain ⟨hr1, hr2⟩ := decode_high s i hi h128
        have HW : Aside (Lib.NoAny s.data.toList chars.data.toList (i + (Utf8.decode s i).2)) := noAny_wide HA.out HN.out hi h128
        have hend : i + (Utf8.decode s i).2 ≤ s.size := by
          obtain ⟨hl, _⟩ := decode_bytes s i hi h128 ((Utf8.decode s i).2 - 1) (by omega)
          omega
        clear hxl hx h128
        go_wp2_with (go_at_fn (ρ.f 152); refine (Any.strings_IndexRune_wide { L with } _ _ _ (by omega) hcs HA.out).mono ?_; rintro e w' ⟨rfl, hw⟩)
        go_roundg (gk - 1)
        case measure => omega
        case rel => exact ⟨i + (Utf8.decode s i).2, by omega, hend, by rw [hw.block _ hsz2]; exact HI2.out, HB2.out.trans (hw.mono (by omega)), HW.out⟩
    · obtain rfl : i = s.size := by omega
      have hnx : ∀ ty, (Instr.next (.pointer (some ⟨w.heap.size, 0, none⟩)) true ty).run P wr = _ := fun ty => Lib.run_next_end_at wr w.heap.size s s.size ty hit hi
      go_wp2
      go_ret
      exact ⟨by rw [Lib.indexAny_none (by rw [← Lib.size_eq]; exact HN.out)]; rfl, HB.out⟩

/-- strings.IndexAny at whatever text, chars of ASCII. -/
theorem Any.strings_IndexAny_any (L : Lays.n153 P ρ) (h116 : (P.info? (ρ.t 116)).map (fun i => (i.zero, i.size)) = some (some (.agg (Array.replicate 256 (.bool false))), 256)) (s chars : ByteArray) (w : World) (hs : s.size < 4294967281) (hcs : chars.size < 4294967281)
    (hac : ∀ (j : Nat) b, chars.data.toList[j]? = some b → b.toNat < 128) :
    Calls P (ρ.f 153) #[.string s, .string chars] w fun e w' => e = .returned (.int .i64 (Lib.indexAny s.data.toList chars.data.toList)) ∧ Below w.heap.size w w' := by
  by_cases h0 : chars.size = 0
  · exact (Any.strings_IndexAny_none L s chars w h0).mono fun e w' ⟨h1, h2⟩ => ⟨h1, h2 ▸ Below.refl _ _⟩
  by_cases h1 : chars.size = 1
  · exact (Any.strings_IndexAny_one L s chars w h1 hac).mono fun e w' ⟨h1, h2⟩ => ⟨h1, h2 ▸ Below.refl _ _⟩
  by_cases h8 : s.size ≤ 8
  · exact Any.strings_IndexAny_shortAny L s chars w (by omega) hcs h8 hac
  · refine (Any.strings_IndexAny_long L (zero_of_info h116).1 (zero_of_info h116).2 s chars w (by omega) (by omega) hs hcs hac).mono fun e w' ⟨h1, h2⟩ => ⟨h1, ?_⟩
    rw [h2]
    exact ((Below.refl _ _).alloc (Nat.le_refl _) _).alloc (by simp) _

set_option maxHeartbeats 1000000 in
/-- strings.ContainsAny at whatever text, chars of ASCII. -/
theorem Any.strings_ContainsAny_any (L : Lays.n150 P ρ) (h116 : (P.info? (ρ.t 116)).map (fun i => (i.zero, i.size)) = some (some (.agg (Array.replicate 256 (.bool false))), 256)) (s chars : ByteArray) (w : World) (hs : s.size < 4294967281) (hcs : chars.size < 4294967281)
    (hac : ∀ (j : Nat) b, chars.data.toList[j]? = some b → b.toNat < 128) :
    Calls P (ρ.f 150) #[.string s, .string chars] w fun e w' => e = .returned (.bool (Lib.containsAny s.data.toList chars.data.toList)) ∧ Below w.heap.size w w' := by
  have c := Any.strings_IndexAny_any { L with } h116 s chars w hs hcs hac
  have t3 := L.t3; have a3 := L.a3; have z3 := L.z3; have v3 := L.v3
  have t4 := L.t4; have a4 := L.a4; have z4 := L.z4; have v4 := L.v4
  have t9 := L.t9; have a9 := L.a9; have z9 := L.z9; have v9 := L.v9
  have e153 : ∀ args w, (callFunc (ρ.f 153) args).run P w = .ok (.enter (ρ.f 153) args) w := enters_of L.f153 (by kernel_rfl) rfl
  go_enter L.f150, Body.n150_ntmps ρ
  go_wp2_with (go_at_fn (ρ.f 153); refine c.mono ?_; rintro e w' ⟨rfl, hw⟩)
  go_ret
  exact ⟨rfl, hw⟩
end Go.Proofs.YtjgalagflhmhdaaGreatDoor.QPipe
