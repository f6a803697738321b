/-
 (*tidy.reader).step: the kind of a line, and what becomes of the reader. Conditions: those of 'stepF' alone ('none': outside of what is told).
-/
import Derived.Test.YtghlfhgmnhhmnaaGreatDoorEnds
import Derived.Test.YtghlfhgmnhhmnaaGreatDoorQTidyx3
import Derived.Test.YtghlfhgmnhhmnaaGreatDoorQTidyx4
import Derived.Test.YtghlfhgmnhhmnaaGreatDoorQTidyx2
namespace Go.Proofs.YtghlfhgmnhhmnaaGreatDoor.QTidy
open Go.RowKit Go.Proofs.YtghlfhgmnhhmnaaGreatDoorW.PrintWords Go.Proofs.YtghlfhgmnhhmnaaGreatDoorW.PrintLast Go.Proofs.YtghlfhgmnhhmnaaGreatDoorW.PrintMore
set_option linter.unusedVariables false
set_option linter.unusedSimpArgs false

/-- The reader in block g holds d, b, wi; but for that block the world is as w was, and new blocks. -/
def RdPost (w : World) (g : Nat) (d b : ByteArray) (wi : Bool) (w' : World) : Prop := w'.heap[g]? = some (.cells #[.string d, .string b, .bool wi] 70 (0, 0)) ∧ w.grownBy w' (some g)

theorem grown_refl (w : World) (g : Nat) : w.grownBy w (some g) := ⟨rfl, rfl, rfl, Nat.le_refl _, fun _ _ _ => rfl⟩
theorem grown_set (w : World) (g i : Nat) (u : Value) : w.grownBy (w.setCell ⟨g, i, none⟩ u) (some g) := ⟨rfl, rfl, rfl, by simp [World.setCell], fun k hk hne => Below.heap_setCell _ _ _ _ (fun e => hne (by rw [e]))⟩
theorem grown_trans {a b c : World} {g : Nat} (h : a.grownBy b (some g)) (k : b.grownBy c (some g)) : a.grownBy c (some g) :=
 ⟨k.os.trans h.os, k.tape.trans h.tape, k.output.trans h.output, Nat.le_trans h.size k.size, fun i hi hne => (k.block i (Nat.lt_of_lt_of_le hi h.size) hne).trans (h.block i hi hne)⟩
theorem grown_drewN {a b : World} {g : Nat} (h : a.grownBy b (some g)) (n : Nat) : a.grownBy (b.drewN n) (some g) := ⟨h.os, h.tape, h.output, h.size, h.block⟩

theorem strEq {s : ByteArray} {l : List UInt8} (h : s.toList = l) : (s.toList == l) = true ∧ (s.toList != l) = false := ⟨beq_iff_eq.mpr h, bne_eq_false_iff_eq.mpr h⟩
theorem strNe {s : ByteArray} {l : List UInt8} (h : ¬ s.toList = l) : (s.toList == l) = false ∧ (s.toList != l) = true := ⟨beq_eq_false_iff_ne.mpr h, bne_iff_ne.mpr h⟩
theorem ba_eta' (t : ByteArray) : (⟨t.toList.toArray⟩ : ByteArray) = t := by rw [Lib.toList_data]
theorem strEmpty {s : ByteArray} (h : s.toList = []) : s.toList.isEmpty = true := by rw [h]; rfl
theorem strNot {s : ByteArray} (h : ¬ s.toList = []) : s.toList.isEmpty = false := by
 cases e : s.toList with
 | nil => exact absurd e h
 | cons _ _ => rfl

set_option maxHeartbeats 4000000 in
/-- Within a definition, at the line '..'. -/
theorem step_dots (s d b : ByteArray) (wi : Bool) (w : World) (g : Nat) (hI : w.heap[g]? = some (.cells #[.string d, .string b, .bool wi] 70 (0, 0))) (hw : wi = true) (hs : s.toList = [46, 46]) :
  Calls Tryz.prog 56 #[.pointer (some ⟨g, 0, none⟩), .string s] w fun e w' => e = .returned (.int .i64 0) ∧ RdPost w g d b false w' := by
 subst hw
 have c2 : w.cell? ⟨g, 2, none⟩ = some (.bool true) := (blk_cell hI 2).trans rfl
 have f2 := blk_frozen hI 2
 obtain ⟨e1, e2⟩ := strEq hs
 have HI := Aside0.mk hI
 clear hI hs
 go_enter Tryz.func56, Tryz.ntmps56
 go_wp2
 go_ret
 exact ⟨rfl, blk_put HI.out 2 _ rfl, grown_set _ _ _ _⟩

set_option maxHeartbeats 4000000 in
/-- Within a definition without an end of its own, at another line. -/
theorem step_plain (s d b : ByteArray) (wi : Bool) (w : World) (g : Nat) (hI : w.heap[g]? = some (.cells #[.string d, .string b, .bool wi] 70 (0, 0))) (hw : wi = true) (hs : ¬ s.toList = [46, 46]) (hd : d.toList = [46]) :
  Calls Tryz.prog 56 #[.pointer (some ⟨g, 0, none⟩), .string s] w fun e w' => e = .returned (.int .i64 1) ∧ RdPost w g d b true w' := by
 subst hw
 have c0 : w.cell? ⟨g, 0, none⟩ = some (.string d) := (blk_cell hI 0).trans rfl
 have c2 : w.cell? ⟨g, 2, none⟩ = some (.bool true) := (blk_cell hI 2).trans rfl
 obtain ⟨e1, e2⟩ := strNe hs
 obtain ⟨e3, e4⟩ := strEq hd
 have HI := Aside0.mk hI
 clear hI hs hd
 go_enter Tryz.func56, Tryz.ntmps56
 go_wp2
 go_ret
 exact ⟨rfl, HI.out, grown_refl _ _⟩

set_option maxHeartbeats 4000000 in
/-- Within a definition with an end of its own. -/
theorem step_named (s d b : ByteArray) (wi : Bool) (w : World) (g : Nat) (hI : w.heap[g]? = some (.cells #[.string d, .string b, .bool wi] 70 (0, 0))) (hw : wi = true) (hs : ¬ s.toList = [46, 46]) (hd : ¬ d.toList = [46]) (hsz : 1 + d.size ≤ 9223372036854775807) (o : Bool) (ho : tidy_opens.f s ((⟨#[46]⟩ : ByteArray) ++ d) = some o) :
  Calls Tryz.prog 56 #[.pointer (some ⟨g, 0, none⟩), .string s] w fun e w' => e = .returned (.int .i64 (if o = true then 0 else 1)) ∧ RdPost w g d b (!o) w' := by
 subst hw
 have c0 : w.cell? ⟨g, 0, none⟩ = some (.string d) := (blk_cell hI 0).trans rfl
 have c2 : w.cell? ⟨g, 2, none⟩ = some (.bool true) := (blk_cell hI 2).trans rfl
 have f2 := blk_frozen hI 2
 obtain ⟨e1, e2⟩ := strNe hs
 obtain ⟨e3, e4⟩ := strNe hd
 have HI := Aside0.mk hI
 have HO := Aside0.mk ho
 clear hI hs hd ho
 cases o
 ·go_enter Tryz.func56, Tryz.ntmps56
  go_wp2_with (go_at_call 92; refine (tidy_opens.calls _ _ _ _ HO.out).mono ?_; rintro e w' ⟨rfl, ⟨nd, rfl⟩⟩)
  go_ret
  exact ⟨rfl, HI.out, grown_drewN (grown_refl _ _) _⟩
 ·go_enter Tryz.func56, Tryz.ntmps56
  go_wp2_with (go_at_call 92; refine (tidy_opens.calls _ _ _ _ HO.out).mono ?_; rintro e w' ⟨rfl, ⟨nd, rfl⟩⟩)
  go_ret
  exact ⟨rfl, blk_put (blk_drewN HI.out _) 2 _ rfl, grown_trans (grown_drewN (grown_refl _ _) _) (grown_set _ _ _ _)⟩

set_option maxHeartbeats 4000000 in
/-- Within a block. -/
theorem step_block (s d b : ByteArray) (wi : Bool) (w : World) (g : Nat) (hI : w.heap[g]? = some (.cells #[.string d, .string b, .bool wi] 70 (0, 0))) (hw : wi = false) (hb : ¬ b.toList = []) (o : Bool) (ho : tidy_opens.f s b = some o) :
  Calls Tryz.prog 56 #[.pointer (some ⟨g, 0, none⟩), .string s] w fun e w' => e = .returned (.int .i64 (if o = true then 0 else 2)) ∧ RdPost w g d (if o = true then ⟨#[]⟩ else b) false w' := by
 subst hw
 have c1 : w.cell? ⟨g, 1, none⟩ = some (.string b) := (blk_cell hI 1).trans rfl
 have c2 : w.cell? ⟨g, 2, none⟩ = some (.bool false) := (blk_cell hI 2).trans rfl
 have f1 := blk_frozen hI 1
 obtain ⟨e1, e2⟩ := strNe hb
 have e3 := strNot hb
 have HI := Aside0.mk hI
 have HO := Aside0.mk ho
 clear hI hb ho
 cases o
 ·go_enter Tryz.func56, Tryz.ntmps56
  go_wp2_with (go_at_call 92; refine (tidy_opens.calls _ _ _ _ HO.out).mono ?_; rintro e w' ⟨rfl, ⟨nd, rfl⟩⟩)
  go_ret
  exact ⟨rfl, HI.out, grown_drewN (grown_refl _ _) _⟩
 ·go_enter Tryz.func56, Tryz.ntmps56
  go_wp2_with (go_at_call 92; refine (tidy_opens.calls _ _ _ _ HO.out).mono ?_; rintro e w' ⟨rfl, ⟨nd, rfl⟩⟩)
  go_ret
  exact ⟨rfl, blk_put (blk_drewN HI.out _) 1 _ rfl, grown_trans (grown_drewN (grown_refl _ _) _) (grown_set _ _ _ _)⟩

set_option maxHeartbeats 4000000 in
/-- At a line that begins a definition. -/
theorem step_begins (s d b : ByteArray) (wi : Bool) (w : World) (g : Nat) (hI : w.heap[g]? = some (.cells #[.string d, .string b, .bool wi] 70 (0, 0))) (hw : wi = false) (hb : b.toList = []) (k : Nat) (x : ByteArray) (ho : tidy_begins.f k s = some (x, true)) :
  Calls Tryz.prog 56 #[.pointer (some ⟨g, 0, none⟩), .string s] w fun e w' => e = .returned (.int .i64 0) ∧ RdPost w g x b true w' := by
 subst hw
 have c1 : w.cell? ⟨g, 1, none⟩ = some (.string b) := (blk_cell hI 1).trans rfl
 have c2 : w.cell? ⟨g, 2, none⟩ = some (.bool false) := (blk_cell hI 2).trans rfl
 obtain ⟨e1, e2⟩ := strEq hb
 have e3 := strEmpty hb
 have HI := Aside0.mk hI
 have HO := Aside0.mk ho
 clear hI hb ho
 go_enter Tryz.func56, Tryz.ntmps56
 go_wp2_with (go_at_call 93; refine (tidy_begins.calls _ _ _ _ _ HO.out).mono ?_; rintro e w1 ⟨rfl, hB⟩; have HB1 := Aside0.mk hB; clear hB; have HI1 := Aside0.mk (blk_below HI.out HB1.out); have c0' : w1.cell? ⟨g, 0, none⟩ = some (.string d) := (blk_cell HI1.out 0).trans rfl; have c2' : w1.cell? ⟨g, 2, none⟩ = some (.bool false) := (blk_cell HI1.out 2).trans rfl; have f0' := blk_frozen HI1.out 0; have f2' := blk_frozen HI1.out 2)
 go_ret
 exact ⟨rfl, blk_put (blk_put HI1.out 0 _ rfl) 2 _ rfl, grown_trans (grown_trans (grown_of_below HB1.out _) (grown_set _ _ _ _)) (grown_set _ _ _ _)⟩

/-! The range over the blocks' signs. -/
def keyS (e : MapEntry) : ByteArray := match e.key with | .string k => k | _ => ⟨#[]⟩
def valS (e : MapEntry) : ByteArray := match e.val with | .string k => k | _ => ⟨#[]⟩
/-- The end of the first block that the signs open. -/
def blkL (o : MapEntry → Bool) : List MapEntry → ByteArray
 | [] => ⟨#[]⟩
 | e :: l => if o e = true then valS e else blkL o l
theorem blkL_of (o : MapEntry → Bool) (b : ByteArray) : ∀ l : List MapEntry, (∀ e ∈ l, o e = true → b = valS e) → ((∀ e ∈ l, o e = false) → b = ⟨#[]⟩) → b = blkL o l
 | [], _, h2 => h2 (fun _ h => by cases h)
 | e :: l, h1, h2 => by
  unfold blkL
  by_cases c : o e = true
  ·rw [if_pos c]; exact h1 e (List.mem_cons_self) c
  ·rw [if_neg c]
   exact blkL_of o b l (fun x hx => h1 x (List.mem_cons_of_mem _ hx)) (fun h => h2 (fun x hx => by
    rcases List.mem_cons.1 hx with rfl | hx
    ·simpa using c
    ·exact h x hx))
theorem ends_shape : ∀ e ∈ endsMap.toList, e.key = .string (keyS e) ∧ e.val = .string (valS e) := by
 intro e he
 simp [endsMap] at he
 rcases he with rfl | rfl | rfl | rfl | rfl | rfl <;> exact ⟨rfl, rfl⟩
theorem ends_old : ∀ x ∈ endsMap.toList, x.born < 6 := by decide
theorem ends_nodup : (endsMap.toList.map (·.born)).Nodup := by decide
theorem ends_born : ∀ e ∈ endsMap.toList, ∀ e' ∈ endsMap.toList, e.born = e'.born → e = e' := by
 intro e he e' he' h
 have h1 := find_born e endsMap.toList ends_nodup he
 have h2 := find_born e' endsMap.toList ends_nodup he'
 rw [h] at h1
 exact Option.some.inj (h1.symm.trans h2)

/-- What has been found among the signs that were gone over. -/
def Found (o : MapEntry → Bool) (seen : Array Nat) (b : ByteArray) : Prop :=
 (∀ e ∈ endsMap.toList, seen.contains e.born = true → o e = true → b = valS e) ∧ ((∀ e ∈ endsMap.toList, seen.contains e.born = true → o e = false) → b = ⟨#[]⟩)
theorem Found.start (o : MapEntry → Bool) : Found o #[] ⟨#[]⟩ := ⟨fun e _ h => by simp at h, fun _ => rfl⟩
theorem seen_push (seen : Array Nat) (n m : Nat) : (seen.push n).contains m = true ↔ seen.contains m = true ∨ m = n := by simp
theorem Found.yes {o : MapEntry → Bool} {seen : Array Nat} {b : ByteArray} (h : Found o seen b) (hU : ∀ e ∈ endsMap.toList, ∀ e' ∈ endsMap.toList, o e = true → o e' = true → e = e') {e : MapEntry} (he : e ∈ endsMap.toList) (ho : o e = true) : Found o (seen.push e.born) (valS e) :=
 ⟨fun x hx _ hox => by rw [hU e he x hx ho hox], fun h2 => by have := h2 e he (by simp); rw [ho] at this; cases this⟩
theorem Found.no {o : MapEntry → Bool} {seen : Array Nat} {b : ByteArray} (h : Found o seen b) {e : MapEntry} (he : e ∈ endsMap.toList) (ho : o e = false) : Found o (seen.push e.born) b := by
 refine ⟨fun x hx hs hox => ?_, fun h2 => ?_⟩
 ·rcases (seen_push _ _ _).1 hs with hs | hs
  ·exact h.1 x hx hs hox
  ·rw [ends_born x hx e he hs, ho] at hox; cases hox
 ·exact h.2 (fun x hx hs => h2 x hx ((seen_push _ _ _).2 (.inl hs)))
theorem Found.all {o : MapEntry → Bool} {seen : Array Nat} {b : ByteArray} (h : Found o seen b) (h0 : (leftOf endsMap seen).size = 0) : b = blkL o endsMap.toList := by
 have hall : ∀ e ∈ endsMap.toList, seen.contains e.born = true := by
  intro e he
  have h1 : leftOf endsMap seen = #[] := Array.eq_empty_of_size_eq_zero h0
  unfold leftOf at h1
  rw [Array.filter_eq_empty_iff] at h1
  have h2 := h1 e (by simpa using he)
  simpa using h2
 exact blkL_of o b _ (fun e he hoe => h.1 e he (hall e he) hoe) (fun h2 => h.2 (fun e he _ => h2 e he))
theorem left_size (seen : Array Nat) : (leftOf endsMap seen).size = (endsMap.toList.filter fun e => !seen.contains e.born).length := by
 unfold leftOf
 rw [← Array.length_toList, Array.toList_filter]
theorem left_start : (leftOf endsMap #[]).size = 6 := by rw [left_size]; simp [endsMap]
theorem left_lt {seen : Array Nat} {e : MapEntry} (he : e ∈ (leftOf endsMap seen).toList) : (leftOf endsMap (seen.push e.born)).size < (leftOf endsMap seen).size := by
 rw [left_size, left_size]
 unfold leftOf at he
 have h1 := filter_lt (fun x : MapEntry => !seen.contains x.born) (fun x : MapEntry => !(seen.push e.born).contains x.born) (fun x hx => by simp at hx ⊢; exact hx.1) e (by simp at he ⊢; exact he.2) (by simp) endsMap.toList (by simp at he ⊢; exact he.1)
 exact h1
theorem mem_of_left {seen : Array Nat} {e : MapEntry} (he : e ∈ (leftOf endsMap seen).toList) : e ∈ endsMap.toList := by
 unfold leftOf at he; simp at he ⊢; exact he.1

section
open Go.ChangeMaps (setBlock)
theorem setBlock_at {w : World} {r : Nat} {o o' : Obj} (h : w.heap[r]? = some o') : (setBlock w r o).heap[r]? = some o := by
 have := (Array.getElem?_eq_some_iff.1 h).1
 simp [setBlock, this]
theorem setBlock_far {w : World} {r k : Nat} {o : Obj} (h : k ≠ r) : (setBlock w r o).heap[k]? = w.heap[k]? := by
 simp [setBlock, Array.getElem?_setIfInBounds, Ne.symm h]
theorem setBlock_size {w : World} {r : Nat} {o : Obj} : (setBlock w r o).heap.size = w.heap.size := by simp [setBlock]
theorem grown_setBlock {a w : World} {g r : Nat} {o : Obj} (h : a.grownBy w (some g)) (hr : a.heap.size ≤ r) : a.grownBy (setBlock w r o) (some g) :=
 ⟨h.os, h.tape, h.output, by rw [setBlock_size]; exact h.size, fun k hk hne => by rw [setBlock_far (by omega)]; exact h.block k hk hne⟩

/-- The state of the range. -/
def RInv (w : World) (g bm r : Nat) (d : ByteArray) (o : MapEntry → Bool) (n : Nat) (w' : World) : Prop :=
 ∃ (seen : Array Nat) (b : ByteArray), (leftOf endsMap seen).size = n ∧ Found o seen b ∧ w'.heap[r]? = some (.mapIter (some bm) 6 seen 6) ∧ w'.heap[bm]? = some (.map endsMap 6) ∧ w'.heap[g]? = some (.cells #[.string d, .string b, .bool false] 70 (0, 0)) ∧ w.grownBy w' (some g)

set_option maxHeartbeats 8000000 in
set_option maxRecDepth 100000 in
/-- At a line that begins no definition. -/
theorem step_free (s d b : ByteArray) (w : World) (g : Nat) (hI : w.heap[g]? = some (.cells #[.string d, .string b, .bool false] 70 (0, 0))) (hb : b.toList = []) (k : Nat) (x : ByteArray) (ho : tidy_begins.f k s = some (x, false))
  (o : MapEntry → Bool) (hO : ∀ e ∈ endsMap.toList, tidy_opens.f s (keyS e) = some (o e)) (hU : ∀ e ∈ endsMap.toList, ∀ e' ∈ endsMap.toList, o e = true → o e' = true → e = e') :
  Calls Tryz.prog 56 #[.pointer (some ⟨g, 0, none⟩), .string s] w fun e w' => e = .returned (.int .i64 0) ∧ RdPost w g d (blkL o endsMap.toList) false w' := by
 have c1 : w.cell? ⟨g, 1, none⟩ = some (.string b) := (blk_cell hI 1).trans rfl
 have c2 : w.cell? ⟨g, 2, none⟩ = some (.bool false) := (blk_cell hI 2).trans rfl
 obtain ⟨e1, e2⟩ := strEq hb
 have e3 := strEmpty hb
 have HI := Aside0.mk hI
 have HBE := Aside0.mk ho
 have HO := Aside0.mk hO
 have HU := Aside0.mk hU
 have HBT : Aside0 (b = ⟨#[]⟩) := ⟨by rw [← ba_eta' b, hb]⟩
 clear hI hb ho hO hU
 go_enter Tryz.func56, Tryz.ntmps56
 go_wp2_with fail
 refine (tidy_begins.calls _ _ _ _ _ HBE.out).mono ?_
 rintro e w1 ⟨rfl, hB⟩
 have HI1 := Aside0.mk (blk_below HI.out hB)
 have HG1 := Aside0.mk (grown_of_below hB (some g))
 have hgl : g < w1.heap.size := blk_lt HI1.out
 have hwl : w.heap.size ≤ w1.heap.size := hB.size
 have HGL := Aside0.mk hgl
 clear hB
 go_wp2_with fail
 refine (ends_calls _).mono ?_
 rintro e w2 ⟨rfl, hw2⟩
 have HM : Aside0 (w2.heap[w1.heap.size]? = some (.map endsMap 6)) := ⟨by rw [hw2]; exact heap_alloc_new w1 _⟩
 have HI2 : Aside0 (w2.heap[g]? = some (.cells #[.string d, .string b, .bool false] 70 (0, 0))) := ⟨by rw [hw2]; exact blk_alloc HI1.out _⟩
 have HG2 : Aside0 (w.grownBy w2 (some g)) := ⟨by rw [hw2]; exact grown_trans HG1.out ⟨rfl, rfl, rfl, by simp, fun k hk _ => Below.heap_alloc _ _ _ hk⟩⟩
 have hs2 : w2.heap.size = w1.heap.size + 1 := by rw [hw2]; simp
 have HS2 := Aside0.mk hs2
 clear hw2 hs2
 have hrg := run_range_map (P := Tryz.prog) w2 102 9 9 w1.heap.size endsMap 6 Tryz.underlying102 HM.out
 go_wp2
 go_loopg [8] 6 (fun n _ w' => RInv w g w1.heap.size w2.heap.size d o n w')
 case atStart =>
  refine ⟨#[], ⟨#[]⟩, left_start, Found.start o, heap_alloc_new w2 _, ?_, ?_, grown_trans HG2.out ⟨rfl, rfl, rfl, by simp, fun k hk _ => Below.heap_alloc _ _ _ hk⟩⟩
  ·exact blk_alloc HM.out _
  ·have := blk_alloc HI2.out (.mapIter (some w1.heap.size) 6 #[] 6)
   rw [HBT.out] at this
   exact this
 case round =>
  clear hrg e1 e2 e3 c1 c2
  obtain ⟨seen, b', hn, hF, hR, hM, hIr, hG⟩ := hrel
  have law := run_next_at (P := Tryz.prog) wr 0 w2.heap.size w1.heap.size 6 6 seen endsMap 6 hR hM ends_old (Nat.le_refl _)
  have HF := Aside0.mk hF
  have HR := Aside0.mk hR
  have HMr := Aside0.mk hM
  have HIr := Aside0.mk hIr
  have HG := Aside0.mk hG
  have HN := Aside0.mk hn
  clear hF hR hM hIr hG hn
  rcases law with ⟨h0, hrun⟩ | ⟨e, he, wx, hwx, hrun⟩
  ·have hnx : ∀ ty, (Instr.next (.pointer (some ⟨w2.heap.size, 0, none⟩)) false ty).run Tryz.prog wr = _ := fun _ => hrun
   have HB0 := Aside0.mk (HF.out.all h0)
   clear h0 hrun
   go_wp2
   go_ret
   exact ⟨rfl, by rw [← HB0.out]; exact HIr.out, HG.out⟩
  ·have hmem := mem_of_left he
   have HLT := Aside0.mk (left_lt he)
   have hne : g ≠ w2.heap.size := by have := HS2.out; omega
   have hne2 : w1.heap.size ≠ w2.heap.size := by have := HS2.out; omega
   rw [(ends_shape e hmem).1, (ends_shape e hmem).2] at hrun
   have hgw : ∀ kk : Nat, wx.heap[kk]? = wr.heap[kk]? := by rcases hwx with rfl | rfl <;> intro kk <;> rfl
   have hRx : wx.heap[w2.heap.size]? = some (.mapIter (some w1.heap.size) 6 seen 6) := (hgw _).trans HR.out
   have hGx : w.grownBy wx (some g) := by
    rcases hwx with rfl | rfl
    ·exact HG.out
    ·exact ⟨HG.out.os, HG.out.tape, HG.out.output, HG.out.size, HG.out.block⟩
   obtain ⟨W2, hW2⟩ : ∃ W2, Go.ChangeMaps.setBlock wx w2.heap.size (.mapIter (some w1.heap.size) 6 (seen.push e.born) 6) = W2 := ⟨_, rfl⟩
   have hR2 : W2.heap[w2.heap.size]? = some (.mapIter (some w1.heap.size) 6 (seen.push e.born) 6) := by rw [← hW2]; exact setBlock_at hRx
   have hM2 : W2.heap[w1.heap.size]? = some (.map endsMap 6) := by rw [← hW2, setBlock_far hne2]; exact (hgw _).trans HMr.out
   have hI2 : W2.heap[g]? = some (.cells #[.string d, .string b', .bool false] 70 (0, 0)) := by rw [← hW2, setBlock_far hne]; exact (hgw _).trans HIr.out
   have hG2 : w.grownBy W2 (some g) := by rw [← hW2]; exact grown_setBlock hGx (by have := HS2.out; omega)
   rw [hW2] at hrun
   have hen := run_entry_at (P := Tryz.prog) W2 w2.heap.size w1.heap.size 6 seen endsMap 6 e hR2 hM2 hmem ends_nodup
   rw [(ends_shape e hmem).1, (ends_shape e hmem).2] at hen
   have hnx : ∀ ty, (Instr.next (.pointer (some ⟨w2.heap.size, 0, none⟩)) false ty).run Tryz.prog wr = _ := fun _ => hrun
   have hop := HO.out e hmem
   have HOP := Aside0.mk hop
   have HMEM := Aside0.mk hmem
   have HR2 := Aside0.mk hR2
   have HM2 := Aside0.mk hM2
   have HIw := Aside0.mk hI2
   have HGw := Aside0.mk hG2
   clear hop hmem hR2 hM2 hI2 hG2 hW2 hRx hgw hGx hwx he hrun
   have HNE := Aside0.mk hne
   have HNE2 := Aside0.mk hne2
   clear hne hne2
   have c1' : W2.cell? ⟨g, 1, none⟩ = some (.string b') := (blk_cell HIw.out 1).trans rfl
   have f1' := blk_frozen HIw.out 1
   cases hoe : o e
   ·have HOE := Aside0.mk hoe
    have HOP2 : Aside0 (tidy_opens.f s (keyS e) = some false) := ⟨by rw [HOP.out, hoe]⟩
    clear hoe HOP
    have HFn := Aside0.mk (HF.out.no HMEM.out HOE.out)
    go_wp2_with (go_at_call 92; refine (tidy_opens.calls _ _ _ _ HOP2.out).mono ?_; rintro e w' ⟨rfl, ⟨nd, rfl⟩⟩)
    go_roundg (leftOf endsMap (seen.push e.born)).size
    case measure => have := HLT.out; have := HN.out; omega
    case rel => exact ⟨_, b', rfl, HFn.out, blk_drewN HR2.out _, blk_drewN HM2.out _, blk_drewN HIw.out _, grown_drewN HGw.out _⟩
   ·have HOE := Aside0.mk hoe
    have HOP2 : Aside0 (tidy_opens.f s (keyS e) = some true) := ⟨by rw [HOP.out, hoe]⟩
    clear hoe HOP
    have HFn := Aside0.mk (HF.out.yes HU.out HMEM.out HOE.out)
    go_wp2_with (go_at_call 92; refine (tidy_opens.calls _ _ _ _ HOP2.out).mono ?_; rintro e w' ⟨rfl, ⟨nd, rfl⟩⟩)
    go_roundg (leftOf endsMap (seen.push e.born)).size
    case measure => have := HLT.out; have := HN.out; omega
    case rel => exact ⟨_, valS e, rfl, HFn.out, (Below.heap_setCell _ _ _ _ (Ne.symm HNE.out)).trans (blk_drewN HR2.out _), (Below.heap_setCell _ _ _ _ (by have := HNE.out; have := HGL.out; show w1.heap.size ≠ g; omega)).trans (blk_drewN HM2.out _), blk_put (blk_drewN HIw.out _) 1 _ rfl, grown_trans (grown_drewN HGw.out _) (grown_set _ _ _ _)⟩
end

/-! The step as a function. -/
def oB (s : ByteArray) (e : MapEntry) : Bool := (tidy_opens.f s (keyS e)).getD false
def blkF (s : ByteArray) : Option ByteArray := if (endsMap.toList.all fun e => (tidy_opens.f s (keyS e)).isSome) = true ∧ (endsMap.toList.filter (oB s)).length ≤ 1 then some (blkL (oB s) endsMap.toList) else none
def stepF (k : Nat) (s d b : ByteArray) (wi : Bool) : Option (Int × ByteArray × ByteArray × Bool) :=
 if wi = true then
  if s.toList = [46, 46] then some (0, d, b, false)
  else if d.toList = [46] then some (1, d, b, true)
  else if 1 + d.size ≤ 9223372036854775807 then (tidy_opens.f s ((⟨#[46]⟩ : ByteArray) ++ d)).bind fun o => some (if o = true then 0 else 1, d, b, !o) else none
 else if b.toList = [] then (tidy_begins.f k s).bind fun p => if p.2 = true then some (0, p.1, b, true) else (blkF s).bind fun b' => some (0, d, b', false)
 else (tidy_opens.f s b).bind fun o => some (if o = true then 0 else 2, d, if o = true then ⟨#[]⟩ else b, false)
theorem sole_of {α : Type} (p : α → Bool) : ∀ l : List α, (l.filter p).length ≤ 1 → ∀ x ∈ l, ∀ y ∈ l, p x = true → p y = true → x = y := by
 intro l h x hx y hy px py
 have h1 : x ∈ l.filter p := List.mem_filter.2 ⟨hx, px⟩
 have h2 : y ∈ l.filter p := List.mem_filter.2 ⟨hy, py⟩
 match hl : l.filter p, h with
 | [], _ => rw [hl] at h1; cases h1
 | [z], _ => rw [hl] at h1 h2; simp at h1 h2; rw [h1, h2]
 | _ :: _ :: _, h => simp at h
theorem step_calls (k : Nat) (s d b : ByteArray) (wi : Bool) (n : Int) (d' b' : ByteArray) (wi' : Bool) (w : World) (g : Nat) (hI : w.heap[g]? = some (.cells #[.string d, .string b, .bool wi] 70 (0, 0))) (h : stepF k s d b wi = some (n, d', b', wi')) :
  Calls Tryz.prog 56 #[.pointer (some ⟨g, 0, none⟩), .string s] w fun e w' => e = .returned (.int .i64 n) ∧ RdPost w g d' b' wi' w' := by
 unfold stepF at h
 cases wi with
 | true =>
  rw [if_pos rfl] at h
  by_cases h1 : s.toList = [46, 46]
  ·rw [if_pos h1] at h
   simp only [Option.some.injEq, Prod.mk.injEq] at h
   obtain ⟨rfl, rfl, rfl, rfl⟩ := h
   exact step_dots s d b true w g hI rfl h1
  ·rw [if_neg h1] at h
   by_cases h2 : d.toList = [46]
   ·rw [if_pos h2] at h
    simp only [Option.some.injEq, Prod.mk.injEq] at h
    obtain ⟨rfl, rfl, rfl, rfl⟩ := h
    exact step_plain s d b true w g hI rfl h1 h2
   ·rw [if_neg h2] at h
    by_cases h3 : 1 + d.size ≤ 9223372036854775807
    ·rw [if_pos h3] at h
     obtain ⟨o, ho, h⟩ := Option.bind_eq_some_iff.1 h
     simp only [Option.some.injEq, Prod.mk.injEq] at h
     obtain ⟨rfl, rfl, rfl, rfl⟩ := h
     exact step_named s d b true w g hI rfl h1 h2 h3 o ho
    ·rw [if_neg h3] at h; cases h
 | false =>
  rw [if_neg (by simp)] at h
  by_cases h1 : b.toList = []
  ·rw [if_pos h1] at h
   obtain ⟨⟨x, is⟩, hp, h⟩ := Option.bind_eq_some_iff.1 h
   cases is with
   | true =>
    simp only [if_true, Option.some.injEq, Prod.mk.injEq] at h
    obtain ⟨rfl, rfl, rfl, rfl⟩ := h
    exact step_begins s d b false w g hI rfl h1 k x hp
   | false =>
    simp only [Bool.false_eq_true, if_false] at h
    obtain ⟨bb, hb, h⟩ := Option.bind_eq_some_iff.1 h
    simp only [Option.some.injEq, Prod.mk.injEq] at h
    obtain ⟨rfl, rfl, rfl, rfl⟩ := h
    unfold blkF at hb
    split at hb
    ·rename_i hc
     obtain rfl := Option.some.inj hb
     refine step_free s d b w g hI h1 k x hp (oB s) (fun e he => ?_) (sole_of (oB s) _ hc.2)
     have := List.all_eq_true.1 hc.1 e he
     obtain ⟨v, hv⟩ := Option.isSome_iff_exists.1 this
     rw [oB, hv]; rfl
    ·cases hb
  ·rw [if_neg h1] at h
   obtain ⟨o, ho, h⟩ := Option.bind_eq_some_iff.1 h
   simp only [Option.some.injEq, Prod.mk.injEq] at h
   obtain ⟨rfl, rfl, rfl, rfl⟩ := h
   exact step_block s d b false w g hI rfl h1 o ho
theorem stepF.mono (k : Nat) (s d b : ByteArray) (wi : Bool) : LeO (stepF k s d b wi) (stepF (k + 1) s d b wi) := by
 unfold stepF
 repeat' first
  | (with_reducible exact tidy_begins.mono _ _)
  | (with_reducible exact LeO.refl _)
  | (with_reducible exact LeO.none _)
  | (with_reducible refine LeO.ite ?_ ?_)
  | (with_reducible refine LeO.bind ?_ (fun _ => ?_))

end Go.Proofs.YtghlfhgmnhhmnaaGreatDoor.QTidy
