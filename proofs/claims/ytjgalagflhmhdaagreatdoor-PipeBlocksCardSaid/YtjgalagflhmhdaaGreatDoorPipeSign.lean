/-
  pipe.sign: what a line is: the letter whose block it begins, or ends; over the map of the languages that it makes. No condition.
-/
import Derived.Test.YtjgalagflhmhdaaGreatDoorPipeGiven
import Derived.WalkKit
import Derived.WalkLawsBesides
import Derived.WalkSpells
import Derived.Deep.LoopGhost
import Derived.Deep.CutBlock
import Derived.Laws.IdiomRangeMap
import Derived.Maps.RangeRun
import Derived.MapKept
import Derived.Carry
import Derived.Below
import Derived.Deep.Draws
import Derived.Deep.QuietTactic
import Derived.BigQuiet
import Derived.RowKit
import Derived.RowKit3
import Derived.Lib.Hide
import Derived.Lib.Strings
import Derived.Laws.EntriesVeiled
namespace Go.Proofs.YtjgalagflhmhdaaGreatDoor.QPipe
open Go.RowKit Go.Proofs.YtjgalagflhmhdaaGreatDoorW.PrintWords Go.Proofs.YtjgalagflhmhdaaGreatDoorW.PrintLast Go.Proofs.YtjgalagflhmhdaaGreatDoorW.PrintMore
set_option linter.unusedVariables false
set_option linter.unusedSimpArgs false
theorem heap_new (w : World) (o : Obj) : (w.alloc o).heap[w.heap.size]? = some o := by show (w.heap.push o)[w.heap.size]? = _; simp

/-! ### pipe.languages: the map of the languages' signs -/
/-- A new key, stored into the map that was made last. -/
theorem run_insert_u8 {P : Program} {mt kt et : TypeId} (hm : P.underlying mt = some (.map kt et)) (hk : P.underlying kt = some (.int .u8)) (w : World) (es : Array MapEntry) (clock : Nat) (key : Int) (val : Value)
    (hnew : Instr.findNow (.int .u8) (.int .u8 key) es.toList 0 = some none) :
    (Instr.mapUpdate mt (.map (some w.heap.size)) (.int .u8 key) val).run P (w.alloc (.map es clock)) = .ok () (w.alloc (.map (es.push { key := .int .u8 key, val := val, born := clock }) (clock + 1))) := by
  have hb : (w.alloc (.map es clock)).heap[w.heap.size]? = some (.map es clock) := heap_new w _
  have hset : ∀ o : Obj, (setObj w.heap.size o).run P (w.alloc (.map es clock)) = .ok () (w.alloc o) := fun o => by
    rw [Go.MapKept.run_setObj_map o hb]
    show Result.ok () ({ w.alloc (.map es clock) with heap := (w.heap.push (.map es clock)).setIfInBounds w.heap.size o } : World) = _
    have hp : (w.heap.push (.map es clock)).setIfInBounds w.heap.size o = w.heap.push o := by
      apply Array.toList_inj.1
      simp
    rw [hp]
    rfl
  have hck : (Instr.checkKey false 10000 kt (.int .u8 key)).run P (w.alloc (.map es clock)) = .ok () (w.alloc (.map es clock)) := Go.MapKept.run_checkKey hk (by simp [Go.MapKept.IsKey]) false 9999
  simp only [Instr.mapUpdate, Sem.run_bind, run_underlying hm, Result.andThen, Go.MapKept.run_getObj_map hb, hck, Go.MapKept.run_findKey hk hnew, hset]

def lang (k : Int) (a b : List UInt8) (f : Value) (n : Nat) : MapEntry := { key := .int .u8 k, val := .agg #[.string ⟨a.toArray⟩, .string ⟨b.toArray⟩, f], born := n }
def fnV (f : FuncId) : Value := .func (.func f) #[] #[]
def langMap : Array MapEntry := #[lang 114 [46, 91] [46, 93] .nilFunc 0, lang 99 [46, 67, 72] [46, 67, 69] (fnV 34) 1, lang 103 [46, 71, 49] [46, 71, 50] (fnV 38) 2, lang 112 [46, 80, 83] [46, 80, 69] (fnV 41) 3, lang 116 [46, 84, 83] [46, 84, 69] (fnV 44) 4, lang 101 [46, 69, 81] [46, 69, 78] (fnV 46) 5]
def langTo (n : Nat) : Array MapEntry := (langMap.toList.take n).toArray

set_option maxHeartbeats 4000000 in
set_option maxRecDepth 100000 in
theorem languages_calls (w : World) : Calls Tryz.prog 24 #[] w fun e w' => e = .returned (.map (some w.heap.size)) ∧ w' = w.alloc (.map langMap 6) := by
  have hmm := @run_makeMap Tryz.prog
  have h0 := run_insert_u8 Tryz.underlying58 Tryz.underlying5 w (langTo 0) 0 114 (.agg #[.string ⟨#[46, 91]⟩, .string ⟨#[46, 93]⟩, .nilFunc]) rfl
  have h1 := run_insert_u8 Tryz.underlying58 Tryz.underlying5 w (langTo 1) 1 99 (.agg #[.string ⟨#[46, 67, 72]⟩, .string ⟨#[46, 67, 69]⟩, .func (.func 34) #[] #[]]) rfl
  have h2 := run_insert_u8 Tryz.underlying58 Tryz.underlying5 w (langTo 2) 2 103 (.agg #[.string ⟨#[46, 71, 49]⟩, .string ⟨#[46, 71, 50]⟩, .func (.func 38) #[] #[]]) rfl
  have h3 := run_insert_u8 Tryz.underlying58 Tryz.underlying5 w (langTo 3) 3 112 (.agg #[.string ⟨#[46, 80, 83]⟩, .string ⟨#[46, 80, 69]⟩, .func (.func 41) #[] #[]]) rfl
  have h4 := run_insert_u8 Tryz.underlying58 Tryz.underlying5 w (langTo 4) 4 116 (.agg #[.string ⟨#[46, 84, 83]⟩, .string ⟨#[46, 84, 69]⟩, .func (.func 44) #[] #[]]) rfl
  have h5 := run_insert_u8 Tryz.underlying58 Tryz.underlying5 w (langTo 5) 5 101 (.agg #[.string ⟨#[46, 69, 81]⟩, .string ⟨#[46, 69, 78]⟩, .func (.func 46) #[] #[]]) rfl
  simp only [langTo, langMap, lang, fnV, List.take_succ_cons, List.take_zero, List.push_toArray, List.cons_append, List.nil_append] at h0 h1 h2 h3 h4 h5
  go_enter Tryz.func24, Tryz.ntmps24
  go_wp2
  go_ret
  exact ⟨rfl, rfl⟩

/-! ### pipe.sign -/
def keyI (e : MapEntry) : Int := match e.key with | .int _ n => n | _ => 0
def cellOf (e : MapEntry) (i : Nat) : Value := match e.val with | .agg cs => cs.getD i undef | _ => undef
def strOf (v : Value) : ByteArray := match v with | .string s => s | _ => ⟨#[]⟩
def begOf (e : MapEntry) : ByteArray := strOf (cellOf e 0)
def endOf (e : MapEntry) : ByteArray := strOf (cellOf e 1)
def isB (s : ByteArray) (e : MapEntry) : Bool := s.toList == (begOf e).toList
def isE (s : ByteArray) (e : MapEntry) : Bool := !(s.toList == (begOf e).toList) && (s.toList == (endOf e).toList)
theorem lang_shape : ∀ e ∈ langMap.toList, e.key = .int .u8 (keyI e) ∧ e.val = .agg #[.string (begOf e), .string (endOf e), cellOf e 2] := by
  intro e he
  simp [langMap] at he
  rcases he with rfl | rfl | rfl | rfl | rfl | rfl <;> exact ⟨rfl, rfl⟩
theorem lang_old : ∀ x ∈ langMap.toList, x.born < 6 := by
  intro e he
  simp [langMap] at he
  rcases he with rfl | rfl | rfl | rfl | rfl | rfl <;> decide
theorem lang_nodup : (langMap.toList.map (·.born)).Nodup := by
  show [0, 1, 2, 3, 4, 5].Nodup
  decide
theorem lang_born : ∀ e ∈ langMap.toList, ∀ e' ∈ langMap.toList, e.born = e'.born → e = e' := by
  intro e he e' he' h
  have h1 := find_born e langMap.toList lang_nodup he
  have h2 := find_born e' langMap.toList lang_nodup he'
  rw [h] at h1
  exact Option.some.inj (h1.symm.trans h2)
theorem nodup_inj {α β : Type} (t : α → β) : ∀ l : List α, (l.map t).Nodup → ∀ a ∈ l, ∀ b ∈ l, t a = t b → a = b
  | [], _, a, ha, _, _, _ => by cases ha
  | x :: l, hn, a, ha, b, hb, h => by
    rw [List.map_cons, List.nodup_cons] at hn
    rcases List.mem_cons.1 ha with ha1 | ha1
    · rcases List.mem_cons.1 hb with hb1 | hb1
      · rw [ha1, hb1]
      · exact absurd (List.mem_map.2 ⟨b, hb1, by rw [← h, ha1]⟩) hn.1
    · rcases List.mem_cons.1 hb with hb1 | hb1
      · exact absurd (List.mem_map.2 ⟨a, ha1, by rw [h, hb1]⟩) hn.1
      · exact nodup_inj t l hn.2 a ha1 b hb1 h
theorem lang_uniq (o : MapEntry → Bool) (t : MapEntry → List UInt8) (s : List UInt8) (ho : ∀ e, o e = true → s = t e) (ht : (langMap.toList.map t).Nodup) : ∀ e ∈ langMap.toList, ∀ e' ∈ langMap.toList, o e = true → o e' = true → e = e' := by
  intro e he e' he' h h'
  exact nodup_inj t _ ht e he e' he' ((ho e h).symm.trans (ho e' h'))
theorem lang_fn : ∀ e ∈ langMap.toList, cellOf e 2 = .nilFunc ∨ ∃ f a b, cellOf e 2 = .func f a b := by
  intro e he
  simp [langMap] at he
  rcases he with rfl | rfl | rfl | rfl | rfl | rfl
  · exact .inl rfl
  all_goals exact .inr ⟨_, _, _, rfl⟩
theorem store_fn {P : Program} (W : World) (x y : ByteArray) (t : TypeId) (v : Value) (hv : v = .nilFunc ∨ ∃ f a b, v = .func f a b) : (store ⟨W.heap.size, 2, none⟩ v).run P (W.alloc (.cells #[.string x, .string y, .nilFunc] t)) = .ok () (W.alloc (.cells #[.string x, .string y, v] t)) := by
  rcases hv with rfl | ⟨f, a, b, rfl⟩ <;> simp [go_sem]

/-- What has been found among the entries that were gone over. -/
def FoundI (o : MapEntry → Bool) (seen : Array Nat) (b : Int) : Prop :=
  (∀ e ∈ langMap.toList, seen.contains e.born = true → o e = true → b = keyI e) ∧ ((∀ e ∈ langMap.toList, seen.contains e.born = true → o e = false) → b = 0)
theorem FoundI.start (o : MapEntry → Bool) : FoundI o #[] 0 := ⟨fun e _ h => by simp at h, fun _ => rfl⟩
theorem seenI_push (seen : Array Nat) (n m : Nat) : (seen.push n).contains m = true ↔ seen.contains m = true ∨ m = n := by simp
theorem FoundI.yes {o : MapEntry → Bool} {seen : Array Nat} {b : Int} (h : FoundI o seen b) (hU : ∀ e ∈ langMap.toList, ∀ e' ∈ langMap.toList, o e = true → o e' = true → e = e') {e : MapEntry} (he : e ∈ langMap.toList) (ho : o e = true) : FoundI o (seen.push e.born) (keyI e) :=
  ⟨fun x hx _ hox => by rw [hU e he x hx ho hox], fun h2 => by have := h2 e he (by simp); rw [ho] at this; cases this⟩
theorem FoundI.no {o : MapEntry → Bool} {seen : Array Nat} {b : Int} (h : FoundI o seen b) {e : MapEntry} (he : e ∈ langMap.toList) (ho : o e = false) : FoundI o (seen.push e.born) b := by
  refine ⟨fun x hx hs hox => ?_, fun h2 => ?_⟩
  · rcases (seenI_push _ _ _).1 hs with hs | hs
    · exact h.1 x hx hs hox
    · rw [lang_born x hx e he hs, ho] at hox; cases hox
  · exact h.2 (fun x hx hs => h2 x hx ((seenI_push _ _ _).2 (.inl hs)))
/-- The letter of the entry that fits, 0: none does. -/
def letL (o : MapEntry → Bool) : List MapEntry → Int
  | [] => 0
  | e :: l => if o e = true then keyI e else letL o l
theorem letL_of (o : MapEntry → Bool) (b : Int) : ∀ l : List MapEntry, (∀ e ∈ l, o e = true → b = keyI e) → ((∀ e ∈ l, o e = false) → b = 0) → b = letL o l
  | [], _, h2 => h2 (fun _ h => by cases h)
  | e :: l, h1, h2 => by
    unfold letL
    by_cases c : o e = true
    · rw [if_pos c]; exact h1 e (List.mem_cons_self) c
    · rw [if_neg c]
      exact letL_of o b l (fun x hx => h1 x (List.mem_cons_of_mem _ hx)) (fun h => h2 (fun x hx => by
        rcases List.mem_cons.1 hx with rfl | hx
        · simpa using c
        · exact h x hx))
theorem FoundI.all {o : MapEntry → Bool} {seen : Array Nat} {b : Int} (h : FoundI o seen b) (h0 : (leftOf langMap seen).size = 0) : b = letL o langMap.toList := by
  have hall : ∀ e ∈ langMap.toList, seen.contains e.born = true := by
    intro e he
    have h1 : leftOf langMap seen = #[] := Array.eq_empty_of_size_eq_zero h0
    unfold leftOf at h1
    rw [Array.filter_eq_empty_iff] at h1
    have h2 := h1 e (by simpa using he)
    simpa using h2
  exact letL_of o b _ (fun e he hoe => h.1 e he (hall e he) hoe) (fun h2 => h.2 (fun e he _ => h2 e he))
theorem filter_ltI {α : Type} (p q : α → Bool) (h : ∀ x, q x = true → p x = true) (a : α) (hp : p a = true) (hq : q a = false) : ∀ l : List α, a ∈ l → (l.filter q).length < (l.filter p).length := by
  have hle : ∀ l : List α, (l.filter q).length ≤ (l.filter p).length := by
    intro l
    induction l with
    | nil => exact Nat.le_refl _
    | cons x l ih =>
      rw [List.filter_cons, List.filter_cons]
      by_cases c : q x = true
      · rw [if_pos c, if_pos (h x c)]; simp; exact ih
      · rw [if_neg c]; split <;> (try simp) <;> omega
  intro l
  induction l with
  | nil => intro hm; cases hm
  | cons x l ih =>
    intro hm
    rw [List.filter_cons, List.filter_cons]
    rcases List.mem_cons.1 hm with rfl | hm
    · rw [if_pos hp, if_neg (by rw [hq]; simp)]
      have := hle l
      simp; omega
    · have := ih hm
      by_cases c : q x = true
      · rw [if_pos c, if_pos (h x c)]; simp; exact this
      · rw [if_neg c]; split <;> (try simp) <;> omega
theorem leftI_size (seen : Array Nat) : (leftOf langMap seen).size = (langMap.toList.filter fun e => !seen.contains e.born).length := by
  unfold leftOf
  rw [← Array.length_toList, Array.toList_filter]
theorem leftI_start : (leftOf langMap #[]).size = 6 := by rw [leftI_size]; simp [langMap]
theorem leftI_lt {seen : Array Nat} {e : MapEntry} (he : e ∈ (leftOf langMap seen).toList) : (leftOf langMap (seen.push e.born)).size < (leftOf langMap seen).size := by
  rw [leftI_size, leftI_size]
  unfold leftOf at he
  exact filter_ltI (fun x : MapEntry => !seen.contains x.born) (fun x : MapEntry => !(seen.push e.born).contains x.born) (fun x hx => by simp at hx ⊢; exact hx.1) e (by simp at he ⊢; exact he.2) (by simp) langMap.toList (by simp at he ⊢; exact he.1)
theorem memI_of_left {seen : Array Nat} {e : MapEntry} (he : e ∈ (leftOf langMap seen).toList) : e ∈ langMap.toList := by
  unfold leftOf at he; simp at he ⊢; exact he.1

section
open Go.ChangeMaps (setBlock)
theorem setI_at {w : World} {r : Nat} {o o' : Obj} (h : w.heap[r]? = some o') : (setBlock w r o).heap[r]? = some o := by
  have := (Array.getElem?_eq_some_iff.1 h).1
  simp [setBlock, this]
theorem setI_far {w : World} {r k : Nat} {o : Obj} (h : k ≠ r) : (setBlock w r o).heap[k]? = w.heap[k]? := by
  simp [setBlock, Array.getElem?_setIfInBounds, Ne.symm h]
theorem setI_size {w : World} {r : Nat} {o : Obj} : (setBlock w r o).heap.size = w.heap.size := by simp [setBlock]
theorem below_setI {B : Nat} {a w : World} {r : Nat} {o : Obj} (h : Below B a w) (hr : B ≤ r) : Below B a (setBlock w r o) :=
  ⟨h.os, h.tape, h.output, by rw [setI_size]; exact h.size, fun k hk => by rw [setI_far (by omega)]; exact h.block k hk⟩

/-- The state of the range. -/
def GInv (w : World) (bm r : Nat) (s : ByteArray) (n : Nat) (v2 v3 : Value) (w' : World) : Prop :=
  ∃ (seen : Array Nat) (b c : Int), v2 = .int .u8 b ∧ v3 = .int .u8 c ∧ (leftOf langMap seen).size = n ∧ FoundI (isB s) seen b ∧ FoundI (isE s) seen c ∧ w'.heap[r]? = some (.mapIter (some bm) 6 seen 6) ∧ w'.heap[bm]? = some (.map langMap 6) ∧ Below w.heap.size w w'

set_option maxHeartbeats 8000000 in
set_option maxRecDepth 100000 in
theorem sign_calls (s : ByteArray) (w : World) :
    Calls Tryz.prog 20 #[.string s] w fun e w' => e = .returned (.tuple #[.int .u8 (letL (isB s) langMap.toList), .int .u8 (letL (isE s) langMap.toList)]) ∧ Below w.heap.size w w' := by
  have hUB : ∀ e ∈ langMap.toList, ∀ e' ∈ langMap.toList, isB s e = true → isB s e' = true → e = e' := lang_uniq (isB s) (fun e => (begOf e).toList) s.toList (fun e h => beq_iff_eq.1 h) (by rw [show langMap.toList.map (fun e => (begOf e).toList) = [[46, 91], [46, 67, 72], [46, 71, 49], [46, 80, 83], [46, 84, 83], [46, 69, 81]] from by simp [langMap, lang, begOf, cellOf, strOf, Lib.toList_data]]; decide)
  have hUE : ∀ e ∈ langMap.toList, ∀ e' ∈ langMap.toList, isE s e = true → isE s e' = true → e = e' := lang_uniq (isE s) (fun e => (endOf e).toList) s.toList (fun e h => by unfold isE at h; rw [Bool.and_eq_true] at h; exact beq_iff_eq.1 h.2) (by rw [show langMap.toList.map (fun e => (endOf e).toList) = [[46, 93], [46, 67, 69], [46, 71, 50], [46, 80, 69], [46, 84, 69], [46, 69, 78]] from by simp [langMap, lang, endOf, cellOf, strOf, Lib.toList_data]]; decide)
  have HUB := Lib.hid hUB
  have HUE := Lib.hid hUE
  clear hUB hUE
  go_enter Tryz.func20, Tryz.ntmps20
  go_wp2_with fail
  refine (languages_calls _).mono ?_
  rintro e w2 ⟨rfl, hw2⟩
  have HM := Lib.hid (show w2.heap[w.heap.size]? = some (.map langMap 6) by rw [hw2]; exact heap_new w _)
  have hs2 : w2.heap.size = w.heap.size + 1 := by rw [hw2]; simp
  have HS2 := Lib.hid hs2
  have HB2 := Lib.hid (show Below w.heap.size w w2 by rw [hw2]; exact (Below.refl _ _).alloc (Nat.le_refl _) _)
  clear hw2 hs2
  have hrg := run_range_map (P := Tryz.prog) w2 58 5 57 w.heap.size langMap 6 Tryz.underlying58 HM.out
  go_wp2
  go_loopg [2, 3] 6 (fun n v2 v3 w' => GInv w w.heap.size w2.heap.size s n v2 v3 w')
  case atStart =>
    refine ⟨#[], 0, 0, rfl, rfl, leftI_start, FoundI.start _, FoundI.start _, heap_new w2 _, ?_, HB2.out.alloc (by have := HS2.out; omega) _⟩
    rw [Below.heap_alloc _ _ _ (by have := HS2.out; omega)]
    exact HM.out
  case round =>
    clear hrg
    obtain ⟨seen, b, c, rfl, rfl, hn, hFB, hFE, hR, hM, hB⟩ := hrel
    have law := run_next_at (P := Tryz.prog) wr 0 w2.heap.size w.heap.size 6 6 seen langMap 6 hR hM lang_old (Nat.le_refl _)
    have HFB := Lib.hid hFB
    have HFE := Lib.hid hFE
    have HR := Lib.hid hR
    have HMr := Lib.hid hM
    have HB := Lib.hid hB
    have HN := Lib.hid hn
    clear hFB hFE hR hM hB hn
    rcases law with ⟨h0, hrun⟩ | ⟨e, he, wx, hwx, hrun⟩
    · have hnx : ∀ ty, (Instr.next (.pointer (some ⟨w2.heap.size, 0, none⟩)) false ty).run Tryz.prog wr = _ := fun _ => hrun
      have HB0 := Lib.hid (HFB.out.all h0)
      have HE0 := Lib.hid (HFE.out.all h0)
      clear h0 hrun
      go_wp2
      go_ret2
      exact ⟨by rw [← HB0.out, ← HE0.out]; rfl, HB.out⟩
    · have hmem := memI_of_left he
      have HLT := Lib.hid (leftI_lt he)
      have hne2 : w.heap.size ≠ w2.heap.size := by have := HS2.out; omega
      rw [(lang_shape e hmem).1, (lang_shape e hmem).2] at hrun
      have hgw : ∀ kk : Nat, wx.heap[kk]? = wr.heap[kk]? := by rcases hwx with rfl | rfl <;> intro kk <;> rfl
      have hRx : wx.heap[w2.heap.size]? = some (.mapIter (some w.heap.size) 6 seen 6) := (hgw _).trans HR.out
      have hBx : Below w.heap.size w wx := by
        rcases hwx with rfl | rfl
        · exact HB.out
        · exact HB.out.drew
      obtain ⟨W2, hW2⟩ : ∃ W2, Go.ChangeMaps.setBlock wx w2.heap.size (.mapIter (some w.heap.size) 6 (seen.push e.born) 6) = W2 := ⟨_, rfl⟩
      have hR2 : W2.heap[w2.heap.size]? = some (.mapIter (some w.heap.size) 6 (seen.push e.born) 6) := by rw [← hW2]; exact setI_at hRx
      have hM2 : W2.heap[w.heap.size]? = some (.map langMap 6) := by rw [← hW2, setI_far hne2]; exact (hgw _).trans HMr.out
      have hB2 : Below w.heap.size w W2 := by rw [← hW2]; exact below_setI hBx (by have := HS2.out; omega)
      rw [hW2] at hrun
      have hen := run_entry_at (P := Tryz.prog) W2 w2.heap.size w.heap.size 6 seen langMap 6 e hR2 hM2 hmem lang_nodup
      rw [(lang_shape e hmem).1, (lang_shape e hmem).2] at hen
      have hnx : ∀ ty, (Instr.next (.pointer (some ⟨w2.heap.size, 0, none⟩)) false ty).run Tryz.prog wr = _ := fun _ => hrun
      have HMEM := Lib.hid hmem
      have hst := store_fn (P := Tryz.prog) W2 (begOf e) (endOf e) 57 (cellOf e 2) (lang_fn e hmem)
      have HR2 := Lib.hid hR2
      have HM2 := Lib.hid hM2
      have HBw := Lib.hid hB2
      have hsz : w2.heap.size < W2.heap.size := (Array.getElem?_eq_some_iff.1 hR2).1
      have HSZ := Lib.hid hsz
      clear hmem hR2 hM2 hB2 hW2 hRx hgw hBx hwx he hrun hsz
      have HNE2 := Lib.hid hne2
      clear hne2
      have hfin : ∀ (b' c' : Int) (w' : World), FoundI (isB s) (seen.push e.born) b' → FoundI (isE s) (seen.push e.born) c' → Below W2.heap.size W2 w' → GInv w w.heap.size w2.heap.size s (leftOf langMap (seen.push e.born)).size (.int .u8 b') (.int .u8 c') w' := by
        intro b' c' w' h1 h2 h3
        have hs := HSZ.out
        have hs2 := HS2.out
        exact ⟨_, b', c', rfl, rfl, rfl, h1, h2, by rw [h3.block _ hs]; exact HR2.out, by rw [h3.block _ (by omega)]; exact HM2.out, HBw.out.trans (h3.mono (by omega))⟩
      have HFIN := Lib.hid hfin
      clear hfin
      cases hb : s.toList == (begOf e).toList
      · cases hc : s.toList == (endOf e).toList
        · have HFn1 := Lib.hid (HFB.out.no HMEM.out hb)
          have HFn2 := Lib.hid (HFE.out.no HMEM.out (show isE s e = false by unfold isE; rw [hc]; simp))
          go_wp2
          go_roundg (leftOf langMap (seen.push e.born)).size
          case measure => have := HLT.out; have := HN.out; omega
          case rel => exact HFIN.out _ _ _ HFn1.out HFn2.out ((Below.refl _ _).alloc (Nat.le_refl _) _)
        · have HFn1 := Lib.hid (HFB.out.no HMEM.out hb)
          have HFn2 := Lib.hid (HFE.out.yes HUE.out HMEM.out (show isE s e = true by unfold isE; rw [hb, hc]; rfl))
          go_wp2
          go_roundg (leftOf langMap (seen.push e.born)).size
          case measure => have := HLT.out; have := HN.out; omega
          case rel => exact HFIN.out _ _ _ HFn1.out HFn2.out ((Below.refl _ _).alloc (Nat.le_refl _) _)
      · have HFn1 := Lib.hid (HFB.out.yes HUB.out HMEM.out hb)
        have HFn2 := Lib.hid (HFE.out.no HMEM.out (show isE s e = false by unfold isE; rw [hb]; rfl))
        go_wp2
        go_roundg (leftOf langMap (seen.push e.born)).size
        case measure => have := HLT.out; have := HN.out; omega
        case rel => exact HFIN.out _ _ _ HFn1.out HFn2.out ((Below.refl _ _).alloc (Nat.le_refl _) _)
end

/-- The letters of the language that a line begins, and ends. -/
def pipe_sign.f (a0 : ByteArray) : Option (Int × Int) := some (letL (isB a0) langMap.toList, letL (isE a0) langMap.toList)
theorem pipe_sign.calls (a0 : ByteArray) (r1 r2 : Int) (w : World) (h : pipe_sign.f a0 = some (r1, r2)) :
    Calls Tryz.prog 20 #[.string a0] w fun e w' => e = .returned (.tuple #[.int .u8 r1, .int .u8 r2]) ∧ Below w.heap.size w w' := by
  obtain ⟨rfl, rfl⟩ := Prod.mk.inj (Option.some.inj h)
  exact sign_calls a0 w
end Go.Proofs.YtjgalagflhmhdaaGreatDoor.QPipe
