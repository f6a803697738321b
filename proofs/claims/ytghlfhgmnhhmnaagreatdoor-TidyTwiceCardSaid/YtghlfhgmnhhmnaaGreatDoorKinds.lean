/-
 tidy.kinds: the kinds of lines. Condition: fewer than 2^44 lines, and those of 'stepF'.
-/
import Derived.Test.YtghlfhgmnhhmnaaGreatDoorStep
namespace Go.Proofs.YtghlfhgmnhhmnaaGreatDoor.QTidy
open Go.RowKit Go.Proofs.YtghlfhgmnhhmnaaGreatDoorW.PrintWords Go.Proofs.YtghlfhgmnhhmnaaGreatDoorW.PrintLast Go.Proofs.YtghlfhgmnhhmnaaGreatDoorW.PrintMore
set_option linter.unusedVariables false
set_option linter.unusedSimpArgs false

theorem infoI64 : (Tryz.prog.info? 3).map (fun i => (i.zero, i.size, i.bytes)) = some (some (.int .i64 0), 1, 8) := by kernel_rfl

/-- The kinds of the lines that are left: behind: the line ahead of them joins; the reader's state. -/
def kindsL (k : Nat) : List ByteArray → Bool → ByteArray → ByteArray → Bool → Option (List Int)
 | [], _, _, _, _ => some []
 | s :: l, behind, d, b, wi => (tidy_joins.f s).bind fun j =>
  if behind = true ∨ j = true then (kindsL k l j d b wi).bind fun r => some ((if wi = true then 1 else if b.toList = [] then 3 else 2) :: r)
  else (stepF k s d b wi).bind fun p => (kindsL k l j p.2.1 p.2.2.1 p.2.2.2).bind fun r => some (p.1 :: r)
def tidy_kinds.f (k : Nat) (l0 : List ByteArray) : Option (List Int) := if l0.length < 17592186044416 then kindsL k l0 false ⟨#[]⟩ ⟨#[]⟩ false else none
theorem kindsL.mono (k : Nat) : ∀ (l : List ByteArray) (bh : Bool) (d b : ByteArray) (wi : Bool), LeO (kindsL k l bh d b wi) (kindsL (k + 1) l bh d b wi)
 | [], _, _, _, _ => LeO.refl _
 | s :: l, bh, d, b, wi => by
  unfold kindsL
  refine LeO.bind (LeO.refl _) (fun j => ?_)
  refine LeO.ite ?_ ?_
  ·exact LeO.bind (kindsL.mono k l _ _ _ _) (fun _ => LeO.refl _)
  ·exact LeO.bind (stepF.mono k s d b wi) (fun p => LeO.bind (kindsL.mono k l _ _ _ _) (fun _ => LeO.refl _))
theorem tidy_kinds.mono : ∀ a0 k, LeO (tidy_kinds.f k a0) (tidy_kinds.f (k + 1) a0) := by
 intro a0 k
 unfold tidy_kinds.f
 exact LeO.ite (kindsL.mono k _ _ _ _ _) (LeO.refl _)

theorem own_ne {g : Nat} {W : World} {v : Value} {xs : List Int} {base : Nat} {e : Nat} (h : Kd.R (Kd.int .i64) e W base (fun k => k ≠ g) v xs) : some g ≠ v.ownBlock := fun hh => h.1 g hh.symm rfl

/-- The loop's state. -/
def KInv (k : Nat) (w : World) (l0 : List ByteArray) (fin : List Int) (n : Nat) (v4 v5 v14 : Value) (w' : World) : Prop :=
 ∃ (i : Nat) (out : List Int) (bh : Bool) (d b : ByteArray) (wi : Bool), v14 = .int .i64 i ∧ v5 = .bool bh ∧ Aside0 (i + n = l0.length) ∧ Aside0 (out.length = i) ∧ Aside0 (((kindsL k (l0.drop i) bh d b wi).bind fun r => some (out ++ r)) = some fin) ∧ Aside0 (w'.heap[w.heap.size]? = some (.cells #[.string d, .string b, .bool wi] 70 (0, 0))) ∧ Aside0 (Kd.R (Kd.int .i64) 3 w' w.heap.size (fun k => k ≠ w.heap.size) v4 out) ∧ Aside0 (Below w.heap.size w w')

set_option maxHeartbeats 16000000 in
set_option maxRecDepth 100000 in
theorem tidy_kinds.calls (k : Nat) (A0 : Option Addr) (c0 : Nat) (l0 : List ByteArray) (r : List Int) (w : World) (hr0 : Kd.C Kd.string w A0 l0.length l0) (hc0 : l0.length ≤ c0) (h : tidy_kinds.f k l0 = some r) :
  Calls Tryz.prog 29 #[.slice A0 l0.length c0] w fun e w' => ∃ v0_ : Value, e = .returned (v0_) ∧ Kd.R (Kd.int .i64) 3 w' w.heap.size (fun _ => True) v0_ r ∧ Below w.heap.size w w' := by
 unfold tidy_kinds.f at h
 by_cases hn : l0.length < 17592186044416
 case neg => rw [if_neg hn] at h; cases h
 rw [if_pos hn] at h
 have HN := Aside0.mk hn
 have HR0 := Aside0.mk hr0
 have HC0 := Aside0.mk hc0
 have HH := Aside0.mk h
 clear hn h hr0 hc0
 go_enter Tryz.func29, Tryz.ntmps29
 go_wp2
 go_loopg [4, 5, 14] l0.length (fun n v4 v5 v14 w' => KInv k w l0 r n v4 v5 v14 w')
 case atStart => exact ⟨0, [], false, ⟨#[]⟩, ⟨#[]⟩, false, rfl, rfl, ⟨by omega⟩, ⟨rfl⟩, ⟨by rw [List.drop_zero, HH.out]; rfl⟩, ⟨heap_alloc_new w _⟩, ⟨Kd.R_nil _ _ _ _ _⟩, ⟨below_alloc (Below.refl _ _) _⟩⟩
 case round =>
  obtain ⟨i, out, bh, d, b, wi, rfl, rfl, HLen, HOL, HK, HI, HO, HB⟩ := hrel
  cases gk with
  | zero =>
   have hi := HLen.out
   obtain rfl : i = l0.length := by omega
   have c0 : decide ((l0.length : Int) < (l0.length : Int)) = false := decide_eq_false (by omega)
   have hf : out = r := by have := HK.out; rw [List.drop_length] at this; simpa [kindsL] using this
   subst hf
   go_wp2
   go_ret
   exact ⟨_, rfl, Kd.R_mono HO.out (fun _ _ => trivial), HB.out⟩
  | succ n =>
   have hi := HLen.out
   have hlt : i < l0.length := by omega
   have b0 : decide ((i : Int) < (l0.length : Int)) = true := decide_eq_true (by omega)
   obtain ⟨ad, e, hcell0⟩ := Kd.at_string HR0.out (i : Int) (by omega) (by omega)
   cases e
   have hcell : wr.cell? (ad.add i) = some (.string (l0.getD i ByteArray.empty)) := by
    rw [show rdOf ByteArray.empty l0 (i : Int) = l0.getD i ByteArray.empty from by simp [rdOf], Int.toNat_natCast] at hcell0
    exact (HB.out.cell (p := ad.add i) (World.block_lt_of_cell? w _ hcell0)).trans hcell0
   clear hcell0
   have hk := HK.out
   rw [List.drop_eq_getElem_cons hlt, show l0[i] = l0.getD i ByteArray.empty from by rw [List.getD_eq_getElem?_getD, List.getElem?_eq_getElem hlt]; rfl] at hk
   generalize l0.getD i ByteArray.empty = s at hk hcell
   obtain ⟨fr, hk1, hk2⟩ := Option.bind_eq_some_iff.1 hk
   obtain rfl := (Option.some.inj hk2).symm
   unfold kindsL at hk1
   obtain ⟨j, hj, hk3⟩ := Option.bind_eq_some_iff.1 hk1
   have HJ := Aside0.mk hj
   have HK3 := Aside0.mk hk3
   clear hk hk1 hk2 hk3 hj HK
   have hw1 : IntKind.i64.wrap ((i : Int) + 1) = (i : Int) + 1 := by have := HN.out; simp [IntKind.wrap, IntKind.signed, IntKind.bits]; omega
   have cc1 : wr.cell? ⟨w.heap.size, 1, none⟩ = some (.string b) := (blk_cell HI.out 1).trans rfl
   have cc2 : wr.cell? ⟨w.heap.size, 2, none⟩ = some (.bool wi) := (blk_cell HI.out 2).trans rfl
   clear hi
   cases wi with
   | true =>
    cases bh with
    | true =>
     have hkk := HK3.out
     rw [if_pos (.inl rfl)] at hkk
     obtain ⟨rr, hkk1, hkk2⟩ := Option.bind_eq_some_iff.1 hkk
     obtain rfl := (Option.some.inj hkk2).symm
     have HREC := Aside0.mk hkk1
     clear hkk hkk1 hkk2 HK3
     go_wp2_with (first | (go_at_call 55; refine (tidy_joins.calls _ _ _ HJ.out).mono ?_; rintro e w' ⟨rfl, ⟨nd, rfl⟩⟩) | ((with_reducible refine gate_builtin (b := .append) (xs := #[.tmp 62, .tmp 63]) rfl ?_); (try (refine gate_guard (by rfl) ?_; dsimp only)); at_builtin; refine Kd.R_append (Kd.int .i64) (w0 := w) w.heap.size rfl (.tmp 62) (.tmp 63) 30 3 (.int .i64 0) 8 rfl Tryz.underlying30 infoI64 rfl (by decide) (by omega) u4 out (1 : Int) [.int .i64 (1 : Int)] (fun k => k ≠ w.heap.size) (fun _ => False) rfl rfl ?aPq1 (fun _ hk => hk.elim) ?aFq1 ?aOq1 ?aBq1 ?aSq1 ?aLq1 ?_; (case aPq1 => exact rfl); (case aBq1 => exact (by repeat (first | exact HB.out | refine below_alloc ?_ _ | refine pw_below_drewN ?_ _ | refine below_drew1 ?_))); (case aFq1 => exact (fun kk hk => by have h1 := blk_lt HI.out; have h2 : wr.heap.size ≤ kk := hk; show kk ≠ w.heap.size; omega)); (case aOq1 => exact (by (with_reducible repeat (first | apply Kd.R_alloc | apply Kd.R_drewN | apply Kd.R_drew)); exact HO.out)); (case aSq1 => exact (below_size (by repeat (first | exact HB.out | refine below_alloc ?_ _ | refine pw_below_drewN ?_ _ | refine below_drew1 ?_)))); (case aLq1 => have := HLen.out; have := HN.out; have := HOL.out; omega); intro v120 w38 ho hb hg hat; have HB2 := Aside0.mk hb; have HO2 := Aside0.mk ho; have HI2 := Aside0.mk (blk_grown (blk_drewN HI.out _) hg (by exact own_ne HO.out)); clear ho hb hg hat))
     go_roundg n
     case measure => omega
     case rel => exact ⟨i + 1, out ++ [1], j, d, b, true, by simp, rfl, ⟨by have := HLen.out; omega⟩, ⟨by have := HOL.out; simp; omega⟩, ⟨by rw [HREC.out]; simp⟩, HI2, HO2, HB2⟩
    | false =>
     cases j with
     | true =>
      have hkk := HK3.out
      rw [if_pos (.inr rfl)] at hkk
      obtain ⟨rr, hkk1, hkk2⟩ := Option.bind_eq_some_iff.1 hkk
      obtain rfl := (Option.some.inj hkk2).symm
      have HREC := Aside0.mk hkk1
      clear hkk hkk1 hkk2 HK3
      go_wp2_with (first | (go_at_call 55; refine (tidy_joins.calls _ _ _ HJ.out).mono ?_; rintro e w' ⟨rfl, ⟨nd, rfl⟩⟩) | ((with_reducible refine gate_builtin (b := .append) (xs := #[.tmp 62, .tmp 63]) rfl ?_); (try (refine gate_guard (by rfl) ?_; dsimp only)); at_builtin; refine Kd.R_append (Kd.int .i64) (w0 := w) w.heap.size rfl (.tmp 62) (.tmp 63) 30 3 (.int .i64 0) 8 rfl Tryz.underlying30 infoI64 rfl (by decide) (by omega) u4 out (1 : Int) [.int .i64 (1 : Int)] (fun k => k ≠ w.heap.size) (fun _ => False) rfl rfl ?aPq2 (fun _ hk => hk.elim) ?aFq2 ?aOq2 ?aBq2 ?aSq2 ?aLq2 ?_; (case aPq2 => exact rfl); (case aBq2 => exact (by repeat (first | exact HB.out | refine below_alloc ?_ _ | refine pw_below_drewN ?_ _ | refine below_drew1 ?_))); (case aFq2 => exact (fun kk hk => by have h1 := blk_lt HI.out; have h2 : wr.heap.size ≤ kk := hk; show kk ≠ w.heap.size; omega)); (case aOq2 => exact (by (with_reducible repeat (first | apply Kd.R_alloc | apply Kd.R_drewN | apply Kd.R_drew)); exact HO.out)); (case aSq2 => exact (below_size (by repeat (first | exact HB.out | refine below_alloc ?_ _ | refine pw_below_drewN ?_ _ | refine below_drew1 ?_)))); (case aLq2 => have := HLen.out; have := HN.out; have := HOL.out; omega); intro v120 w38 ho hb hg hat; have HB2 := Aside0.mk hb; have HO2 := Aside0.mk ho; have HI2 := Aside0.mk (blk_grown (blk_drewN HI.out _) hg (by exact own_ne HO.out)); clear ho hb hg hat))
      go_roundg n
      case measure => omega
      case rel => exact ⟨i + 1, out ++ [1], true, d, b, true, by simp, rfl, ⟨by have := HLen.out; omega⟩, ⟨by have := HOL.out; simp; omega⟩, ⟨by rw [HREC.out]; simp⟩, HI2, HO2, HB2⟩
     | false =>
      have hkk := HK3.out
      rw [if_neg (by simp)] at hkk
      obtain ⟨⟨kn, d', b', wi'⟩, hst, hkk⟩ := Option.bind_eq_some_iff.1 hkk
      obtain ⟨rr, hkk1, hkk2⟩ := Option.bind_eq_some_iff.1 hkk
      obtain rfl := (Option.some.inj hkk2).symm
      have HST := Aside0.mk hst
      have HREC := Aside0.mk hkk1
      clear hkk hkk1 hkk2 HK3 hst
      go_wp2_with (first | (go_at_call 55; refine (tidy_joins.calls _ _ _ HJ.out).mono ?_; rintro e w' ⟨rfl, ⟨nd, rfl⟩⟩) | (go_at_call 56; refine (step_calls _ _ _ _ _ _ _ _ _ _ _ (blk_drewN HI.out _) HST.out).mono ?_; rintro e w9 ⟨rfl, hI9, hg9⟩; have HI9 := Aside0.mk hI9; have HO9 : Aside0 (Kd.R (Kd.int .i64) 3 w9 w.heap.size (fun k => k ≠ w.heap.size) u4 out) := ⟨by refine Kd.R_grown ?_ hg9 (fun kk (hk : kk ≠ w.heap.size) e => hk (Option.some.inj e)); exact (by (with_reducible repeat (first | apply Kd.R_alloc | apply Kd.R_drewN | apply Kd.R_drew)); exact HO.out)⟩; have HB9 : Aside0 (Below w.heap.size w w9) := ⟨by refine Below.grown ?_ hg9 ?_ (fun kk hk => Nat.le_of_eq (Option.some.inj hk)); exact (by repeat (first | exact HB.out | refine below_alloc ?_ _ | refine pw_below_drewN ?_ _ | refine below_drew1 ?_)); exact (below_size (by repeat (first | exact HB.out | refine below_alloc ?_ _ | refine pw_below_drewN ?_ _ | refine below_drew1 ?_)))⟩; clear hI9 hg9) | ((with_reducible refine gate_builtin (b := .append) (xs := #[.tmp 36, .tmp 40]) rfl ?_); (try (refine gate_guard (by rfl) ?_; dsimp only)); at_builtin; refine Kd.R_append (Kd.int .i64) (w0 := w) w.heap.size rfl (.tmp 36) (.tmp 40) 30 3 (.int .i64 0) 8 rfl Tryz.underlying30 infoI64 rfl (by decide) (by omega) u4 out kn [.int .i64 kn] (fun k => k ≠ w.heap.size) (fun _ => False) rfl rfl ?aPq3 (fun _ hk => hk.elim) ?aFq3 ?aOq3 ?aBq3 ?aSq3 ?aLq3 ?_; (case aPq3 => exact rfl); (case aBq3 => exact (by repeat (first | exact HB9.out | refine below_alloc ?_ _ | refine pw_below_drewN ?_ _ | refine below_drew1 ?_))); (case aFq3 => exact (fun kk hk => by have h1 := blk_lt HI9.out; have h2 : w9.heap.size ≤ kk := hk; show kk ≠ w.heap.size; omega)); (case aOq3 => exact (by (with_reducible repeat (first | apply Kd.R_alloc | apply Kd.R_drewN | apply Kd.R_drew)); exact HO9.out)); (case aSq3 => exact (below_size (by repeat (first | exact HB9.out | refine below_alloc ?_ _ | refine pw_below_drewN ?_ _ | refine below_drew1 ?_)))); (case aLq3 => have := HLen.out; have := HN.out; have := HOL.out; omega); intro v120 w38 ho hb hg hat; have HB2 := Aside0.mk hb; have HO2 := Aside0.mk ho; have HI2 := Aside0.mk (blk_grown HI9.out hg (by exact own_ne HO9.out)); clear ho hb hg hat))
      go_roundg n
      case measure => omega
      case rel => exact ⟨i + 1, out ++ [kn], false, d', b', wi', by simp, rfl, ⟨by have := HLen.out; omega⟩, ⟨by have := HOL.out; simp; omega⟩, ⟨by rw [HREC.out]; simp⟩, HI2, HO2, HB2⟩
   | false =>
    by_cases hb : b.toList = []
    ·obtain ⟨q1, q2⟩ := strEq hb
     have q3 := strEmpty hb
     have HBE := Aside0.mk hb
     clear hb
     cases bh with
     | true =>
      have hkk := HK3.out
      rw [if_pos (.inl rfl)] at hkk
      obtain ⟨rr, hkk1, hkk2⟩ := Option.bind_eq_some_iff.1 hkk
      obtain rfl := (Option.some.inj hkk2).symm
      have HREC := Aside0.mk hkk1
      clear hkk hkk1 hkk2 HK3
      go_wp2_with (first | (go_at_call 55; refine (tidy_joins.calls _ _ _ HJ.out).mono ?_; rintro e w' ⟨rfl, ⟨nd, rfl⟩⟩) | ((with_reducible refine gate_builtin (b := .append) (xs := #[.tmp 48, .tmp 49]) rfl ?_); (try (refine gate_guard (by rfl) ?_; dsimp only)); at_builtin; refine Kd.R_append (Kd.int .i64) (w0 := w) w.heap.size rfl (.tmp 48) (.tmp 49) 30 3 (.int .i64 0) 8 rfl Tryz.underlying30 infoI64 rfl (by decide) (by omega) u4 out (3 : Int) [.int .i64 (3 : Int)] (fun k => k ≠ w.heap.size) (fun _ => False) rfl rfl ?aPq4 (fun _ hk => hk.elim) ?aFq4 ?aOq4 ?aBq4 ?aSq4 ?aLq4 ?_; (case aPq4 => exact rfl); (case aBq4 => exact (by repeat (first | exact HB.out | refine below_alloc ?_ _ | refine pw_below_drewN ?_ _ | refine below_drew1 ?_))); (case aFq4 => exact (fun kk hk => by have h1 := blk_lt HI.out; have h2 : wr.heap.size ≤ kk := hk; show kk ≠ w.heap.size; omega)); (case aOq4 => exact (by (with_reducible repeat (first | apply Kd.R_alloc | apply Kd.R_drewN | apply Kd.R_drew)); exact HO.out)); (case aSq4 => exact (below_size (by repeat (first | exact HB.out | refine below_alloc ?_ _ | refine pw_below_drewN ?_ _ | refine below_drew1 ?_)))); (case aLq4 => have := HLen.out; have := HN.out; have := HOL.out; omega); intro v120 w38 ho hb hg hat; have HB2 := Aside0.mk hb; have HO2 := Aside0.mk ho; have HI2 := Aside0.mk (blk_grown (blk_drewN HI.out _) hg (by exact own_ne HO.out)); clear ho hb hg hat))
      go_roundg n
      case measure => omega
      case rel => exact ⟨i + 1, out ++ [3], j, d, b, false, by simp, rfl, ⟨by have := HLen.out; omega⟩, ⟨by have := HOL.out; simp; omega⟩, ⟨by rw [HREC.out]; simp [HBE.out]⟩, HI2, HO2, HB2⟩
     | false =>
      cases j with
      | true =>
       have hkk := HK3.out
       rw [if_pos (.inr rfl)] at hkk
       obtain ⟨rr, hkk1, hkk2⟩ := Option.bind_eq_some_iff.1 hkk
       obtain rfl := (Option.some.inj hkk2).symm
       have HREC := Aside0.mk hkk1
       clear hkk hkk1 hkk2 HK3
       go_wp2_with (first | (go_at_call 55; refine (tidy_joins.calls _ _ _ HJ.out).mono ?_; rintro e w' ⟨rfl, ⟨nd, rfl⟩⟩) | ((with_reducible refine gate_builtin (b := .append) (xs := #[.tmp 48, .tmp 49]) rfl ?_); (try (refine gate_guard (by rfl) ?_; dsimp only)); at_builtin; refine Kd.R_append (Kd.int .i64) (w0 := w) w.heap.size rfl (.tmp 48) (.tmp 49) 30 3 (.int .i64 0) 8 rfl Tryz.underlying30 infoI64 rfl (by decide) (by omega) u4 out (3 : Int) [.int .i64 (3 : Int)] (fun k => k ≠ w.heap.size) (fun _ => False) rfl rfl ?aPq5 (fun _ hk => hk.elim) ?aFq5 ?aOq5 ?aBq5 ?aSq5 ?aLq5 ?_; (case aPq5 => exact rfl); (case aBq5 => exact (by repeat (first | exact HB.out | refine below_alloc ?_ _ | refine pw_below_drewN ?_ _ | refine below_drew1 ?_))); (case aFq5 => exact (fun kk hk => by have h1 := blk_lt HI.out; have h2 : wr.heap.size ≤ kk := hk; show kk ≠ w.heap.size; omega)); (case aOq5 => exact (by (with_reducible repeat (first | apply Kd.R_alloc | apply Kd.R_drewN | apply Kd.R_drew)); exact HO.out)); (case aSq5 => exact (below_size (by repeat (first | exact HB.out | refine below_alloc ?_ _ | refine pw_below_drewN ?_ _ | refine below_drew1 ?_)))); (case aLq5 => have := HLen.out; have := HN.out; have := HOL.out; omega); intro v120 w38 ho hb hg hat; have HB2 := Aside0.mk hb; have HO2 := Aside0.mk ho; have HI2 := Aside0.mk (blk_grown (blk_drewN HI.out _) hg (by exact own_ne HO.out)); clear ho hb hg hat))
       go_roundg n
       case measure => omega
       case rel => exact ⟨i + 1, out ++ [3], true, d, b, false, by simp, rfl, ⟨by have := HLen.out; omega⟩, ⟨by have := HOL.out; simp; omega⟩, ⟨by rw [HREC.out]; simp [HBE.out]⟩, HI2, HO2, HB2⟩
      | false =>
       have hkk := HK3.out
       rw [if_neg (by simp)] at hkk
       obtain ⟨⟨kn, d', b', wi'⟩, hst, hkk⟩ := Option.bind_eq_some_iff.1 hkk
       obtain ⟨rr, hkk1, hkk2⟩ := Option.bind_eq_some_iff.1 hkk
       obtain rfl := (Option.some.inj hkk2).symm
       have HST := Aside0.mk hst
       have HREC := Aside0.mk hkk1
       clear hkk hkk1 hkk2 HK3 hst
       go_wp2_with (first | (go_at_call 55; refine (tidy_joins.calls _ _ _ HJ.out).mono ?_; rintro e w' ⟨rfl, ⟨nd, rfl⟩⟩) | (go_at_call 56; refine (step_calls _ _ _ _ _ _ _ _ _ _ _ (blk_drewN HI.out _) HST.out).mono ?_; rintro e w9 ⟨rfl, hI9, hg9⟩; have HI9 := Aside0.mk hI9; have HO9 : Aside0 (Kd.R (Kd.int .i64) 3 w9 w.heap.size (fun k => k ≠ w.heap.size) u4 out) := ⟨by refine Kd.R_grown ?_ hg9 (fun kk (hk : kk ≠ w.heap.size) e => hk (Option.some.inj e)); exact (by (with_reducible repeat (first | apply Kd.R_alloc | apply Kd.R_drewN | apply Kd.R_drew)); exact HO.out)⟩; have HB9 : Aside0 (Below w.heap.size w w9) := ⟨by refine Below.grown ?_ hg9 ?_ (fun kk hk => Nat.le_of_eq (Option.some.inj hk)); exact (by repeat (first | exact HB.out | refine below_alloc ?_ _ | refine pw_below_drewN ?_ _ | refine below_drew1 ?_)); exact (below_size (by repeat (first | exact HB.out | refine below_alloc ?_ _ | refine pw_below_drewN ?_ _ | refine below_drew1 ?_)))⟩; clear hI9 hg9) | ((with_reducible refine gate_builtin (b := .append) (xs := #[.tmp 36, .tmp 40]) rfl ?_); (try (refine gate_guard (by rfl) ?_; dsimp only)); at_builtin; refine Kd.R_append (Kd.int .i64) (w0 := w) w.heap.size rfl (.tmp 36) (.tmp 40) 30 3 (.int .i64 0) 8 rfl Tryz.underlying30 infoI64 rfl (by decide) (by omega) u4 out kn [.int .i64 kn] (fun k => k ≠ w.heap.size) (fun _ => False) rfl rfl ?aPq6 (fun _ hk => hk.elim) ?aFq6 ?aOq6 ?aBq6 ?aSq6 ?aLq6 ?_; (case aPq6 => exact rfl); (case aBq6 => exact (by repeat (first | exact HB9.out | refine below_alloc ?_ _ | refine pw_below_drewN ?_ _ | refine below_drew1 ?_))); (case aFq6 => exact (fun kk hk => by have h1 := blk_lt HI9.out; have h2 : w9.heap.size ≤ kk := hk; show kk ≠ w.heap.size; omega)); (case aOq6 => exact (by (with_reducible repeat (first | apply Kd.R_alloc | apply Kd.R_drewN | apply Kd.R_drew)); exact HO9.out)); (case aSq6 => exact (below_size (by repeat (first | exact HB9.out | refine below_alloc ?_ _ | refine pw_below_drewN ?_ _ | refine below_drew1 ?_)))); (case aLq6 => have := HLen.out; have := HN.out; have := HOL.out; omega); intro v120 w38 ho hb hg hat; have HB2 := Aside0.mk hb; have HO2 := Aside0.mk ho; have HI2 := Aside0.mk (blk_grown HI9.out hg (by exact own_ne HO9.out)); clear ho hb hg hat))
       go_roundg n
       case measure => omega
       case rel => exact ⟨i + 1, out ++ [kn], false, d', b', wi', by simp, rfl, ⟨by have := HLen.out; omega⟩, ⟨by have := HOL.out; simp; omega⟩, ⟨by rw [HREC.out]; simp⟩, HI2, HO2, HB2⟩
    ·obtain ⟨q1, q2⟩ := strNe hb
     have q3 := strNot hb
     have HBE := Aside0.mk hb
     clear hb
     cases bh with
     | true =>
      have hkk := HK3.out
      rw [if_pos (.inl rfl)] at hkk
      obtain ⟨rr, hkk1, hkk2⟩ := Option.bind_eq_some_iff.1 hkk
      obtain rfl := (Option.some.inj hkk2).symm
      have HREC := Aside0.mk hkk1
      clear hkk hkk1 hkk2 HK3
      go_wp2_with (first | (go_at_call 55; refine (tidy_joins.calls _ _ _ HJ.out).mono ?_; rintro e w' ⟨rfl, ⟨nd, rfl⟩⟩) | ((with_reducible refine gate_builtin (b := .append) (xs := #[.tmp 70, .tmp 71]) rfl ?_); (try (refine gate_guard (by rfl) ?_; dsimp only)); at_builtin; refine Kd.R_append (Kd.int .i64) (w0 := w) w.heap.size rfl (.tmp 70) (.tmp 71) 30 3 (.int .i64 0) 8 rfl Tryz.underlying30 infoI64 rfl (by decide) (by omega) u4 out (2 : Int) [.int .i64 (2 : Int)] (fun k => k ≠ w.heap.size) (fun _ => False) rfl rfl ?aPq7 (fun _ hk => hk.elim) ?aFq7 ?aOq7 ?aBq7 ?aSq7 ?aLq7 ?_; (case aPq7 => exact rfl); (case aBq7 => exact (by repeat (first | exact HB.out | refine below_alloc ?_ _ | refine pw_below_drewN ?_ _ | refine below_drew1 ?_))); (case aFq7 => exact (fun kk hk => by have h1 := blk_lt HI.out; have h2 : wr.heap.size ≤ kk := hk; show kk ≠ w.heap.size; omega)); (case aOq7 => exact (by (with_reducible repeat (first | apply Kd.R_alloc | apply Kd.R_drewN | apply Kd.R_drew)); exact HO.out)); (case aSq7 => exact (below_size (by repeat (first | exact HB.out | refine below_alloc ?_ _ | refine pw_below_drewN ?_ _ | refine below_drew1 ?_)))); (case aLq7 => have := HLen.out; have := HN.out; have := HOL.out; omega); intro v120 w38 ho hb hg hat; have HB2 := Aside0.mk hb; have HO2 := Aside0.mk ho; have HI2 := Aside0.mk (blk_grown (blk_drewN HI.out _) hg (by exact own_ne HO.out)); clear ho hb hg hat))
      go_roundg n
      case measure => omega
      case rel => exact ⟨i + 1, out ++ [2], j, d, b, false, by simp, rfl, ⟨by have := HLen.out; omega⟩, ⟨by have := HOL.out; simp; omega⟩, ⟨by rw [HREC.out]; simp [HBE.out]⟩, HI2, HO2, HB2⟩
     | false =>
      cases j with
      | true =>
       have hkk := HK3.out
       rw [if_pos (.inr rfl)] at hkk
       obtain ⟨rr, hkk1, hkk2⟩ := Option.bind_eq_some_iff.1 hkk
       obtain rfl := (Option.some.inj hkk2).symm
       have HREC := Aside0.mk hkk1
       clear hkk hkk1 hkk2 HK3
       go_wp2_with (first | (go_at_call 55; refine (tidy_joins.calls _ _ _ HJ.out).mono ?_; rintro e w' ⟨rfl, ⟨nd, rfl⟩⟩) | ((with_reducible refine gate_builtin (b := .append) (xs := #[.tmp 70, .tmp 71]) rfl ?_); (try (refine gate_guard (by rfl) ?_; dsimp only)); at_builtin; refine Kd.R_append (Kd.int .i64) (w0 := w) w.heap.size rfl (.tmp 70) (.tmp 71) 30 3 (.int .i64 0) 8 rfl Tryz.underlying30 infoI64 rfl (by decide) (by omega) u4 out (2 : Int) [.int .i64 (2 : Int)] (fun k => k ≠ w.heap.size) (fun _ => False) rfl rfl ?aPq8 (fun _ hk => hk.elim) ?aFq8 ?aOq8 ?aBq8 ?aSq8 ?aLq8 ?_; (case aPq8 => exact rfl); (case aBq8 => exact (by repeat (first | exact HB.out | refine below_alloc ?_ _ | refine pw_below_drewN ?_ _ | refine below_drew1 ?_))); (case aFq8 => exact (fun kk hk => by have h1 := blk_lt HI.out; have h2 : wr.heap.size ≤ kk := hk; show kk ≠ w.heap.size; omega)); (case aOq8 => exact (by (with_reducible repeat (first | apply Kd.R_alloc | apply Kd.R_drewN | apply Kd.R_drew)); exact HO.out)); (case aSq8 => exact (below_size (by repeat (first | exact HB.out | refine below_alloc ?_ _ | refine pw_below_drewN ?_ _ | refine below_drew1 ?_)))); (case aLq8 => have := HLen.out; have := HN.out; have := HOL.out; omega); intro v120 w38 ho hb hg hat; have HB2 := Aside0.mk hb; have HO2 := Aside0.mk ho; have HI2 := Aside0.mk (blk_grown (blk_drewN HI.out _) hg (by exact own_ne HO.out)); clear ho hb hg hat))
       go_roundg n
       case measure => omega
       case rel => exact ⟨i + 1, out ++ [2], true, d, b, false, by simp, rfl, ⟨by have := HLen.out; omega⟩, ⟨by have := HOL.out; simp; omega⟩, ⟨by rw [HREC.out]; simp [HBE.out]⟩, HI2, HO2, HB2⟩
      | false =>
       have hkk := HK3.out
       rw [if_neg (by simp)] at hkk
       obtain ⟨⟨kn, d', b', wi'⟩, hst, hkk⟩ := Option.bind_eq_some_iff.1 hkk
       obtain ⟨rr, hkk1, hkk2⟩ := Option.bind_eq_some_iff.1 hkk
       obtain rfl := (Option.some.inj hkk2).symm
       have HST := Aside0.mk hst
       have HREC := Aside0.mk hkk1
       clear hkk hkk1 hkk2 HK3 hst
       go_wp2_with (first | (go_at_call 55; refine (tidy_joins.calls _ _ _ HJ.out).mono ?_; rintro e w' ⟨rfl, ⟨nd, rfl⟩⟩) | (go_at_call 56; refine (step_calls _ _ _ _ _ _ _ _ _ _ _ (blk_drewN HI.out _) HST.out).mono ?_; rintro e w9 ⟨rfl, hI9, hg9⟩; have HI9 := Aside0.mk hI9; have HO9 : Aside0 (Kd.R (Kd.int .i64) 3 w9 w.heap.size (fun k => k ≠ w.heap.size) u4 out) := ⟨by refine Kd.R_grown ?_ hg9 (fun kk (hk : kk ≠ w.heap.size) e => hk (Option.some.inj e)); exact (by (with_reducible repeat (first | apply Kd.R_alloc | apply Kd.R_drewN | apply Kd.R_drew)); exact HO.out)⟩; have HB9 : Aside0 (Below w.heap.size w w9) := ⟨by refine Below.grown ?_ hg9 ?_ (fun kk hk => Nat.le_of_eq (Option.some.inj hk)); exact (by repeat (first | exact HB.out | refine below_alloc ?_ _ | refine pw_below_drewN ?_ _ | refine below_drew1 ?_)); exact (below_size (by repeat (first | exact HB.out | refine below_alloc ?_ _ | refine pw_below_drewN ?_ _ | refine below_drew1 ?_)))⟩; clear hI9 hg9) | ((with_reducible refine gate_builtin (b := .append) (xs := #[.tmp 36, .tmp 40]) rfl ?_); (try (refine gate_guard (by rfl) ?_; dsimp only)); at_builtin; refine Kd.R_append (Kd.int .i64) (w0 := w) w.heap.size rfl (.tmp 36) (.tmp 40) 30 3 (.int .i64 0) 8 rfl Tryz.underlying30 infoI64 rfl (by decide) (by omega) u4 out kn [.int .i64 kn] (fun k => k ≠ w.heap.size) (fun _ => False) rfl rfl ?aPq9 (fun _ hk => hk.elim) ?aFq9 ?aOq9 ?aBq9 ?aSq9 ?aLq9 ?_; (case aPq9 => exact rfl); (case aBq9 => exact (by repeat (first | exact HB9.out | refine below_alloc ?_ _ | refine pw_below_drewN ?_ _ | refine below_drew1 ?_))); (case aFq9 => exact (fun kk hk => by have h1 := blk_lt HI9.out; have h2 : w9.heap.size ≤ kk := hk; show kk ≠ w.heap.size; omega)); (case aOq9 => exact (by (with_reducible repeat (first | apply Kd.R_alloc | apply Kd.R_drewN | apply Kd.R_drew)); exact HO9.out)); (case aSq9 => exact (below_size (by repeat (first | exact HB9.out | refine below_alloc ?_ _ | refine pw_below_drewN ?_ _ | refine below_drew1 ?_)))); (case aLq9 => have := HLen.out; have := HN.out; have := HOL.out; omega); intro v120 w38 ho hb hg hat; have HB2 := Aside0.mk hb; have HO2 := Aside0.mk ho; have HI2 := Aside0.mk (blk_grown HI9.out hg (by exact own_ne HO9.out)); clear ho hb hg hat))
       go_roundg n
       case measure => omega
       case rel => exact ⟨i + 1, out ++ [kn], false, d', b', wi', by simp, rfl, ⟨by have := HLen.out; omega⟩, ⟨by have := HOL.out; simp; omega⟩, ⟨by rw [HREC.out]; simp⟩, HI2, HO2, HB2⟩
end Go.Proofs.YtghlfhgmnhhmnaaGreatDoor.QTidy
