/-
 frisketref37.kinds: the kinds of lines, by the document. Condition: fewer than 2^44 lines, and that the printed functions of the reference (joins, begins, ends, definition) answer.
-/
import Derived.Test.YtghlfhgmnhhmnaaGreatDoorKinds
import Derived.Test.YtghlfhgmnhhmnaaGreatDoorQTidyx6
import Derived.Test.YtghlfhgmnhhmnaaGreatDoorQTidyx6
import Derived.Test.YtghlfhgmnhhmnaaGreatDoorQTidyx6
import Derived.Test.YtghlfhgmnhhmnaaGreatDoorQTidyx9
namespace Go.Proofs.YtghlfhgmnhhmnaaGreatDoor.QTidy
open Go.RowKit Go.Proofs.YtghlfhgmnhhmnaaGreatDoorW.PrintWords Go.Proofs.YtghlfhgmnhhmnaaGreatDoorW.PrintLast Go.Proofs.YtghlfhgmnhhmnaaGreatDoorW.PrintMore
set_option linter.unusedVariables false
set_option linter.unusedSimpArgs false

/-- The names that begin and end blocks. -/
def blkPairs : List (ByteArray × ByteArray) := [(⟨#[84, 83]⟩, ⟨#[84, 69]⟩), (⟨#[69, 81]⟩, ⟨#[69, 78]⟩), (⟨#[80, 83]⟩, ⟨#[80, 69]⟩), (⟨#[71, 49]⟩, ⟨#[71, 50]⟩), (⟨#[67, 72]⟩, ⟨#[67, 69]⟩), (⟨#[91]⟩, ⟨#[93]⟩)]
def blkCells : Array Value := #[.string ⟨#[84, 83]⟩, .string ⟨#[84, 69]⟩, .string ⟨#[69, 81]⟩, .string ⟨#[69, 78]⟩, .string ⟨#[80, 83]⟩, .string ⟨#[80, 69]⟩, .string ⟨#[71, 49]⟩, .string ⟨#[71, 50]⟩, .string ⟨#[67, 72]⟩, .string ⟨#[67, 69]⟩, .string ⟨#[91]⟩, .string ⟨#[93]⟩]
def blkR (s : ByteArray) : List (ByteArray × ByteArray) → Int → ByteArray → Option (Int × ByteArray)
 | [], wn, e => some (wn, e)
 | p :: l, wn, e => (frisketref37_begins.f s p.1).bind fun b => if b = true then blkR s l 2 p.2 else blkR s l wn e
/-- A line's kind, and the state behind it. -/
def stepR (k : Nat) (s : ByteArray) (j : Bool) (wn : Int) (e : ByteArray) : Option (Int × Int × ByteArray) :=
 if wn = 1 then (if j = true then some (1, 1, e) else (frisketref37_ends.f s e).bind fun b => some (if b = true then (0, 0, e) else (1, 1, e)))
 else if wn = 2 then (if j = true then some (2, 2, e) else (frisketref37_begins.f s e).bind fun b => some (if b = true then (0, 0, e) else (2, 2, e)))
 else if wn = 0 then (if j = true then some (3, 0, e) else (frisketref37_definition.f k s).bind fun d => if d.2 = true then some (0, 1, d.1) else (blkR s blkPairs 0 e).bind fun q => some (0, q.1, q.2))
 else none
def kindsR (k : Nat) : List ByteArray → Bool → Int → ByteArray → Option (List Int)
 | [], _, _, _ => some []
 | s :: l, pj, wn, e => (frisketref37_joins.f k s).bind fun j => (stepR k s (j || pj) wn e).bind fun r => (kindsR k l j r.2.1 r.2.2).bind fun q => some (r.1 :: q)
def frisketref37_kinds.f (k : Nat) (l0 : List ByteArray) : Option (List Int) := if l0.length < 17592186044416 then kindsR k l0 false 0 ⟨#[]⟩ else none
theorem stepR.mono (k : Nat) (s : ByteArray) (j : Bool) (wn : Int) (e : ByteArray) : LeO (stepR k s j wn e) (stepR (k + 1) s j wn e) := by
 unfold stepR
 refine LeO.ite (LeO.refl _) (LeO.ite (LeO.refl _) (LeO.ite (LeO.ite (LeO.refl _) (LeO.bind (frisketref37_definition.mono _ _) (fun _ => LeO.refl _))) (LeO.refl _)))
theorem kindsR.mono (k : Nat) : ∀ (l : List ByteArray) (pj : Bool) (wn : Int) (e : ByteArray), LeO (kindsR k l pj wn e) (kindsR (k + 1) l pj wn e)
 | [], _, _, _ => LeO.refl _
 | s :: l, pj, wn, e => by
  unfold kindsR
  refine LeO.bind (frisketref37_joins.mono _ _) (fun j => LeO.bind (stepR.mono _ _ _ _ _) (fun r => LeO.bind (kindsR.mono k l _ _ _) (fun _ => LeO.refl _)))
theorem frisketref37_kinds.mono : ∀ a0 k, LeO (frisketref37_kinds.f k a0) (frisketref37_kinds.f (k + 1) a0) := by
 intro a0 k
 unfold frisketref37_kinds.f
 exact LeO.ite (kindsR.mono k _ _ _ _) (LeO.refl _)

/-- The list of the blocks' names: one new block. -/
theorem ref_blocks (w : World) : Calls Tryz.prog 90 #[] w fun e w' => e = .returned (.slice (some ⟨w.heap.size, 0, none⟩) 6 6) ∧ w' = w.alloc (.cells blkCells 101) := by
 go_enter Tryz.func90, Tryz.ntmps90
 go_wp2
 go_ret
 exact ⟨rfl, rfl⟩

/-- A slice of one's own: nil, or a whole block. -/
theorem own_form {α : Type} {d : Kd α} {e base : Nat} {ok : Nat → Prop} {w : World} {v : Value} {xs : List α} (h : d.R e w base ok v xs) (hn : 0 < xs.length) : ∃ g c, v = .slice (some ⟨g, 0, none⟩) xs.length c ∧ base ≤ g ∧ ok g := by
 obtain ⟨inner, ho⟩ := Kd.R_own h
 rcases ho.2 with ⟨he, h0⟩ | ⟨g, cap, cur, he, hb, _⟩
 ·omega
 ·refine ⟨g, cap, he, hb, h.1 g ?_⟩
  rw [he]; rfl

theorem toNat_pred (i : Nat) : ((i : Int) - 1).toNat = i - 1 := by omega
theorem row_pos {out : List Int} {i n m : Nat} (h1 : out.length = i) (h2 : i + (n + 1) = m) : 0 < (out ++ List.replicate (n + 1) (0 : Int)).length := by simp; omega
theorem row_zero (out : List Int) (n : Nat) : (out ++ [0]) ++ List.replicate n (0 : Int) = out ++ List.replicate (n + 1) 0 := by simp [List.replicate_succ]
theorem row_set {out : List Int} {i n : Nat} (h1 : out.length = i) (x : Int) : (out ++ List.replicate (n + 1) (0 : Int)).set i x = (out ++ [x]) ++ List.replicate n 0 := by subst h1; simp [List.replicate_succ]
theorem row_put {e base g m cap i n : Nat} {ok : Nat → Prop} {W : World} {out : List Int} (h : Kd.R (Kd.int .i64) e W base ok (.slice (some ⟨g, 0, none⟩) m cap) (out ++ List.replicate (n + 1) (0 : Int))) (h1 : out.length = i) (x : Int) : Kd.R (Kd.int .i64) e (W.setCell ⟨g, i, none⟩ (.int .i64 x)) base ok (.slice (some ⟨g, 0, none⟩) m cap) ((out ++ [x]) ++ List.replicate n 0) := by
 have := (Kd.R_putg h (i : Int) x).1
 rw [Int.toNat_natCast, row_set h1] at this
 exact this
theorem six {k n : Nat} (h : k + (n + 1) = 6) : k = 0 ∨ k = 1 ∨ k = 2 ∨ k = 3 ∨ k = 4 ∨ k = 5 := by omega
theorem quiet_out {wr w9 : World} {a : Nat} (h : Drawn0 (wr.drewN a) w9) : ∃ n, w9 = wr.drewN n := by
 obtain ⟨n, h⟩ := h
 exact ⟨_, by rw [h, World.drewN_drewN]⟩
theorem row_len {out : List Int} {i n m : Nat} (h1 : out.length = i) (h2 : i + (n + 1) = m) : (out ++ List.replicate (n + 1) (0 : Int)).length = m := by simp; omega

/-- The loop's state. -/
def RKInv (k : Nat) (w : World) (l0 : List ByteArray) (fin : List Int) (v3 : Value) (n : Nat) (v4 v5 v6 : Value) (w' : World) : Prop :=
 ∃ (i : Nat) (out : List Int) (pj : Bool) (wn : Int) (e : ByteArray), v4 = .int .i64 wn ∧ v5 = .string e ∧ v6 = .int .i64 i ∧ Aside0 (i + n = l0.length) ∧ Aside0 (out.length = i) ∧ Aside0 (((kindsR k (l0.drop i) pj wn e).bind fun r => some (out ++ r)) = some fin) ∧
  Aside0 ((i = 0 → pj = false) ∧ (0 < i → frisketref37_joins.f k (rdOf ByteArray.empty l0 ((i : Int) - 1)) = some pj)) ∧ Aside0 (Kd.R (Kd.int .i64) 3 w' w.heap.size (fun _ => True) v3 (out ++ List.replicate n 0)) ∧ Aside0 (Below w.heap.size w w')

/-- The inner loop's state. -/
def BInv (s : ByteArray) (q1 : Int) (q2 : ByteArray) (w : World) (bb : Nat) (v3 : Value) (xs : List Int) (n : Nat) (v4 v5 v11 : Value) (w' : World) : Prop :=
 ∃ (kk : Nat) (wn : Int) (e : ByteArray), v4 = .int .i64 wn ∧ v5 = .string e ∧ v11 = .int .i64 kk ∧ Aside0 (kk + n = 6) ∧ Aside0 (blkR s (blkPairs.drop kk) wn e = some (q1, q2)) ∧ Aside0 (w'.heap[bb]? = some (.cells blkCells 101 (0, 0))) ∧ Aside0 (Kd.R (Kd.int .i64) 3 w' w.heap.size (fun _ => True) v3 xs) ∧ Aside0 (Below w.heap.size w w')

set_option maxHeartbeats 8000000 in
set_option maxRecDepth 100000 in
theorem frisketref37_kinds.calls (k : Nat) (A0 : Option Addr) (c0 : Nat) (l0 : List ByteArray) (r : List Int) (w : World) (hr0 : Kd.C Kd.string w A0 l0.length l0) (hc0 : l0.length ≤ c0) (h : frisketref37_kinds.f k l0 = some r) :
  Calls Tryz.prog 54 #[.slice A0 l0.length c0] w fun e w' => ∃ v0_ : Value, e = .returned (v0_) ∧ Kd.R (Kd.int .i64) 3 w' w.heap.size (fun _ => True) v0_ r ∧ Below w.heap.size w w' := by
 unfold frisketref37_kinds.f at h
 by_cases hn : l0.length < 17592186044416
 case neg => rw [if_neg hn] at h; cases h
 rw [if_pos hn] at h
 have HN := Aside0.mk hn
 have HR0 := Aside0.mk hr0
 have HC0 := Aside0.mk hc0
 have HH := Aside0.mk h
 clear hn h hr0 hc0
 go_enter Tryz.func54, Tryz.ntmps54
 go_wp2_with ((with_reducible refine gate_dst (N := 14) rfl ?_); refine Kd.R_make (Kd.int .i64) (w0 := w) w.heap.size 3 rfl (N := 14) rfl 30 _ _ rfl (l0.length : Int) rfl rfl Tryz.underlying30 (.int .i64 0) 8 infoI64 rfl (by decide) (by omega) 0 (ok := fun _ => True) (okp := fun _ => False) rfl (fun _ hk => hk.elim) trivial (by omega) (by have := HN.out; simp only [Int.toNat_natCast]; omega) (Below.refl _ _) (Nat.le_refl _) ?_; rintro v1 w1 ho hb hg _; have HO := Aside0.mk ho; have HB := Aside0.mk hb; clear ho hb hg)
 go_loopg [4, 5, 6] l0.length (fun n v4 v5 v6 w' => RKInv k w l0 r v1 n v4 v5 v6 w')
 case atStart => exact ⟨0, [], false, 0, ⟨#[]⟩, rfl, rfl, rfl, ⟨by omega⟩, ⟨rfl⟩, ⟨by rw [List.drop_zero, HH.out]; rfl⟩, ⟨fun _ => rfl, fun h => absurd h (by omega)⟩, by simpa using HO, HB⟩
 case round =>
  obtain ⟨i, out, pj, wn, e, rfl, rfl, rfl, HLen, HOL, HK, HPJ, HOr, HBr⟩ := hrel
  cases gk with
  | zero =>
   have hi := HLen.out
   have b0 : (i < l0.length) = False := eq_false (by omega)
   have hf : out = r := by have := HK.out; rw [List.drop_of_length_le (by omega)] at this; simpa [kindsR] using this
   subst hf
   clear hi
   go_wp2_with fail
   go_ret
   exact ⟨_, rfl, by simpa using HOr.out, HBr.out⟩
  | succ n =>
   have hi := HLen.out
   have hlt : i < l0.length := by omega
   have b0 : (i < l0.length) = True := eq_true hlt
   obtain ⟨ad, ee, hcell0⟩ := Kd.at_string HR0.out (i : Int) (by omega) (by omega)
   cases ee
   have hrd : rdOf ByteArray.empty l0 (i : Int) = l0[i] := by simp [rdOf, hlt]
   have hcell : ∀ w', Below w.heap.size w w' → w'.cell? (ad.add i) = some (.string l0[i]) := fun w' hb => by
    rw [hrd, Int.toNat_natCast] at hcell0
    exact (hb.cell (p := ad.add i) (World.block_lt_of_cell? w _ hcell0)).trans hcell0
   clear hcell0
   have hk := HK.out
   rw [List.drop_eq_getElem_cons hlt] at hk
   generalize hss : l0[i] = s at hk hcell
   obtain ⟨fr, hk1, hk2⟩ := Option.bind_eq_some_iff.1 hk
   obtain rfl := (Option.some.inj hk2).symm
   unfold kindsR at hk1
   obtain ⟨j, hj, hk3⟩ := Option.bind_eq_some_iff.1 hk1
   have HJ := Aside0.mk hj
   have HJN : Aside0 (frisketref37_joins.f k (rdOf ByteArray.empty l0 (((i + 1 : Nat) : Int) - 1)) = some j) := ⟨by rw [show (((i + 1 : Nat) : Int) - 1) = (i : Int) by omega, hrd, hss]; exact hj⟩
   have HK3 := Aside0.mk hk3
   have HCELL := Aside0.mk hcell
   have HI := Aside0.mk hlt
   clear hk hk1 hk2 hk3 hj HK hi hlt hrd hss
   go_upto_region 6 with fail
   go_cut [7] (fun v7 wc => v7 = .bool (j || pj) ∧ Aside0 (Kd.R (Kd.int .i64) 3 wc w.heap.size (fun _ => True) v1 (out ++ List.replicate (n + 1) 0)) ∧ Aside0 (Below w.heap.size w wc))
   case first =>
    have hc := HCELL.out wr HBr.out
    clear hcell
    cases j with
    | true =>
     go_wp2_with (go_at_call 86; (with_reducible refine (frisketref37_joins.calls _ _ _ _ HJ.out).mono ?_); rintro e w' ⟨rfl, ⟨nd, rfl⟩⟩)
     go_meet
     exact ⟨rfl, ⟨by (with_reducible repeat (first | apply Kd.R_alloc | apply Kd.R_drewN | apply Kd.R_drew)); exact HOr.out⟩, ⟨by repeat (first | (with_reducible first | exact HBr.out | apply below_alloc | apply pw_below_drewN | apply below_drew1) | exact HBr.out)⟩⟩
    | false =>
     by_cases hi0 : 0 < i
     ·obtain ⟨ad', ee', hcell0⟩ := Kd.at_string HR0.out ((i : Int) - 1) (by omega) (by have := HI.out; omega)
      cases ee'
      have hcp : wr.cell? (ad.add ((i : Int) - 1).toNat) = some (.string (rdOf ByteArray.empty l0 ((i : Int) - 1))) := (HBr.out.cell (World.block_lt_of_cell? w _ hcell0)).trans hcell0
      rw [toNat_pred] at hcp
      have HJ2 : Aside0 (frisketref37_joins.f k (rdOf ByteArray.empty l0 ((i : Int) - 1)) = some pj) := ⟨HPJ.out.2 hi0⟩
      generalize rdOf ByteArray.empty l0 ((i : Int) - 1) = sp at hcp HJ2
      have hw1 : wrap64 ((i : Int) - 1) = (i : Int) - 1 := by have := HN.out; have := HI.out; simp [wrap64, IntKind.wrap, IntKind.signed, IntKind.bits]; omega
      have hw2 : IntKind.i64.wrap ((i : Int) - 1) = (i : Int) - 1 := by have := HN.out; have := HI.out; simp [IntKind.wrap, IntKind.signed, IntKind.bits]; omega
      have hb1 : (0 < i) = True := eq_true hi0
      have hb5 : ((1 : Int) ≤ (i : Int)) = True := eq_true (by omega)
      have hb2 : ((i : Int) > 0) = True := eq_true (by omega)
      have hb3 : (0 ≤ (i : Int) - 1) = True := eq_true (by omega)
      have hb4 : ((i : Int) - 1 < (l0.length : Int)) = True := eq_true (by have := HI.out; omega)
      clear hcell0 hi0
      have HCP := Aside0.mk hcp
      go_wp2_with (first | (go_at_call 86; (with_reducible refine (frisketref37_joins.calls _ _ _ _ HJ.out).mono ?_); rintro e w' ⟨rfl, ⟨nd, rfl⟩⟩) | (go_at_call 86; (with_reducible refine (frisketref37_joins.calls _ _ _ _ HJ2.out).mono ?_); rintro e w' ⟨rfl, ⟨nd, rfl⟩⟩))
      go_meet
      exact ⟨rfl, ⟨by (with_reducible repeat (first | apply Kd.R_alloc | apply Kd.R_drewN | apply Kd.R_drew)); exact HOr.out⟩, ⟨by repeat (first | (with_reducible first | exact HBr.out | apply below_alloc | apply pw_below_drewN | apply below_drew1) | exact HBr.out)⟩⟩
     ·have hi00 : i = 0 := Nat.le_zero.1 (Nat.not_lt.1 hi0)
      obtain rfl : pj = false := HPJ.out.1 hi00
      have hb1 : (0 < i) = False := eq_false hi0
      have hb2 : ((i : Int) > 0) = False := eq_false (by omega)
      have hb5 : ((1 : Int) ≤ (i : Int)) = False := eq_false (by omega)
      clear hi0 hi00
      go_wp2_with (go_at_call 86; (with_reducible refine (frisketref37_joins.calls _ _ _ _ HJ.out).mono ?_); rintro e w' ⟨rfl, ⟨nd, rfl⟩⟩)
      go_meet
      exact ⟨rfl, ⟨by (with_reducible repeat (first | apply Kd.R_alloc | apply Kd.R_drewN | apply Kd.R_drew)); exact HOr.out⟩, ⟨by repeat (first | (with_reducible first | exact HBr.out | apply below_alloc | apply pw_below_drewN | apply below_drew1) | exact HBr.out)⟩⟩
   case rest =>
    obtain ⟨rfl, HO2, HB2⟩ := hcut
    clear HOr HBr HJ HPJ hcell
    generalize (j || pj) = jj at HK3
    obtain ⟨⟨kn, wn', e'⟩, hst, hk4⟩ := Option.bind_eq_some_iff.1 HK3.out
    obtain ⟨q, hk5, hk6⟩ := Option.bind_eq_some_iff.1 hk4
    obtain rfl := (Option.some.inj hk6).symm
    have HREC := Aside0.mk hk5
    have hc := HCELL.out wc HB2.out
    obtain ⟨g, cp, hv, hg, _⟩ := own_form HO2.out (row_pos HOL.out HLen.out)
    rw [row_len HOL.out HLen.out] at hv
    subst hv
    obtain ⟨hx1, hx2⟩ := Kd.R_celln (0 : Int) HO2.out (i : Int) (Int.natCast_nonneg i) (by have := HI.out; omega)
    rw [Int.toNat_natCast] at hx1 hx2
    have HPUT := Aside0.mk fun x : Int => row_put HO2.out HOL.out x
    have HZERO : Aside0 (Kd.R (Kd.int .i64) 3 wc w.heap.size (fun _ => True) (.slice (some ⟨g, 0, none⟩) l0.length cp) ((out ++ [0]) ++ List.replicate n 0)) := ⟨by rw [row_zero]; exact HO2.out⟩
    have HG := Aside0.mk hg
    have HNEXT : Aside0 (((i + 1 = 0) → j = false) ∧ (0 < i + 1 → frisketref37_joins.f k (rdOf ByteArray.empty l0 (((i + 1 : Nat) : Int) - 1)) = some j)) := ⟨⟨fun h => absurd h (Nat.succ_ne_zero i), fun _ => HJN.out⟩⟩
    have HLN : Aside0 ((i + 1) + n = l0.length) := ⟨by have := HLen.out; omega⟩
    have HOLN : ∀ x : Int, Aside0 ((out ++ [x]).length = i + 1) := fun x => ⟨by have := HOL.out; simp [this]⟩
    have HKN : Aside0 (((kindsR k (l0.drop (i + 1)) j wn' e').bind fun r => some ((out ++ [kn]) ++ r)) = some (out ++ kn :: q)) := ⟨by rw [HREC.out]; simp⟩
    have hw1 : IntKind.i64.wrap ((i : Int) + 1) = (i : Int) + 1 := by have := HN.out; have := HI.out; simp [IntKind.wrap, IntKind.signed, IntKind.bits]; omega
    clear hk4 hk5 hk6 HK3 hg HREC
    unfold stepR at hst
    by_cases c1 : wn = 1
    ·subst c1
     rw [if_pos rfl] at hst
     cases jj with
     | true =>
      simp only [if_true, Option.some.injEq, Prod.mk.injEq] at hst
      obtain ⟨rfl, rfl, rfl⟩ := hst
      go_wp2_with fail
      go_roundg n
      case measure => omega
      case rel => exact ⟨i + 1, out ++ [1], j, _, _, rfl, rfl, by simp, HLN, HOLN _, HKN, HNEXT, ⟨row_put (by (with_reducible repeat (first | apply Kd.R_alloc | apply Kd.R_drewN | apply Kd.R_drew)); exact HO2.out) HOL.out _⟩, ⟨below_set (by repeat (first | (with_reducible first | exact HB2.out | apply below_alloc | apply pw_below_drewN | apply below_drew1) | exact HB2.out)) HG.out⟩⟩
     | false =>
      rw [if_neg (by simp)] at hst
      obtain ⟨b, hb, hst⟩ := Option.bind_eq_some_iff.1 hst
      have HE := Aside0.mk hb
      clear hb
      cases b with
      | true =>
       simp only [if_true, Option.some.injEq, Prod.mk.injEq] at hst
       obtain ⟨rfl, rfl, rfl⟩ := hst
       go_wp2_with (go_at_call 87; (with_reducible refine (frisketref37_ends.calls _ _ _ _ HE.out).mono ?_); rintro e w' ⟨rfl, ⟨nd, rfl⟩⟩)
       go_roundg n
       case measure => omega
       case rel => exact ⟨i + 1, out ++ [0], j, _, _, rfl, rfl, by simp, HLN, HOLN _, HKN, HNEXT, ⟨by (with_reducible repeat (first | apply Kd.R_alloc | apply Kd.R_drewN | apply Kd.R_drew)); exact HZERO.out⟩, ⟨(by repeat (first | (with_reducible first | exact HB2.out | apply below_alloc | apply pw_below_drewN | apply below_drew1) | exact HB2.out))⟩⟩
      | false =>
       simp only [Bool.false_eq_true, if_false, Option.some.injEq, Prod.mk.injEq] at hst
       obtain ⟨rfl, rfl, rfl⟩ := hst
       go_wp2_with (go_at_call 87; (with_reducible refine (frisketref37_ends.calls _ _ _ _ HE.out).mono ?_); rintro e w' ⟨rfl, ⟨nd, rfl⟩⟩)
       go_roundg n
       case measure => omega
       case rel => exact ⟨i + 1, out ++ [1], j, _, _, rfl, rfl, by simp, HLN, HOLN _, HKN, HNEXT, ⟨row_put (by (with_reducible repeat (first | apply Kd.R_alloc | apply Kd.R_drewN | apply Kd.R_drew)); exact HO2.out) HOL.out _⟩, ⟨below_set (by repeat (first | (with_reducible first | exact HB2.out | apply below_alloc | apply pw_below_drewN | apply below_drew1) | exact HB2.out)) HG.out⟩⟩
    ·rw [if_neg c1] at hst
     by_cases c2 : wn = 2
     ·subst c2
      clear c1
      rw [if_pos rfl] at hst
      cases jj with
      | true =>
       simp only [if_true, Option.some.injEq, Prod.mk.injEq] at hst
       obtain ⟨rfl, rfl, rfl⟩ := hst
       go_wp2_with fail
       go_roundg n
       case measure => omega
       case rel => exact ⟨i + 1, out ++ [2], j, _, _, rfl, rfl, by simp, HLN, HOLN _, HKN, HNEXT, ⟨row_put (by (with_reducible repeat (first | apply Kd.R_alloc | apply Kd.R_drewN | apply Kd.R_drew)); exact HO2.out) HOL.out _⟩, ⟨below_set (by repeat (first | (with_reducible first | exact HB2.out | apply below_alloc | apply pw_below_drewN | apply below_drew1) | exact HB2.out)) HG.out⟩⟩
      | false =>
       rw [if_neg (by simp)] at hst
       obtain ⟨b, hb, hst⟩ := Option.bind_eq_some_iff.1 hst
       have HE := Aside0.mk hb
       clear hb
       cases b with
       | true =>
        simp only [if_true, Option.some.injEq, Prod.mk.injEq] at hst
        obtain ⟨rfl, rfl, rfl⟩ := hst
        go_wp2_with (go_at_call 88; (with_reducible refine (frisketref37_begins.calls _ _ _ _ HE.out).mono ?_); rintro e w' ⟨rfl, ⟨nd, rfl⟩⟩)
        go_roundg n
        case measure => omega
        case rel => exact ⟨i + 1, out ++ [0], j, _, _, rfl, rfl, by simp, HLN, HOLN _, HKN, HNEXT, ⟨by (with_reducible repeat (first | apply Kd.R_alloc | apply Kd.R_drewN | apply Kd.R_drew)); exact HZERO.out⟩, ⟨(by repeat (first | (with_reducible first | exact HB2.out | apply below_alloc | apply pw_below_drewN | apply below_drew1) | exact HB2.out))⟩⟩
       | false =>
        simp only [Bool.false_eq_true, if_false, Option.some.injEq, Prod.mk.injEq] at hst
        obtain ⟨rfl, rfl, rfl⟩ := hst
        go_wp2_with (go_at_call 88; (with_reducible refine (frisketref37_begins.calls _ _ _ _ HE.out).mono ?_); rintro e w' ⟨rfl, ⟨nd, rfl⟩⟩)
        go_roundg n
        case measure => omega
        case rel => exact ⟨i + 1, out ++ [2], j, _, _, rfl, rfl, by simp, HLN, HOLN _, HKN, HNEXT, ⟨row_put (by (with_reducible repeat (first | apply Kd.R_alloc | apply Kd.R_drewN | apply Kd.R_drew)); exact HO2.out) HOL.out _⟩, ⟨below_set (by repeat (first | (with_reducible first | exact HB2.out | apply below_alloc | apply pw_below_drewN | apply below_drew1) | exact HB2.out)) HG.out⟩⟩
     ·rw [if_neg c2] at hst
      by_cases c3 : wn = 0
      ·subst c3
       clear c1 c2
       rw [if_pos rfl] at hst
       cases jj with
       | true =>
        simp only [if_true, Option.some.injEq, Prod.mk.injEq] at hst
        obtain ⟨rfl, rfl, rfl⟩ := hst
        go_wp2_with fail
        go_roundg n
        case measure => omega
        case rel => exact ⟨i + 1, out ++ [3], j, _, _, rfl, rfl, by simp, HLN, HOLN _, HKN, HNEXT, ⟨row_put (by (with_reducible repeat (first | apply Kd.R_alloc | apply Kd.R_drewN | apply Kd.R_drew)); exact HO2.out) HOL.out _⟩, ⟨below_set (by repeat (first | (with_reducible first | exact HB2.out | apply below_alloc | apply pw_below_drewN | apply below_drew1) | exact HB2.out)) HG.out⟩⟩
       | false =>
        rw [if_neg (by simp)] at hst
        obtain ⟨⟨de, db⟩, hd, hst⟩ := Option.bind_eq_some_iff.1 hst
        have HD := Aside0.mk hd
        clear hd
        go_wp2_with fail
        (with_reducible refine (frisketref37_definition.calls _ _ _ _ _ HD.out).mono ?_)
        rintro ee w2 ⟨rfl, hB⟩
        have HO3 := Aside0.mk (Kd.R_below HZERO.out hB)
        have HB3 := Aside0.mk (below_step HB2.out hB)
        have hc2 := HCELL.out w2 HB3.out
        clear hc hx1 hx2 hB HO2 HZERO HPUT
        cases db with
        | true =>
         simp only [if_true, Option.some.injEq, Prod.mk.injEq] at hst
         obtain ⟨rfl, rfl, rfl⟩ := hst
         go_wp2_with fail
         go_roundg n
         case measure => omega
         case rel => exact ⟨i + 1, out ++ [0], j, _, _, rfl, rfl, by simp, HLN, HOLN _, HKN, HNEXT, HO3, HB3⟩
        | false =>
         simp only [Bool.false_eq_true, if_false] at hst
         obtain ⟨⟨q1, q2⟩, hbk, hst⟩ := Option.bind_eq_some_iff.1 hst
         simp only [Option.some.injEq, Prod.mk.injEq] at hst
         obtain ⟨rfl, rfl, rfl⟩ := hst
         have HBK := Aside0.mk hbk
         clear hbk
         go_wp2_with fail
         refine (ref_blocks _).mono ?_
         rintro ee w3 ⟨rfl, rfl⟩
         go_wp2_with fail
         clear hc2 hst
         go_loopg [4, 5, 11] 6 (fun n' v4 v5 v11 w' => BInv s q1 q2 w w2.heap.size (.slice (some ⟨g, 0, none⟩) l0.length cp) ((out ++ [0]) ++ List.replicate n 0) n' v4 v5 v11 w')
         case atStart => exact ⟨0, 0, e, rfl, rfl, rfl, ⟨rfl⟩, HBK, ⟨heap_alloc_new w2 _⟩, ⟨Kd.R_alloc HO3.out _⟩, ⟨below_alloc HB3.out _⟩⟩
         case round =>
          clear HO3 HB3
          obtain ⟨kk, wn2, e2, rfl, rfl, rfl, HKL, HB4, HBB, HO4, HBL⟩ := hrel
          have hcs := HCELL.out wr HBL.out
          have hb6 : (i : Int) < (l0.length : Int) := Int.ofNat_lt.2 HI.out
          cases gk with
          | zero =>
           have hk6 : kk = 6 := HKL.out
           subst hk6
           have he : wn2 = q1 ∧ e2 = q2 := by have := HB4.out; rw [show blkPairs.drop 6 = [] from rfl] at this; simpa [blkR] using this
           obtain ⟨rfl, rfl⟩ := he
           go_wp2_with fail
           go_roundg n
           case measure => omega
           case rel => exact ⟨i + 1, out ++ [0], j, _, _, rfl, rfl, by simp, HLN, HOLN _, HKN, HNEXT, HO4, HBL⟩
          | succ n' =>
           have hkk := HKL.out
           rcases six hkk with rfl | rfl | rfl | rfl | rfl | rfl
           ·have hb4 := HB4.out
            rw [show blkPairs.drop 0 = blkPairs.getD 0 default :: blkPairs.drop 1 from rfl, blkR] at hb4
            obtain ⟨b, hb, hb5⟩ := Option.bind_eq_some_iff.1 hb4
            have HBE : Aside0 (frisketref37_begins.f s (blkPairs.getD 0 default).1 = some b) := ⟨hb⟩
            have HB5 := Aside0.mk hb5
            clear hb4 hb hb5
            have d1 : wr.cell? ⟨w2.heap.size, 0, none⟩ = some (.string (blkPairs.getD 0 default).1) := (blk_cell HBB.out 0).trans rfl
            have d2 : wr.cell? ⟨w2.heap.size, 1, none⟩ = some (.string (blkPairs.getD 0 default).2) := (blk_cell HBB.out 1).trans rfl
            generalize (blkPairs.getD 0 default).1 = b1 at HBE d1
            generalize (blkPairs.getD 0 default).2 = b2 at HB5 d2
            cases b with
            | true =>
             go_wp2_with fail
             refine wp_region_quiet_lit (by kernel_rfl) (by kernel_rfl) ?_
             repeat (quiet_step (fail))
             refine wpQuiet_step (fun K hK => ?_)
             go_simp
             refine ⟨.bool true, fun a => (frisketref37_begins.calls _ _ _ _ HBE.out).mono (fun e w' hh => ⟨hh.1, quiet_out hh.2⟩), hK _ ?_⟩
             clear hK K
             refine wpQuiet_nil ?_
             rintro _ ⟨nq, rfl⟩
             go_wp2_with fail
             go_quiet (fail)
             go_wp2_with fail
             go_roundg n'
             case measure => exact Nat.lt_succ_self _
             case rel => exact ⟨1, 2, b2, rfl, rfl, rfl, ⟨by have := HKL.out; omega⟩, ⟨by simpa using HB5.out⟩, ⟨blk_drewN HBB.out _⟩, ⟨Kd.R_drewN HO4.out _⟩, ⟨pw_below_drewN HBL.out _⟩⟩
            | false =>
             go_wp2_with fail
             refine wp_region_quiet_lit (by kernel_rfl) (by kernel_rfl) ?_
             repeat (quiet_step (fail))
             refine wpQuiet_step (fun K hK => ?_)
             go_simp
             refine ⟨.bool false, fun a => (frisketref37_begins.calls _ _ _ _ HBE.out).mono (fun e w' hh => ⟨hh.1, quiet_out hh.2⟩), hK _ ?_⟩
             clear hK K
             refine wpQuiet_nil ?_
             rintro _ ⟨nq, rfl⟩
             go_wp2_with fail
             go_roundg n'
             case measure => exact Nat.lt_succ_self _
             case rel => exact ⟨1, wn2, e2, rfl, rfl, rfl, ⟨by have := HKL.out; omega⟩, ⟨by simpa using HB5.out⟩, ⟨blk_drewN HBB.out _⟩, ⟨Kd.R_drewN HO4.out _⟩, ⟨pw_below_drewN HBL.out _⟩⟩
           ·have hb4 := HB4.out
            rw [show blkPairs.drop 1 = blkPairs.getD 1 default :: blkPairs.drop 2 from rfl, blkR] at hb4
            obtain ⟨b, hb, hb5⟩ := Option.bind_eq_some_iff.1 hb4
            have HBE : Aside0 (frisketref37_begins.f s (blkPairs.getD 1 default).1 = some b) := ⟨hb⟩
            have HB5 := Aside0.mk hb5
            clear hb4 hb hb5
            have d1 : wr.cell? ⟨w2.heap.size, 2, none⟩ = some (.string (blkPairs.getD 1 default).1) := (blk_cell HBB.out 2).trans rfl
            have d2 : wr.cell? ⟨w2.heap.size, 3, none⟩ = some (.string (blkPairs.getD 1 default).2) := (blk_cell HBB.out 3).trans rfl
            generalize (blkPairs.getD 1 default).1 = b1 at HBE d1
            generalize (blkPairs.getD 1 default).2 = b2 at HB5 d2
            cases b with
            | true =>
             go_wp2_with fail
             refine wp_region_quiet_lit (by kernel_rfl) (by kernel_rfl) ?_
             repeat (quiet_step (fail))
             refine wpQuiet_step (fun K hK => ?_)
             go_simp
             refine ⟨.bool true, fun a => (frisketref37_begins.calls _ _ _ _ HBE.out).mono (fun e w' hh => ⟨hh.1, quiet_out hh.2⟩), hK _ ?_⟩
             clear hK K
             refine wpQuiet_nil ?_
             rintro _ ⟨nq, rfl⟩
             go_wp2_with fail
             go_quiet (fail)
             go_wp2_with fail
             go_roundg n'
             case measure => exact Nat.lt_succ_self _
             case rel => exact ⟨2, 2, b2, rfl, rfl, rfl, ⟨by have := HKL.out; omega⟩, ⟨by simpa using HB5.out⟩, ⟨blk_drewN HBB.out _⟩, ⟨Kd.R_drewN HO4.out _⟩, ⟨pw_below_drewN HBL.out _⟩⟩
            | false =>
             go_wp2_with fail
             refine wp_region_quiet_lit (by kernel_rfl) (by kernel_rfl) ?_
             repeat (quiet_step (fail))
             refine wpQuiet_step (fun K hK => ?_)
             go_simp
             refine ⟨.bool false, fun a => (frisketref37_begins.calls _ _ _ _ HBE.out).mono (fun e w' hh => ⟨hh.1, quiet_out hh.2⟩), hK _ ?_⟩
             clear hK K
             refine wpQuiet_nil ?_
             rintro _ ⟨nq, rfl⟩
             go_wp2_with fail
             go_roundg n'
             case measure => exact Nat.lt_succ_self _
             case rel => exact ⟨2, wn2, e2, rfl, rfl, rfl, ⟨by have := HKL.out; omega⟩, ⟨by simpa using HB5.out⟩, ⟨blk_drewN HBB.out _⟩, ⟨Kd.R_drewN HO4.out _⟩, ⟨pw_below_drewN HBL.out _⟩⟩
           ·have hb4 := HB4.out
            rw [show blkPairs.drop 2 = blkPairs.getD 2 default :: blkPairs.drop 3 from rfl, blkR] at hb4
            obtain ⟨b, hb, hb5⟩ := Option.bind_eq_some_iff.1 hb4
            have HBE : Aside0 (frisketref37_begins.f s (blkPairs.getD 2 default).1 = some b) := ⟨hb⟩
            have HB5 := Aside0.mk hb5
            clear hb4 hb hb5
            have d1 : wr.cell? ⟨w2.heap.size, 4, none⟩ = some (.string (blkPairs.getD 2 default).1) := (blk_cell HBB.out 4).trans rfl
            have d2 : wr.cell? ⟨w2.heap.size, 5, none⟩ = some (.string (blkPairs.getD 2 default).2) := (blk_cell HBB.out 5).trans rfl
            generalize (blkPairs.getD 2 default).1 = b1 at HBE d1
            generalize (blkPairs.getD 2 default).2 = b2 at HB5 d2
            cases b with
            | true =>
             go_wp2_with fail
             refine wp_region_quiet_lit (by kernel_rfl) (by kernel_rfl) ?_
             repeat (quiet_step (fail))
             refine wpQuiet_step (fun K hK => ?_)
             go_simp
             refine ⟨.bool true, fun a => (frisketref37_begins.calls _ _ _ _ HBE.out).mono (fun e w' hh => ⟨hh.1, quiet_out hh.2⟩), hK _ ?_⟩
             clear hK K
             refine wpQuiet_nil ?_
             rintro _ ⟨nq, rfl⟩
             go_wp2_with fail
             go_quiet (fail)
             go_wp2_with fail
             go_roundg n'
             case measure => exact Nat.lt_succ_self _
             case rel => exact ⟨3, 2, b2, rfl, rfl, rfl, ⟨by have := HKL.out; omega⟩, ⟨by simpa using HB5.out⟩, ⟨blk_drewN HBB.out _⟩, ⟨Kd.R_drewN HO4.out _⟩, ⟨pw_below_drewN HBL.out _⟩⟩
            | false =>
             go_wp2_with fail
             refine wp_region_quiet_lit (by kernel_rfl) (by kernel_rfl) ?_
             repeat (quiet_step (fail))
             refine wpQuiet_step (fun K hK => ?_)
             go_simp
             refine ⟨.bool false, fun a => (frisketref37_begins.calls _ _ _ _ HBE.out).mono (fun e w' hh => ⟨hh.1, quiet_out hh.2⟩), hK _ ?_⟩
             clear hK K
             refine wpQuiet_nil ?_
             rintro _ ⟨nq, rfl⟩
             go_wp2_with fail
             go_roundg n'
             case measure => exact Nat.lt_succ_self _
             case rel => exact ⟨3, wn2, e2, rfl, rfl, rfl, ⟨by have := HKL.out; omega⟩, ⟨by simpa using HB5.out⟩, ⟨blk_drewN HBB.out _⟩, ⟨Kd.R_drewN HO4.out _⟩, ⟨pw_below_drewN HBL.out _⟩⟩
           ·have hb4 := HB4.out
            rw [show blkPairs.drop 3 = blkPairs.getD 3 default :: blkPairs.drop 4 from rfl, blkR] at hb4
            obtain ⟨b, hb, hb5⟩ := Option.bind_eq_some_iff.1 hb4
            have HBE : Aside0 (frisketref37_begins.f s (blkPairs.getD 3 default).1 = some b) := ⟨hb⟩
            have HB5 := Aside0.mk hb5
            clear hb4 hb hb5
            have d1 : wr.cell? ⟨w2.heap.size, 6, none⟩ = some (.string (blkPairs.getD 3 default).1) := (blk_cell HBB.out 6).trans rfl
            have d2 : wr.cell? ⟨w2.heap.size, 7, none⟩ = some (.string (blkPairs.getD 3 default).2) := (blk_cell HBB.out 7).trans rfl
            generalize (blkPairs.getD 3 default).1 = b1 at HBE d1
            generalize (blkPairs.getD 3 default).2 = b2 at HB5 d2
            cases b with
            | true =>
             go_wp2_with fail
             refine wp_region_quiet_lit (by kernel_rfl) (by kernel_rfl) ?_
             repeat (quiet_step (fail))
             refine wpQuiet_step (fun K hK => ?_)
             go_simp
             refine ⟨.bool true, fun a => (frisketref37_begins.calls _ _ _ _ HBE.out).mono (fun e w' hh => ⟨hh.1, quiet_out hh.2⟩), hK _ ?_⟩
             clear hK K
             refine wpQuiet_nil ?_
             rintro _ ⟨nq, rfl⟩
             go_wp2_with fail
             go_quiet (fail)
             go_wp2_with fail
             go_roundg n'
             case measure => exact Nat.lt_succ_self _
             case rel => exact ⟨4, 2, b2, rfl, rfl, rfl, ⟨by have := HKL.out; omega⟩, ⟨by simpa using HB5.out⟩, ⟨blk_drewN HBB.out _⟩, ⟨Kd.R_drewN HO4.out _⟩, ⟨pw_below_drewN HBL.out _⟩⟩
            | false =>
             go_wp2_with fail
             refine wp_region_quiet_lit (by kernel_rfl) (by kernel_rfl) ?_
             repeat (quiet_step (fail))
             refine wpQuiet_step (fun K hK => ?_)
             go_simp
             refine ⟨.bool false, fun a => (frisketref37_begins.calls _ _ _ _ HBE.out).mono (fun e w' hh => ⟨hh.1, quiet_out hh.2⟩), hK _ ?_⟩
             clear hK K
             refine wpQuiet_nil ?_
             rintro _ ⟨nq, rfl⟩
             go_wp2_with fail
             go_roundg n'
             case measure => exact Nat.lt_succ_self _
             case rel => exact ⟨4, wn2, e2, rfl, rfl, rfl, ⟨by have := HKL.out; omega⟩, ⟨by simpa using HB5.out⟩, ⟨blk_drewN HBB.out _⟩, ⟨Kd.R_drewN HO4.out _⟩, ⟨pw_below_drewN HBL.out _⟩⟩
           ·have hb4 := HB4.out
            rw [show blkPairs.drop 4 = blkPairs.getD 4 default :: blkPairs.drop 5 from rfl, blkR] at hb4
            obtain ⟨b, hb, hb5⟩ := Option.bind_eq_some_iff.1 hb4
            have HBE : Aside0 (frisketref37_begins.f s (blkPairs.getD 4 default).1 = some b) := ⟨hb⟩
            have HB5 := Aside0.mk hb5
            clear hb4 hb hb5
            have d1 : wr.cell? ⟨w2.heap.size, 8, none⟩ = some (.string (blkPairs.getD 4 default).1) := (blk_cell HBB.out 8).trans rfl
            have d2 : wr.cell? ⟨w2.heap.size, 9, none⟩ = some (.string (blkPairs.getD 4 default).2) := (blk_cell HBB.out 9).trans rfl
            generalize (blkPairs.getD 4 default).1 = b1 at HBE d1
            generalize (blkPairs.getD 4 default).2 = b2 at HB5 d2
            cases b with
            | true =>
             go_wp2_with fail
             refine wp_region_quiet_lit (by kernel_rfl) (by kernel_rfl) ?_
             repeat (quiet_step (fail))
             refine wpQuiet_step (fun K hK => ?_)
             go_simp
             refine ⟨.bool true, fun a => (frisketref37_begins.calls _ _ _ _ HBE.out).mono (fun e w' hh => ⟨hh.1, quiet_out hh.2⟩), hK _ ?_⟩
             clear hK K
             refine wpQuiet_nil ?_
             rintro _ ⟨nq, rfl⟩
             go_wp2_with fail
             go_quiet (fail)
             go_wp2_with fail
             go_roundg n'
             case measure => exact Nat.lt_succ_self _
             case rel => exact ⟨5, 2, b2, rfl, rfl, rfl, ⟨by have := HKL.out; omega⟩, ⟨by simpa using HB5.out⟩, ⟨blk_drewN HBB.out _⟩, ⟨Kd.R_drewN HO4.out _⟩, ⟨pw_below_drewN HBL.out _⟩⟩
            | false =>
             go_wp2_with fail
             refine wp_region_quiet_lit (by kernel_rfl) (by kernel_rfl) ?_
             repeat (quiet_step (fail))
             refine wpQuiet_step (fun K hK => ?_)
             go_simp
             refine ⟨.bool false, fun a => (frisketref37_begins.calls _ _ _ _ HBE.out).mono (fun e w' hh => ⟨hh.1, quiet_out hh.2⟩), hK _ ?_⟩
             clear hK K
             refine wpQuiet_nil ?_
             rintro _ ⟨nq, rfl⟩
             go_wp2_with fail
             go_roundg n'
             case measure => exact Nat.lt_succ_self _
             case rel => exact ⟨5, wn2, e2, rfl, rfl, rfl, ⟨by have := HKL.out; omega⟩, ⟨by simpa using HB5.out⟩, ⟨blk_drewN HBB.out _⟩, ⟨Kd.R_drewN HO4.out _⟩, ⟨pw_below_drewN HBL.out _⟩⟩
           ·have hb4 := HB4.out
            rw [show blkPairs.drop 5 = blkPairs.getD 5 default :: blkPairs.drop 6 from rfl, blkR] at hb4
            obtain ⟨b, hb, hb5⟩ := Option.bind_eq_some_iff.1 hb4
            have HBE : Aside0 (frisketref37_begins.f s (blkPairs.getD 5 default).1 = some b) := ⟨hb⟩
            have HB5 := Aside0.mk hb5
            clear hb4 hb hb5
            have d1 : wr.cell? ⟨w2.heap.size, 10, none⟩ = some (.string (blkPairs.getD 5 default).1) := (blk_cell HBB.out 10).trans rfl
            have d2 : wr.cell? ⟨w2.heap.size, 11, none⟩ = some (.string (blkPairs.getD 5 default).2) := (blk_cell HBB.out 11).trans rfl
            generalize (blkPairs.getD 5 default).1 = b1 at HBE d1
            generalize (blkPairs.getD 5 default).2 = b2 at HB5 d2
            cases b with
            | true =>
             go_wp2_with fail
             refine wp_region_quiet_lit (by kernel_rfl) (by kernel_rfl) ?_
             repeat (quiet_step (fail))
             refine wpQuiet_step (fun K hK => ?_)
             go_simp
             refine ⟨.bool true, fun a => (frisketref37_begins.calls _ _ _ _ HBE.out).mono (fun e w' hh => ⟨hh.1, quiet_out hh.2⟩), hK _ ?_⟩
             clear hK K
             refine wpQuiet_nil ?_
             rintro _ ⟨nq, rfl⟩
             go_wp2_with fail
             go_quiet (fail)
             go_wp2_with fail
             go_roundg n'
             case measure => exact Nat.lt_succ_self _
             case rel => exact ⟨6, 2, b2, rfl, rfl, rfl, ⟨by have := HKL.out; omega⟩, ⟨by simpa using HB5.out⟩, ⟨blk_drewN HBB.out _⟩, ⟨Kd.R_drewN HO4.out _⟩, ⟨pw_below_drewN HBL.out _⟩⟩
            | false =>
             go_wp2_with fail
             refine wp_region_quiet_lit (by kernel_rfl) (by kernel_rfl) ?_
             repeat (quiet_step (fail))
             refine wpQuiet_step (fun K hK => ?_)
             go_simp
             refine ⟨.bool false, fun a => (frisketref37_begins.calls _ _ _ _ HBE.out).mono (fun e w' hh => ⟨hh.1, quiet_out hh.2⟩), hK _ ?_⟩
             clear hK K
             refine wpQuiet_nil ?_
             rintro _ ⟨nq, rfl⟩
             go_wp2_with fail
             go_roundg n'
             case measure => exact Nat.lt_succ_self _
             case rel => exact ⟨6, wn2, e2, rfl, rfl, rfl, ⟨by have := HKL.out; omega⟩, ⟨by simpa using HB5.out⟩, ⟨blk_drewN HBB.out _⟩, ⟨Kd.R_drewN HO4.out _⟩, ⟨pw_below_drewN HBL.out _⟩⟩
      ·rw [if_neg c3] at hst; cases hst
end Go.Proofs.YtghlfhgmnhhmnaaGreatDoor.QTidy
