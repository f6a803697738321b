-- written by a program of this session (wip/myprint.py, over the kit's print)
import Derived.Test.YtghlfhgmnhhmnaaGreatDoorQTidyx0
import Derived.Test.YtghlfhgmnhhmnaaGreatDoorQTidyx1
import Derived.Test.YtghlfhgmnhhmnaaGreatDoorQTidyx3
namespace Go.Proofs.YtghlfhgmnhhmnaaGreatDoor.QTidy
open Go.RowKit Go.Proofs.YtghlfhgmnhhmnaaGreatDoorW.PrintWords Go.Proofs.YtghlfhgmnhhmnaaGreatDoorW.PrintLast Go.Proofs.YtghlfhgmnhhmnaaGreatDoorW.PrintMore
attribute [local go_sem] max2_int min2_int max_two min_two max_three min_three max_four min_four   -- for this text's walks alone
set_option linter.unusedVariables false
set_option linter.unusedSimpArgs false

/-! ### tidy_begins: function 93 -/
def tidy_begins.j0 : Nat → Int → ByteArray → Bool → ByteArray → List ByteArray → ByteArray → Bool → Option (ByteArray × Bool)
 | 0, _, _, _, _, _, _, _ => none
 | k + 1, x7, x18, x19, x178000, x178001, x178002, x178003 => if x19 = true then (if (x178001.length : Int) = 0 then (some ((⟨#[]⟩ : ByteArray), false)) else (if (x178001.length : Int) > x7 then (if 0 ≤ x7 then (if x7 < (x178001.length : Int) then (some (rdOf ByteArray.empty x178001 x7, true)) else (none)) else (none)) else (some ((⟨#[46]⟩ : ByteArray), true)))) else (if x18.toList = ([105, 103] : List UInt8) then (if (x178001.length : Int) > 0 then (if 0 < (x178001.length : Int) then (some (rdOf ByteArray.empty x178001 0, true)) else (none)) else (some ((⟨#[46]⟩ : ByteArray), true))) else (some ((⟨#[]⟩ : ByteArray), false)))
def tidy_begins.f (k : Nat) (a0 : ByteArray) : Option (ByteArray × Bool) := (tidy_control.f a0).bind fun t168 => (if t168 = true then ((request_Split.f k a0 46 39).bind fun bt169 => (if bt169.1.toList = ([100, 101] : List UInt8) then (tidy_begins.j0 k 1 bt169.1 (bt169.1.toList == ([100, 101] : List UInt8)) bt169.1 bt169.2.1 bt169.2.2.1 bt169.2.2.2.1) else (tidy_begins.j0 k 1 bt169.1 (bt169.1.toList == ([97, 109] : List UInt8)) bt169.1 bt169.2.1 bt169.2.2.1 bt169.2.2.2.1))) else (some ((⟨#[]⟩ : ByteArray), false)))
theorem tidy_begins.mono_l : ∀ k, (∀ y0 y1 y2 y3 y4 y5 y6, LeO (tidy_begins.j0 k y0 y1 y2 y3 y4 y5 y6) (tidy_begins.j0 (k + 1) y0 y1 y2 y3 y4 y5 y6))
 | 0 => fun _ _ _ _ _ _ _ r h => by simp [tidy_begins.j0] at h
 | k + 1 => by
  have ih0 := tidy_begins.mono_l k
  ·intro y0 y1 y2 y3 y4 y5 y6
   unfold tidy_begins.j0
   repeat' first
   | (with_reducible exact ih0 _ _ _ _ _ _ _)
   | (with_reducible exact request_Split.mono _ _ _ _)
   | (with_reducible exact LeO.refl _)
   | (with_reducible exact LeO.none _)
   | (with_reducible refine LeO.ite ?_ ?_)
   | (with_reducible refine LeO.bind ?_ (fun _ => ?_))
   | exact ih0 _ _ _ _ _ _ _
   | exact request_Split.mono _ _ _ _
   | exact LeO.none _
   | refine LeO.ite ?_ ?_
   | refine LeO.bind ?_ (fun _ => ?_)
theorem tidy_begins.mono : ∀ a0 k, LeO (tidy_begins.f k a0) (tidy_begins.f (k + 1) a0) := by
 intro a0 k
 have ih0 := tidy_begins.mono_l k
 unfold tidy_begins.f
 repeat' first
   | (with_reducible exact ih0 _ _ _ _ _ _ _)
   | (with_reducible exact request_Split.mono _ _ _ _)
   | (with_reducible exact LeO.refl _)
   | (with_reducible exact LeO.none _)
   | (with_reducible refine LeO.ite ?_ ?_)
   | (with_reducible refine LeO.bind ?_ (fun _ => ?_))
   | exact ih0 _ _ _ _ _ _ _
   | exact request_Split.mono _ _ _ _
   | exact LeO.none _
   | refine LeO.ite ?_ ?_
   | refine LeO.bind ?_ (fun _ => ?_)
set_option maxHeartbeats 8000000 in
set_option maxRecDepth 100000 in
theorem tidy_begins.calls (k : Nat) (a0 : ByteArray) (r1 : ByteArray) (r2 : Bool) (w : World) (h : tidy_begins.f k a0 = some (r1, r2)) :
  Calls Tryz.prog 93 #[.string a0] w fun e w' => e = .returned (.tuple #[.string r1, .bool r2]) ∧ Below w.heap.size w w' := by
 have hu121 := Tryz.underlying121
 have HB := Aside0.mk (Below.refl w.heap.size w)
 have H : ((tidy_control.f a0).bind fun t168 => (if t168 = true then ((request_Split.f k a0 46 39).bind fun bt169 => (if bt169.1.toList = ([100, 101] : List UInt8) then (tidy_begins.j0 k 1 bt169.1 (bt169.1.toList == ([100, 101] : List UInt8)) bt169.1 bt169.2.1 bt169.2.2.1 bt169.2.2.2.1) else (tidy_begins.j0 k 1 bt169.1 (bt169.1.toList == ([97, 109] : List UInt8)) bt169.1 bt169.2.1 bt169.2.2.1 bt169.2.2.2.1))) else (some ((⟨#[]⟩ : ByteArray), false)))) = some (r1, r2) := h
 clear h
 replace H := Option.bind_eq_some_iff.mp H
 obtain ⟨t168, A20, H⟩ := H
 replace H : (if t168 = true then ((request_Split.f k a0 46 39).bind fun bt169 => (if bt169.1.toList = ([100, 101] : List UInt8) then (tidy_begins.j0 k 1 bt169.1 (bt169.1.toList == ([100, 101] : List UInt8)) bt169.1 bt169.2.1 bt169.2.2.1 bt169.2.2.2.1) else (tidy_begins.j0 k 1 bt169.1 (bt169.1.toList == ([97, 109] : List UInt8)) bt169.1 bt169.2.1 bt169.2.2.1 bt169.2.2.2.1))) else (some ((⟨#[]⟩ : ByteArray), false))) = some (r1, r2) := H
 have A2 := Aside0.mk A20
 clear A20
 by_cases c3 : t168 = true
 ·subst c3
  have H1 : ((request_Split.f k a0 46 39).bind fun bt169 => (if bt169.1.toList = ([100, 101] : List UInt8) then (tidy_begins.j0 k 1 bt169.1 (bt169.1.toList == ([100, 101] : List UInt8)) bt169.1 bt169.2.1 bt169.2.2.1 bt169.2.2.2.1) else (tidy_begins.j0 k 1 bt169.1 (bt169.1.toList == ([97, 109] : List UInt8)) bt169.1 bt169.2.1 bt169.2.2.1 bt169.2.2.2.1))) = some (r1, r2) := by rw [if_pos rfl] at H; exact H
  clear H
  have H := H1
  clear H1
  replace H := Option.bind_eq_some_iff.mp H
  obtain ⟨⟨t169, t170, t173, t174, t175, t176⟩, A40, H⟩ := H
  replace H : (if t169.toList = ([100, 101] : List UInt8) then (tidy_begins.j0 k 1 t169 (t169.toList == ([100, 101] : List UInt8)) t169 t170 t173 t174) else (tidy_begins.j0 k 1 t169 (t169.toList == ([97, 109] : List UInt8)) t169 t170 t173 t174)) = some (r1, r2) := H
  have A4 := Aside0.mk A40
  clear A40
  have HC5 := Aside0.mk H
  clear H
  go_enter Tryz.func93, Tryz.ntmps93
  go_upto_if 19 with (first | ((with_reducible refine gate_callee (f := 33) rfl ?_); refine goesL_ (some 9) rfl rfl Tryz.func33 (by kernel_rfl) rfl #[.string a0] rfl (by (try simp only [List.map_toArray, List.map_cons, List.map_nil]); first | done | rfl | (simp only [List.length_drop, List.length_take]; rfl)) ?_; (with_reducible refine (tidy_control.calls a0 true _ A2.out).mono ?_); rintro e w' ⟨rfl, ⟨nd, rfl⟩⟩; refine ⟨_, rfl, ?_⟩) | ((with_reducible refine gate_callee (f := 115) rfl ?_); refine goesL_ (some 13) rfl rfl Tryz.func115 (by kernel_rfl) rfl #[.string a0, .int .u8 46, .int .u8 39] rfl (by (try simp only [List.map_toArray, List.map_cons, List.map_nil]); first | done | rfl | (simp only [List.length_drop, List.length_take]; rfl)) ?_; (with_reducible refine (request_Split.calls k a0 46 39 t169 t170 t173 t174 t175 t176 _ A4.out).mono ?_); rintro e w6 ⟨v171, rfl, ho0, hb⟩; refine ⟨_, rfl, ?_⟩; have n0_ := Aside0.mk (Kd.R_lower ho0 (below_size (by repeat (first | (with_reducible first | exact HB.out | apply below_alloc | apply pw_below_drewN | apply below_drew1) | exact HB.out)))); have n1_ := Aside0.mk (below_step (by repeat (first | (with_reducible first | exact HB.out | apply below_alloc | apply pw_below_drewN | apply below_drew1) | exact HB.out)) hb); clear HB; have HO172 := n0_; have HB := n1_; clear n0_ n1_; (try clear hb); (try clear hb2); (try clear hk); (try clear hi); (try clear ho0)) | ((with_reducible refine gate_dst (N := 4) rfl ?_); refine box_event ?hg (N := 4) ?hd (cs := #[.string (⟨#[]⟩ : ByteArray), .slice none 0 0, .string (⟨#[]⟩ : ByteArray), .bool false]) (t := 121) ?hr ?_; (case hd => rfl); (case hg => rfl); (case hr => first | (go_simp; done) | (go_simp; rfl)); intro gb177 hg w7 hbox hb; have n0_ := Aside0.mk (Kd.R_below (by (with_reducible repeat (first | apply Kd.R_alloc | apply Kd.R_drewN | apply Kd.R_drew)); exact HO172.out) hb); have n1_ := Aside0.mk (below_step (by repeat (first | (with_reducible first | exact HB.out | apply below_alloc | apply pw_below_drewN | apply below_drew1) | exact HB.out)) hb); have n2_ := Aside0.mk (hbox); have n3_ := Aside0.mk ((by rw [hg]; exact (below_size (by repeat (first | (with_reducible first | exact HB.out | apply below_alloc | apply pw_below_drewN | apply below_drew1) | exact HB.out))) : w.heap.size ≤ gb177)); have n4_ := Aside0.mk ((by rw [hg]; exact (below_size (by repeat (first | (with_reducible first | exact HB.out | apply below_alloc | apply pw_below_drewN | apply below_drew1) | exact HB.out))) : w.heap.size ≤ gb177)); clear HO172; clear HB; have HO172 := n0_; have HB := n1_; have BK177 := n2_; have GW177 := n3_; have GE177 := n4_; clear n0_ n1_ n2_ n3_ n4_; clear hb hbox hg; have hcz8_0 : w7.cell? ⟨gb177, 0, none⟩ = some (.string (⟨#[]⟩ : ByteArray)) := (blk_cell BK177.out 0).trans rfl; have hcz8_1 : w7.cell? ⟨gb177, 1, none⟩ = some (.slice none 0 0) := (blk_cell BK177.out 1).trans rfl; have hcz8_2 : w7.cell? ⟨gb177, 2, none⟩ = some (.string (⟨#[]⟩ : ByteArray)) := (blk_cell BK177.out 2).trans rfl; have hcz8_3 : w7.cell? ⟨gb177, 3, none⟩ = some (.bool false) := (blk_cell BK177.out 3).trans rfl; have hfz8_0 := blk_frozen BK177.out 0; have hfz8_1 := blk_frozen BK177.out 1; have hfz8_2 := blk_frozen BK177.out 2; have hfz8_3 := blk_frozen BK177.out 3; obtain ⟨Ao9, co9, eo9⟩ := Kd.R_slice HO172.out; subst eo9))
  (try simp only [Act.put, List.setIfInBounds_toArray, List.set_cons_zero, List.set_cons_succ])
  go_cut [19] (fun v19 wc => ∃ (kq : Nat) (x19_4 : Bool), v19 = .bool x19_4 ∧ Aside0 (tidy_begins.j0 kq 1 t169 x19_4 t169 t170 t173 t174 = some (r1, r2)) ∧ Aside0 (kq ≤ k) ∧ Aside0 (Kd.R Kd.string 9 wc w.heap.size (fun _ => True) (.slice Ao9 t170.length co9) t170) ∧ Aside0 (wc.heap[gb177]? = some (.cells #[.string t169, (.slice Ao9 t170.length co9), .string t173, .bool t174] 121 (0, 0))) ∧ Aside0 (Below w.heap.size w wc))
  case first =>
   have H := HC5.out
   clear HC5
   by_cases c10 : t169.toList = ([100, 101] : List UInt8)
   ·rw [if_pos c10] at H
    have c10b0 : (t169.toList == ([100, 101] : List UInt8)) = true := beq_iff_eq.mpr c10
    have c10b1 : (t169.toList != ([100, 101] : List UInt8)) = false := bne_eq_false_iff_eq.mpr c10
    clear c10
    (first | rw [c10b0] | (simp only [i64_w, i32_w]; rw [c10b0]) | skip)
    have H' := Aside0.mk H
    clear H
    go_wp2
    go_meet
    case rel => exact ⟨_, ((t169.toList == ([100, 101] : List UInt8))), (by first | rfl | (simp; done) | (simp [*]; done)), H', ⟨by first | omega | exact Nat.le_refl _⟩, ⟨by (with_reducible repeat (first | apply Kd.R_alloc | apply Kd.R_drewN | apply Kd.R_drew)); exact Kd.R_mono (Kd.R_far (p := ⟨gb177, 3, none⟩) (Kd.R_far (p := ⟨gb177, 2, none⟩) (Kd.R_far (p := ⟨gb177, 1, none⟩) (Kd.R_far (p := ⟨gb177, 0, none⟩) (Kd.R_types HO172.out BK177.out (by decide)) (fun _ hk => hk.2) (.string t169)) (fun _ hk => hk.2) (.slice Ao9 t170.length co9)) (fun _ hk => hk.2) (.string t173)) (fun _ hk => hk.2) (.bool t174)) (fun _ hk => trivial)⟩, ⟨by (with_reducible repeat (first | refine blk_drewN ?_ _ | refine blk_drew ?_ | refine blk_alloc ?_ _)); refine blk_put (cs := #[.string t169, .slice Ao9 t170.length co9, .string t173, .bool false]) ?_ 3 _ rfl; (with_reducible repeat (first | refine blk_drewN ?_ _ | refine blk_drew ?_ | refine blk_alloc ?_ _)); refine blk_put (cs := #[.string t169, .slice Ao9 t170.length co9, .string (⟨#[]⟩ : ByteArray), .bool false]) ?_ 2 _ rfl; (with_reducible repeat (first | refine blk_drewN ?_ _ | refine blk_drew ?_ | refine blk_alloc ?_ _)); refine blk_put (cs := #[.string t169, .slice none 0 0, .string (⟨#[]⟩ : ByteArray), .bool false]) ?_ 1 _ rfl; (with_reducible repeat (first | refine blk_drewN ?_ _ | refine blk_drew ?_ | refine blk_alloc ?_ _)); refine blk_put (cs := #[.string (⟨#[]⟩ : ByteArray), .slice none 0 0, .string (⟨#[]⟩ : ByteArray), .bool false]) ?_ 0 _ rfl; (with_reducible repeat (first | refine blk_drewN ?_ _ | refine blk_drew ?_ | refine blk_alloc ?_ _)); exact BK177.out⟩, ⟨by repeat (first | (with_reducible first | exact HB.out | apply below_alloc | apply pw_below_drewN | apply below_drew1 | refine below_set ?_ GE177.out) | exact HB.out)⟩⟩
   ·rw [if_neg c10] at H
    have c10b0 : (t169.toList == ([100, 101] : List UInt8)) = false := beq_eq_false_iff_ne.mpr c10
    have c10b1 : (t169.toList != ([100, 101] : List UInt8)) = true := bne_iff_ne.mpr c10
    (first | rw [c10b0] | (simp only [i64_w, i32_w]; rw [c10b0]) | skip)
    have H' := Aside0.mk H
    clear H
    go_wp2
    go_meet
    case rel => exact ⟨_, ((t169.toList == ([97, 109] : List UInt8))), (by first | rfl | (simp; done) | (simp [*]; done)), H', ⟨by first | omega | exact Nat.le_refl _⟩, ⟨by (with_reducible repeat (first | apply Kd.R_alloc | apply Kd.R_drewN | apply Kd.R_drew)); exact Kd.R_mono (Kd.R_far (p := ⟨gb177, 3, none⟩) (Kd.R_far (p := ⟨gb177, 2, none⟩) (Kd.R_far (p := ⟨gb177, 1, none⟩) (Kd.R_far (p := ⟨gb177, 0, none⟩) (Kd.R_types HO172.out BK177.out (by decide)) (fun _ hk => hk.2) (.string t169)) (fun _ hk => hk.2) (.slice Ao9 t170.length co9)) (fun _ hk => hk.2) (.string t173)) (fun _ hk => hk.2) (.bool t174)) (fun _ hk => trivial)⟩, ⟨by (with_reducible repeat (first | refine blk_drewN ?_ _ | refine blk_drew ?_ | refine blk_alloc ?_ _)); refine blk_put (cs := #[.string t169, .slice Ao9 t170.length co9, .string t173, .bool false]) ?_ 3 _ rfl; (with_reducible repeat (first | refine blk_drewN ?_ _ | refine blk_drew ?_ | refine blk_alloc ?_ _)); refine blk_put (cs := #[.string t169, .slice Ao9 t170.length co9, .string (⟨#[]⟩ : ByteArray), .bool false]) ?_ 2 _ rfl; (with_reducible repeat (first | refine blk_drewN ?_ _ | refine blk_drew ?_ | refine blk_alloc ?_ _)); refine blk_put (cs := #[.string t169, .slice none 0 0, .string (⟨#[]⟩ : ByteArray), .bool false]) ?_ 1 _ rfl; (with_reducible repeat (first | refine blk_drewN ?_ _ | refine blk_drew ?_ | refine blk_alloc ?_ _)); refine blk_put (cs := #[.string (⟨#[]⟩ : ByteArray), .slice none 0 0, .string (⟨#[]⟩ : ByteArray), .bool false]) ?_ 0 _ rfl; (with_reducible repeat (first | refine blk_drewN ?_ _ | refine blk_drew ?_ | refine blk_alloc ?_ _)); exact BK177.out⟩, ⟨by repeat (first | (with_reducible first | exact HB.out | apply below_alloc | apply pw_below_drewN | apply below_drew1 | refine below_set ?_ GE177.out) | exact HB.out)⟩⟩
  case rest =>
   clear HC5
   try clear c1
   try clear p2
   try clear c3
   try clear c9
   try clear c10
   try clear c10b0
   try clear c10b1
   try clear hcz8_0
   try clear hcz8_1
   try clear hcz8_2
   try clear hcz8_3
   try clear hfz8_0
   try clear hfz8_1
   try clear hfz8_2
   try clear hfz8_3
   obtain ⟨kq, x19_4, rfl, HA, HJ4, HO_178001, BK177, HB⟩ := hcut
   cases kq with
   | zero => exact absurd HA.out (by simp [tidy_begins.j0])
   | succ kj4 =>
    have H := HA.out
    clear HA
    simp only [tidy_begins.j0] at H
    by_cases c11 : x19_4 = true
    ·subst c11
     have H1 : (if (t170.length : Int) = 0 then (some ((⟨#[]⟩ : ByteArray), false)) else (if (t170.length : Int) > 1 then (if 0 ≤ 1 then (if 1 < (t170.length : Int) then (some (rdOf ByteArray.empty t170 1, true)) else (none)) else (none)) else (some ((⟨#[46]⟩ : ByteArray), true)))) = some (r1, r2) := by rw [if_pos rfl] at H; exact H
     clear H
     have H := H1
     clear H1
     by_cases c12 : (t170.length : Int) = 0
     ·rw [if_pos c12] at H
      have c12b0 : ((t170.length : Int) == 0) = true := beq_iff_eq.mpr c12
      have c12b1 : ((t170.length : Int) != 0) = false := bne_eq_false_iff_eq.mpr c12
      clear c12
      simp only [Option.some.injEq, Prod.mk.injEq] at H
      obtain ⟨rfl, rfl⟩ := H
      have hcz13_0 : wc.cell? ⟨gb177, 0, none⟩ = some (.string t169) := (blk_cell BK177.out 0).trans rfl
      have hcz13_1 : wc.cell? ⟨gb177, 1, none⟩ = some (.slice Ao9 t170.length co9) := (blk_cell BK177.out 1).trans rfl
      have hcz13_2 : wc.cell? ⟨gb177, 2, none⟩ = some (.string t173) := (blk_cell BK177.out 2).trans rfl
      have hcz13_3 : wc.cell? ⟨gb177, 3, none⟩ = some (.bool t174) := (blk_cell BK177.out 3).trans rfl
      have hfz13_0 := blk_frozen BK177.out 0
      have hfz13_1 := blk_frozen BK177.out 1
      have hfz13_2 := blk_frozen BK177.out 2
      have hfz13_3 := blk_frozen BK177.out 3
      go_wp2
      go_ret2
      exact ⟨by first | rfl | (simp [errW_none, errW_some] <;> rfl) | (simp [*, errW_none, errW_some] <;> rfl), by repeat (first | (with_reducible first | exact HB.out | apply below_alloc | apply pw_below_drewN | apply below_drew1 | refine below_set ?_ GE177.out) | exact HB.out)⟩
     ·rw [if_neg c12] at H
      have c12b0 : ((t170.length : Int) == 0) = false := beq_eq_false_iff_ne.mpr c12
      have c12b1 : ((t170.length : Int) != 0) = true := bne_iff_ne.mpr c12
      have c12b2 : ¬ (t170 = []) := fun h_ => c12 (by rw [h_]; rfl)
      by_cases c14 : (t170.length : Int) > 1
      ·rw [if_pos c14] at H
       have c14b0 : decide (1 < (t170.length : Int)) = true := decide_eq_true c14
       have c14b1 : decide (1 < t170.length) = true := decide_eq_true (by omega)
       clear c14
       by_cases c15 : 0 ≤ 1
       ·rw [if_pos c15] at H
        have c15b0 : decide (0 ≤ 1) = true := decide_eq_true c15
        clear c15
        by_cases c16 : 1 < (t170.length : Int)
        ·rw [if_pos c16] at H
         have c16b0 : decide (1 < (t170.length : Int)) = true := decide_eq_true c16
         have c16b1 : decide (1 < t170.length) = true := decide_eq_true (by omega)
         clear c16
         simp only [Option.some.injEq, Prod.mk.injEq] at H
         obtain ⟨rfl, rfl⟩ := H
         have hcz17_0 : wc.cell? ⟨gb177, 0, none⟩ = some (.string t169) := (blk_cell BK177.out 0).trans rfl
         have hcz17_1 : wc.cell? ⟨gb177, 1, none⟩ = some (.slice Ao9 t170.length co9) := (blk_cell BK177.out 1).trans rfl
         have hcz17_2 : wc.cell? ⟨gb177, 2, none⟩ = some (.string t173) := (blk_cell BK177.out 2).trans rfl
         have hcz17_3 : wc.cell? ⟨gb177, 3, none⟩ = some (.bool t174) := (blk_cell BK177.out 3).trans rfl
         have hfz17_0 := blk_frozen BK177.out 0
         have hfz17_1 := blk_frozen BK177.out 1
         have hfz17_2 := blk_frozen BK177.out 2
         have hfz17_3 := blk_frozen BK177.out 3
         have p178 : 0 ≤ (1 : Int) := (by omega)
         have q178 : 1 < (t170.length : Int) := of_decide_eq_true (by first | (with_reducible assumption) | assumption)
         obtain ⟨ad178, e178, hx178_0⟩ := Kd.at_string (Kd.R_reads' HO_178001.out).2.2 1 p178 q178
         cases e178
         (try simp only [show (1 : Int).toNat = 1 from rfl, Nat.reduceMul, Nat.reduceEqDiff, Go.Addr.add, ↓reduceIte] at hx178_0)
         have qi178 : (1 < t170.length) = True := eq_true (by omega)
         (try rw [show ((1 : Int)).toNat = 1 from rfl] at hx178_0)
         replace p178 := eq_true p178
         replace q178 := eq_true q178
         go_wp2
         go_ret2
         exact ⟨by first | rfl | (simp [errW_none, errW_some] <;> rfl) | (simp [*, errW_none, errW_some] <;> rfl), by repeat (first | (with_reducible first | exact HB.out | apply below_alloc | apply pw_below_drewN | apply below_drew1 | refine below_set ?_ GE177.out) | exact HB.out)⟩
        ·rw [if_neg c16] at H
         exact absurd H (by simp)
       ·rw [if_neg c15] at H
        exact absurd H (by simp)
      ·rw [if_neg c14] at H
       have c14b0 : decide (1 < (t170.length : Int)) = false := decide_eq_false c14
       have c14b1 : decide (1 < t170.length) = false := decide_eq_false (by omega)
       clear c14
       simp only [Option.some.injEq, Prod.mk.injEq] at H
       obtain ⟨rfl, rfl⟩ := H
       have hcz18_0 : wc.cell? ⟨gb177, 0, none⟩ = some (.string t169) := (blk_cell BK177.out 0).trans rfl
       have hcz18_1 : wc.cell? ⟨gb177, 1, none⟩ = some (.slice Ao9 t170.length co9) := (blk_cell BK177.out 1).trans rfl
       have hcz18_2 : wc.cell? ⟨gb177, 2, none⟩ = some (.string t173) := (blk_cell BK177.out 2).trans rfl
       have hcz18_3 : wc.cell? ⟨gb177, 3, none⟩ = some (.bool t174) := (blk_cell BK177.out 3).trans rfl
       have hfz18_0 := blk_frozen BK177.out 0
       have hfz18_1 := blk_frozen BK177.out 1
       have hfz18_2 := blk_frozen BK177.out 2
       have hfz18_3 := blk_frozen BK177.out 3
       go_wp2
       go_ret2
       exact ⟨by first | rfl | (simp [errW_none, errW_some] <;> rfl) | (simp [*, errW_none, errW_some] <;> rfl), by repeat (first | (with_reducible first | exact HB.out | apply below_alloc | apply pw_below_drewN | apply below_drew1 | refine below_set ?_ GE177.out) | exact HB.out)⟩
    ·replace c11 := Bool.eq_false_iff.mpr c11
     subst c11
     have H1 : (if t169.toList = ([105, 103] : List UInt8) then (if (t170.length : Int) > 0 then (if 0 < (t170.length : Int) then (some (rdOf ByteArray.empty t170 0, true)) else (none)) else (some ((⟨#[46]⟩ : ByteArray), true))) else (some ((⟨#[]⟩ : ByteArray), false))) = some (r1, r2) := by rw [if_neg (show ¬ (false = true) by decide)] at H; exact H
     clear H
     have H := H1
     clear H1
     by_cases c19 : t169.toList = ([105, 103] : List UInt8)
     ·rw [if_pos c19] at H
      have c19b0 : (t169.toList == ([105, 103] : List UInt8)) = true := beq_iff_eq.mpr c19
      have c19b1 : (t169.toList != ([105, 103] : List UInt8)) = false := bne_eq_false_iff_eq.mpr c19
      clear c19
      by_cases c20 : (t170.length : Int) > 0
      ·rw [if_pos c20] at H
       have c20b0 : decide (0 < (t170.length : Int)) = true := decide_eq_true c20
       have c20b1 : decide (0 < t170.length) = true := decide_eq_true (by omega)
       clear c20
       by_cases c21 : 0 < (t170.length : Int)
       ·rw [if_pos c21] at H
        have c21b0 : decide (0 < (t170.length : Int)) = true := decide_eq_true c21
        have c21b1 : decide (0 < t170.length) = true := decide_eq_true (by omega)
        clear c21
        simp only [Option.some.injEq, Prod.mk.injEq] at H
        obtain ⟨rfl, rfl⟩ := H
        have hcz22_0 : wc.cell? ⟨gb177, 0, none⟩ = some (.string t169) := (blk_cell BK177.out 0).trans rfl
        have hcz22_1 : wc.cell? ⟨gb177, 1, none⟩ = some (.slice Ao9 t170.length co9) := (blk_cell BK177.out 1).trans rfl
        have hcz22_2 : wc.cell? ⟨gb177, 2, none⟩ = some (.string t173) := (blk_cell BK177.out 2).trans rfl
        have hcz22_3 : wc.cell? ⟨gb177, 3, none⟩ = some (.bool t174) := (blk_cell BK177.out 3).trans rfl
        have hfz22_0 := blk_frozen BK177.out 0
        have hfz22_1 := blk_frozen BK177.out 1
        have hfz22_2 := blk_frozen BK177.out 2
        have hfz22_3 := blk_frozen BK177.out 3
        have p179 : 0 ≤ (0 : Int) := (by omega)
        have q179 : 0 < (t170.length : Int) := of_decide_eq_true (by first | (with_reducible assumption) | assumption)
        obtain ⟨ad179, e179, hx179_0⟩ := Kd.at_string (Kd.R_reads' HO_178001.out).2.2 0 p179 q179
        cases e179
        have qi179 : (0 < t170.length) = True := eq_true (by omega)
        (try rw [show ((0 : Int)).toNat = 0 from rfl] at hx179_0)
        (try rw [Addr.add_zero'] at hx179_0)
        replace p179 := eq_true p179
        replace q179 := eq_true q179
        go_wp2
        go_ret2
        exact ⟨by first | rfl | (simp [errW_none, errW_some] <;> rfl) | (simp [*, errW_none, errW_some] <;> rfl), by repeat (first | (with_reducible first | exact HB.out | apply below_alloc | apply pw_below_drewN | apply below_drew1 | refine below_set ?_ GE177.out) | exact HB.out)⟩
       ·rw [if_neg c21] at H
        exact absurd H (by simp)
      ·rw [if_neg c20] at H
       have c20b0 : decide (0 < (t170.length : Int)) = false := decide_eq_false c20
       have c20b1 : decide (0 < t170.length) = false := decide_eq_false (by omega)
       clear c20
       simp only [Option.some.injEq, Prod.mk.injEq] at H
       obtain ⟨rfl, rfl⟩ := H
       have hcz23_0 : wc.cell? ⟨gb177, 0, none⟩ = some (.string t169) := (blk_cell BK177.out 0).trans rfl
       have hcz23_1 : wc.cell? ⟨gb177, 1, none⟩ = some (.slice Ao9 t170.length co9) := (blk_cell BK177.out 1).trans rfl
       have hcz23_2 : wc.cell? ⟨gb177, 2, none⟩ = some (.string t173) := (blk_cell BK177.out 2).trans rfl
       have hcz23_3 : wc.cell? ⟨gb177, 3, none⟩ = some (.bool t174) := (blk_cell BK177.out 3).trans rfl
       have hfz23_0 := blk_frozen BK177.out 0
       have hfz23_1 := blk_frozen BK177.out 1
       have hfz23_2 := blk_frozen BK177.out 2
       have hfz23_3 := blk_frozen BK177.out 3
       go_wp2
       go_ret2
       exact ⟨by first | rfl | (simp [errW_none, errW_some] <;> rfl) | (simp [*, errW_none, errW_some] <;> rfl), by repeat (first | (with_reducible first | exact HB.out | apply below_alloc | apply pw_below_drewN | apply below_drew1 | refine below_set ?_ GE177.out) | exact HB.out)⟩
     ·rw [if_neg c19] at H
      have c19b0 : (t169.toList == ([105, 103] : List UInt8)) = false := beq_eq_false_iff_ne.mpr c19
      have c19b1 : (t169.toList != ([105, 103] : List UInt8)) = true := bne_iff_ne.mpr c19
      simp only [Option.some.injEq, Prod.mk.injEq] at H
      obtain ⟨rfl, rfl⟩ := H
      go_wp2
      go_ret2
      exact ⟨by first | rfl | (simp [errW_none, errW_some] <;> rfl) | (simp [*, errW_none, errW_some] <;> rfl), by repeat (first | (with_reducible first | exact HB.out | apply below_alloc | apply pw_below_drewN | apply below_drew1 | refine below_set ?_ GE177.out) | exact HB.out)⟩
 ·replace c3 := Bool.eq_false_iff.mpr c3
  subst c3
  have H1 : (some ((⟨#[]⟩ : ByteArray), false)) = some (r1, r2) := by rw [if_neg (show ¬ (false = true) by decide)] at H; exact H
  clear H
  have H := H1
  clear H1
  simp only [Option.some.injEq, Prod.mk.injEq] at H
  obtain ⟨rfl, rfl⟩ := H
  go_enter Tryz.func93, Tryz.ntmps93
  go_wp2_with (first | ((with_reducible refine gate_callee (f := 33) rfl ?_); refine goesL_ (some 9) rfl rfl Tryz.func33 (by kernel_rfl) rfl #[.string a0] rfl (by (try simp only [List.map_toArray, List.map_cons, List.map_nil]); first | done | rfl | (simp only [List.length_drop, List.length_take]; rfl)) ?_; (with_reducible refine (tidy_control.calls a0 false _ A2.out).mono ?_); rintro e w' ⟨rfl, ⟨nd, rfl⟩⟩; refine ⟨_, rfl, ?_⟩))
  go_ret2
  exact ⟨by first | rfl | (simp [errW_none, errW_some] <;> rfl) | (simp [*, errW_none, errW_some] <;> rfl), by repeat (first | (with_reducible first | exact HB.out | apply below_alloc | apply pw_below_drewN | apply below_drew1) | exact HB.out)⟩

end Go.Proofs.YtghlfhgmnhhmnaaGreatDoor.QTidy
