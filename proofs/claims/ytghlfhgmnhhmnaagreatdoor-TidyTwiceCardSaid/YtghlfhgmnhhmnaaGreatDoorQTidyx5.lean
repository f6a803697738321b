-- written by a program of this session (wip/myprint.py, over the kit's print)
import Derived.Test.YtghlfhgmnhhmnaaGreatDoorQTidyx0
import Derived.Test.YtghlfhgmnhhmnaaGreatDoorQTidyx2
import Derived.Test.YtghlfhgmnhhmnaaGreatDoorKinds
namespace Go.Proofs.YtghlfhgmnhhmnaaGreatDoor.QTidy
open Go.RowKit Go.Proofs.YtghlfhgmnhhmnaaGreatDoorW.PrintWords Go.Proofs.YtghlfhgmnhhmnaaGreatDoorW.PrintLast Go.Proofs.YtghlfhgmnhhmnaaGreatDoorW.PrintMore
attribute [local go_sem] max2_int min2_int max_two min_two max_three min_three max_four min_four   -- for this text's walks alone
set_option linter.unusedVariables false
set_option linter.unusedSimpArgs false

/-! ### tidy_tidied: function 25 -/
def tidy_tidied.l0 : Nat → List ByteArray → List ByteArray → List Int → Int → Int → Option (List ByteArray)
 | 0, _, _, _, _, _ => none
 | k + 1, x0, x3, x7, x8, x9 => if x9 < x8 then (if 0 ≤ x9 then (if x9 < (x7.length : Int) then (if (rd x7 x9) = 0 then (if x9 < (x0.length : Int) then ((tidy_line.f k (rdOf ByteArray.empty x0 x9)).bind fun t185 => (if x3.length < 8796093022208 then (tidy_tidied.l0 k x0 (x3 ++ [t185]) x7 x8 (wrap64 (x9 + 1))) else (none))) else (none)) else (if x9 < (x0.length : Int) then (if x3.length < 8796093022208 then (tidy_tidied.l0 k x0 (x3 ++ [rdOf ByteArray.empty x0 x9]) x7 x8 (wrap64 (x9 + 1))) else (none)) else (none))) else (none)) else (none)) else (some x3)
def tidy_tidied.f (k : Nat) (l0 : List ByteArray) : Option (List ByteArray) := (tidy_kinds.f k l0).bind fun t180 => (tidy_tidied.l0 k l0 ([] : List ByteArray) t180 (t180.length : Int) 0)
theorem tidy_tidied.mono_l : ∀ k, (∀ y0 y1 y2 y3 y4, LeO (tidy_tidied.l0 k y0 y1 y2 y3 y4) (tidy_tidied.l0 (k + 1) y0 y1 y2 y3 y4))
 | 0 => fun _ _ _ _ _ r h => by simp [tidy_tidied.l0] at h
 | k + 1 => by
  have ih0 := tidy_tidied.mono_l k
  ·intro y0 y1 y2 y3 y4
   unfold tidy_tidied.l0
   repeat' first
   | (with_reducible exact ih0 _ _ _ _ _)
   | (with_reducible exact tidy_kinds.mono _ _)
   | (with_reducible exact tidy_line.mono _ _)
   | (with_reducible exact LeO.refl _)
   | (with_reducible exact LeO.none _)
   | (with_reducible refine LeO.ite ?_ ?_)
   | (with_reducible refine LeO.bind ?_ (fun _ => ?_))
   | exact ih0 _ _ _ _ _
   | exact tidy_kinds.mono _ _
   | exact tidy_line.mono _ _
   | exact LeO.none _
   | refine LeO.ite ?_ ?_
   | refine LeO.bind ?_ (fun _ => ?_)
theorem tidy_tidied.mono : ∀ a0 k, LeO (tidy_tidied.f k a0) (tidy_tidied.f (k + 1) a0) := by
 intro a0 k
 have ih0 := tidy_tidied.mono_l k
 unfold tidy_tidied.f
 repeat' first
   | (with_reducible exact ih0 _ _ _ _ _)
   | (with_reducible exact tidy_kinds.mono _ _)
   | (with_reducible exact tidy_line.mono _ _)
   | (with_reducible exact LeO.refl _)
   | (with_reducible exact LeO.none _)
   | (with_reducible refine LeO.ite ?_ ?_)
   | (with_reducible refine LeO.bind ?_ (fun _ => ?_))
   | exact ih0 _ _ _ _ _
   | exact tidy_kinds.mono _ _
   | exact tidy_line.mono _ _
   | exact LeO.none _
   | refine LeO.ite ?_ ?_
   | refine LeO.bind ?_ (fun _ => ?_)
set_option maxHeartbeats 8000000 in
set_option maxRecDepth 100000 in
theorem tidy_tidied.calls (k : Nat) (A0 : Option Addr) (c0 : Nat) (l0 : List ByteArray) (r : List ByteArray) (w : World) (hr0 : Kd.C Kd.string w A0 l0.length l0) (hc0 : l0.length ≤ c0) (hv_ : LaidV w) (h : tidy_tidied.f k l0 = some r) :
  Calls Tryz.prog 25 #[.slice A0 l0.length c0] w fun e w' => ∃ v0_ : Value, e = .returned (v0_) ∧ Kd.R Kd.string 9 w' w.heap.size (fun _ => True) v0_ r ∧ Below w.heap.size w w' := by
 have HV_ := Aside0.mk hv_
 clear hv_
 have HR0 := Aside0.mk hr0
 have HC0 := Aside0.mk hc0
 clear hr0 hc0
 have HB := Aside0.mk (Below.refl w.heap.size w)
 have H : ((tidy_kinds.f k l0).bind fun t180 => (tidy_tidied.l0 k l0 ([] : List ByteArray) t180 (t180.length : Int) 0)) = some r := h
 clear h
 replace H := Option.bind_eq_some_iff.mp H
 obtain ⟨t180, A20, H⟩ := H
 replace H : (tidy_tidied.l0 k l0 ([] : List ByteArray) t180 (t180.length : Int) 0) = some r := H
 have A2 := Aside0.mk A20
 clear A20
 have H' := Aside0.mk H
 clear H
 go_enter Tryz.func25, Tryz.ntmps25
 go_wp2_with (first | ((with_reducible refine gate_callee (f := 29) rfl ?_); refine goesL_ (some 7) rfl rfl Tryz.func29 (by kernel_rfl) rfl #[.slice A0 l0.length c0] rfl (by (try simp only [List.map_toArray, List.map_cons, List.map_nil]); first | done | rfl | (simp only [List.length_drop, List.length_take]; rfl)) ?_; (with_reducible refine (tidy_kinds.calls k _ _ l0 t180 _ ?side1 ?side2 A2.out).mono ?_); (case side1 => repeat (first | exact HR0.out | (with_reducible refine Kd.C_alloc ?_ _) | (with_reducible refine Kd.C_drewN ?_ _) | (with_reducible refine Kd.C_drew ?_))); (case side2 => exact HC0.out); rintro e w3 ⟨v181, rfl, ho0, hb⟩; refine ⟨_, rfl, ?_⟩; have n0_ := Aside0.mk (Kd.R_lower ho0 (below_size (by repeat (first | (with_reducible first | exact HB.out | apply below_alloc | apply pw_below_drewN | apply below_drew1) | exact HB.out)))); have n1_ := Aside0.mk (below_step (by repeat (first | (with_reducible first | exact HB.out | apply below_alloc | apply pw_below_drewN | apply below_drew1) | exact HB.out)) hb); clear HB; have HO182 := n0_; have HB := n1_; clear n0_ n1_; (try clear hb); (try clear hb2); (try clear hk); (try clear hi); (try clear ho0); obtain ⟨Ao4, co4, eo4⟩ := Kd.R_slice HO182.out; subst eo4))
 go_loopg [3, 9] k (fun kq v3 v9 w' => ∃ (x3_1 : List ByteArray) (x9_1 : Int), v9 = .int .i64 x9_1 ∧ Aside0 (tidy_tidied.l0 kq l0 x3_1 t180 (t180.length : Int) x9_1 = some r) ∧ Aside0 (kq ≤ k) ∧ Aside0 (Kd.R Kd.string 9 w' w.heap.size (fun _ => True) v3 x3_1) ∧ Aside0 (Kd.R (Kd.int .i64) 3 w' w.heap.size (fun _ => True) (.slice Ao4 t180.length co4) t180) ∧ Aside0 (Below w.heap.size w w'))
 case atStart => exact ⟨(([] : List ByteArray)), (0), (by first | rfl | (simp; done) | (simp [*]; done)), H', ⟨Nat.le_refl _⟩, ⟨by first | exact Kd.R_nil _ _ _ _ _ | exact Kd.N_nil _ _ _ _ _ | exact Kd.V_nil _ _ _ _ _ | exact Kd.Q_nil _ _ _ _ _ | exact Kd.S_nil _ _ _ _ _⟩, ⟨by (with_reducible repeat (first | apply Kd.R_alloc | apply Kd.R_drewN | apply Kd.R_drew)); exact HO182.out⟩, ⟨by repeat (first | (with_reducible first | exact HB.out | apply below_alloc | apply pw_below_drewN | apply below_drew1) | exact HB.out)⟩⟩
 case round =>
  clear H'
  try clear c2
  try clear p2
  obtain ⟨x3_1, x9_1, rfl, HA, HK1, HO_3, HO_7, HB⟩ := hrel
  cases gk with
  | zero => exact absurd HA.out (by simp [tidy_tidied.l0])
  | succ k1 =>
   have H := HA.out
   clear HA
   simp only [tidy_tidied.l0] at H
   by_cases c5 : x9_1 < (t180.length : Int)
   ·rw [if_pos c5] at H
    have c5b0 : decide (x9_1 < (t180.length : Int)) = true := decide_eq_true c5
    clear c5
    by_cases c6 : 0 ≤ x9_1
    ·rw [if_pos c6] at H
     have c6b0 : decide (0 ≤ x9_1) = true := decide_eq_true c6
     clear c6
     by_cases c7 : x9_1 < (t180.length : Int)
     ·rw [if_pos c7] at H
      have c7b0 : decide (x9_1 < (t180.length : Int)) = true := decide_eq_true c7
      clear c7
      by_cases c8 : (rd t180 x9_1) = 0
      ·rw [if_pos c8] at H
       have c8b0 : ((rd t180 x9_1) == 0) = true := beq_iff_eq.mpr c8
       have c8b1 : ((rd t180 x9_1) != 0) = false := bne_eq_false_iff_eq.mpr c8
       clear c8
       by_cases c9 : x9_1 < (l0.length : Int)
       ·rw [if_pos c9] at H
        have c9b0 : decide (x9_1 < (l0.length : Int)) = true := decide_eq_true c9
        clear c9
        replace H := Option.bind_eq_some_iff.mp H
        obtain ⟨t185, A100, H⟩ := H
        replace H : (if x3_1.length < 8796093022208 then (tidy_tidied.l0 k1 l0 (x3_1 ++ [t185]) t180 (t180.length : Int) (wrap64 (x9_1 + 1))) else (none)) = some r := H
        have A10 := Aside0.mk A100
        clear A100
        by_cases c11 : x3_1.length < 8796093022208
        ·rw [if_pos c11] at H
         have LMc11 := Aside0.mk c11
         clear c11
         obtain ⟨y186, hy186⟩ : ∃ y_ : List ByteArray, y_ = (x3_1 ++ [t185]) := ⟨_, rfl⟩
         replace H : (tidy_tidied.l0 k1 l0 y186 t180 (t180.length : Int) (wrap64 (x9_1 + 1))) = some r := by first | (rw [hy186]; with_reducible exact H) | (have H2_ := (Option.bind_some _ _).symm.trans H; rw [hy186]; with_reducible exact H2_) | (have H2_ := (Option.bind_some _ _).symm.trans H; with_reducible exact H2_) | with_reducible exact H | (rw [hy186]; exact H) | exact H
         have Ny186 := Aside0.mk hy186
         clear hy186
         have H' := Aside0.mk H
         clear H
         have p183 : 0 ≤ (x9_1 : Int) := of_decide_eq_true (by first | (with_reducible assumption) | assumption)
         have q183 : x9_1 < (t180.length : Int) := of_decide_eq_true (by first | (with_reducible assumption) | assumption)
         obtain ⟨ad183, e183, hx183_0⟩ := Kd.at_int (Kd.R_reads' HO_7.out).2.2 x9_1 p183 q183
         cases e183
         replace p183 := eq_true p183
         replace q183 := eq_true q183
         have p184 : 0 ≤ (x9_1 : Int) := of_decide_eq_true (by first | (with_reducible assumption) | assumption)
         have q184 : x9_1 < (l0.length : Int) := of_decide_eq_true (by first | (with_reducible assumption) | assumption)
         obtain ⟨ad184, e184, hx184_0⟩ := Kd.at_string HR0.out x9_1 p184 q184
         cases e184
         replace hx184_0 := (HB.out.cell (World.block_lt_of_cell? w _ hx184_0)).trans hx184_0
         replace p184 := eq_true p184
         replace q184 := eq_true q184
         go_wp2_with (first | ((with_reducible refine gate_callee (f := 20) rfl ?_); refine goesL_ (some 21) rfl rfl Tryz.func20 (by kernel_rfl) rfl #[.string (rdOf ByteArray.empty l0 x9_1)] rfl (by (try simp only [List.map_toArray, List.map_cons, List.map_nil]); first | done | rfl | (simp only [List.length_drop, List.length_take]; rfl)) ?_; (with_reducible refine (tidy_line.calls k1 (rdOf ByteArray.empty l0 x9_1) t185 _ ?side1 A10.out).mono ?_); (case side1 => exact LaidV.mono HV_.out (by repeat (first | (with_reducible first | exact HB.out | apply below_alloc | apply pw_below_drewN | apply below_drew1) | exact HB.out))); rintro e w12 ⟨rfl, hb⟩; refine ⟨_, rfl, ?_⟩; have n0_ := Aside0.mk (Kd.R_below (by (with_reducible repeat (first | apply Kd.R_alloc | apply Kd.R_drewN | apply Kd.R_drew)); exact HO_3.out) hb); have n1_ := Aside0.mk (Kd.R_below (by (with_reducible repeat (first | apply Kd.R_alloc | apply Kd.R_drewN | apply Kd.R_drew)); exact HO_7.out) hb); have n2_ := Aside0.mk (below_step (by repeat (first | (with_reducible first | exact HB.out | apply below_alloc | apply pw_below_drewN | apply below_drew1) | exact HB.out)) hb); clear HO_3; clear HO_7; clear HB; have HO_3 := n0_; have HO_7 := n1_; have HB := n2_; clear n0_ n1_ n2_; (try clear hb); (try clear hb2); (try clear hk); (try clear hi)) | ((with_reducible refine gate_builtin (b := .append) (xs := #[.tmp 16, .tmp 22]) rfl ?_); at_builtin; refine Kd.R_append Kd.string (w0 := w) w.heap.size rfl (.tmp 16) (.tmp 22) 23 9 (.string ⟨#[]⟩) 16 rfl Tryz.underlying23 info9 rfl (by decide) (by omega) u3 x3_1 t185 [.string t185] (fun _ => True) (fun _ => False) rfl rfl ?aP (fun _ hk => hk.elim) ?aF ?aO ?aB ?aS ?aL ?_; (case aP => exact rfl); (case aB => exact (by repeat (first | (with_reducible first | exact HB.out | apply below_alloc | apply pw_below_drewN | apply below_drew1) | exact HB.out))); (case aF => exact (fun _ _ => trivial)); (case aO => exact (by (with_reducible repeat (first | apply Kd.R_alloc | apply Kd.R_drewN | apply Kd.R_drew)); exact HO_3.out)); (case aS => exact (below_size (by repeat (first | (with_reducible first | exact HB.out | apply below_alloc | apply pw_below_drewN | apply below_drew1) | exact HB.out)))); (case aL => have := LMc11.out; omega); intro v187 w13 ho hb hg hat; rw [← Ny186.out] at ho; have n0_ := Aside0.mk (Kd.R_over' (by (with_reducible repeat (first | apply Kd.R_alloc | apply Kd.R_drewN | apply Kd.R_drew)); exact HO_7.out) (Kd.R_typed (by (with_reducible repeat (first | apply Kd.R_alloc | apply Kd.R_drewN | apply Kd.R_drew)); exact HO_3.out)) (by decide) hg); have n1_ := Aside0.mk (hb); have n2_ := Aside0.mk (ho); clear HO_7; clear HB; clear HO_3; have HO_7 := n0_; have HB := n1_; have HO188 := n2_; clear n0_ n1_ n2_; clear ho hb hg hat))
         go_roundg k1
         case measure => have := HK1.out; omega
         case rel => exact ⟨(y186), (wrap64 (x9_1 + 1)), (by first | rfl | (simp; done) | (simp [*]; done)), H', ⟨by have := HK1.out; omega⟩, ⟨by (with_reducible repeat (first | apply Kd.R_alloc | apply Kd.R_drewN | apply Kd.R_drew)); exact HO188.out⟩, ⟨by (with_reducible repeat (first | apply Kd.R_alloc | apply Kd.R_drewN | apply Kd.R_drew)); exact HO_7.out⟩, ⟨by repeat (first | (with_reducible first | exact HB.out | apply below_alloc | apply pw_below_drewN | apply below_drew1) | exact HB.out)⟩⟩
        ·rw [if_neg c11] at H
         exact absurd H (by simp)
       ·rw [if_neg c9] at H
        exact absurd H (by simp)
      ·rw [if_neg c8] at H
       have c8b0 : ((rd t180 x9_1) == 0) = false := beq_eq_false_iff_ne.mpr c8
       have c8b1 : ((rd t180 x9_1) != 0) = true := bne_iff_ne.mpr c8
       by_cases c14 : x9_1 < (l0.length : Int)
       ·rw [if_pos c14] at H
        have c14b0 : decide (x9_1 < (l0.length : Int)) = true := decide_eq_true c14
        clear c14
        by_cases c15 : x3_1.length < 8796093022208
        ·rw [if_pos c15] at H
         have LMc15 := Aside0.mk c15
         clear c15
         obtain ⟨y190, hy190⟩ : ∃ y_ : List ByteArray, y_ = (x3_1 ++ [rdOf ByteArray.empty l0 x9_1]) := ⟨_, rfl⟩
         replace H : (tidy_tidied.l0 k1 l0 y190 t180 (t180.length : Int) (wrap64 (x9_1 + 1))) = some r := by first | (rw [hy190]; with_reducible exact H) | (have H2_ := (Option.bind_some _ _).symm.trans H; rw [hy190]; with_reducible exact H2_) | (have H2_ := (Option.bind_some _ _).symm.trans H; with_reducible exact H2_) | with_reducible exact H | (rw [hy190]; exact H) | exact H
         have Ny190 := Aside0.mk hy190
         clear hy190
         have H' := Aside0.mk H
         clear H
         have p183 : 0 ≤ (x9_1 : Int) := of_decide_eq_true (by first | (with_reducible assumption) | assumption)
         have q183 : x9_1 < (t180.length : Int) := of_decide_eq_true (by first | (with_reducible assumption) | assumption)
         obtain ⟨ad183, e183, hx183_0⟩ := Kd.at_int (Kd.R_reads' HO_7.out).2.2 x9_1 p183 q183
         cases e183
         replace p183 := eq_true p183
         replace q183 := eq_true q183
         have p189 : 0 ≤ (x9_1 : Int) := of_decide_eq_true (by first | (with_reducible assumption) | assumption)
         have q189 : x9_1 < (l0.length : Int) := of_decide_eq_true (by first | (with_reducible assumption) | assumption)
         obtain ⟨ad189, e189, hx189_0⟩ := Kd.at_string HR0.out x9_1 p189 q189
         cases e189
         replace hx189_0 := (HB.out.cell (World.block_lt_of_cell? w _ hx189_0)).trans hx189_0
         replace p189 := eq_true p189
         replace q189 := eq_true q189
         go_wp2_with (first | ((with_reducible refine gate_builtin (b := .append) (xs := #[.tmp 24, .tmp 29]) rfl ?_); at_builtin; refine Kd.R_append Kd.string (w0 := w) w.heap.size rfl (.tmp 24) (.tmp 29) 23 9 (.string ⟨#[]⟩) 16 rfl Tryz.underlying23 info9 rfl (by decide) (by omega) u3 x3_1 (rdOf ByteArray.empty l0 x9_1) [.string (rdOf ByteArray.empty l0 x9_1)] (fun _ => True) (fun _ => False) rfl rfl ?aP (fun _ hk => hk.elim) ?aF ?aO ?aB ?aS ?aL ?_; (case aP => exact rfl); (case aB => exact (by repeat (first | (with_reducible first | exact HB.out | apply below_alloc | apply pw_below_drewN | apply below_drew1) | exact HB.out))); (case aF => exact (fun _ _ => trivial)); (case aO => exact (by (with_reducible repeat (first | apply Kd.R_alloc | apply Kd.R_drewN | apply Kd.R_drew)); exact HO_3.out)); (case aS => exact (below_size (by repeat (first | (with_reducible first | exact HB.out | apply below_alloc | apply pw_below_drewN | apply below_drew1) | exact HB.out)))); (case aL => have := LMc15.out; omega); intro v191 w16 ho hb hg hat; rw [← Ny190.out] at ho; have n0_ := Aside0.mk (Kd.R_over' (by (with_reducible repeat (first | apply Kd.R_alloc | apply Kd.R_drewN | apply Kd.R_drew)); exact HO_7.out) (Kd.R_typed (by (with_reducible repeat (first | apply Kd.R_alloc | apply Kd.R_drewN | apply Kd.R_drew)); exact HO_3.out)) (by decide) hg); have n1_ := Aside0.mk (hb); have n2_ := Aside0.mk (ho); clear HO_7; clear HB; clear HO_3; have HO_7 := n0_; have HB := n1_; have HO192 := n2_; clear n0_ n1_ n2_; clear ho hb hg hat))
         go_roundg k1
         case measure => have := HK1.out; omega
         case rel => exact ⟨(y190), (wrap64 (x9_1 + 1)), (by first | rfl | (simp; done) | (simp [*]; done)), H', ⟨by have := HK1.out; omega⟩, ⟨by (with_reducible repeat (first | apply Kd.R_alloc | apply Kd.R_drewN | apply Kd.R_drew)); exact HO192.out⟩, ⟨by (with_reducible repeat (first | apply Kd.R_alloc | apply Kd.R_drewN | apply Kd.R_drew)); exact HO_7.out⟩, ⟨by repeat (first | (with_reducible first | exact HB.out | apply below_alloc | apply pw_below_drewN | apply below_drew1) | exact HB.out)⟩⟩
        ·rw [if_neg c15] at H
         exact absurd H (by simp)
       ·rw [if_neg c14] at H
        exact absurd H (by simp)
     ·rw [if_neg c7] at H
      exact absurd H (by simp)
    ·rw [if_neg c6] at H
     exact absurd H (by simp)
   ·rw [if_neg c5] at H
    have c5b0 : decide (x9_1 < (t180.length : Int)) = false := decide_eq_false c5
    clear c5
    obtain rfl := Option.some.inj H
    go_wp2
    go_ret
    exact ⟨_, by first | rfl | (simp [errW_none, errW_some] <;> rfl) | (simp [*, errW_none, errW_some] <;> rfl), by (with_reducible repeat (first | apply Kd.R_alloc | apply Kd.R_drewN | apply Kd.R_drew)); exact HO_3.out, by repeat (first | (with_reducible first | exact HB.out | apply below_alloc | apply pw_below_drewN | apply below_drew1) | exact HB.out)⟩

/-! ### tidy_Tidy: function 13 -/
def tidy_Tidy.f (k : Nat) (a0 : ByteArray) : Option (ByteArray × Int) := (tidy_lines.f a0).bind fun bt193 => (if bt193.2 = true then (if (bt193.1.length : Int) = 0 then (some ((⟨#[]⟩ : ByteArray), 0)) else ((tidy_tidied.f k bt193.1).bind fun t197 => ((strings_Join.f t197 (⟨#[10]⟩ : ByteArray)).bind fun t200 => (if t200.size + 1 ≤ 9223372036854775807 then (some (t200 ++ (⟨#[10]⟩ : ByteArray), 0)) else (none))))) else (some ((⟨#[]⟩ : ByteArray), 1)))
theorem tidy_Tidy.mono : ∀ a0 k, LeO (tidy_Tidy.f k a0) (tidy_Tidy.f (k + 1) a0) := by
 intro a0 k
 unfold tidy_Tidy.f
 repeat' first
   | (with_reducible exact tidy_tidied.mono _ _)
   | (with_reducible exact LeO.refl _)
   | (with_reducible exact LeO.none _)
   | (with_reducible refine LeO.ite ?_ ?_)
   | (with_reducible refine LeO.bind ?_ (fun _ => ?_))
   | exact tidy_tidied.mono _ _
   | exact LeO.none _
   | refine LeO.ite ?_ ?_
   | refine LeO.bind ?_ (fun _ => ?_)
set_option maxHeartbeats 8000000 in
set_option maxRecDepth 100000 in
theorem tidy_Tidy.calls (k : Nat) (a0 : ByteArray) (r1 : ByteArray) (r2 : Int) (w : World) (hv_ : LaidV w) (h : tidy_Tidy.f k a0 = some (r1, r2)) :
  Calls Tryz.prog 13 #[.string a0] w fun e w' => e = .returned (.tuple #[.string r1, .int .i64 r2]) ∧ Below w.heap.size w w' := by
 have HV_ := Aside0.mk hv_
 clear hv_
 have HB := Aside0.mk (Below.refl w.heap.size w)
 have H : ((tidy_lines.f a0).bind fun bt193 => (if bt193.2 = true then (if (bt193.1.length : Int) = 0 then (some ((⟨#[]⟩ : ByteArray), 0)) else ((tidy_tidied.f k bt193.1).bind fun t197 => ((strings_Join.f t197 (⟨#[10]⟩ : ByteArray)).bind fun t200 => (if t200.size + 1 ≤ 9223372036854775807 then (some (t200 ++ (⟨#[10]⟩ : ByteArray), 0)) else (none))))) else (some ((⟨#[]⟩ : ByteArray), 1)))) = some (r1, r2) := h
 clear h
 replace H := Option.bind_eq_some_iff.mp H
 obtain ⟨⟨t193, t194⟩, A20, H⟩ := H
 replace H : (if t194 = true then (if (t193.length : Int) = 0 then (some ((⟨#[]⟩ : ByteArray), 0)) else ((tidy_tidied.f k t193).bind fun t197 => ((strings_Join.f t197 (⟨#[10]⟩ : ByteArray)).bind fun t200 => (if t200.size + 1 ≤ 9223372036854775807 then (some (t200 ++ (⟨#[10]⟩ : ByteArray), 0)) else (none))))) else (some ((⟨#[]⟩ : ByteArray), 1))) = some (r1, r2) := H
 have A2 := Aside0.mk A20
 clear A20
 by_cases c3 : t194 = true
 ·subst c3
  have H1 : (if (t193.length : Int) = 0 then (some ((⟨#[]⟩ : ByteArray), 0)) else ((tidy_tidied.f k t193).bind fun t197 => ((strings_Join.f t197 (⟨#[10]⟩ : ByteArray)).bind fun t200 => (if t200.size + 1 ≤ 9223372036854775807 then (some (t200 ++ (⟨#[10]⟩ : ByteArray), 0)) else (none))))) = some (r1, r2) := by rw [if_pos rfl] at H; exact H
  clear H
  have H := H1
  clear H1
  by_cases c4 : (t193.length : Int) = 0
  ·rw [if_pos c4] at H
   have c4b0 : ((t193.length : Int) == 0) = true := beq_iff_eq.mpr c4
   have c4b1 : ((t193.length : Int) != 0) = false := bne_eq_false_iff_eq.mpr c4
   clear c4
   simp only [Option.some.injEq, Prod.mk.injEq] at H
   obtain ⟨rfl, rfl⟩ := H
   go_enter Tryz.func13, Tryz.ntmps13
   go_wp2_with (first | ((with_reducible refine gate_callee (f := 23) rfl ?_); refine goesL_ (some 8) rfl rfl Tryz.func23 (by kernel_rfl) rfl #[.string a0] rfl (by (try simp only [List.map_toArray, List.map_cons, List.map_nil]); first | done | rfl | (simp only [List.length_drop, List.length_take]; rfl)) ?_; (with_reducible refine (tidy_lines.calls a0 t193 true _ ?side1 A2.out).mono ?_); (case side1 => exact LaidV.mono HV_.out (by repeat (first | (with_reducible first | exact HB.out | apply below_alloc | apply pw_below_drewN | apply below_drew1) | exact HB.out))); rintro e w5 ⟨v195, rfl, ho0, hb⟩; refine ⟨_, rfl, ?_⟩; have n0_ := Aside0.mk (Kd.R_lower ho0 (below_size (by repeat (first | (with_reducible first | exact HB.out | apply below_alloc | apply pw_below_drewN | apply below_drew1) | exact HB.out)))); have n1_ := Aside0.mk (below_step (by repeat (first | (with_reducible first | exact HB.out | apply below_alloc | apply pw_below_drewN | apply below_drew1) | exact HB.out)) hb); clear HB; have HO196 := n0_; have HB := n1_; clear n0_ n1_; (try clear hb); (try clear hb2); (try clear hk); (try clear hi); (try clear ho0); obtain ⟨Ao6, co6, eo6⟩ := Kd.R_slice HO196.out; subst eo6))
   go_ret2
   exact ⟨by first | rfl | (simp [errW_none, errW_some] <;> rfl) | (simp [*, errW_none, errW_some] <;> rfl), by repeat (first | (with_reducible first | exact HB.out | apply below_alloc | apply pw_below_drewN | apply below_drew1) | exact HB.out)⟩
  ·rw [if_neg c4] at H
   have c4b0 : ((t193.length : Int) == 0) = false := beq_eq_false_iff_ne.mpr c4
   have c4b1 : ((t193.length : Int) != 0) = true := bne_iff_ne.mpr c4
   have c4b2 : ¬ (t193 = []) := fun h_ => c4 (by rw [h_]; rfl)
   replace H := Option.bind_eq_some_iff.mp H
   obtain ⟨t197, A70, H⟩ := H
   replace H : ((strings_Join.f t197 (⟨#[10]⟩ : ByteArray)).bind fun t200 => (if t200.size + 1 ≤ 9223372036854775807 then (some (t200 ++ (⟨#[10]⟩ : ByteArray), 0)) else (none))) = some (r1, r2) := H
   have A7 := Aside0.mk A70
   clear A70
   replace H := Option.bind_eq_some_iff.mp H
   obtain ⟨t200, A80, H⟩ := H
   replace H : (if t200.size + 1 ≤ 9223372036854775807 then (some (t200 ++ (⟨#[10]⟩ : ByteArray), 0)) else (none)) = some (r1, r2) := H
   have A8 := Aside0.mk A80
   clear A80
   by_cases c9 : t200.size + 1 ≤ 9223372036854775807
   ·rw [if_pos c9] at H
    have c9b0 := eq_true c9
    have c9b1 : decide (t200.size + 1 ≤ 9223372036854775807) = true := decide_eq_true c9
    try have c9b2 : (9223372036854775807 < t200.size + 1) = False := eq_false (Nat.not_lt.2 c9)
    try (have c9b3 := c9b2; simp only [ByteArray.size_append, bsz, List.length_cons, List.length_nil, Nat.zero_add, Nat.reduceAdd] at c9b3)
    simp only [Option.some.injEq, Prod.mk.injEq] at H
    obtain ⟨rfl, rfl⟩ := H
    go_enter Tryz.func13, Tryz.ntmps13
    go_wp2_with (first | ((with_reducible refine gate_callee (f := 23) rfl ?_); refine goesL_ (some 8) rfl rfl Tryz.func23 (by kernel_rfl) rfl #[.string a0] rfl (by (try simp only [List.map_toArray, List.map_cons, List.map_nil]); first | done | rfl | (simp only [List.length_drop, List.length_take]; rfl)) ?_; (with_reducible refine (tidy_lines.calls a0 t193 true _ ?side1 A2.out).mono ?_); (case side1 => exact LaidV.mono HV_.out (by repeat (first | (with_reducible first | exact HB.out | apply below_alloc | apply pw_below_drewN | apply below_drew1) | exact HB.out))); rintro e w10 ⟨v195, rfl, ho0, hb⟩; refine ⟨_, rfl, ?_⟩; have n0_ := Aside0.mk (Kd.R_lower ho0 (below_size (by repeat (first | (with_reducible first | exact HB.out | apply below_alloc | apply pw_below_drewN | apply below_drew1) | exact HB.out)))); have n1_ := Aside0.mk (below_step (by repeat (first | (with_reducible first | exact HB.out | apply below_alloc | apply pw_below_drewN | apply below_drew1) | exact HB.out)) hb); clear HB; have HO196 := n0_; have HB := n1_; clear n0_ n1_; (try clear hb); (try clear hb2); (try clear hk); (try clear hi); (try clear ho0); obtain ⟨Ao11, co11, eo11⟩ := Kd.R_slice HO196.out; subst eo11) | ((with_reducible refine gate_callee (f := 25) rfl ?_); refine goesL_ (some 17) rfl rfl Tryz.func25 (by kernel_rfl) rfl #[.slice Ao11 t193.length co11] rfl (by (try simp only [List.map_toArray, List.map_cons, List.map_nil]); first | done | rfl | (simp only [List.length_drop, List.length_take]; rfl)) ?_; (with_reducible refine (tidy_tidied.calls k _ _ t193 t197 _ ?side1 ?side2 ?side3 A7.out).mono ?_); (case side1 => repeat (first | exact (Kd.R_reads' HO196.out).2.2 | (with_reducible refine Kd.C_alloc ?_ _) | (with_reducible refine Kd.C_drewN ?_ _) | (with_reducible refine Kd.C_drew ?_))); (case side2 => exact (Kd.R_reads' HO196.out).2.1); (case side3 => exact LaidV.mono HV_.out (by repeat (first | (with_reducible first | exact HB.out | apply below_alloc | apply pw_below_drewN | apply below_drew1) | exact HB.out))); rintro e w12 ⟨v198, rfl, ho0, hb⟩; refine ⟨_, rfl, ?_⟩; have n0_ := Aside0.mk (Kd.R_elder' (by (with_reducible repeat (first | apply Kd.R_alloc | apply Kd.R_drewN | apply Kd.R_drew)); exact HO196.out) (Kd.R_base ho0) hb); have n1_ := Aside0.mk (Kd.R_lower (Kd.R_new' ho0 (Kd.R_lt (by (with_reducible repeat (first | apply Kd.R_alloc | apply Kd.R_drewN | apply Kd.R_drew)); exact HO196.out))) (below_size (by repeat (first | (with_reducible first | exact HB.out | apply below_alloc | apply pw_below_drewN | apply below_drew1) | exact HB.out)))); have n2_ := Aside0.mk (below_step (by repeat (first | (with_reducible first | exact HB.out | apply below_alloc | apply pw_below_drewN | apply below_drew1) | exact HB.out)) hb); clear HO196; clear HB; have HO196 := n0_; have HO199 := n1_; have HB := n2_; clear n0_ n1_ n2_; (try clear hb); (try clear hb2); (try clear hk); (try clear hi); (try clear ho0); obtain ⟨Ao13, co13, eo13⟩ := Kd.R_slice HO199.out; subst eo13) | ((with_reducible refine gate_callee (f := 24) rfl ?_); refine goesL_ (some 18) rfl rfl Tryz.func24 (by kernel_rfl) rfl #[.slice Ao13 t197.length co13, .string (⟨#[10]⟩ : ByteArray)] rfl (by (try simp only [List.map_toArray, List.map_cons, List.map_nil]); first | done | rfl | (simp only [List.length_drop, List.length_take]; rfl)) ?_; (with_reducible refine (strings_Join.calls _ _ t197 (⟨#[10]⟩ : ByteArray) t200 _ ?side1 ?side2 A8.out).mono ?_); (case side1 => repeat (first | exact (Kd.R_reads' HO199.out).2.2 | (with_reducible refine Kd.C_alloc ?_ _) | (with_reducible refine Kd.C_drewN ?_ _) | (with_reducible refine Kd.C_drew ?_))); (case side2 => exact (Kd.R_reads' HO199.out).2.1); rintro e w14 ⟨rfl, hb⟩; refine ⟨_, rfl, ?_⟩; have n0_ := Aside0.mk (Kd.R_below (by (with_reducible repeat (first | apply Kd.R_alloc | apply Kd.R_drewN | apply Kd.R_drew)); exact HO196.out) hb); have n1_ := Aside0.mk (Kd.R_below (by (with_reducible repeat (first | apply Kd.R_alloc | apply Kd.R_drewN | apply Kd.R_drew)); exact HO199.out) hb); have n2_ := Aside0.mk (below_step (by repeat (first | (with_reducible first | exact HB.out | apply below_alloc | apply pw_below_drewN | apply below_drew1) | exact HB.out)) hb); clear HO196; clear HO199; clear HB; have HO196 := n0_; have HO199 := n1_; have HB := n2_; clear n0_ n1_ n2_; (try clear hb); (try clear hb2); (try clear hk); (try clear hi)))
    go_ret2
    exact ⟨by first | rfl | (simp [errW_none, errW_some] <;> rfl) | (simp [*, errW_none, errW_some] <;> rfl), by repeat (first | (with_reducible first | exact HB.out | apply below_alloc | apply pw_below_drewN | apply below_drew1) | exact HB.out)⟩
   ·rw [if_neg c9] at H
    exact absurd H (by simp)
 ·replace c3 := Bool.eq_false_iff.mpr c3
  subst c3
  have H1 : (some ((⟨#[]⟩ : ByteArray), 1)) = some (r1, r2) := by rw [if_neg (show ¬ (false = true) by decide)] at H; exact H
  clear H
  have H := H1
  clear H1
  simp only [Option.some.injEq, Prod.mk.injEq] at H
  obtain ⟨rfl, rfl⟩ := H
  go_enter Tryz.func13, Tryz.ntmps13
  go_wp2_with (first | ((with_reducible refine gate_callee (f := 23) rfl ?_); refine goesL_ (some 8) rfl rfl Tryz.func23 (by kernel_rfl) rfl #[.string a0] rfl (by (try simp only [List.map_toArray, List.map_cons, List.map_nil]); first | done | rfl | (simp only [List.length_drop, List.length_take]; rfl)) ?_; (with_reducible refine (tidy_lines.calls a0 t193 false _ ?side1 A2.out).mono ?_); (case side1 => exact LaidV.mono HV_.out (by repeat (first | (with_reducible first | exact HB.out | apply below_alloc | apply pw_below_drewN | apply below_drew1) | exact HB.out))); rintro e w15 ⟨v195, rfl, ho0, hb⟩; refine ⟨_, rfl, ?_⟩; have n0_ := Aside0.mk (Kd.R_lower ho0 (below_size (by repeat (first | (with_reducible first | exact HB.out | apply below_alloc | apply pw_below_drewN | apply below_drew1) | exact HB.out)))); have n1_ := Aside0.mk (below_step (by repeat (first | (with_reducible first | exact HB.out | apply below_alloc | apply pw_below_drewN | apply below_drew1) | exact HB.out)) hb); clear HB; have HO196 := n0_; have HB := n1_; clear n0_ n1_; (try clear hb); (try clear hb2); (try clear hk); (try clear hi); (try clear ho0)))
  go_ret2
  exact ⟨by first | rfl | (simp [errW_none, errW_some] <;> rfl) | (simp [*, errW_none, errW_some] <;> rfl), by repeat (first | (with_reducible first | exact HB.out | apply below_alloc | apply pw_below_drewN | apply below_drew1) | exact HB.out)⟩

/-! ### frisketlaw37_sane: function 8 -/
def frisketlaw37_sane.f (k : Nat)  : Option (Bool) := (tidy_Tidy.f k (⟨#[46, 32, 32, 115, 112, 32, 32, 32, 50, 32, 10]⟩ : ByteArray)).bind fun bt201 => (if bt201.1.toList = ([46, 115, 112, 32, 50, 10] : List UInt8) then (some (bt201.2 == 0)) else (some false))
theorem frisketlaw37_sane.mono : ∀ k, LeO (frisketlaw37_sane.f k ) (frisketlaw37_sane.f (k + 1) ) := by
 intro  k
 unfold frisketlaw37_sane.f
 repeat' first
   | (with_reducible exact tidy_Tidy.mono _ _)
   | (with_reducible exact LeO.refl _)
   | (with_reducible exact LeO.none _)
   | (with_reducible refine LeO.ite ?_ ?_)
   | (with_reducible refine LeO.bind ?_ (fun _ => ?_))
   | exact tidy_Tidy.mono _ _
   | exact LeO.none _
   | refine LeO.ite ?_ ?_
   | refine LeO.bind ?_ (fun _ => ?_)
set_option maxHeartbeats 8000000 in
set_option maxRecDepth 100000 in
theorem frisketlaw37_sane.calls (k : Nat)  (r : Bool) (w : World) (hv_ : LaidV w) (h : frisketlaw37_sane.f k  = some r) :
  Calls Tryz.prog 8 #[] w fun e w' => e = .returned (.bool r) ∧ Below w.heap.size w w' := by
 have HV_ := Aside0.mk hv_
 clear hv_
 have HB := Aside0.mk (Below.refl w.heap.size w)
 have H : ((tidy_Tidy.f k (⟨#[46, 32, 32, 115, 112, 32, 32, 32, 50, 32, 10]⟩ : ByteArray)).bind fun bt201 => (if bt201.1.toList = ([46, 115, 112, 32, 50, 10] : List UInt8) then (some (bt201.2 == 0)) else (some false))) = some r := h
 clear h
 replace H := Option.bind_eq_some_iff.mp H
 obtain ⟨⟨t201, t202⟩, A10, H⟩ := H
 replace H : (if t201.toList = ([46, 115, 112, 32, 50, 10] : List UInt8) then (some (t202 == 0)) else (some false)) = some r := H
 have A1 := Aside0.mk A10
 clear A10
 by_cases c2 : t201.toList = ([46, 115, 112, 32, 50, 10] : List UInt8)
 ·rw [if_pos c2] at H
  have c2b0 : (t201.toList == ([46, 115, 112, 32, 50, 10] : List UInt8)) = true := beq_iff_eq.mpr c2
  have c2b1 : (t201.toList != ([46, 115, 112, 32, 50, 10] : List UInt8)) = false := bne_eq_false_iff_eq.mpr c2
  clear c2
  obtain rfl := Option.some.inj H
  go_enter Tryz.func8, Tryz.ntmps8
  go_wp2_with (first | ((with_reducible refine gate_callee (f := 13) rfl ?_); refine goesL_ (some 4) rfl rfl Tryz.func13 (by kernel_rfl) rfl #[.string (⟨#[46, 32, 32, 115, 112, 32, 32, 32, 50, 32, 10]⟩ : ByteArray)] rfl (by (try simp only [List.map_toArray, List.map_cons, List.map_nil]); first | done | rfl | (simp only [List.length_drop, List.length_take]; rfl)) ?_; (with_reducible refine (tidy_Tidy.calls k (⟨#[46, 32, 32, 115, 112, 32, 32, 32, 50, 32, 10]⟩ : ByteArray) t201 t202 _ ?side1 A1.out).mono ?_); (case side1 => exact LaidV.mono HV_.out (by repeat (first | (with_reducible first | exact HB.out | apply below_alloc | apply pw_below_drewN | apply below_drew1) | exact HB.out))); rintro e w3 ⟨rfl, hb⟩; refine ⟨_, rfl, ?_⟩; have n0_ := Aside0.mk (below_step (by repeat (first | (with_reducible first | exact HB.out | apply below_alloc | apply pw_below_drewN | apply below_drew1) | exact HB.out)) hb); clear HB; have HB := n0_; clear n0_; (try clear hb); (try clear hb2); (try clear hk); (try clear hi)))
  go_ret
  exact ⟨by first | rfl | (simp [errW_none, errW_some] <;> rfl) | (simp [*, errW_none, errW_some] <;> rfl), by repeat (first | (with_reducible first | exact HB.out | apply below_alloc | apply pw_below_drewN | apply below_drew1) | exact HB.out)⟩
 ·rw [if_neg c2] at H
  have c2b0 : (t201.toList == ([46, 115, 112, 32, 50, 10] : List UInt8)) = false := beq_eq_false_iff_ne.mpr c2
  have c2b1 : (t201.toList != ([46, 115, 112, 32, 50, 10] : List UInt8)) = true := bne_iff_ne.mpr c2
  obtain rfl := Option.some.inj H
  go_enter Tryz.func8, Tryz.ntmps8
  go_wp2_with (first | ((with_reducible refine gate_callee (f := 13) rfl ?_); refine goesL_ (some 4) rfl rfl Tryz.func13 (by kernel_rfl) rfl #[.string (⟨#[46, 32, 32, 115, 112, 32, 32, 32, 50, 32, 10]⟩ : ByteArray)] rfl (by (try simp only [List.map_toArray, List.map_cons, List.map_nil]); first | done | rfl | (simp only [List.length_drop, List.length_take]; rfl)) ?_; (with_reducible refine (tidy_Tidy.calls k (⟨#[46, 32, 32, 115, 112, 32, 32, 32, 50, 32, 10]⟩ : ByteArray) t201 t202 _ ?side1 A1.out).mono ?_); (case side1 => exact LaidV.mono HV_.out (by repeat (first | (with_reducible first | exact HB.out | apply below_alloc | apply pw_below_drewN | apply below_drew1) | exact HB.out))); rintro e w4 ⟨rfl, hb⟩; refine ⟨_, rfl, ?_⟩; have n0_ := Aside0.mk (below_step (by repeat (first | (with_reducible first | exact HB.out | apply below_alloc | apply pw_below_drewN | apply below_drew1) | exact HB.out)) hb); clear HB; have HB := n0_; clear n0_; (try clear hb); (try clear hb2); (try clear hk); (try clear hi)))
  go_ret
  exact ⟨by first | rfl | (simp [errW_none, errW_some] <;> rfl) | (simp [*, errW_none, errW_some] <;> rfl), by repeat (first | (with_reducible first | exact HB.out | apply below_alloc | apply pw_below_drewN | apply below_drew1) | exact HB.out)⟩

/-! ### frisketlaw37_bits: function 9 -/
def frisketlaw37_bits.f  : Option (List ByteArray) := some (([(⟨#[116, 101, 120, 116]⟩ : ByteArray), (⟨#[116, 101, 120, 116, 32, 32]⟩ : ByteArray), (⟨#[116, 101, 120, 116, 32, 92]⟩ : ByteArray), (⟨#[92]⟩ : ByteArray), (⟨#[92, 92]⟩ : ByteArray), (⟨#[97, 92, 32]⟩ : ByteArray), (⟨#[46, 32, 32, 115, 112, 32, 32, 32, 50, 32]⟩ : ByteArray), (⟨#[46, 98, 114]⟩ : ByteArray), (⟨#[39, 32, 32, 98, 114, 32, 32]⟩ : ByteArray), (⟨#[46, 32, 32, 32]⟩ : ByteArray), (⟨#[46]⟩ : ByteArray), (⟨#[46, 100, 101, 32, 120, 120]⟩ : ByteArray), (⟨#[46, 100, 101, 32, 120, 120, 32, 121, 121]⟩ : ByteArray), (⟨#[46, 32, 32, 97, 109, 32, 120]⟩ : ByteArray), (⟨#[46, 46]⟩ : ByteArray), (⟨#[46, 121, 121]⟩ : ByteArray), (⟨#[46, 121, 121, 32, 122]⟩ : ByteArray), (⟨#[46, 46, 32]⟩ : ByteArray), (⟨#[46, 105, 103]⟩ : ByteArray), (⟨#[46, 105, 103, 32, 101, 110]⟩ : ByteArray), (⟨#[46, 101, 110]⟩ : ByteArray), (⟨#[46, 84, 83]⟩ : ByteArray), (⟨#[46, 84, 69]⟩ : ByteArray), (⟨#[46, 69, 81, 32, 120]⟩ : ByteArray), (⟨#[46, 69, 78]⟩ : ByteArray), (⟨#[46, 80, 83, 32, 50, 32, 51]⟩ : ByteArray), (⟨#[46, 80, 69]⟩ : ByteArray), (⟨#[46, 71, 49]⟩ : ByteArray), (⟨#[46, 71, 50]⟩ : ByteArray), (⟨#[46, 91]⟩ : ByteArray), (⟨#[46, 93]⟩ : ByteArray), (⟨#[46, 67, 72]⟩ : ByteArray), (⟨#[46, 67, 69]⟩ : ByteArray), (⟨#[46, 120, 120, 32, 32, 97, 32, 32, 32, 98, 32]⟩ : ByteArray), (⟨#[46, 102, 116, 32, 32, 34, 82, 34, 32, 32]⟩ : ByteArray), (⟨#[46, 99, 101, 32, 34, 97, 32, 98, 34, 32, 99]⟩ : ByteArray), (⟨#[46, 116, 97, 32, 49, 105, 32, 32, 50, 105, 9, 82]⟩ : ByteArray), (⟨#[46, 110, 114, 32, 120, 32, 34, 34, 32]⟩ : ByteArray), (⟨#[46, 108, 108, 32, 51, 105, 32, 92]⟩ : ByteArray), (⟨#[]⟩ : ByteArray), (⟨#[32, 32, 32]⟩ : ByteArray), (⟨#[46, 100, 101]⟩ : ByteArray), (⟨#[46, 115, 112, 32, 34]⟩ : ByteArray), (⟨#[46, 105, 110, 32, 97, 92, 32]⟩ : ByteArray), (⟨#[39, 100, 101, 32, 113]⟩ : ByteArray), (⟨#[46, 9, 115, 112, 32, 51]⟩ : ByteArray), (⟨#[46, 119, 104, 32, 45, 49, 105, 32, 92, 34, 110, 111, 116, 101]⟩ : ByteArray), (⟨#[46, 100, 101, 120, 120]⟩ : ByteArray), (⟨#[46, 84, 83, 120]⟩ : ByteArray)] : List ByteArray))
set_option maxHeartbeats 8000000 in
set_option maxRecDepth 100000 in
theorem frisketlaw37_bits.calls  (r : List ByteArray) (w : World) (h : frisketlaw37_bits.f  = some r) :
  Calls Tryz.prog 9 #[] w fun e w' => ∃ v0_ : Value, e = .returned (v0_) ∧ Kd.R Kd.string 9 w' w.heap.size (fun _ => True) v0_ r ∧ Below w.heap.size w w' := by
 have HB := Aside0.mk (Below.refl w.heap.size w)
 have H : (some (([(⟨#[116, 101, 120, 116]⟩ : ByteArray), (⟨#[116, 101, 120, 116, 32, 32]⟩ : ByteArray), (⟨#[116, 101, 120, 116, 32, 92]⟩ : ByteArray), (⟨#[92]⟩ : ByteArray), (⟨#[92, 92]⟩ : ByteArray), (⟨#[97, 92, 32]⟩ : ByteArray), (⟨#[46, 32, 32, 115, 112, 32, 32, 32, 50, 32]⟩ : ByteArray), (⟨#[46, 98, 114]⟩ : ByteArray), (⟨#[39, 32, 32, 98, 114, 32, 32]⟩ : ByteArray), (⟨#[46, 32, 32, 32]⟩ : ByteArray), (⟨#[46]⟩ : ByteArray), (⟨#[46, 100, 101, 32, 120, 120]⟩ : ByteArray), (⟨#[46, 100, 101, 32, 120, 120, 32, 121, 121]⟩ : ByteArray), (⟨#[46, 32, 32, 97, 109, 32, 120]⟩ : ByteArray), (⟨#[46, 46]⟩ : ByteArray), (⟨#[46, 121, 121]⟩ : ByteArray), (⟨#[46, 121, 121, 32, 122]⟩ : ByteArray), (⟨#[46, 46, 32]⟩ : ByteArray), (⟨#[46, 105, 103]⟩ : ByteArray), (⟨#[46, 105, 103, 32, 101, 110]⟩ : ByteArray), (⟨#[46, 101, 110]⟩ : ByteArray), (⟨#[46, 84, 83]⟩ : ByteArray), (⟨#[46, 84, 69]⟩ : ByteArray), (⟨#[46, 69, 81, 32, 120]⟩ : ByteArray), (⟨#[46, 69, 78]⟩ : ByteArray), (⟨#[46, 80, 83, 32, 50, 32, 51]⟩ : ByteArray), (⟨#[46, 80, 69]⟩ : ByteArray), (⟨#[46, 71, 49]⟩ : ByteArray), (⟨#[46, 71, 50]⟩ : ByteArray), (⟨#[46, 91]⟩ : ByteArray), (⟨#[46, 93]⟩ : ByteArray), (⟨#[46, 67, 72]⟩ : ByteArray), (⟨#[46, 67, 69]⟩ : ByteArray), (⟨#[46, 120, 120, 32, 32, 97, 32, 32, 32, 98, 32]⟩ : ByteArray), (⟨#[46, 102, 116, 32, 32, 34, 82, 34, 32, 32]⟩ : ByteArray), (⟨#[46, 99, 101, 32, 34, 97, 32, 98, 34, 32, 99]⟩ : ByteArray), (⟨#[46, 116, 97, 32, 49, 105, 32, 32, 50, 105, 9, 82]⟩ : ByteArray), (⟨#[46, 110, 114, 32, 120, 32, 34, 34, 32]⟩ : ByteArray), (⟨#[46, 108, 108, 32, 51, 105, 32, 92]⟩ : ByteArray), (⟨#[]⟩ : ByteArray), (⟨#[32, 32, 32]⟩ : ByteArray), (⟨#[46, 100, 101]⟩ : ByteArray), (⟨#[46, 115, 112, 32, 34]⟩ : ByteArray), (⟨#[46, 105, 110, 32, 97, 92, 32]⟩ : ByteArray), (⟨#[39, 100, 101, 32, 113]⟩ : ByteArray), (⟨#[46, 9, 115, 112, 32, 51]⟩ : ByteArray), (⟨#[46, 119, 104, 32, 45, 49, 105, 32, 92, 34, 110, 111, 116, 101]⟩ : ByteArray), (⟨#[46, 100, 101, 120, 120]⟩ : ByteArray), (⟨#[46, 84, 83, 120]⟩ : ByteArray)] : List ByteArray))) = some r := h
 clear h
 obtain ⟨y203, hy203⟩ : ∃ y_ : List ByteArray, y_ = (([(⟨#[116, 101, 120, 116]⟩ : ByteArray), (⟨#[116, 101, 120, 116, 32, 32]⟩ : ByteArray), (⟨#[116, 101, 120, 116, 32, 92]⟩ : ByteArray), (⟨#[92]⟩ : ByteArray), (⟨#[92, 92]⟩ : ByteArray), (⟨#[97, 92, 32]⟩ : ByteArray), (⟨#[46, 32, 32, 115, 112, 32, 32, 32, 50, 32]⟩ : ByteArray), (⟨#[46, 98, 114]⟩ : ByteArray), (⟨#[39, 32, 32, 98, 114, 32, 32]⟩ : ByteArray), (⟨#[46, 32, 32, 32]⟩ : ByteArray), (⟨#[46]⟩ : ByteArray), (⟨#[46, 100, 101, 32, 120, 120]⟩ : ByteArray), (⟨#[46, 100, 101, 32, 120, 120, 32, 121, 121]⟩ : ByteArray), (⟨#[46, 32, 32, 97, 109, 32, 120]⟩ : ByteArray), (⟨#[46, 46]⟩ : ByteArray), (⟨#[46, 121, 121]⟩ : ByteArray), (⟨#[46, 121, 121, 32, 122]⟩ : ByteArray), (⟨#[46, 46, 32]⟩ : ByteArray), (⟨#[46, 105, 103]⟩ : ByteArray), (⟨#[46, 105, 103, 32, 101, 110]⟩ : ByteArray), (⟨#[46, 101, 110]⟩ : ByteArray), (⟨#[46, 84, 83]⟩ : ByteArray), (⟨#[46, 84, 69]⟩ : ByteArray), (⟨#[46, 69, 81, 32, 120]⟩ : ByteArray), (⟨#[46, 69, 78]⟩ : ByteArray), (⟨#[46, 80, 83, 32, 50, 32, 51]⟩ : ByteArray), (⟨#[46, 80, 69]⟩ : ByteArray), (⟨#[46, 71, 49]⟩ : ByteArray), (⟨#[46, 71, 50]⟩ : ByteArray), (⟨#[46, 91]⟩ : ByteArray), (⟨#[46, 93]⟩ : ByteArray), (⟨#[46, 67, 72]⟩ : ByteArray), (⟨#[46, 67, 69]⟩ : ByteArray), (⟨#[46, 120, 120, 32, 32, 97, 32, 32, 32, 98, 32]⟩ : ByteArray), (⟨#[46, 102, 116, 32, 32, 34, 82, 34, 32, 32]⟩ : ByteArray), (⟨#[46, 99, 101, 32, 34, 97, 32, 98, 34, 32, 99]⟩ : ByteArray), (⟨#[46, 116, 97, 32, 49, 105, 32, 32, 50, 105, 9, 82]⟩ : ByteArray), (⟨#[46, 110, 114, 32, 120, 32, 34, 34, 32]⟩ : ByteArray), (⟨#[46, 108, 108, 32, 51, 105, 32, 92]⟩ : ByteArray), (⟨#[]⟩ : ByteArray), (⟨#[32, 32, 32]⟩ : ByteArray), (⟨#[46, 100, 101]⟩ : ByteArray), (⟨#[46, 115, 112, 32, 34]⟩ : ByteArray), (⟨#[46, 105, 110, 32, 97, 92, 32]⟩ : ByteArray), (⟨#[39, 100, 101, 32, 113]⟩ : ByteArray), (⟨#[46, 9, 115, 112, 32, 51]⟩ : ByteArray), (⟨#[46, 119, 104, 32, 45, 49, 105, 32, 92, 34, 110, 111, 116, 101]⟩ : ByteArray), (⟨#[46, 100, 101, 120, 120]⟩ : ByteArray), (⟨#[46, 84, 83, 120]⟩ : ByteArray)] : List ByteArray)) := ⟨_, rfl⟩
 replace H : (some y203) = some r := by first | (rw [hy203]; with_reducible exact H) | (have H2_ := (Option.bind_some _ _).symm.trans H; rw [hy203]; with_reducible exact H2_) | (have H2_ := (Option.bind_some _ _).symm.trans H; with_reducible exact H2_) | with_reducible exact H | (rw [hy203]; exact H) | exact H
 have Ny203 := Aside0.mk hy203
 clear hy203
 obtain rfl := Option.some.inj H
 go_enter Tryz.func9, Tryz.ntmps9
 go_wp2_with (first | ((with_reducible refine gate_dst (N := 1) rfl ?_); refine Kd.R_lit Kd.string _ 9 ?hg (N := 1) ?hd (xs := ([(⟨#[116, 101, 120, 116]⟩ : ByteArray), (⟨#[116, 101, 120, 116, 32, 32]⟩ : ByteArray), (⟨#[116, 101, 120, 116, 32, 92]⟩ : ByteArray), (⟨#[92]⟩ : ByteArray), (⟨#[92, 92]⟩ : ByteArray), (⟨#[97, 92, 32]⟩ : ByteArray), (⟨#[46, 32, 32, 115, 112, 32, 32, 32, 50, 32]⟩ : ByteArray), (⟨#[46, 98, 114]⟩ : ByteArray), (⟨#[39, 32, 32, 98, 114, 32, 32]⟩ : ByteArray), (⟨#[46, 32, 32, 32]⟩ : ByteArray), (⟨#[46]⟩ : ByteArray), (⟨#[46, 100, 101, 32, 120, 120]⟩ : ByteArray), (⟨#[46, 100, 101, 32, 120, 120, 32, 121, 121]⟩ : ByteArray), (⟨#[46, 32, 32, 97, 109, 32, 120]⟩ : ByteArray), (⟨#[46, 46]⟩ : ByteArray), (⟨#[46, 121, 121]⟩ : ByteArray), (⟨#[46, 121, 121, 32, 122]⟩ : ByteArray), (⟨#[46, 46, 32]⟩ : ByteArray), (⟨#[46, 105, 103]⟩ : ByteArray), (⟨#[46, 105, 103, 32, 101, 110]⟩ : ByteArray), (⟨#[46, 101, 110]⟩ : ByteArray), (⟨#[46, 84, 83]⟩ : ByteArray), (⟨#[46, 84, 69]⟩ : ByteArray), (⟨#[46, 69, 81, 32, 120]⟩ : ByteArray), (⟨#[46, 69, 78]⟩ : ByteArray), (⟨#[46, 80, 83, 32, 50, 32, 51]⟩ : ByteArray), (⟨#[46, 80, 69]⟩ : ByteArray), (⟨#[46, 71, 49]⟩ : ByteArray), (⟨#[46, 71, 50]⟩ : ByteArray), (⟨#[46, 91]⟩ : ByteArray), (⟨#[46, 93]⟩ : ByteArray), (⟨#[46, 67, 72]⟩ : ByteArray), (⟨#[46, 67, 69]⟩ : ByteArray), (⟨#[46, 120, 120, 32, 32, 97, 32, 32, 32, 98, 32]⟩ : ByteArray), (⟨#[46, 102, 116, 32, 32, 34, 82, 34, 32, 32]⟩ : ByteArray), (⟨#[46, 99, 101, 32, 34, 97, 32, 98, 34, 32, 99]⟩ : ByteArray), (⟨#[46, 116, 97, 32, 49, 105, 32, 32, 50, 105, 9, 82]⟩ : ByteArray), (⟨#[46, 110, 114, 32, 120, 32, 34, 34, 32]⟩ : ByteArray), (⟨#[46, 108, 108, 32, 51, 105, 32, 92]⟩ : ByteArray), (⟨#[]⟩ : ByteArray), (⟨#[32, 32, 32]⟩ : ByteArray), (⟨#[46, 100, 101]⟩ : ByteArray), (⟨#[46, 115, 112, 32, 34]⟩ : ByteArray), (⟨#[46, 105, 110, 32, 97, 92, 32]⟩ : ByteArray), (⟨#[39, 100, 101, 32, 113]⟩ : ByteArray), (⟨#[46, 9, 115, 112, 32, 51]⟩ : ByteArray), (⟨#[46, 119, 104, 32, 45, 49, 105, 32, 92, 34, 110, 111, 116, 101]⟩ : ByteArray), (⟨#[46, 100, 101, 120, 120]⟩ : ByteArray), (⟨#[46, 84, 83, 120]⟩ : ByteArray)] : List ByteArray)) (inner := [.string (⟨#[116, 101, 120, 116]⟩ : ByteArray), .string (⟨#[116, 101, 120, 116, 32, 32]⟩ : ByteArray), .string (⟨#[116, 101, 120, 116, 32, 92]⟩ : ByteArray), .string (⟨#[92]⟩ : ByteArray), .string (⟨#[92, 92]⟩ : ByteArray), .string (⟨#[97, 92, 32]⟩ : ByteArray), .string (⟨#[46, 32, 32, 115, 112, 32, 32, 32, 50, 32]⟩ : ByteArray), .string (⟨#[46, 98, 114]⟩ : ByteArray), .string (⟨#[39, 32, 32, 98, 114, 32, 32]⟩ : ByteArray), .string (⟨#[46, 32, 32, 32]⟩ : ByteArray), .string (⟨#[46]⟩ : ByteArray), .string (⟨#[46, 100, 101, 32, 120, 120]⟩ : ByteArray), .string (⟨#[46, 100, 101, 32, 120, 120, 32, 121, 121]⟩ : ByteArray), .string (⟨#[46, 32, 32, 97, 109, 32, 120]⟩ : ByteArray), .string (⟨#[46, 46]⟩ : ByteArray), .string (⟨#[46, 121, 121]⟩ : ByteArray), .string (⟨#[46, 121, 121, 32, 122]⟩ : ByteArray), .string (⟨#[46, 46, 32]⟩ : ByteArray), .string (⟨#[46, 105, 103]⟩ : ByteArray), .string (⟨#[46, 105, 103, 32, 101, 110]⟩ : ByteArray), .string (⟨#[46, 101, 110]⟩ : ByteArray), .string (⟨#[46, 84, 83]⟩ : ByteArray), .string (⟨#[46, 84, 69]⟩ : ByteArray), .string (⟨#[46, 69, 81, 32, 120]⟩ : ByteArray), .string (⟨#[46, 69, 78]⟩ : ByteArray), .string (⟨#[46, 80, 83, 32, 50, 32, 51]⟩ : ByteArray), .string (⟨#[46, 80, 69]⟩ : ByteArray), .string (⟨#[46, 71, 49]⟩ : ByteArray), .string (⟨#[46, 71, 50]⟩ : ByteArray), .string (⟨#[46, 91]⟩ : ByteArray), .string (⟨#[46, 93]⟩ : ByteArray), .string (⟨#[46, 67, 72]⟩ : ByteArray), .string (⟨#[46, 67, 69]⟩ : ByteArray), .string (⟨#[46, 120, 120, 32, 32, 97, 32, 32, 32, 98, 32]⟩ : ByteArray), .string (⟨#[46, 102, 116, 32, 32, 34, 82, 34, 32, 32]⟩ : ByteArray), .string (⟨#[46, 99, 101, 32, 34, 97, 32, 98, 34, 32, 99]⟩ : ByteArray), .string (⟨#[46, 116, 97, 32, 49, 105, 32, 32, 50, 105, 9, 82]⟩ : ByteArray), .string (⟨#[46, 110, 114, 32, 120, 32, 34, 34, 32]⟩ : ByteArray), .string (⟨#[46, 108, 108, 32, 51, 105, 32, 92]⟩ : ByteArray), .string (⟨#[]⟩ : ByteArray), .string (⟨#[32, 32, 32]⟩ : ByteArray), .string (⟨#[46, 100, 101]⟩ : ByteArray), .string (⟨#[46, 115, 112, 32, 34]⟩ : ByteArray), .string (⟨#[46, 105, 110, 32, 97, 92, 32]⟩ : ByteArray), .string (⟨#[39, 100, 101, 32, 113]⟩ : ByteArray), .string (⟨#[46, 9, 115, 112, 32, 51]⟩ : ByteArray), .string (⟨#[46, 119, 104, 32, 45, 49, 105, 32, 92, 34, 110, 111, 116, 101]⟩ : ByteArray), .string (⟨#[46, 100, 101, 120, 120]⟩ : ByteArray), .string (⟨#[46, 84, 83, 120]⟩ : ByteArray)]) (ok := fun _ => True) (okp := fun _ => True) ?hr ?hp (fun _ hk => hk) trivial (Below.refl _ _) (Nat.le_refl _) (by simp) ?_; (case hd => rfl); (case hg => rfl); (case hr => first | (go_simp; done) | (go_simp; rfl)); (case hp => exact (Reps.one (show Kd.M Kd.string _ _ _ (⟨#[116, 101, 120, 116]⟩ : ByteArray) [.string (⟨#[116, 101, 120, 116]⟩ : ByteArray)] from rfl) (Reps.one (show Kd.M Kd.string _ _ _ (⟨#[116, 101, 120, 116, 32, 32]⟩ : ByteArray) [.string (⟨#[116, 101, 120, 116, 32, 32]⟩ : ByteArray)] from rfl) (Reps.one (show Kd.M Kd.string _ _ _ (⟨#[116, 101, 120, 116, 32, 92]⟩ : ByteArray) [.string (⟨#[116, 101, 120, 116, 32, 92]⟩ : ByteArray)] from rfl) (Reps.one (show Kd.M Kd.string _ _ _ (⟨#[92]⟩ : ByteArray) [.string (⟨#[92]⟩ : ByteArray)] from rfl) (Reps.one (show Kd.M Kd.string _ _ _ (⟨#[92, 92]⟩ : ByteArray) [.string (⟨#[92, 92]⟩ : ByteArray)] from rfl) (Reps.one (show Kd.M Kd.string _ _ _ (⟨#[97, 92, 32]⟩ : ByteArray) [.string (⟨#[97, 92, 32]⟩ : ByteArray)] from rfl) (Reps.one (show Kd.M Kd.string _ _ _ (⟨#[46, 32, 32, 115, 112, 32, 32, 32, 50, 32]⟩ : ByteArray) [.string (⟨#[46, 32, 32, 115, 112, 32, 32, 32, 50, 32]⟩ : ByteArray)] from rfl) (Reps.one (show Kd.M Kd.string _ _ _ (⟨#[46, 98, 114]⟩ : ByteArray) [.string (⟨#[46, 98, 114]⟩ : ByteArray)] from rfl) (Reps.one (show Kd.M Kd.string _ _ _ (⟨#[39, 32, 32, 98, 114, 32, 32]⟩ : ByteArray) [.string (⟨#[39, 32, 32, 98, 114, 32, 32]⟩ : ByteArray)] from rfl) (Reps.one (show Kd.M Kd.string _ _ _ (⟨#[46, 32, 32, 32]⟩ : ByteArray) [.string (⟨#[46, 32, 32, 32]⟩ : ByteArray)] from rfl) (Reps.one (show Kd.M Kd.string _ _ _ (⟨#[46]⟩ : ByteArray) [.string (⟨#[46]⟩ : ByteArray)] from rfl) (Reps.one (show Kd.M Kd.string _ _ _ (⟨#[46, 100, 101, 32, 120, 120]⟩ : ByteArray) [.string (⟨#[46, 100, 101, 32, 120, 120]⟩ : ByteArray)] from rfl) (Reps.one (show Kd.M Kd.string _ _ _ (⟨#[46, 100, 101, 32, 120, 120, 32, 121, 121]⟩ : ByteArray) [.string (⟨#[46, 100, 101, 32, 120, 120, 32, 121, 121]⟩ : ByteArray)] from rfl) (Reps.one (show Kd.M Kd.string _ _ _ (⟨#[46, 32, 32, 97, 109, 32, 120]⟩ : ByteArray) [.string (⟨#[46, 32, 32, 97, 109, 32, 120]⟩ : ByteArray)] from rfl) (Reps.one (show Kd.M Kd.string _ _ _ (⟨#[46, 46]⟩ : ByteArray) [.string (⟨#[46, 46]⟩ : ByteArray)] from rfl) (Reps.one (show Kd.M Kd.string _ _ _ (⟨#[46, 121, 121]⟩ : ByteArray) [.string (⟨#[46, 121, 121]⟩ : ByteArray)] from rfl) (Reps.one (show Kd.M Kd.string _ _ _ (⟨#[46, 121, 121, 32, 122]⟩ : ByteArray) [.string (⟨#[46, 121, 121, 32, 122]⟩ : ByteArray)] from rfl) (Reps.one (show Kd.M Kd.string _ _ _ (⟨#[46, 46, 32]⟩ : ByteArray) [.string (⟨#[46, 46, 32]⟩ : ByteArray)] from rfl) (Reps.one (show Kd.M Kd.string _ _ _ (⟨#[46, 105, 103]⟩ : ByteArray) [.string (⟨#[46, 105, 103]⟩ : ByteArray)] from rfl) (Reps.one (show Kd.M Kd.string _ _ _ (⟨#[46, 105, 103, 32, 101, 110]⟩ : ByteArray) [.string (⟨#[46, 105, 103, 32, 101, 110]⟩ : ByteArray)] from rfl) (Reps.one (show Kd.M Kd.string _ _ _ (⟨#[46, 101, 110]⟩ : ByteArray) [.string (⟨#[46, 101, 110]⟩ : ByteArray)] from rfl) (Reps.one (show Kd.M Kd.string _ _ _ (⟨#[46, 84, 83]⟩ : ByteArray) [.string (⟨#[46, 84, 83]⟩ : ByteArray)] from rfl) (Reps.one (show Kd.M Kd.string _ _ _ (⟨#[46, 84, 69]⟩ : ByteArray) [.string (⟨#[46, 84, 69]⟩ : ByteArray)] from rfl) (Reps.one (show Kd.M Kd.string _ _ _ (⟨#[46, 69, 81, 32, 120]⟩ : ByteArray) [.string (⟨#[46, 69, 81, 32, 120]⟩ : ByteArray)] from rfl) (Reps.one (show Kd.M Kd.string _ _ _ (⟨#[46, 69, 78]⟩ : ByteArray) [.string (⟨#[46, 69, 78]⟩ : ByteArray)] from rfl) (Reps.one (show Kd.M Kd.string _ _ _ (⟨#[46, 80, 83, 32, 50, 32, 51]⟩ : ByteArray) [.string (⟨#[46, 80, 83, 32, 50, 32, 51]⟩ : ByteArray)] from rfl) (Reps.one (show Kd.M Kd.string _ _ _ (⟨#[46, 80, 69]⟩ : ByteArray) [.string (⟨#[46, 80, 69]⟩ : ByteArray)] from rfl) (Reps.one (show Kd.M Kd.string _ _ _ (⟨#[46, 71, 49]⟩ : ByteArray) [.string (⟨#[46, 71, 49]⟩ : ByteArray)] from rfl) (Reps.one (show Kd.M Kd.string _ _ _ (⟨#[46, 71, 50]⟩ : ByteArray) [.string (⟨#[46, 71, 50]⟩ : ByteArray)] from rfl) (Reps.one (show Kd.M Kd.string _ _ _ (⟨#[46, 91]⟩ : ByteArray) [.string (⟨#[46, 91]⟩ : ByteArray)] from rfl) (Reps.one (show Kd.M Kd.string _ _ _ (⟨#[46, 93]⟩ : ByteArray) [.string (⟨#[46, 93]⟩ : ByteArray)] from rfl) (Reps.one (show Kd.M Kd.string _ _ _ (⟨#[46, 67, 72]⟩ : ByteArray) [.string (⟨#[46, 67, 72]⟩ : ByteArray)] from rfl) (Reps.one (show Kd.M Kd.string _ _ _ (⟨#[46, 67, 69]⟩ : ByteArray) [.string (⟨#[46, 67, 69]⟩ : ByteArray)] from rfl) (Reps.one (show Kd.M Kd.string _ _ _ (⟨#[46, 120, 120, 32, 32, 97, 32, 32, 32, 98, 32]⟩ : ByteArray) [.string (⟨#[46, 120, 120, 32, 32, 97, 32, 32, 32, 98, 32]⟩ : ByteArray)] from rfl) (Reps.one (show Kd.M Kd.string _ _ _ (⟨#[46, 102, 116, 32, 32, 34, 82, 34, 32, 32]⟩ : ByteArray) [.string (⟨#[46, 102, 116, 32, 32, 34, 82, 34, 32, 32]⟩ : ByteArray)] from rfl) (Reps.one (show Kd.M Kd.string _ _ _ (⟨#[46, 99, 101, 32, 34, 97, 32, 98, 34, 32, 99]⟩ : ByteArray) [.string (⟨#[46, 99, 101, 32, 34, 97, 32, 98, 34, 32, 99]⟩ : ByteArray)] from rfl) (Reps.one (show Kd.M Kd.string _ _ _ (⟨#[46, 116, 97, 32, 49, 105, 32, 32, 50, 105, 9, 82]⟩ : ByteArray) [.string (⟨#[46, 116, 97, 32, 49, 105, 32, 32, 50, 105, 9, 82]⟩ : ByteArray)] from rfl) (Reps.one (show Kd.M Kd.string _ _ _ (⟨#[46, 110, 114, 32, 120, 32, 34, 34, 32]⟩ : ByteArray) [.string (⟨#[46, 110, 114, 32, 120, 32, 34, 34, 32]⟩ : ByteArray)] from rfl) (Reps.one (show Kd.M Kd.string _ _ _ (⟨#[46, 108, 108, 32, 51, 105, 32, 92]⟩ : ByteArray) [.string (⟨#[46, 108, 108, 32, 51, 105, 32, 92]⟩ : ByteArray)] from rfl) (Reps.one (show Kd.M Kd.string _ _ _ (⟨#[]⟩ : ByteArray) [.string (⟨#[]⟩ : ByteArray)] from rfl) (Reps.one (show Kd.M Kd.string _ _ _ (⟨#[32, 32, 32]⟩ : ByteArray) [.string (⟨#[32, 32, 32]⟩ : ByteArray)] from rfl) (Reps.one (show Kd.M Kd.string _ _ _ (⟨#[46, 100, 101]⟩ : ByteArray) [.string (⟨#[46, 100, 101]⟩ : ByteArray)] from rfl) (Reps.one (show Kd.M Kd.string _ _ _ (⟨#[46, 115, 112, 32, 34]⟩ : ByteArray) [.string (⟨#[46, 115, 112, 32, 34]⟩ : ByteArray)] from rfl) (Reps.one (show Kd.M Kd.string _ _ _ (⟨#[46, 105, 110, 32, 97, 92, 32]⟩ : ByteArray) [.string (⟨#[46, 105, 110, 32, 97, 92, 32]⟩ : ByteArray)] from rfl) (Reps.one (show Kd.M Kd.string _ _ _ (⟨#[39, 100, 101, 32, 113]⟩ : ByteArray) [.string (⟨#[39, 100, 101, 32, 113]⟩ : ByteArray)] from rfl) (Reps.one (show Kd.M Kd.string _ _ _ (⟨#[46, 9, 115, 112, 32, 51]⟩ : ByteArray) [.string (⟨#[46, 9, 115, 112, 32, 51]⟩ : ByteArray)] from rfl) (Reps.one (show Kd.M Kd.string _ _ _ (⟨#[46, 119, 104, 32, 45, 49, 105, 32, 92, 34, 110, 111, 116, 101]⟩ : ByteArray) [.string (⟨#[46, 119, 104, 32, 45, 49, 105, 32, 92, 34, 110, 111, 116, 101]⟩ : ByteArray)] from rfl) (Reps.one (show Kd.M Kd.string _ _ _ (⟨#[46, 100, 101, 120, 120]⟩ : ByteArray) [.string (⟨#[46, 100, 101, 120, 120]⟩ : ByteArray)] from rfl) (Reps.one (show Kd.M Kd.string _ _ _ (⟨#[46, 84, 83, 120]⟩ : ByteArray) [.string (⟨#[46, 84, 83, 120]⟩ : ByteArray)] from rfl) (Reps.none _ _))))))))))))))))))))))))))))))))))))))))))))))))))); intro v204 w1 ho2 hb hg_ hnew_; clear hg_ hnew_; (first | rw [← Ny203.out] at ho2 | (simp only [Int.reduceToNat] at ho2; rw [← Ny203.out] at ho2)); have n0_ := Aside0.mk (Kd.R_lower ho2 (below_size (by repeat (first | (with_reducible first | exact HB.out | apply below_alloc | apply pw_below_drewN | apply below_drew1) | exact HB.out)))); have n1_ := Aside0.mk (below_step (by repeat (first | (with_reducible first | exact HB.out | apply below_alloc | apply pw_below_drewN | apply below_drew1) | exact HB.out)) hb); clear HB; have HO205 := n0_; have HB := n1_; clear n0_ n1_; clear hb ho2))
 go_ret
 exact ⟨_, by first | rfl | (simp [errW_none, errW_some] <;> rfl) | (simp [*, errW_none, errW_some] <;> rfl), by (with_reducible repeat (first | apply Kd.R_alloc | apply Kd.R_drewN | apply Kd.R_drew)); exact HO205.out, by repeat (first | (with_reducible first | exact HB.out | apply below_alloc | apply pw_below_drewN | apply below_drew1) | exact HB.out)⟩

/-! ### frisketlaw37_Text: function 12 -/
mutual
def frisketlaw37_Text.l0 : Nat → List Int → List ByteArray → ByteArray → Int → Option (ByteArray)
 | 0, _, _, _, _ => none
 | k + 1, x0, x3, x4, x5 => if x5 < (x0.length : Int) then (frisketlaw37_Text.j1 k x0 x3 x4 x5 (decide (x5 < 80))) else (frisketlaw37_Text.j1 k x0 x3 x4 x5 false)
def frisketlaw37_Text.j1 : Nat → List Int → List ByteArray → ByteArray → Int → Bool → Option (ByteArray)
 | 0, _, _, _, _, _ => none
 | k + 1, x0, x3, x4, x5, x14 => if x14 = true then (if 0 ≤ x5 then (if x5 < (x0.length : Int) then (if (IntKind.u64.wrap ((x3.length : Int))) = 0 then (none) else (if 0 ≤ (wrap64 (Int.tmod (IntKind.u64.wrap (rd x0 x5)) (IntKind.u64.wrap ((x3.length : Int))))) then (if (wrap64 (Int.tmod (IntKind.u64.wrap (rd x0 x5)) (IntKind.u64.wrap ((x3.length : Int))))) < (x3.length : Int) then (if x4.size + (rdOf ByteArray.empty x3 (wrap64 (Int.tmod (IntKind.u64.wrap (rd x0 x5)) (IntKind.u64.wrap ((x3.length : Int)))))).size ≤ 9223372036854775807 then (if (wrap64 (x5 + 1)) < (x0.length : Int) then (if (x4 ++ (rdOf ByteArray.empty x3 (wrap64 (Int.tmod (IntKind.u64.wrap (rd x0 x5)) (IntKind.u64.wrap ((x3.length : Int))))))).size + 1 ≤ 9223372036854775807 then (frisketlaw37_Text.l0 k x0 x3 ((x4 ++ (rdOf ByteArray.empty x3 (wrap64 (Int.tmod (IntKind.u64.wrap (rd x0 x5)) (IntKind.u64.wrap ((x3.length : Int))))))) ++ (⟨#[10]⟩ : ByteArray)) (wrap64 (x5 + 1))) else (none)) else (if (Int.tmod (rd x0 x5) 5) = 0 then (frisketlaw37_Text.l0 k x0 x3 (x4 ++ (rdOf ByteArray.empty x3 (wrap64 (Int.tmod (IntKind.u64.wrap (rd x0 x5)) (IntKind.u64.wrap ((x3.length : Int))))))) (wrap64 (x5 + 1))) else (if (x4 ++ (rdOf ByteArray.empty x3 (wrap64 (Int.tmod (IntKind.u64.wrap (rd x0 x5)) (IntKind.u64.wrap ((x3.length : Int))))))).size + 1 ≤ 9223372036854775807 then (frisketlaw37_Text.l0 k x0 x3 ((x4 ++ (rdOf ByteArray.empty x3 (wrap64 (Int.tmod (IntKind.u64.wrap (rd x0 x5)) (IntKind.u64.wrap ((x3.length : Int))))))) ++ (⟨#[10]⟩ : ByteArray)) (wrap64 (x5 + 1))) else (none)))) else (none)) else (none)) else (none))) else (none)) else (none)) else (some x4)
end
def frisketlaw37_Text.f (k : Nat) (l0 : List Int) : Option (ByteArray) := (frisketlaw37_bits.f).bind fun t206 => (frisketlaw37_Text.l0 k l0 t206 (⟨#[]⟩ : ByteArray) 0)
theorem frisketlaw37_Text.mono_l : ∀ k, (∀ y0 y1 y2 y3, LeO (frisketlaw37_Text.l0 k y0 y1 y2 y3) (frisketlaw37_Text.l0 (k + 1) y0 y1 y2 y3)) ∧ (∀ y0 y1 y2 y3 y4, LeO (frisketlaw37_Text.j1 k y0 y1 y2 y3 y4) (frisketlaw37_Text.j1 (k + 1) y0 y1 y2 y3 y4))
 | 0 => ⟨fun _ _ _ _ r h => by simp [frisketlaw37_Text.l0] at h, fun _ _ _ _ _ r h => by simp [frisketlaw37_Text.j1] at h⟩
 | k + 1 => by
  obtain ⟨ih0, ih1⟩ := frisketlaw37_Text.mono_l k
  refine ⟨?_, ?_⟩
  ·intro y0 y1 y2 y3
   unfold frisketlaw37_Text.l0
   repeat' first
   | (with_reducible exact ih0 _ _ _ _)
   | (with_reducible exact ih1 _ _ _ _ _)
   | (with_reducible exact LeO.refl _)
   | (with_reducible exact LeO.none _)
   | (with_reducible refine LeO.ite ?_ ?_)
   | (with_reducible refine LeO.bind ?_ (fun _ => ?_))
   | exact ih0 _ _ _ _
   | exact ih1 _ _ _ _ _
   | exact LeO.none _
   | refine LeO.ite ?_ ?_
   | refine LeO.bind ?_ (fun _ => ?_)
  ·intro y0 y1 y2 y3 y4
   unfold frisketlaw37_Text.j1
   repeat' first
   | (with_reducible exact ih0 _ _ _ _)
   | (with_reducible exact ih1 _ _ _ _ _)
   | (with_reducible exact LeO.refl _)
   | (with_reducible exact LeO.none _)
   | (with_reducible refine LeO.ite ?_ ?_)
   | (with_reducible refine LeO.bind ?_ (fun _ => ?_))
   | exact ih0 _ _ _ _
   | exact ih1 _ _ _ _ _
   | exact LeO.none _
   | refine LeO.ite ?_ ?_
   | refine LeO.bind ?_ (fun _ => ?_)
theorem frisketlaw37_Text.mono : ∀ a0 k, LeO (frisketlaw37_Text.f k a0) (frisketlaw37_Text.f (k + 1) a0) := by
 intro a0 k
 obtain ⟨ih0, ih1⟩ := frisketlaw37_Text.mono_l k
 unfold frisketlaw37_Text.f
 repeat' first
   | (with_reducible exact ih0 _ _ _ _)
   | (with_reducible exact ih1 _ _ _ _ _)
   | (with_reducible exact LeO.refl _)
   | (with_reducible exact LeO.none _)
   | (with_reducible refine LeO.ite ?_ ?_)
   | (with_reducible refine LeO.bind ?_ (fun _ => ?_))
   | exact ih0 _ _ _ _
   | exact ih1 _ _ _ _ _
   | exact LeO.none _
   | refine LeO.ite ?_ ?_
   | refine LeO.bind ?_ (fun _ => ?_)
set_option maxHeartbeats 8000000 in
set_option maxRecDepth 100000 in
theorem frisketlaw37_Text.calls (k : Nat) (A0 : Option Addr) (c0 : Nat) (l0 : List Int) (r : ByteArray) (w : World) (hr0 : Kd.C (Kd.int .i64) w A0 l0.length l0) (hc0 : l0.length ≤ c0) (h : frisketlaw37_Text.f k l0 = some r) :
  Calls Tryz.prog 12 #[.slice A0 l0.length c0] w fun e w' => e = .returned (.string r) ∧ Below w.heap.size w w' := by
 have HR0 := Aside0.mk hr0
 have HC0 := Aside0.mk hc0
 clear hr0 hc0
 have HB := Aside0.mk (Below.refl w.heap.size w)
 have H : ((frisketlaw37_bits.f).bind fun t206 => (frisketlaw37_Text.l0 k l0 t206 (⟨#[]⟩ : ByteArray) 0)) = some r := h
 clear h
 replace H := Option.bind_eq_some_iff.mp H
 obtain ⟨t206, A20, H⟩ := H
 replace H : (frisketlaw37_Text.l0 k l0 t206 (⟨#[]⟩ : ByteArray) 0) = some r := H
 have A2 := Aside0.mk A20
 clear A20
 have H' := Aside0.mk H
 clear H
 go_enter Tryz.func12, Tryz.ntmps12
 go_wp2_with (first | ((with_reducible refine gate_callee (f := 9) rfl ?_); refine goesL_ (some 6) rfl rfl Tryz.func9 (by kernel_rfl) rfl #[] rfl (by (try simp only [List.map_toArray, List.map_cons, List.map_nil]); first | done | rfl | (simp only [List.length_drop, List.length_take]; rfl)) ?_; (with_reducible refine (frisketlaw37_bits.calls  t206 _ A2.out).mono ?_); rintro e w3 ⟨v207, rfl, ho0, hb⟩; refine ⟨_, rfl, ?_⟩; have n0_ := Aside0.mk (Kd.R_lower ho0 (below_size (by repeat (first | (with_reducible first | exact HB.out | apply below_alloc | apply pw_below_drewN | apply below_drew1) | exact HB.out)))); have n1_ := Aside0.mk (below_step (by repeat (first | (with_reducible first | exact HB.out | apply below_alloc | apply pw_below_drewN | apply below_drew1) | exact HB.out)) hb); clear HB; have HO208 := n0_; have HB := n1_; clear n0_ n1_; (try clear hb); (try clear hb2); (try clear hk); (try clear hi); (try clear ho0)))
 go_loopg [4, 5] k (fun kq v4 v5 w' => ∃ (x4_1 : ByteArray) (x5_1 : Int), v4 = .string x4_1 ∧ v5 = .int .i64 x5_1 ∧ Aside0 (frisketlaw37_Text.l0 kq l0 t206 x4_1 x5_1 = some r) ∧ Aside0 (kq ≤ k) ∧ Aside0 (Kd.R Kd.string 9 w' w.heap.size (fun _ => True) v207 t206) ∧ Aside0 (Below w.heap.size w w'))
 case atStart => exact ⟨((⟨#[]⟩ : ByteArray)), (0), (by first | rfl | (simp; done) | (simp [*]; done)), (by first | rfl | (simp; done) | (simp [*]; done)), H', ⟨Nat.le_refl _⟩, ⟨by (with_reducible repeat (first | apply Kd.R_alloc | apply Kd.R_drewN | apply Kd.R_drew)); exact HO208.out⟩, ⟨by repeat (first | (with_reducible first | exact HB.out | apply below_alloc | apply pw_below_drewN | apply below_drew1) | exact HB.out)⟩⟩
 case round =>
  clear H'
  try clear c1
  try clear p2
  obtain ⟨x4_1, x5_1, rfl, rfl, HA, HK1, HO_3, HB⟩ := hrel
  cases gk with
  | zero => exact absurd HA.out (by simp [frisketlaw37_Text.l0])
  | succ k1 =>
   have H := HA.out
   clear HA
   simp only [frisketlaw37_Text.l0] at H
   have HC4 := Aside0.mk H
   clear H
   go_upto_region 4 with (fail)
   go_cut [14] (fun v14 wc => ∃ (kq : Nat) (x14_3 : Bool), v14 = .bool x14_3 ∧ Aside0 (frisketlaw37_Text.j1 kq l0 t206 x4_1 x5_1 x14_3 = some r) ∧ Aside0 (kq ≤ k1) ∧ Aside0 (Kd.R Kd.string 9 wc w.heap.size (fun _ => True) v207 t206) ∧ Aside0 (Below w.heap.size w wc))
   case first =>
    have H := HC4.out
    clear HC4
    by_cases c5 : x5_1 < (l0.length : Int)
    ·rw [if_pos c5] at H
     have c5b0 : decide (x5_1 < (l0.length : Int)) = true := decide_eq_true c5
     clear c5
     (first | rw [c5b0] | (simp only [i64_w, i32_w]; rw [c5b0]) | skip)
     have H' := Aside0.mk H
     clear H
     go_wp2
     go_meet
     case rel => exact ⟨_, (decide (x5_1 < 80)), (by first | rfl | (simp; done) | (simp [*]; done)), H', ⟨by have := HK1.out; first | omega | exact Nat.le_refl _⟩, ⟨by (with_reducible repeat (first | apply Kd.R_alloc | apply Kd.R_drewN | apply Kd.R_drew)); exact HO_3.out⟩, ⟨by repeat (first | (with_reducible first | exact HB.out | apply below_alloc | apply pw_below_drewN | apply below_drew1) | exact HB.out)⟩⟩
    ·rw [if_neg c5] at H
     have c5b0 : decide (x5_1 < (l0.length : Int)) = false := decide_eq_false c5
     clear c5
     (first | rw [c5b0] | (simp only [i64_w, i32_w]; rw [c5b0]) | skip)
     have H' := Aside0.mk H
     clear H
     go_wp2
     go_meet
     case rel => exact ⟨_, (false), (by first | rfl | (simp; done) | (simp [*]; done)), H', ⟨by have := HK1.out; first | omega | exact Nat.le_refl _⟩, ⟨by (with_reducible repeat (first | apply Kd.R_alloc | apply Kd.R_drewN | apply Kd.R_drew)); exact HO_3.out⟩, ⟨by repeat (first | (with_reducible first | exact HB.out | apply below_alloc | apply pw_below_drewN | apply below_drew1) | exact HB.out)⟩⟩
   case rest =>
    clear HC4
    try clear c1
    try clear p2
    try clear c5
    try clear c5b0
    try clear p2
    obtain ⟨kq, x14_3, rfl, HA, HJ3, HO_3, HB⟩ := hcut
    cases kq with
    | zero => exact absurd HA.out (by simp [frisketlaw37_Text.j1])
    | succ kj3 =>
     have H := HA.out
     clear HA
     simp only [frisketlaw37_Text.j1] at H
     by_cases c6 : x14_3 = true
     ·subst c6
      have H1 : (if 0 ≤ x5_1 then (if x5_1 < (l0.length : Int) then (if (IntKind.u64.wrap ((t206.length : Int))) = 0 then (none) else (if 0 ≤ (wrap64 (Int.tmod (IntKind.u64.wrap (rd l0 x5_1)) (IntKind.u64.wrap ((t206.length : Int))))) then (if (wrap64 (Int.tmod (IntKind.u64.wrap (rd l0 x5_1)) (IntKind.u64.wrap ((t206.length : Int))))) < (t206.length : Int) then (if x4_1.size + (rdOf ByteArray.empty t206 (wrap64 (Int.tmod (IntKind.u64.wrap (rd l0 x5_1)) (IntKind.u64.wrap ((t206.length : Int)))))).size ≤ 9223372036854775807 then (if (wrap64 (x5_1 + 1)) < (l0.length : Int) then (if (x4_1 ++ (rdOf ByteArray.empty t206 (wrap64 (Int.tmod (IntKind.u64.wrap (rd l0 x5_1)) (IntKind.u64.wrap ((t206.length : Int))))))).size + 1 ≤ 9223372036854775807 then (frisketlaw37_Text.l0 kj3 l0 t206 ((x4_1 ++ (rdOf ByteArray.empty t206 (wrap64 (Int.tmod (IntKind.u64.wrap (rd l0 x5_1)) (IntKind.u64.wrap ((t206.length : Int))))))) ++ (⟨#[10]⟩ : ByteArray)) (wrap64 (x5_1 + 1))) else (none)) else (if (Int.tmod (rd l0 x5_1) 5) = 0 then (frisketlaw37_Text.l0 kj3 l0 t206 (x4_1 ++ (rdOf ByteArray.empty t206 (wrap64 (Int.tmod (IntKind.u64.wrap (rd l0 x5_1)) (IntKind.u64.wrap ((t206.length : Int))))))) (wrap64 (x5_1 + 1))) else (if (x4_1 ++ (rdOf ByteArray.empty t206 (wrap64 (Int.tmod (IntKind.u64.wrap (rd l0 x5_1)) (IntKind.u64.wrap ((t206.length : Int))))))).size + 1 ≤ 9223372036854775807 then (frisketlaw37_Text.l0 kj3 l0 t206 ((x4_1 ++ (rdOf ByteArray.empty t206 (wrap64 (Int.tmod (IntKind.u64.wrap (rd l0 x5_1)) (IntKind.u64.wrap ((t206.length : Int))))))) ++ (⟨#[10]⟩ : ByteArray)) (wrap64 (x5_1 + 1))) else (none)))) else (none)) else (none)) else (none))) else (none)) else (none)) = some r := by rw [if_pos rfl] at H; exact H
      clear H
      have H := H1
      clear H1
      by_cases c7 : 0 ≤ x5_1
      ·rw [if_pos c7] at H
       have c7b0 : decide (0 ≤ x5_1) = true := decide_eq_true c7
       clear c7
       by_cases c8 : x5_1 < (l0.length : Int)
       ·rw [if_pos c8] at H
        have c8b0 : decide (x5_1 < (l0.length : Int)) = true := decide_eq_true c8
        clear c8
        by_cases c9 : (IntKind.u64.wrap ((t206.length : Int))) = 0
        ·rw [if_pos c9] at H
         exact absurd H (by simp)
        ·rw [if_neg c9] at H
         have c9b0 : ((IntKind.u64.wrap ((t206.length : Int))) == 0) = false := beq_eq_false_iff_ne.mpr c9
         have c9b1 : ((IntKind.u64.wrap ((t206.length : Int))) != 0) = true := bne_iff_ne.mpr c9
         obtain ⟨ji10, hji10⟩ : ∃ j_ : Int, (wrap64 (Int.tmod (IntKind.u64.wrap (rd l0 x5_1)) (IntKind.u64.wrap ((t206.length : Int))))) = j_ := ⟨_, rfl⟩
         replace H : (if 0 ≤ (ji10) then (if (ji10) < (t206.length : Int) then (if x4_1.size + (rdOf ByteArray.empty t206 (ji10)).size ≤ 9223372036854775807 then (if (wrap64 (x5_1 + 1)) < (l0.length : Int) then (if (x4_1 ++ (rdOf ByteArray.empty t206 (ji10))).size + 1 ≤ 9223372036854775807 then (frisketlaw37_Text.l0 kj3 l0 t206 ((x4_1 ++ (rdOf ByteArray.empty t206 (ji10))) ++ (⟨#[10]⟩ : ByteArray)) (wrap64 (x5_1 + 1))) else (none)) else (if (Int.tmod (rd l0 x5_1) 5) = 0 then (frisketlaw37_Text.l0 kj3 l0 t206 (x4_1 ++ (rdOf ByteArray.empty t206 (ji10))) (wrap64 (x5_1 + 1))) else (if (x4_1 ++ (rdOf ByteArray.empty t206 (ji10))).size + 1 ≤ 9223372036854775807 then (frisketlaw37_Text.l0 kj3 l0 t206 ((x4_1 ++ (rdOf ByteArray.empty t206 (ji10))) ++ (⟨#[10]⟩ : ByteArray)) (wrap64 (x5_1 + 1))) else (none)))) else (none)) else (none)) else (none)) = some r := by first | (rw [hji10] at H; exact H) | (simp only [hji10] at H ⊢; exact H)
         have hji10w : (IntKind.i64.wrap (Int.tmod (IntKind.u64.wrap (rd l0 x5_1)) (IntKind.u64.wrap ((t206.length : Int))))) = ji10 := (i64_w _).trans hji10
         by_cases c11 : 0 ≤ (ji10)
         ·rw [if_pos c11] at H
          have c11b0 : decide (0 ≤ (ji10)) = true := decide_eq_true c11
          clear c11
          by_cases c12 : (ji10) < (t206.length : Int)
          ·rw [if_pos c12] at H
           have c12b0 : decide ((ji10) < (t206.length : Int)) = true := decide_eq_true c12
           clear c12
           by_cases c13 : x4_1.size + (rdOf ByteArray.empty t206 (ji10)).size ≤ 9223372036854775807
           ·rw [if_pos c13] at H
            have c13b0 := eq_true c13
            have c13b1 : decide (x4_1.size + (rdOf ByteArray.empty t206 (ji10)).size ≤ 9223372036854775807) = true := decide_eq_true c13
            try have c13b2 : (9223372036854775807 < x4_1.size + (rdOf ByteArray.empty t206 (ji10)).size) = False := eq_false (Nat.not_lt.2 c13)
            try (have c13b3 := c13b2; simp only [ByteArray.size_append, bsz, List.length_cons, List.length_nil, Nat.zero_add, Nat.reduceAdd] at c13b3)
            by_cases c14 : (wrap64 (x5_1 + 1)) < (l0.length : Int)
            ·rw [if_pos c14] at H
             have c14b0 : decide ((wrap64 (x5_1 + 1)) < (l0.length : Int)) = true := decide_eq_true c14
             clear c14
             by_cases c15 : (x4_1 ++ (rdOf ByteArray.empty t206 (ji10))).size + 1 ≤ 9223372036854775807
             ·rw [if_pos c15] at H
              have c15b0 := eq_true c15
              have c15b1 : decide ((x4_1 ++ (rdOf ByteArray.empty t206 (ji10))).size + 1 ≤ 9223372036854775807) = true := decide_eq_true c15
              try have c15b2 : (9223372036854775807 < (x4_1 ++ (rdOf ByteArray.empty t206 (ji10))).size + 1) = False := eq_false (Nat.not_lt.2 c15)
              try (have c15b3 := c15b2; simp only [ByteArray.size_append, bsz, List.length_cons, List.length_nil, Nat.zero_add, Nat.reduceAdd] at c15b3)
              have H' := Aside0.mk H
              clear H
              have p209 : 0 ≤ (x5_1 : Int) := of_decide_eq_true (by first | (with_reducible assumption) | assumption)
              have q209 : x5_1 < (l0.length : Int) := of_decide_eq_true (by first | (with_reducible assumption) | assumption)
              obtain ⟨ad209, e209, hx209_0⟩ := Kd.at_int HR0.out x5_1 p209 q209
              cases e209
              replace hx209_0 := (HB.out.cell (World.block_lt_of_cell? w _ hx209_0)).trans hx209_0
              replace p209 := eq_true p209
              replace q209 := eq_true q209
              obtain ⟨Ao16, co16, eo16⟩ := Kd.R_slice HO_3.out
              subst eo16
              have p210 : 0 ≤ ((ji10) : Int) := of_decide_eq_true (by first | (with_reducible assumption) | assumption)
              have q210 : (ji10) < (t206.length : Int) := of_decide_eq_true (by first | (with_reducible assumption) | assumption)
              obtain ⟨ad210, e210, hx210_0⟩ := Kd.at_string (Kd.R_reads' HO_3.out).2.2 (ji10) p210 q210
              cases e210
              replace p210 := eq_true p210
              replace q210 := eq_true q210
              go_wp2
              go_roundg kj3
              case measure => have := HK1.out; have := HJ3.out; omega
              case rel => exact ⟨((x4_1 ++ (rdOf ByteArray.empty t206 (ji10))) ++ (⟨#[10]⟩ : ByteArray)), (wrap64 (x5_1 + 1)), (by first | rfl | (simp; done) | (simp only [← hji10] <;> (first | rfl | simp)) | (simp [*]; done)), (by first | rfl | (simp; done) | (simp [*]; done)), H', ⟨by have := HK1.out; have := HJ3.out; omega⟩, ⟨by (with_reducible repeat (first | apply Kd.R_alloc | apply Kd.R_drewN | apply Kd.R_drew)); exact HO_3.out⟩, ⟨by repeat (first | (with_reducible first | exact HB.out | apply below_alloc | apply pw_below_drewN | apply below_drew1) | exact HB.out)⟩⟩
             ·rw [if_neg c15] at H
              exact absurd H (by simp)
            ·rw [if_neg c14] at H
             have c14b0 : decide ((wrap64 (x5_1 + 1)) < (l0.length : Int)) = false := decide_eq_false c14
             clear c14
             by_cases c17 : (Int.tmod (rd l0 x5_1) 5) = 0
             ·rw [if_pos c17] at H
              have c17b0 : ((Int.tmod (rd l0 x5_1) 5) == 0) = true := beq_iff_eq.mpr c17
              have c17b1 : ((Int.tmod (rd l0 x5_1) 5) != 0) = false := bne_eq_false_iff_eq.mpr c17
              clear c17
              have H' := Aside0.mk H
              clear H
              have p209 : 0 ≤ (x5_1 : Int) := of_decide_eq_true (by first | (with_reducible assumption) | assumption)
              have q209 : x5_1 < (l0.length : Int) := of_decide_eq_true (by first | (with_reducible assumption) | assumption)
              obtain ⟨ad209, e209, hx209_0⟩ := Kd.at_int HR0.out x5_1 p209 q209
              cases e209
              replace hx209_0 := (HB.out.cell (World.block_lt_of_cell? w _ hx209_0)).trans hx209_0
              replace p209 := eq_true p209
              replace q209 := eq_true q209
              obtain ⟨Ao18, co18, eo18⟩ := Kd.R_slice HO_3.out
              subst eo18
              have p210 : 0 ≤ ((ji10) : Int) := of_decide_eq_true (by first | (with_reducible assumption) | assumption)
              have q210 : (ji10) < (t206.length : Int) := of_decide_eq_true (by first | (with_reducible assumption) | assumption)
              obtain ⟨ad210, e210, hx210_0⟩ := Kd.at_string (Kd.R_reads' HO_3.out).2.2 (ji10) p210 q210
              cases e210
              replace p210 := eq_true p210
              replace q210 := eq_true q210
              have p211 : 0 ≤ (x5_1 : Int) := of_decide_eq_true (by first | (with_reducible assumption) | assumption)
              have q211 : x5_1 < (l0.length : Int) := of_decide_eq_true (by first | (with_reducible assumption) | assumption)
              obtain ⟨ad211, e211, hx211_0⟩ := Kd.at_int HR0.out x5_1 p211 q211
              obtain rfl : ad209 = ad211 := (by injection e211)
              replace hx211_0 := (HB.out.cell (World.block_lt_of_cell? w _ hx211_0)).trans hx211_0
              replace p211 := eq_true p211
              replace q211 := eq_true q211
              go_wp2
              go_roundg kj3
              case measure => have := HK1.out; have := HJ3.out; omega
              case rel => exact ⟨(x4_1 ++ (rdOf ByteArray.empty t206 (ji10))), (wrap64 (x5_1 + 1)), (by first | rfl | (simp; done) | (simp only [← hji10] <;> (first | rfl | simp)) | (simp [*]; done)), (by first | rfl | (simp; done) | (simp [*]; done)), H', ⟨by have := HK1.out; have := HJ3.out; omega⟩, ⟨by (with_reducible repeat (first | apply Kd.R_alloc | apply Kd.R_drewN | apply Kd.R_drew)); exact HO_3.out⟩, ⟨by repeat (first | (with_reducible first | exact HB.out | apply below_alloc | apply pw_below_drewN | apply below_drew1) | exact HB.out)⟩⟩
             ·rw [if_neg c17] at H
              have c17b0 : ((Int.tmod (rd l0 x5_1) 5) == 0) = false := beq_eq_false_iff_ne.mpr c17
              have c17b1 : ((Int.tmod (rd l0 x5_1) 5) != 0) = true := bne_iff_ne.mpr c17
              by_cases c19 : (x4_1 ++ (rdOf ByteArray.empty t206 (ji10))).size + 1 ≤ 9223372036854775807
              ·rw [if_pos c19] at H
               have c19b0 := eq_true c19
               have c19b1 : decide ((x4_1 ++ (rdOf ByteArray.empty t206 (ji10))).size + 1 ≤ 9223372036854775807) = true := decide_eq_true c19
               try have c19b2 : (9223372036854775807 < (x4_1 ++ (rdOf ByteArray.empty t206 (ji10))).size + 1) = False := eq_false (Nat.not_lt.2 c19)
               try (have c19b3 := c19b2; simp only [ByteArray.size_append, bsz, List.length_cons, List.length_nil, Nat.zero_add, Nat.reduceAdd] at c19b3)
               have H' := Aside0.mk H
               clear H
               have p209 : 0 ≤ (x5_1 : Int) := of_decide_eq_true (by first | (with_reducible assumption) | assumption)
               have q209 : x5_1 < (l0.length : Int) := of_decide_eq_true (by first | (with_reducible assumption) | assumption)
               obtain ⟨ad209, e209, hx209_0⟩ := Kd.at_int HR0.out x5_1 p209 q209
               cases e209
               replace hx209_0 := (HB.out.cell (World.block_lt_of_cell? w _ hx209_0)).trans hx209_0
               replace p209 := eq_true p209
               replace q209 := eq_true q209
               obtain ⟨Ao20, co20, eo20⟩ := Kd.R_slice HO_3.out
               subst eo20
               have p210 : 0 ≤ ((ji10) : Int) := of_decide_eq_true (by first | (with_reducible assumption) | assumption)
               have q210 : (ji10) < (t206.length : Int) := of_decide_eq_true (by first | (with_reducible assumption) | assumption)
               obtain ⟨ad210, e210, hx210_0⟩ := Kd.at_string (Kd.R_reads' HO_3.out).2.2 (ji10) p210 q210
               cases e210
               replace p210 := eq_true p210
               replace q210 := eq_true q210
               have p211 : 0 ≤ (x5_1 : Int) := of_decide_eq_true (by first | (with_reducible assumption) | assumption)
               have q211 : x5_1 < (l0.length : Int) := of_decide_eq_true (by first | (with_reducible assumption) | assumption)
               obtain ⟨ad211, e211, hx211_0⟩ := Kd.at_int HR0.out x5_1 p211 q211
               obtain rfl : ad209 = ad211 := (by injection e211)
               replace hx211_0 := (HB.out.cell (World.block_lt_of_cell? w _ hx211_0)).trans hx211_0
               replace p211 := eq_true p211
               replace q211 := eq_true q211
               go_wp2
               go_roundg kj3
               case measure => have := HK1.out; have := HJ3.out; omega
               case rel => exact ⟨((x4_1 ++ (rdOf ByteArray.empty t206 (ji10))) ++ (⟨#[10]⟩ : ByteArray)), (wrap64 (x5_1 + 1)), (by first | rfl | (simp; done) | (simp only [← hji10] <;> (first | rfl | simp)) | (simp [*]; done)), (by first | rfl | (simp; done) | (simp [*]; done)), H', ⟨by have := HK1.out; have := HJ3.out; omega⟩, ⟨by (with_reducible repeat (first | apply Kd.R_alloc | apply Kd.R_drewN | apply Kd.R_drew)); exact HO_3.out⟩, ⟨by repeat (first | (with_reducible first | exact HB.out | apply below_alloc | apply pw_below_drewN | apply below_drew1) | exact HB.out)⟩⟩
              ·rw [if_neg c19] at H
               exact absurd H (by simp)
           ·rw [if_neg c13] at H
            exact absurd H (by simp)
          ·rw [if_neg c12] at H
           exact absurd H (by simp)
         ·rw [if_neg c11] at H
          exact absurd H (by simp)
       ·rw [if_neg c8] at H
        exact absurd H (by simp)
      ·rw [if_neg c7] at H
       exact absurd H (by simp)
     ·replace c6 := Bool.eq_false_iff.mpr c6
      subst c6
      have H1 : (some x4_1) = some r := by rw [if_neg (show ¬ (false = true) by decide)] at H; exact H
      clear H
      have H := H1
      clear H1
      obtain rfl := Option.some.inj H
      go_wp2
      go_ret
      exact ⟨by first | rfl | (simp [errW_none, errW_some] <;> rfl) | (simp [*, errW_none, errW_some] <;> rfl), by repeat (first | (with_reducible first | exact HB.out | apply below_alloc | apply pw_below_drewN | apply below_drew1) | exact HB.out)⟩

/-! ### frisketref05_Lines: function 15 -/
def frisketref05_Lines.l0 : Nat → ByteArray → List ByteArray → Int → Int → Option (List ByteArray)
 | 0, _, _, _, _ => none
 | k + 1, x0, x3, x4, x5 => if x5 < (x0.size : Int) then (if 0 ≤ x5 then (if (bt x0 x5) = 10 then (if 0 ≤ x4 then (if x4 ≤ x5 then (if x5 ≤ (x0.size : Int) then (if x3.length < 8796093022208 then (frisketref05_Lines.l0 k x0 (x3 ++ [x0.extract (x4 : Int).toNat (x5 : Int).toNat]) (wrap64 (x5 + 1)) (wrap64 (x5 + 1))) else (none)) else (none)) else (none)) else (none)) else (frisketref05_Lines.l0 k x0 x3 x4 (wrap64 (x5 + 1)))) else (none)) else (if x4 < (x0.size : Int) then (if 0 ≤ x4 then (if x4 ≤ (x0.size : Int) then (if x3.length < 8796093022208 then (some (x3 ++ [x0.extract (x4 : Int).toNat x0.size])) else (none)) else (none)) else (none)) else (some x3))
def frisketref05_Lines.f (k : Nat) (a0 : ByteArray) : Option (List ByteArray) := frisketref05_Lines.l0 k a0 ([] : List ByteArray) 0 0
theorem frisketref05_Lines.mono_l : ∀ k, (∀ y0 y1 y2 y3, LeO (frisketref05_Lines.l0 k y0 y1 y2 y3) (frisketref05_Lines.l0 (k + 1) y0 y1 y2 y3))
 | 0 => fun _ _ _ _ r h => by simp [frisketref05_Lines.l0] at h
 | k + 1 => by
  have ih0 := frisketref05_Lines.mono_l k
  ·intro y0 y1 y2 y3
   unfold frisketref05_Lines.l0
   repeat' first
   | (with_reducible exact ih0 _ _ _ _)
   | (with_reducible exact LeO.refl _)
   | (with_reducible exact LeO.none _)
   | (with_reducible refine LeO.ite ?_ ?_)
   | (with_reducible refine LeO.bind ?_ (fun _ => ?_))
   | exact ih0 _ _ _ _
   | exact LeO.none _
   | refine LeO.ite ?_ ?_
   | refine LeO.bind ?_ (fun _ => ?_)
theorem frisketref05_Lines.mono : ∀ a0 k, LeO (frisketref05_Lines.f k a0) (frisketref05_Lines.f (k + 1) a0) := by
 intro a0 k
 have ih0 := frisketref05_Lines.mono_l k
 unfold frisketref05_Lines.f
 repeat' first
   | (with_reducible exact ih0 _ _ _ _)
   | (with_reducible exact LeO.refl _)
   | (with_reducible exact LeO.none _)
   | (with_reducible refine LeO.ite ?_ ?_)
   | (with_reducible refine LeO.bind ?_ (fun _ => ?_))
   | exact ih0 _ _ _ _
   | exact LeO.none _
   | refine LeO.ite ?_ ?_
   | refine LeO.bind ?_ (fun _ => ?_)
set_option maxHeartbeats 8000000 in
set_option maxRecDepth 100000 in
theorem frisketref05_Lines.calls (k : Nat) (a0 : ByteArray) (r : List ByteArray) (w : World) (h : frisketref05_Lines.f k a0 = some r) :
  Calls Tryz.prog 15 #[.string a0] w fun e w' => ∃ v0_ : Value, e = .returned (v0_) ∧ Kd.R Kd.string 9 w' w.heap.size (fun _ => True) v0_ r ∧ Below w.heap.size w w' := by
 have HB := Aside0.mk (Below.refl w.heap.size w)
 have H : (frisketref05_Lines.l0 k a0 ([] : List ByteArray) 0 0) = some r := h
 clear h
 have H' := Aside0.mk H
 clear H
 go_enter Tryz.func15, Tryz.ntmps15
 go_wp2
 go_loopg [3, 4, 5] k (fun kq v3 v4 v5 w' => ∃ (x3_1 : List ByteArray) (x4_1 : Int) (x5_1 : Int), v4 = .int .i64 x4_1 ∧ v5 = .int .i64 x5_1 ∧ Aside0 (frisketref05_Lines.l0 kq a0 x3_1 x4_1 x5_1 = some r) ∧ Aside0 (kq ≤ k) ∧ Aside0 (Kd.R Kd.string 9 w' w.heap.size (fun _ => True) v3 x3_1) ∧ Aside0 (Below w.heap.size w w'))
 case atStart => exact ⟨(([] : List ByteArray)), (0), (0), (by first | rfl | (simp; done) | (simp [*]; done)), (by first | rfl | (simp; done) | (simp [*]; done)), H', ⟨Nat.le_refl _⟩, ⟨by first | exact Kd.R_nil _ _ _ _ _ | exact Kd.N_nil _ _ _ _ _ | exact Kd.V_nil _ _ _ _ _ | exact Kd.Q_nil _ _ _ _ _ | exact Kd.S_nil _ _ _ _ _⟩, ⟨by repeat (first | (with_reducible first | exact HB.out | apply below_alloc | apply pw_below_drewN | apply below_drew1) | exact HB.out)⟩⟩
 case round =>
  clear H'
  try clear c1
  obtain ⟨x3_1, x4_1, x5_1, rfl, rfl, HA, HK1, HO_3, HB⟩ := hrel
  cases gk with
  | zero => exact absurd HA.out (by simp [frisketref05_Lines.l0])
  | succ k1 =>
   have H := HA.out
   clear HA
   simp only [frisketref05_Lines.l0] at H
   by_cases c2 : x5_1 < (a0.size : Int)
   ·rw [if_pos c2] at H
    have c2b0 : decide (x5_1 < (a0.size : Int)) = true := decide_eq_true c2
    clear c2
    by_cases c3 : 0 ≤ x5_1
    ·rw [if_pos c3] at H
     have c3b0 : decide (0 ≤ x5_1) = true := decide_eq_true c3
     clear c3
     by_cases c5 : (bt a0 x5_1) = 10
     ·rw [if_pos c5] at H
      have c5b0 : ((bt a0 x5_1) == 10) = true := beq_iff_eq.mpr c5
      have c5b1 : ((bt a0 x5_1) != 10) = false := bne_eq_false_iff_eq.mpr c5
      clear c5
      by_cases c6 : 0 ≤ x4_1
      ·rw [if_pos c6] at H
       have c6b0 := eq_true c6
       have c6b1 : decide (0 ≤ x4_1) = true := decide_eq_true c6
       clear c6
       by_cases c7 : x4_1 ≤ x5_1
       ·rw [if_pos c7] at H
        have c7b0 := eq_true c7
        have c7b1 : decide (x4_1 ≤ x5_1) = true := decide_eq_true c7
        clear c7
        by_cases c8 : x5_1 ≤ (a0.size : Int)
        ·rw [if_pos c8] at H
         have c8b0 := eq_true c8
         have c8b1 : decide (x5_1 ≤ (a0.size : Int)) = true := decide_eq_true c8
         clear c8
         by_cases c9 : x3_1.length < 8796093022208
         ·rw [if_pos c9] at H
          have LMc9 := Aside0.mk c9
          clear c9
          obtain ⟨y212, hy212⟩ : ∃ y_ : List ByteArray, y_ = (x3_1 ++ [a0.extract (x4_1 : Int).toNat (x5_1 : Int).toNat]) := ⟨_, rfl⟩
          replace H : (frisketref05_Lines.l0 k1 a0 y212 (wrap64 (x5_1 + 1)) (wrap64 (x5_1 + 1))) = some r := by first | (rw [hy212]; with_reducible exact H) | (have H2_ := (Option.bind_some _ _).symm.trans H; rw [hy212]; with_reducible exact H2_) | (have H2_ := (Option.bind_some _ _).symm.trans H; with_reducible exact H2_) | with_reducible exact H | (rw [hy212]; exact H) | exact H
          have Ny212 := Aside0.mk hy212
          clear hy212
          have H' := Aside0.mk H
          clear H
          have p4 : 0 ≤ (x5_1 : Int) := of_decide_eq_true (by first | (with_reducible assumption) | assumption)
          have q4 : x5_1 < (a0.size : Int) := of_decide_eq_true (by first | (with_reducible assumption) | assumption)
          have hx4 := bt_at a0 x5_1
          replace p4 := eq_true p4
          replace q4 := eq_true q4
          go_wp2_with (first | ((with_reducible refine gate_builtin (b := .append) (xs := #[.tmp 16, .tmp 21]) rfl ?_); at_builtin; refine Kd.R_append Kd.string (w0 := w) w.heap.size rfl (.tmp 16) (.tmp 21) 23 9 (.string ⟨#[]⟩) 16 rfl Tryz.underlying23 info9 rfl (by decide) (by omega) u3 x3_1 (a0.extract (x4_1 : Int).toNat (x5_1 : Int).toNat) [.string (a0.extract (x4_1 : Int).toNat (x5_1 : Int).toNat)] (fun _ => True) (fun _ => False) rfl rfl ?aP (fun _ hk => hk.elim) ?aF ?aO ?aB ?aS ?aL ?_; (case aP => exact rfl); (case aB => exact (by repeat (first | (with_reducible first | exact HB.out | apply below_alloc | apply pw_below_drewN | apply below_drew1) | exact HB.out))); (case aF => exact (fun _ _ => trivial)); (case aO => exact (by (with_reducible repeat (first | apply Kd.R_alloc | apply Kd.R_drewN | apply Kd.R_drew)); exact HO_3.out)); (case aS => exact (below_size (by repeat (first | (with_reducible first | exact HB.out | apply below_alloc | apply pw_below_drewN | apply below_drew1) | exact HB.out)))); (case aL => have := LMc9.out; omega); intro v213 w10 ho hb hg hat; rw [← Ny212.out] at ho; have n0_ := Aside0.mk (hb); have n1_ := Aside0.mk (ho); clear HB; clear HO_3; have HB := n0_; have HO214 := n1_; clear n0_ n1_; clear ho hb hg hat))
          go_roundg k1
          case measure => have := HK1.out; omega
          case rel => exact ⟨(y212), (wrap64 (x5_1 + 1)), (wrap64 (x5_1 + 1)), (by first | rfl | (simp; done) | (simp [*]; done)), (by first | rfl | (simp; done) | (simp [*]; done)), H', ⟨by have := HK1.out; omega⟩, ⟨by (with_reducible repeat (first | apply Kd.R_alloc | apply Kd.R_drewN | apply Kd.R_drew)); exact HO214.out⟩, ⟨by repeat (first | (with_reducible first | exact HB.out | apply below_alloc | apply pw_below_drewN | apply below_drew1) | exact HB.out)⟩⟩
         ·rw [if_neg c9] at H
          exact absurd H (by simp)
        ·rw [if_neg c8] at H
         exact absurd H (by simp)
       ·rw [if_neg c7] at H
        exact absurd H (by simp)
      ·rw [if_neg c6] at H
       exact absurd H (by simp)
     ·rw [if_neg c5] at H
      have c5b0 : ((bt a0 x5_1) == 10) = false := beq_eq_false_iff_ne.mpr c5
      have c5b1 : ((bt a0 x5_1) != 10) = true := bne_iff_ne.mpr c5
      have H' := Aside0.mk H
      clear H
      have p4 : 0 ≤ (x5_1 : Int) := of_decide_eq_true (by first | (with_reducible assumption) | assumption)
      have q4 : x5_1 < (a0.size : Int) := of_decide_eq_true (by first | (with_reducible assumption) | assumption)
      have hx4 := bt_at a0 x5_1
      replace p4 := eq_true p4
      replace q4 := eq_true q4
      go_wp2
      go_roundg k1
      case measure => have := HK1.out; omega
      case rel => exact ⟨(x3_1), (x4_1), (wrap64 (x5_1 + 1)), (by first | rfl | (simp; done) | (simp [*]; done)), (by first | rfl | (simp; done) | (simp [*]; done)), H', ⟨by have := HK1.out; omega⟩, ⟨by (with_reducible repeat (first | apply Kd.R_alloc | apply Kd.R_drewN | apply Kd.R_drew)); exact HO_3.out⟩, ⟨by repeat (first | (with_reducible first | exact HB.out | apply below_alloc | apply pw_below_drewN | apply below_drew1) | exact HB.out)⟩⟩
    ·rw [if_neg c3] at H
     exact absurd H (by simp)
   ·rw [if_neg c2] at H
    have c2b0 : decide (x5_1 < (a0.size : Int)) = false := decide_eq_false c2
    clear c2
    by_cases c11 : x4_1 < (a0.size : Int)
    ·rw [if_pos c11] at H
     have c11b0 : decide (x4_1 < (a0.size : Int)) = true := decide_eq_true c11
     clear c11
     by_cases c12 : 0 ≤ x4_1
     ·rw [if_pos c12] at H
      have c12b0 := eq_true c12
      have c12b1 : decide (0 ≤ x4_1) = true := decide_eq_true c12
      clear c12
      by_cases c13 : x4_1 ≤ (a0.size : Int)
      ·rw [if_pos c13] at H
       have c13b0 := eq_true c13
       have c13b1 : decide (x4_1 ≤ (a0.size : Int)) = true := decide_eq_true c13
       clear c13
       by_cases c14 : x3_1.length < 8796093022208
       ·rw [if_pos c14] at H
        have LMc14 := Aside0.mk c14
        clear c14
        obtain ⟨y215, hy215⟩ : ∃ y_ : List ByteArray, y_ = (x3_1 ++ [a0.extract (x4_1 : Int).toNat a0.size]) := ⟨_, rfl⟩
        replace H : (some y215) = some r := by first | (rw [hy215]; with_reducible exact H) | (have H2_ := (Option.bind_some _ _).symm.trans H; rw [hy215]; with_reducible exact H2_) | (have H2_ := (Option.bind_some _ _).symm.trans H; with_reducible exact H2_) | with_reducible exact H | (rw [hy215]; exact H) | exact H
        have Ny215 := Aside0.mk hy215
        clear hy215
        obtain rfl := Option.some.inj H
        go_wp2_with (first | ((with_reducible refine gate_builtin (b := .append) (xs := #[.tmp 29, .tmp 33]) rfl ?_); at_builtin; refine Kd.R_append Kd.string (w0 := w) w.heap.size rfl (.tmp 29) (.tmp 33) 23 9 (.string ⟨#[]⟩) 16 rfl Tryz.underlying23 info9 rfl (by decide) (by omega) u3 x3_1 (a0.extract (x4_1 : Int).toNat a0.size) [.string (a0.extract (x4_1 : Int).toNat a0.size)] (fun _ => True) (fun _ => False) rfl rfl ?aP (fun _ hk => hk.elim) ?aF ?aO ?aB ?aS ?aL ?_; (case aP => exact rfl); (case aB => exact (by repeat (first | (with_reducible first | exact HB.out | apply below_alloc | apply pw_below_drewN | apply below_drew1) | exact HB.out))); (case aF => exact (fun _ _ => trivial)); (case aO => exact (by (with_reducible repeat (first | apply Kd.R_alloc | apply Kd.R_drewN | apply Kd.R_drew)); exact HO_3.out)); (case aS => exact (below_size (by repeat (first | (with_reducible first | exact HB.out | apply below_alloc | apply pw_below_drewN | apply below_drew1) | exact HB.out)))); (case aL => have := LMc14.out; omega); intro v216 w15 ho hb hg hat; rw [← Ny215.out] at ho; have n0_ := Aside0.mk (hb); have n1_ := Aside0.mk (ho); clear HB; clear HO_3; have HB := n0_; have HO217 := n1_; clear n0_ n1_; clear ho hb hg hat))
        go_ret
        exact ⟨_, by first | rfl | (simp [errW_none, errW_some] <;> rfl) | (simp [*, errW_none, errW_some] <;> rfl), by (with_reducible repeat (first | apply Kd.R_alloc | apply Kd.R_drewN | apply Kd.R_drew)); exact HO217.out, by repeat (first | (with_reducible first | exact HB.out | apply below_alloc | apply pw_below_drewN | apply below_drew1) | exact HB.out)⟩
       ·rw [if_neg c14] at H
        exact absurd H (by simp)
      ·rw [if_neg c13] at H
       exact absurd H (by simp)
     ·rw [if_neg c12] at H
      exact absurd H (by simp)
    ·rw [if_neg c11] at H
     have c11b0 : decide (x4_1 < (a0.size : Int)) = false := decide_eq_false c11
     clear c11
     obtain rfl := Option.some.inj H
     go_wp2
     go_ret
     exact ⟨_, by first | rfl | (simp [errW_none, errW_some] <;> rfl) | (simp [*, errW_none, errW_some] <;> rfl), by (with_reducible repeat (first | apply Kd.R_alloc | apply Kd.R_drewN | apply Kd.R_drew)); exact HO_3.out, by repeat (first | (with_reducible first | exact HB.out | apply below_alloc | apply pw_below_drewN | apply below_drew1) | exact HB.out)⟩

end Go.Proofs.YtghlfhgmnhhmnaaGreatDoor.QTidy
