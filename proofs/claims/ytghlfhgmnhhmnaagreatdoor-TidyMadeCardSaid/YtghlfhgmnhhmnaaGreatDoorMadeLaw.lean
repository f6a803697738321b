/-
  frisketlaw37.TidyMade: the plain law: for texts made of the lines of 'bits' the program and the reference agree.
-/
import Derived.Test.YtghlfhgmnhhmnaaGreatDoorMadeChk
import Derived.Test.YtghlfhgmnhhmnaaGreatDoorQTidyx15
namespace Go.Proofs.YtghlfhgmnhhmnaaGreatDoor.QTidy
open Go.RowKit Go.Proofs.YtghlfhgmnhhmnaaGreatDoorW.PrintWords Go.Proofs.YtghlfhgmnhhmnaaGreatDoorW.PrintLast Go.Proofs.YtghlfhgmnhhmnaaGreatDoorW.PrintMore
set_option linter.unusedVariables false
set_option linter.unusedSimpArgs false

/-- The states that belong together. -/
def RelS (d b : ByteArray) (wi : Bool) (wn : Int) (e : ByteArray) : Prop :=
  (wi = true ∧ wn = 1 ∧ d = e ∧ d ∈ defL ∧ b = ⟨#[]⟩) ∨ (wi = false ∧ wn = 2 ∧ (b, e) ∈ blkL2) ∨ (wi = false ∧ wn = 0 ∧ b = ⟨#[]⟩)

theorem blkR_start (s : ByteArray) : ∀ (l : List (ByteArray × ByteArray)) (wn : Int) (e : ByteArray) (r : Int × ByteArray), blkR s l wn e = some r → (r.1 = wn ∧ ∀ e2, blkR s l wn e2 = some (wn, e2)) ∨ (∀ e2, blkR s l wn e2 = some r)
  | [], wn, e, r, h => by
    obtain rfl := Option.some.inj h
    exact .inl ⟨rfl, fun _ => rfl⟩
  | p :: l, wn, e, r, h => by
    rw [blkR] at h
    obtain ⟨b, hb, h⟩ := Option.bind_eq_some_iff.1 h
    cases b with
    | true =>
      rw [if_pos rfl] at h
      refine .inr fun e2 => ?_
      rw [blkR, hb]; exact h
    | false =>
      rw [if_neg (by simp)] at h
      rcases blkR_start s l wn e r h with ⟨h1, h2⟩ | h2
      · refine .inl ⟨h1, fun e2 => ?_⟩
        rw [blkR, hb]; exact h2 e2
      · refine .inr fun e2 => ?_
        rw [blkR, hb]; exact h2 e2

theorem rel_join (K : Nat) (x d b : ByteArray) (wi : Bool) (wn : Int) (e : ByteArray) (h : RelS d b wi wn e) : stepR K x true wn e = some (if wi = true then 1 else if b.toList = [] then 3 else 2, wn, e) := by
  unfold stepR
  rcases h with ⟨rfl, rfl, _, _, _⟩ | ⟨rfl, rfl, hb⟩ | ⟨rfl, rfl, rfl⟩
  · simp
  · have := blk2_ne _ hb
    simp at this
    simp [this]
  · rw [if_neg (by decide), if_neg (by decide), if_pos rfl, if_pos rfl]; simp [nilT]

theorem rel_def (K : Nat) (ckD : ∀ x ∈ bitsL, ∀ d ∈ defL, chkD K x d = true) (x : ByteArray) (hx : x ∈ bitsL) (d : ByteArray) (hd : d ∈ defL) :
    ∃ n d' b' wi' wn' e', stepF K x d ⟨#[]⟩ true = some (n, d', b', wi') ∧ stepR K x false 1 d = some (n, wn', e') ∧ RelS d' b' wi' wn' e' := by
  have hc := ckD x hx d hd
  unfold chkD at hc
  cases h1 : stepF K x d ⟨#[]⟩ true with
  | none => rw [h1] at hc; cases hc
  | some r1 =>
    cases h2 : stepR K x false 1 d with
    | none => rw [h1, h2] at hc; cases hc
    | some r2 =>
      obtain ⟨n, d', b', w'⟩ := r1
      obtain ⟨n2, wn', e'⟩ := r2
      rw [h1, h2] at hc
      simp only [Bool.and_eq_true, Bool.or_eq_true, decide_eq_true_eq, Bool.not_eq_true'] at hc
      obtain ⟨⟨⟨rfl, rfl⟩, rfl⟩, hc⟩ := hc
      rcases hc with ⟨⟨rfl, rfl⟩, rfl⟩ | ⟨rfl, rfl⟩
      · exact ⟨_, _, _, _, _, _, rfl, rfl, .inl ⟨rfl, rfl, rfl, hd, rfl⟩⟩
      · exact ⟨_, _, _, _, _, _, rfl, rfl, .inr (.inr ⟨rfl, rfl, rfl⟩)⟩
theorem eqO_out {u v : Option Bool} (h : eqO u v = true) : ∃ o, u = some o ∧ v = some o := by
  cases u with
  | none => cases h
  | some u =>
    cases v with
    | none => cases h
    | some v => exact ⟨u, rfl, by rw [beq_iff_eq.1 h]⟩
theorem chkB_out {x b e : ByteArray} (h : chkB x b e = true) : ∃ o, tidy_opens.f x b = some o ∧ frisketref37_begins.f x e = some o := by
  unfold chkB at h
  exact eqO_out h
theorem rel_blk (K : Nat) (x : ByteArray) (hx : x ∈ bitsL) (d b e : ByteArray) (hb : (b, e) ∈ blkL2) :
    ∃ n d' b' wi' wn' e', stepF K x d b false = some (n, d', b', wi') ∧ stepR K x false 2 e = some (n, wn', e') ∧ RelS d' b' wi' wn' e' := by
  have hne : ¬ b.toList = [] := blk2_ne _ hb
  obtain ⟨o, h1, h2⟩ := chkB_out (ckB x hx (b, e) hb)
  have s1 : stepF K x d b false = some (if o = true then 0 else 2, d, if o = true then ⟨#[]⟩ else b, false) := by
    unfold stepF
    rw [if_neg (by simp), if_neg hne, h1]
    simp only [Option.bind_some]
  have s2 : stepR K x false 2 e = some (if o = true then (0, 0, e) else (2, 2, e)) := by
    unfold stepR
    rw [if_neg (by decide), if_pos rfl, if_neg (by simp), h2]
    simp only [Option.bind_some]
  cases o with
  | true =>
    simp only [if_true] at s1 s2
    exact ⟨_, _, _, _, _, _, s1, s2, .inr (.inr ⟨rfl, rfl, rfl⟩)⟩
  | false =>
    simp only [Bool.false_eq_true, if_false] at s1 s2
    exact ⟨_, _, _, _, _, _, s1, s2, .inr (.inl ⟨rfl, rfl, hb⟩)⟩
theorem rel_free (K : Nat) (ckF : ∀ x ∈ bitsL, chkF K x = true) (x : ByteArray) (hx : x ∈ bitsL) (d e : ByteArray) :
    ∃ n d' b' wi' wn' e', stepF K x d ⟨#[]⟩ false = some (n, d', b', wi') ∧ stepR K x false 0 e = some (n, wn', e') ∧ RelS d' b' wi' wn' e' := by
  have hc := ckF x hx
  unfold chkF at hc
  cases h1 : tidy_begins.f K x with
  | none => rw [h1] at hc; cases hc
  | some r1 =>
    cases h2 : frisketref37_definition.f K x with
    | none => rw [h1, h2] at hc; cases hc
    | some r2 =>
      obtain ⟨p, is⟩ := r1
      obtain ⟨p2, is2⟩ := r2
      rw [h1, h2] at hc
      simp only [Bool.and_eq_true, beq_iff_eq] at hc
      obtain ⟨rfl, hc⟩ := hc
      cases is with
      | true =>
        rw [if_pos rfl] at hc
        simp only [Bool.and_eq_true, decide_eq_true_eq] at hc
        obtain ⟨rfl, hd0⟩ := hc
        have hd := mem_any hd0
        refine ⟨0, p, ⟨#[]⟩, true, 1, p, ?_, ?_, .inl ⟨rfl, rfl, rfl, hd, rfl⟩⟩
        · unfold stepF
          rw [if_neg (by simp), if_pos nilT, h1]; rfl
        · unfold stepR
          rw [if_neg (by decide), if_neg (by decide), if_pos rfl, if_neg (by simp), h2]; rfl
      | false =>
        rw [if_neg (by simp)] at hc
        cases h3 : blkF x with
        | none => rw [h3] at hc; cases hc
        | some b' =>
          cases h4 : blkR x blkPairs 0 ⟨#[]⟩ with
          | none => rw [h3, h4] at hc; cases hc
          | some q =>
            obtain ⟨wn', e'⟩ := q
            rw [h3, h4] at hc
            simp only [Bool.and_eq_true, Bool.or_eq_true, decide_eq_true_eq] at hc
            have s1 : stepF K x d ⟨#[]⟩ false = some (0, d, b', false) := by
              unfold stepF
              rw [if_neg (by simp), if_pos nilT, h1]
              simp [h3]
            have s2 : ∀ q, blkR x blkPairs 0 e = some q → stepR K x false 0 e = some (0, q.1, q.2) := by
              intro q hq
              unfold stepR
              rw [if_neg (by decide), if_neg (by decide), if_pos rfl, if_neg (by simp), h2]
              simp [hq]
            rcases hc with ⟨rfl, rfl⟩ | ⟨rfl, hb0⟩
            · rcases blkR_start x blkPairs 0 ⟨#[]⟩ _ h4 with ⟨_, h5⟩ | h5
              · exact ⟨_, _, _, _, _, _, s1, s2 _ (h5 e), .inr (.inr ⟨rfl, rfl, rfl⟩)⟩
              · exact ⟨_, _, _, _, _, _, s1, s2 _ (h5 e), .inr (.inr ⟨rfl, rfl, rfl⟩)⟩
            · have hb := mem_any2 hb0
              rcases blkR_start x blkPairs 0 ⟨#[]⟩ _ h4 with ⟨h5, _⟩ | h5
              · exact absurd h5 (by show ¬ (2 : Int) = 0; decide)
              · exact ⟨_, _, _, _, _, _, s1, s2 _ (h5 e), .inr (.inl ⟨rfl, rfl, hb⟩)⟩
theorem rel_step (K : Nat) (ckD : ∀ x ∈ bitsL, ∀ d ∈ defL, chkD K x d = true) (ckF : ∀ x ∈ bitsL, chkF K x = true) (x : ByteArray) (hx : x ∈ bitsL) (d b : ByteArray) (wi : Bool) (wn : Int) (e : ByteArray) (h : RelS d b wi wn e) :
    ∃ n d' b' wi' wn' e', stepF K x d b wi = some (n, d', b', wi') ∧ stepR K x false wn e = some (n, wn', e') ∧ RelS d' b' wi' wn' e' := by
  rcases h with ⟨rfl, rfl, rfl, hd, rfl⟩ | ⟨rfl, rfl, hb⟩ | ⟨rfl, rfl, rfl⟩
  · exact rel_def K ckD x hx d hd
  · exact rel_blk K x hx d b e hb
  · exact rel_free K ckF x hx d e

theorem bit_join (K : Nat) (ckJ : ∀ x ∈ bitsL, chkJ K x = true) (x : ByteArray) (hx : x ∈ bitsL) : ∃ j, tidy_joins.f x = some j ∧ frisketref37_joins.f K x = some j := by
  have hc := ckJ x hx
  unfold chkJ at hc
  cases h1 : tidy_joins.f x with
  | none => rw [h1] at hc; cases hc
  | some a =>
    cases h2 : frisketref37_joins.f K x with
    | none => rw [h1, h2] at hc; cases hc
    | some b =>
      rw [h1, h2] at hc
      obtain rfl := beq_iff_eq.1 hc
      exact ⟨_, rfl, rfl⟩
theorem bit_line (K : Nat) (ckL : ∀ x ∈ bitsL, chkL K x = true) (x : ByteArray) (hx : x ∈ bitsL) : tidy_line.f K x = some (lineB K x) ∧ frisketref37_line.f K x = some (lineB K x) ∧ (lineB K x).size ≤ 100 := by
  have hc := ckL x hx
  unfold chkL at hc
  cases h1 : tidy_line.f K x with
  | none => rw [h1] at hc; cases hc
  | some a =>
    cases h2 : frisketref37_line.f K x with
    | none => rw [h1, h2] at hc; cases hc
    | some b =>
      rw [h1, h2] at hc
      simp only [Bool.and_eq_true, decide_eq_true_eq] at hc
      obtain ⟨rfl, hz⟩ := hc
      have e : lineB K x = a := by unfold lineB; rw [h1]; rfl
      rw [e]
      exact ⟨rfl, rfl, hz⟩

theorem becomes_small : ∀ (ks : List Int) (L : List ByteArray), (∀ x ∈ L, x ∈ bitsL) → ∀ y ∈ becomes 300 ks L, y.size < 100000
  | [], [], _, y, hy => by cases hy
  | [], _ :: _, _, y, hy => by cases hy
  | _ :: _, [], _, y, hy => by cases hy
  | n :: ks, x :: L, h, y, hy => by
    rw [becomes] at hy
    rcases List.mem_cons.1 hy with rfl | hy
    · have h1 := (bit_line 300 ckL x (h x (by simp))).2.2
      have h2 := bits_size x (h x (by simp))
      split <;> omega
    · exact becomes_small ks L (fun z hz => h z (by simp [hz])) y hy

/-- The law of a text whose lines are of 'bits'. -/
theorem same_bits (s : ByteArray) (hs : s.size ≤ 60000) (hln : (plines s).length < 99999) (hb : ∀ x ∈ plines s, x ∈ bitsL) (k : Nat) (hk : 200400 ≤ k) : frisketlaw37_same.f (k + 3) s = some true := by
  have hlong : (plines s).any longB = false := by
    rw [List.any_eq_false]
    intro x hx
    have := bits_size x (hb x hx)
    simp [longB]; omega
  obtain ⟨ks, k1, k2, k3⟩ := kinds_agree 300 (· ∈ bitsL) RelS (bit_join 300 ckJ) (fun x d b wi wn e _ h => rel_join 300 x d b wi wn e h) (fun x d b wi wn e hx h => rel_step 300 ckD ckF x hx d b wi wn e h)
    (plines s) false ⟨#[]⟩ ⟨#[]⟩ false 0 ⟨#[]⟩ hb (.inr (.inr ⟨rfl, rfl, rfl⟩))
  refine same_true 300 k s ks hs hln (by omega) hlong k1 k2 k3 (fun x hx => (bit_line 300 ckL x (hb x hx)).1) (fun x hx => (bit_line 300 ckL x (hb x hx)).2.1) (becomes_small ks _ hb) ?_
  intro h
  have hx : s ∈ bitsL := by
    rcases h with h | h
    · have e : s = ⟨#[]⟩ := by rw [← ba_eta' s, h]
      rw [e]; exact bits_nil
    · exact hb s h
  exact ⟨(bit_line 300 ckL s hx).1, (bit_line 300 ckL s hx).2.1⟩

/-- The line of a number. -/
def bitOf (q : Int) : ByteArray := rdOf ByteArray.empty bitsL (wrap64 ((IntKind.u64.wrap q).tmod 49))
theorem pick49 (q : Int) : 0 ≤ wrap64 ((IntKind.u64.wrap q).tmod 49) ∧ wrap64 ((IntKind.u64.wrap q).tmod 49) < 49 := by
  have h : 0 ≤ IntKind.u64.wrap q := by simp [IntKind.wrap, IntKind.signed, IntKind.bits]; omega
  have h2 : (IntKind.u64.wrap q).tmod 49 = (IntKind.u64.wrap q) % 49 := Int.tmod_eq_emod_of_nonneg h
  rw [h2]
  have h3 : wrap64 ((IntKind.u64.wrap q) % 49) = (IntKind.u64.wrap q) % 49 := by
    have : 0 ≤ (IntKind.u64.wrap q) % 49 ∧ (IntKind.u64.wrap q) % 49 < 49 := by omega
    simp [wrap64, IntKind.wrap, IntKind.signed, IntKind.bits]; omega
  rw [h3]
  omega
theorem bitOf_mem (q : Int) : bitOf q ∈ bitsL := by
  obtain ⟨h0, h1⟩ := pick49 q
  unfold bitOf rdOf
  have : (wrap64 ((IntKind.u64.wrap q).tmod 49)).toNat < bitsL.length := by rw [bits_len]; omega
  rw [List.getD_eq_getElem?_getD, List.getElem?_eq_getElem this]
  exact List.getElem_mem _
theorem u64_49 : IntKind.u64.wrap 49 = 49 := by decide

/-- What a text is: lines with their ends, and a last one without. -/
def Made (t : ByteArray) : Prop := ∃ (Q : List ByteArray) (x : ByteArray), t.data.toList = flat (Q.map (fun x : ByteArray => x.data.toList)) ++ x.data.toList ∧ (∀ y ∈ Q, y ∈ bitsL) ∧ x ∈ bitsL ∧ Q.length ≤ 80 ∧ t.size ≤ 20 * 81
theorem made_done {s : ByteArray} {Q : List ByteArray} (h : s.data.toList = flat (Q.map (fun x : ByteArray => x.data.toList))) (hQ : ∀ y ∈ Q, y ∈ bitsL) (hl : Q.length ≤ 80) (hz : s.size ≤ 20 * 81) : Made s :=
  ⟨Q, ⟨#[]⟩, by rw [h]; simp, hQ, bits_nil, hl, hz⟩

theorem text_loop (l : List Int) : ∀ (n k i : Nat) (s : ByteArray) (Q : List ByteArray), i + n = min l.length 80 → 2 * n + 2 ≤ k → s.data.toList = flat (Q.map (fun x : ByteArray => x.data.toList)) → (∀ y ∈ Q, y ∈ bitsL) → Q.length = i → s.size ≤ 20 * i →
    ∃ t, frisketlaw37_Text.l0 k l bitsL s (i : Int) = some t ∧ Made t := by
  intro n
  induction n with
  | zero =>
    intro k i s Q hi hk hs hQ hQl hz
    obtain ⟨k, rfl⟩ : ∃ k', k = k' + 2 := ⟨k - 2, by omega⟩
    refine ⟨s, ?_, made_done hs hQ (by omega) (by omega)⟩
    rw [frisketlaw37_Text.l0]
    by_cases c : (i : Int) < (l.length : Int)
    · rw [if_pos c, decide_eq_false (by omega), frisketlaw37_Text.j1, if_neg (by simp)]
    · rw [if_neg c, frisketlaw37_Text.j1, if_neg (by simp)]
  | succ n ih =>
    intro k i s Q hi hk hs hQ hQl hz
    obtain ⟨k, rfl⟩ : ∃ k', k = k' + 2 := ⟨k - 2, by omega⟩
    obtain ⟨p0, p1⟩ := pick49 (rd l (i : Int))
    have hx := bitOf_mem (rd l (i : Int))
    have hxz := bits_size _ hx
    have hb : rdOf ByteArray.empty bitsL (wrap64 (Int.tmod (IntKind.u64.wrap (rd l (i : Int))) 49)) = bitOf (rd l (i : Int)) := rfl
    have hn : (⟨#[10]⟩ : ByteArray).size = 1 := rfl
    rw [frisketlaw37_Text.l0, if_pos (by omega), decide_eq_true (by omega), frisketlaw37_Text.j1, if_pos rfl, if_pos (by omega), if_pos (by omega), bits_len]
    rw [show ((49 : Nat) : Int) = 49 from rfl, u64_49, if_neg (by decide), if_pos p0, if_pos p1, hb]
    generalize bitOf (rd l (i : Int)) = x at hx hxz
    rw [if_pos (by omega), wrap_small i (by omega)]
    have hs2 : (s ++ x).size = s.size + x.size := ByteArray.size_append
    have hgo : ∃ t, frisketlaw37_Text.l0 k l bitsL ((s ++ x) ++ (⟨#[10]⟩ : ByteArray)) ((i + 1 : Nat) : Int) = some t ∧ Made t := by
      refine ih k (i + 1) _ (Q ++ [x]) (by omega) (by omega) ?_ ?_ (by simp [hQl]) ?_
      · rw [ByteArray.data_append, ByteArray.data_append, Array.toList_append, Array.toList_append, hs, List.map_append, flat_append]
        simp [flat]
      · intro y hy
        rcases List.mem_append.1 hy with hy | hy
        · exact hQ y hy
        · rw [List.mem_singleton.1 hy]; exact hx
      · rw [ByteArray.size_append, hs2, hn]; omega
    by_cases c : ((i + 1 : Nat) : Int) < (l.length : Int)
    · rw [if_pos c, if_pos (by omega)]; exact hgo
    · rw [if_neg c]
      by_cases d : Int.tmod (rd l (i : Int)) 5 = 0
      · rw [if_pos d]
        refine ⟨s ++ x, ?_, Q, x, ?_, hQ, hx, by omega, by omega⟩
        · obtain ⟨k, rfl⟩ : ∃ k', k = k' + 2 := ⟨k - 2, by omega⟩
          rw [frisketlaw37_Text.l0, if_neg c, frisketlaw37_Text.j1, if_neg (by simp)]
        · rw [ByteArray.data_append, Array.toList_append, hs]
      · rw [if_neg d, if_pos (by omega)]; exact hgo
theorem text_made (l : List Int) (k : Nat) (hk : 200 ≤ k) : ∃ t, frisketlaw37_Text.f k l = some t ∧ Made t := by
  unfold frisketlaw37_Text.f
  rw [bits_some]
  simp only [Option.bind_some]
  exact text_loop l (min l.length 80) k 0 ⟨#[]⟩ [] (by omega) (by omega) (by simp [flat]) (by simp) rfl (by simp [ByteArray.size])

theorem pieces_made : ∀ (Q : List (List UInt8)) (x : List UInt8), (∀ y ∈ Q, 10 ∉ y) → 10 ∉ x → pieces (flat Q ++ x) = Q ++ [x]
  | [], x, _, hx => by simpa [flat] using pieces_one x hx
  | y :: Q, x, h, hx => by
    rw [flat_cons, List.append_assoc, List.cons_append, pieces_app y _ (h y (by simp)), pieces_made Q x (fun z hz => h z (by simp [hz])) hx]; rfl
theorem dropE_le : ∀ X : List (List UInt8), (dropE X).length ≤ X.length
  | [] => Nat.le_refl _
  | [x] => by unfold dropE; split <;> simp
  | x :: y :: r => by
    have := dropE_le (y :: r)
    rw [dropE]; simp only [List.length_cons] at this ⊢; omega
theorem made_lines {t : ByteArray} (h : Made t) : (∀ y ∈ plines t, y ∈ bitsL) ∧ (plines t).length ≤ 81 ∧ t.size ≤ 60000 := by
  obtain ⟨Q, x, ht, hQ, hx, hl, hz⟩ := h
  have hp : pieces t.data.toList = (Q ++ [x]).map (fun x : ByteArray => x.data.toList) := by
    rw [ht, pieces_made _ _ (by intro y hy; obtain ⟨z, hz, rfl⟩ := List.mem_map.1 hy; exact bits_no z (hQ z hz)) (bits_no x hx)]; simp
  refine ⟨fun y hy => ?_, ?_, by omega⟩
  · rw [plines, linesL8, hp] at hy
    obtain ⟨l, hl2, rfl⟩ := List.mem_map.1 hy
    obtain ⟨z, hz, rfl⟩ := List.mem_map.1 (dropE_sub _ l hl2)
    rw [ba_mk]
    rcases List.mem_append.1 hz with hz | hz
    · exact hQ z hz
    · rw [List.mem_singleton.1 hz]; exact hx
  · rw [plines, linesL8, hp, List.length_map]
    refine Nat.le_trans (dropE_le _) ?_
    simp; omega

theorem made_true (l : List Int) (k : Nat) (hk : 200400 ≤ k) : frisketlaw37_TidyMade.f (k + 3) l = some true := by
  obtain ⟨t, h1, h2⟩ := text_made l (k + 3) (by omega)
  obtain ⟨m1, m2, m3⟩ := made_lines h2
  unfold frisketlaw37_TidyMade.f
  rw [h1]
  simp only [Option.bind_some]
  rw [same_bits t m3 (by omega) m1 k hk]
  simp only [Option.bind_some, if_true]
  rw [up' (f := fun k => frisketlaw37_sane.f k) frisketlaw37_sane.mono mSane (show 300 ≤ k + 3 by omega)]
  simp only [Option.bind_some]
/-- What the program answers. -/
theorem made_calls (A0 : Option Addr) (c0 : Nat) (l0 : List Int) (w : World) (hr0 : Kd.C (Kd.int .i64) w A0 l0.length l0) (hc0 : l0.length ≤ c0) (hv_ : LaidV w) :
    Calls Tryz.prog 7 #[.slice A0 l0.length c0] w fun e w' => e = .returned (.bool true) ∧ Below w.heap.size w w' :=
  frisketlaw37_TidyMade.calls _ A0 c0 l0 true w hr0 hc0 hv_ (made_true l0 200400 (Nat.le_refl _))
end Go.Proofs.YtghlfhgmnhhmnaaGreatDoor.QTidy
