/-
  Texts of this claim, joined in their build order: the contracts of the functions that the statement reaches, and plain lemmas.
-/
import Derived.Test.YtpdcjkiejglaiaaJFnExactDigitsForMultiple0
import Derived.Shelf.Small.Strs
import Derived.Shelf.Strings.Search1
import Derived.Test.YtpdcjkiejglaiaaProg
import Derived.Lib.OthersKept

/- Laid by a program of this session (wip/tools/own_print.py) over the translation of this seat: contracts of the functions that the statement reaches. -/
namespace Go.Proofs.Ytpdcjkiejglaiaa.Q
open Go.RowKit Go.Proofs.YtpdcjkiejglaiaaW.PrintWords Go.Proofs.YtpdcjkiejglaiaaW.PrintLast Go.Proofs.YtpdcjkiejglaiaaW.PrintMore
attribute [local go_sem] max2_int min2_int max_two min_two max_three min_three max_four min_four   -- for this text's walks alone
set_option linter.unusedVariables false
set_option linter.unusedSimpArgs false

/-! ### laws_FnExactDigitsForMultiple: function 5 -/
def laws_FnExactDigitsForMultiple.f (k : Nat) (a0 : Int) : Option (Bool) := (spec_DigitsForMultiple.f k a0).bind fun bt101 => ((impl_DigitsForMultiple.f k a0).bind fun bt103 => (if bt103.1.toList = bt101.1.toList then (if (bt103.2 != bt101.2) = true then (some false) else (some true)) else (some false)))
theorem laws_FnExactDigitsForMultiple.mono : ∀ a0 k, LeO (laws_FnExactDigitsForMultiple.f k a0) (laws_FnExactDigitsForMultiple.f (k + 1) a0) := by
  intro a0 k
  unfold laws_FnExactDigitsForMultiple.f
  repeat' first
      | (with_reducible exact impl_DigitsForMultiple.mono _ _)
      | (with_reducible exact spec_DigitsForMultiple.mono _ _)
      | (with_reducible exact LeO.refl _)
      | (with_reducible exact LeO.none _)
      | (with_reducible refine LeO.ite ?_ ?_)
      | (with_reducible refine LeO.bind ?_ (fun _ => ?_))
      | exact impl_DigitsForMultiple.mono _ _
      | exact spec_DigitsForMultiple.mono _ _
      | exact LeO.none _
      | refine LeO.ite ?_ ?_
      | refine LeO.bind ?_ (fun _ => ?_)
set_option maxHeartbeats 8000000 in
set_option maxRecDepth 100000 in
theorem laws_FnExactDigitsForMultiple.calls (k : Nat) (a0 : Int) (r : Bool) (w : World) (h : laws_FnExactDigitsForMultiple.f k a0 = some r) :
    Calls Try.prog 5 #[.int .i64 a0] w fun e w' => e = .returned (.bool r) ∧ Below w.heap.size w w' := by
  have HB := Aside0.mk (Below.refl w.heap.size w)
  have H : ((spec_DigitsForMultiple.f k a0).bind fun bt101 => ((impl_DigitsForMultiple.f k a0).bind fun bt103 => (if bt103.1.toList = bt101.1.toList then (if (bt103.2 != bt101.2) = true then (some false) else (some true)) else (some false)))) = some r := h
  clear h
  replace H := Option.bind_eq_some_iff.mp H
  obtain ⟨⟨t101, t102⟩, A20, H⟩ := H
  replace H : ((impl_DigitsForMultiple.f k a0).bind fun bt103 => (if bt103.1.toList = t101.toList then (if (bt103.2 != t102) = true then (some false) else (some true)) else (some false))) = some r := H
  have A2 := Aside0.mk A20
  clear A20
  replace H := Option.bind_eq_some_iff.mp H
  obtain ⟨⟨t103, t104⟩, A30, H⟩ := H
  replace H : (if t103.toList = t101.toList then (if (t104 != t102) = true then (some false) else (some true)) else (some false)) = some r := H
  have A3 := Aside0.mk A30
  clear A30
  by_cases c4 : t103.toList = t101.toList
  · rw [if_pos c4] at H
    have c4b0 : (t103.toList == t101.toList) = true := beq_iff_eq.mpr c4
    have c4b1 : (t103.toList != t101.toList) = false := bne_eq_false_iff_eq.mpr c4
    clear c4
    by_cases c5 : (t104 != t102) = true
    · rw [if_pos c5] at H
      have c5b0 : (t104 != t102) = true := c5
      (try (have c5b1 : decide (t104 = t102) = false := by simpa using c5))
      (try (have c5b2 : (t104 == t102) = false := by simpa using c5))
      (try (have c5b3 : ¬ (t104 = t102) := by simpa using c5))
      clear c5
      obtain rfl := Option.some.inj H
      go_enter Try.func5, Try.ntmps5
      go_wp2_with (first | ((with_reducible refine gate_callee (f := 15) rfl ?_); refine goesL_ (some 9) rfl rfl Try.func15 (by kernel_rfl) rfl #[.int .i64 a0] rfl (by (try simp only [List.map_toArray, List.map_cons, List.map_nil]); first | done | rfl | (simp only [List.length_drop, List.length_take]; rfl)) ?_; (with_reducible refine (spec_DigitsForMultiple.calls k a0 t101 t102 _ A2.out).mono ?_); rintro e w6 ⟨rfl, hb⟩; refine ⟨_, rfl, ?_⟩; have n0_ := Aside0.mk (below_step (by repeat (first | (with_reducible first | exact HB.out | apply below_alloc | apply pw_below_drewN | apply below_drew1) | exact HB.out)) hb); clear HB; have HB := n0_; clear n0_; (try clear hb); (try clear hb2); (try clear hk); (try clear hi)) | ((with_reducible refine gate_callee (f := 16) rfl ?_); refine goesL_ (some 14) rfl rfl Try.func16 (by kernel_rfl) rfl #[.int .i64 a0] rfl (by (try simp only [List.map_toArray, List.map_cons, List.map_nil]); first | done | rfl | (simp only [List.length_drop, List.length_take]; rfl)) ?_; (with_reducible refine (impl_DigitsForMultiple.calls k a0 t103 t104 _ A3.out).mono ?_); rintro e w7 ⟨rfl, hb⟩; refine ⟨_, rfl, ?_⟩; have n0_ := Aside0.mk (below_step (by repeat (first | (with_reducible first | exact HB.out | apply below_alloc | apply pw_below_drewN | apply below_drew1) | exact HB.out)) hb); clear HB; have HB := n0_; clear n0_; (try clear hb); (try clear hb2); (try clear hk); (try clear hi)))
      go_ret
      exact ⟨by first | rfl | (simp [errW_none, errW_some] <;> rfl) | (simp [*, errW_none, errW_some] <;> rfl), by repeat (first | (with_reducible first | exact HB.out | apply below_alloc | apply pw_below_drewN | apply below_drew1) | exact HB.out)⟩
    · rw [if_neg c5] at H
      have c5b0 : (t104 != t102) = false := by simpa using c5
      (try (have c5b1 : decide (t104 = t102) = true := by simpa using c5))
      (try (have c5b2 : (t104 == t102) = true := by simpa using c5))
      clear c5
      obtain rfl := Option.some.inj H
      go_enter Try.func5, Try.ntmps5
      go_wp2_with (first | ((with_reducible refine gate_callee (f := 15) rfl ?_); refine goesL_ (some 9) rfl rfl Try.func15 (by kernel_rfl) rfl #[.int .i64 a0] rfl (by (try simp only [List.map_toArray, List.map_cons, List.map_nil]); first | done | rfl | (simp only [List.length_drop, List.length_take]; rfl)) ?_; (with_reducible refine (spec_DigitsForMultiple.calls k a0 t101 t102 _ A2.out).mono ?_); rintro e w8 ⟨rfl, hb⟩; refine ⟨_, rfl, ?_⟩; have n0_ := Aside0.mk (below_step (by repeat (first | (with_reducible first | exact HB.out | apply below_alloc | apply pw_below_drewN | apply below_drew1) | exact HB.out)) hb); clear HB; have HB := n0_; clear n0_; (try clear hb); (try clear hb2); (try clear hk); (try clear hi)) | ((with_reducible refine gate_callee (f := 16) rfl ?_); refine goesL_ (some 14) rfl rfl Try.func16 (by kernel_rfl) rfl #[.int .i64 a0] rfl (by (try simp only [List.map_toArray, List.map_cons, List.map_nil]); first | done | rfl | (simp only [List.length_drop, List.length_take]; rfl)) ?_; (with_reducible refine (impl_DigitsForMultiple.calls k a0 t103 t104 _ A3.out).mono ?_); rintro e w9 ⟨rfl, hb⟩; refine ⟨_, rfl, ?_⟩; have n0_ := Aside0.mk (below_step (by repeat (first | (with_reducible first | exact HB.out | apply below_alloc | apply pw_below_drewN | apply below_drew1) | exact HB.out)) hb); clear HB; have HB := n0_; clear n0_; (try clear hb); (try clear hb2); (try clear hk); (try clear hi)))
      go_ret
      exact ⟨by first | rfl | (simp [errW_none, errW_some] <;> rfl) | (simp [*, errW_none, errW_some] <;> rfl), by repeat (first | (with_reducible first | exact HB.out | apply below_alloc | apply pw_below_drewN | apply below_drew1) | exact HB.out)⟩
  · rw [if_neg c4] at H
    have c4b0 : (t103.toList == t101.toList) = false := beq_eq_false_iff_ne.mpr c4
    have c4b1 : (t103.toList != t101.toList) = true := bne_iff_ne.mpr c4
    obtain rfl := Option.some.inj H
    go_enter Try.func5, Try.ntmps5
    go_wp2_with (first | ((with_reducible refine gate_callee (f := 15) rfl ?_); refine goesL_ (some 9) rfl rfl Try.func15 (by kernel_rfl) rfl #[.int .i64 a0] rfl (by (try simp only [List.map_toArray, List.map_cons, List.map_nil]); first | done | rfl | (simp only [List.length_drop, List.length_take]; rfl)) ?_; (with_reducible refine (spec_DigitsForMultiple.calls k a0 t101 t102 _ A2.out).mono ?_); rintro e w10 ⟨rfl, hb⟩; refine ⟨_, rfl, ?_⟩; have n0_ := Aside0.mk (below_step (by repeat (first | (with_reducible first | exact HB.out | apply below_alloc | apply pw_below_drewN | apply below_drew1) | exact HB.out)) hb); clear HB; have HB := n0_; clear n0_; (try clear hb); (try clear hb2); (try clear hk); (try clear hi)) | ((with_reducible refine gate_callee (f := 16) rfl ?_); refine goesL_ (some 14) rfl rfl Try.func16 (by kernel_rfl) rfl #[.int .i64 a0] rfl (by (try simp only [List.map_toArray, List.map_cons, List.map_nil]); first | done | rfl | (simp only [List.length_drop, List.length_take]; rfl)) ?_; (with_reducible refine (impl_DigitsForMultiple.calls k a0 t103 t104 _ A3.out).mono ?_); rintro e w11 ⟨rfl, hb⟩; refine ⟨_, rfl, ?_⟩; have n0_ := Aside0.mk (below_step (by repeat (first | (with_reducible first | exact HB.out | apply below_alloc | apply pw_below_drewN | apply below_drew1) | exact HB.out)) hb); clear HB; have HB := n0_; clear n0_; (try clear hb); (try clear hb2); (try clear hk); (try clear hi)))
    go_ret
    exact ⟨by first | rfl | (simp [errW_none, errW_some] <;> rfl) | (simp [*, errW_none, errW_some] <;> rfl), by repeat (first | (with_reducible first | exact HB.out | apply below_alloc | apply pw_below_drewN | apply below_drew1) | exact HB.out)⟩

/-- THE ONE PURE STATEMENT of laws_FnExactDigitsForMultiple: yours. -/
def laws_FnExactDigitsForMultiple.Pure : Prop := ∀ (a0 : Int), (Lit.int .i64 a0).wf = true → ∃ k, laws_FnExactDigitsForMultiple.f k a0 = some true
theorem laws_FnExactDigitsForMultiple.walk (P : laws_FnExactDigitsForMultiple.Pure) (a0 : Int) (w : World) (w0 : (Lit.int .i64 a0).wf = true) :
    Calls Try.prog 5 #[.int .i64 a0] w fun e w' => e = .returned (.bool true) ∧ Below w.heap.size w w' := by
  obtain ⟨k, h⟩ := P a0 w0
  refine (laws_FnExactDigitsForMultiple.calls k a0 true w h).mono ?_
  rintro e w' ⟨rfl, hd⟩
  exact ⟨rfl, hd⟩

end Go.Proofs.Ytpdcjkiejglaiaa.Q

/- Laid by a program of this session (wip/tools/own_print.py) over the translation of this seat: contracts of the functions that the statement reaches. -/
namespace Go.Proofs.Ytpdcjkiejglaiaa.Q
open Go.RowKit Go.Proofs.YtpdcjkiejglaiaaW.PrintWords Go.Proofs.YtpdcjkiejglaiaaW.PrintLast Go.Proofs.YtpdcjkiejglaiaaW.PrintMore
attribute [local go_sem] max2_int min2_int max_two min_two max_three min_three max_four min_four   -- for this text's walks alone
set_option linter.unusedVariables false
set_option linter.unusedSimpArgs false

/-! ### impl_areDigits: function 31 -/
def impl_areDigits.l0 : Nat → ByteArray → Int → Int → Int → Int → Option (Bool)
  | 0, _, _, _, _, _ => none
  | k + 1, x0, x1, x2, x9, x10 => if x10 < x9 then (if 0 ≤ x10 then (if x10 < (x0.size : Int) then (if (bt x0 x10) < 48 then (some false) else (if (bt x0 x10) > 57 then (some false) else (impl_areDigits.l0 k x0 x1 x2 x9 (wrap64 (x10 + 1))))) else (none)) else (none)) else ((impl_within.f (x0.size : Int) x1 x2).bind fun t101 => (some t101))
def impl_areDigits.f (k : Nat) (a0 : ByteArray) (a1 : Int) (a2 : Int) : Option (Bool) := impl_areDigits.l0 k a0 a1 a2 (a0.size : Int) 0
theorem impl_areDigits.mono_l : ∀ k, (∀ y0 y1 y2 y3 y4, LeO (impl_areDigits.l0 k y0 y1 y2 y3 y4) (impl_areDigits.l0 (k + 1) y0 y1 y2 y3 y4))
  | 0 => fun _ _ _ _ _ r h => by simp [impl_areDigits.l0] at h
  | k + 1 => by
    have ih0 := impl_areDigits.mono_l k
    · intro y0 y1 y2 y3 y4
      unfold impl_areDigits.l0
      repeat' first
      | (with_reducible exact ih0 _ _ _ _ _)
      | (with_reducible exact LeO.refl _)
      | (with_reducible exact LeO.none _)
      | (with_reducible refine LeO.ite ?_ ?_)
      | (with_reducible refine LeO.bind ?_ (fun _ => ?_))
      | exact ih0 _ _ _ _ _
      | exact LeO.none _
      | refine LeO.ite ?_ ?_
      | refine LeO.bind ?_ (fun _ => ?_)
theorem impl_areDigits.mono : ∀ a0 a1 a2 k, LeO (impl_areDigits.f k a0 a1 a2) (impl_areDigits.f (k + 1) a0 a1 a2) := by
  intro a0 a1 a2 k
  have ih0 := impl_areDigits.mono_l k
  unfold impl_areDigits.f
  repeat' first
      | (with_reducible exact ih0 _ _ _ _ _)
      | (with_reducible exact LeO.refl _)
      | (with_reducible exact LeO.none _)
      | (with_reducible refine LeO.ite ?_ ?_)
      | (with_reducible refine LeO.bind ?_ (fun _ => ?_))
      | exact ih0 _ _ _ _ _
      | exact LeO.none _
      | refine LeO.ite ?_ ?_
      | refine LeO.bind ?_ (fun _ => ?_)
set_option maxHeartbeats 8000000 in
set_option maxRecDepth 100000 in
theorem impl_areDigits.calls (k : Nat) (a0 : ByteArray) (a1 : Int) (a2 : Int) (r : Bool) (w : World) (h : impl_areDigits.f k a0 a1 a2 = some r) :
    Calls Try.prog 31 #[.string a0, .int .i64 a1, .int .i64 a2] w fun e w' => e = .returned (.bool r) ∧ Drawn0 w w' := by
  have H : (impl_areDigits.l0 k a0 a1 a2 (a0.size : Int) 0) = some r := h
  clear h
  have H' := Aside0.mk H
  clear H
  go_enter Try.func31, Try.ntmps31
  go_wp2
  go_loopg [10] k (fun kq v10 w' => ∃ (x10_1 : Int), v10 = .int .i64 x10_1 ∧ Aside0 (impl_areDigits.l0 kq a0 a1 a2 (a0.size : Int) x10_1 = some r) ∧ Aside0 (kq ≤ k) ∧ Drawn0 w w')
  case atStart => exact ⟨(0), (by first | rfl | (simp; done) | (simp [*]; done)), H', ⟨Nat.le_refl _⟩, by repeat (first | exact Drawn0.refl _ | apply Drawn0.step)⟩
  case round =>
    clear H'
    try clear p2
    try clear c3
    obtain ⟨x10_1, rfl, HA, HK1, ⟨m1, rfl⟩⟩ := hrel
    cases gk with
    | zero => exact absurd HA.out (by simp [impl_areDigits.l0])
    | succ k1 =>
      have H := HA.out
      clear HA
      simp only [impl_areDigits.l0] at H
      by_cases c4 : x10_1 < (a0.size : Int)
      · rw [if_pos c4] at H
        have c4b0 : decide (x10_1 < (a0.size : Int)) = true := decide_eq_true c4
        clear c4
        by_cases c5 : 0 ≤ x10_1
        · rw [if_pos c5] at H
          have c5b0 : decide (0 ≤ x10_1) = true := decide_eq_true c5
          clear c5
          by_cases c6 : x10_1 < (a0.size : Int)
          · rw [if_pos c6] at H
            have c6b0 : decide (x10_1 < (a0.size : Int)) = true := decide_eq_true c6
            clear c6
            by_cases c8 : (bt a0 x10_1) < 48
            · rw [if_pos c8] at H
              have c8b0 : decide ((bt a0 x10_1) < 48) = true := decide_eq_true c8
              clear c8
              obtain rfl := Option.some.inj H
              have p7 : 0 ≤ (x10_1 : Int) := of_decide_eq_true (by first | (with_reducible assumption) | assumption)
              have q7 : x10_1 < (a0.size : Int) := of_decide_eq_true (by first | (with_reducible assumption) | assumption)
              have hx7 := bt_at a0 x10_1
              replace p7 := eq_true p7
              replace q7 := eq_true q7
              go_wp2
              go_ret
              exact ⟨by first | rfl | (simp; done) | (simp [*]; done), by repeat (first | exact Drawn0.refl _ | apply Drawn0.step)⟩
            · rw [if_neg c8] at H
              have c8b0 : decide ((bt a0 x10_1) < 48) = false := decide_eq_false c8
              clear c8
              by_cases c10 : (bt a0 x10_1) > 57
              · rw [if_pos c10] at H
                have c10b0 : decide (57 < (bt a0 x10_1)) = true := decide_eq_true c10
                clear c10
                obtain rfl := Option.some.inj H
                have p7 : 0 ≤ (x10_1 : Int) := of_decide_eq_true (by first | (with_reducible assumption) | assumption)
                have q7 : x10_1 < (a0.size : Int) := of_decide_eq_true (by first | (with_reducible assumption) | assumption)
                have hx7 := bt_at a0 x10_1
                replace p7 := eq_true p7
                replace q7 := eq_true q7
                have p9 : 0 ≤ (x10_1 : Int) := of_decide_eq_true (by first | (with_reducible assumption) | assumption)
                have q9 : x10_1 < (a0.size : Int) := of_decide_eq_true (by first | (with_reducible assumption) | assumption)
                have hx9 := bt_at a0 x10_1
                replace p9 := eq_true p9
                replace q9 := eq_true q9
                go_wp2
                go_ret
                exact ⟨by first | rfl | (simp; done) | (simp [*]; done), by repeat (first | exact Drawn0.refl _ | apply Drawn0.step)⟩
              · rw [if_neg c10] at H
                have c10b0 : decide (57 < (bt a0 x10_1)) = false := decide_eq_false c10
                clear c10
                have H' := Aside0.mk H
                clear H
                have p7 : 0 ≤ (x10_1 : Int) := of_decide_eq_true (by first | (with_reducible assumption) | assumption)
                have q7 : x10_1 < (a0.size : Int) := of_decide_eq_true (by first | (with_reducible assumption) | assumption)
                have hx7 := bt_at a0 x10_1
                replace p7 := eq_true p7
                replace q7 := eq_true q7
                have p9 : 0 ≤ (x10_1 : Int) := of_decide_eq_true (by first | (with_reducible assumption) | assumption)
                have q9 : x10_1 < (a0.size : Int) := of_decide_eq_true (by first | (with_reducible assumption) | assumption)
                have hx9 := bt_at a0 x10_1
                replace p9 := eq_true p9
                replace q9 := eq_true q9
                go_wp2
                go_roundg k1
                case measure => have := HK1.out; omega
                case rel => exact ⟨(wrap64 (x10_1 + 1)), (by first | rfl | (simp; done) | (simp [*]; done)), H', ⟨by have := HK1.out; omega⟩, by repeat (first | exact Drawn0.refl _ | apply Drawn0.step)⟩
          · rw [if_neg c6] at H
            exact absurd H (by simp)
        · rw [if_neg c5] at H
          exact absurd H (by simp)
      · rw [if_neg c4] at H
        have c4b0 : decide (x10_1 < (a0.size : Int)) = false := decide_eq_false c4
        clear c4
        replace H := Option.bind_eq_some_iff.mp H
        obtain ⟨t101, A110, H⟩ := H
        replace H : (some t101) = some r := H
        have A11 := Aside0.mk A110
        clear A110
        obtain rfl := Option.some.inj H
        go_wp2_with (first | ((with_reducible refine gate_callee (f := 53) rfl ?_); refine goesL_ (some 28) rfl rfl Try.func53 (by kernel_rfl) rfl #[.int .i64 (a0.size : Int), .int .i64 a1, .int .i64 a2] rfl (by (try simp only [List.map_toArray, List.map_cons, List.map_nil]); first | done | rfl | (simp only [List.length_drop, List.length_take]; rfl)) ?_; (with_reducible refine (impl_within.calls (a0.size : Int) a1 a2 t101 _ A11.out).mono ?_); rintro e w' ⟨rfl, ⟨nd, rfl⟩⟩; refine ⟨_, rfl, ?_⟩))
        go_ret
        exact ⟨by first | rfl | (simp; done) | (simp [*]; done), by repeat (first | exact Drawn0.refl _ | apply Drawn0.step)⟩

end Go.Proofs.Ytpdcjkiejglaiaa.Q

/- Laid by a program of this session (wip/tools/own_print.py) over the translation of this seat: contracts of the functions that the statement reaches. -/
namespace Go.Proofs.Ytpdcjkiejglaiaa.Q
open Go.RowKit Go.Proofs.YtpdcjkiejglaiaaW.PrintWords Go.Proofs.YtpdcjkiejglaiaaW.PrintLast Go.Proofs.YtpdcjkiejglaiaaW.PrintMore
attribute [local go_sem] max2_int min2_int max_two min_two max_three min_three max_four min_four   -- for this text's walks alone
set_option linter.unusedVariables false
set_option linter.unusedSimpArgs false

/-! ### spec_miGood: function 34 -/
def spec_miGood.l0 : Nat → ByteArray → Int → Option (Bool)
  | 0, _, _ => none
  | k + 1, x0, x3 => if x3 < (x0.size : Int) then (if 0 ≤ x3 then (if (bt x0 x3) < 48 then (some false) else (if (bt x0 x3) > 57 then (some false) else (spec_miGood.l0 k x0 (wrap64 (x3 + 1))))) else (none)) else (some true)
def spec_miGood.f (k : Nat) (a0 : ByteArray) : Option (Bool) := (spec_l1In.f (a0.size : Int) 1 9).bind fun t101 => (if t101 = true then (spec_miGood.l0 k a0 0) else (some false))
theorem spec_miGood.mono_l : ∀ k, (∀ y0 y1, LeO (spec_miGood.l0 k y0 y1) (spec_miGood.l0 (k + 1) y0 y1))
  | 0 => fun _ _ r h => by simp [spec_miGood.l0] at h
  | k + 1 => by
    have ih0 := spec_miGood.mono_l k
    · intro y0 y1
      unfold spec_miGood.l0
      repeat' first
      | (with_reducible exact ih0 _ _)
      | (with_reducible exact LeO.refl _)
      | (with_reducible exact LeO.none _)
      | (with_reducible refine LeO.ite ?_ ?_)
      | (with_reducible refine LeO.bind ?_ (fun _ => ?_))
      | exact ih0 _ _
      | exact LeO.none _
      | refine LeO.ite ?_ ?_
      | refine LeO.bind ?_ (fun _ => ?_)
theorem spec_miGood.mono : ∀ a0 k, LeO (spec_miGood.f k a0) (spec_miGood.f (k + 1) a0) := by
  intro a0 k
  have ih0 := spec_miGood.mono_l k
  unfold spec_miGood.f
  repeat' first
      | (with_reducible exact ih0 _ _)
      | (with_reducible exact LeO.refl _)
      | (with_reducible exact LeO.none _)
      | (with_reducible refine LeO.ite ?_ ?_)
      | (with_reducible refine LeO.bind ?_ (fun _ => ?_))
      | exact ih0 _ _
      | exact LeO.none _
      | refine LeO.ite ?_ ?_
      | refine LeO.bind ?_ (fun _ => ?_)
set_option maxHeartbeats 8000000 in
set_option maxRecDepth 100000 in
theorem spec_miGood.calls (k : Nat) (a0 : ByteArray) (r : Bool) (w : World) (h : spec_miGood.f k a0 = some r) :
    Calls Try.prog 34 #[.string a0] w fun e w' => e = .returned (.bool r) ∧ Drawn0 w w' := by
  have H : ((spec_l1In.f (a0.size : Int) 1 9).bind fun t101 => (if t101 = true then (spec_miGood.l0 k a0 0) else (some false))) = some r := h
  clear h
  replace H := Option.bind_eq_some_iff.mp H
  obtain ⟨t101, A20, H⟩ := H
  replace H : (if t101 = true then (spec_miGood.l0 k a0 0) else (some false)) = some r := H
  have A2 := Aside0.mk A20
  clear A20
  by_cases c3 : t101 = true
  · subst c3
    have H1 : (spec_miGood.l0 k a0 0) = some r := by rw [if_pos rfl] at H; exact H
    clear H
    have H := H1
    clear H1
    have H' := Aside0.mk H
    clear H
    go_enter Try.func34, Try.ntmps34
    go_wp2_with (first | ((with_reducible refine gate_callee (f := 46) rfl ?_); refine goesL_ (some 6) rfl rfl Try.func46 (by kernel_rfl) rfl #[.int .i64 (a0.size : Int), .int .i64 1, .int .i64 9] rfl (by (try simp only [List.map_toArray, List.map_cons, List.map_nil]); first | done | rfl | (simp only [List.length_drop, List.length_take]; rfl)) ?_; (with_reducible refine (spec_l1In.calls (a0.size : Int) 1 9 true _ A2.out).mono ?_); rintro e w' ⟨rfl, ⟨nd, rfl⟩⟩; refine ⟨_, rfl, ?_⟩))
    go_loopg [3] k (fun kq v3 w' => ∃ (x3_1 : Int), v3 = .int .i64 x3_1 ∧ Aside0 (spec_miGood.l0 kq a0 x3_1 = some r) ∧ Aside0 (kq ≤ k) ∧ Drawn0 w w')
    case atStart => exact ⟨(0), (by first | rfl | (simp; done) | (simp [*]; done)), H', ⟨Nat.le_refl _⟩, by repeat (first | exact Drawn0.refl _ | apply Drawn0.step)⟩
    case round =>
      clear H'
      try clear p2
      try clear c3
      obtain ⟨x3_1, rfl, HA, HK1, ⟨m1, rfl⟩⟩ := hrel
      cases gk with
      | zero => exact absurd HA.out (by simp [spec_miGood.l0])
      | succ k1 =>
        have H := HA.out
        clear HA
        simp only [spec_miGood.l0] at H
        by_cases c4 : x3_1 < (a0.size : Int)
        · rw [if_pos c4] at H
          have c4b0 : decide (x3_1 < (a0.size : Int)) = true := decide_eq_true c4
          clear c4
          by_cases c5 : 0 ≤ x3_1
          · rw [if_pos c5] at H
            have c5b0 : decide (0 ≤ x3_1) = true := decide_eq_true c5
            clear c5
            by_cases c7 : (bt a0 x3_1) < 48
            · rw [if_pos c7] at H
              have c7b0 : decide ((bt a0 x3_1) < 48) = true := decide_eq_true c7
              clear c7
              obtain rfl := Option.some.inj H
              have p6 : 0 ≤ (x3_1 : Int) := of_decide_eq_true (by first | (with_reducible assumption) | assumption)
              have q6 : x3_1 < (a0.size : Int) := of_decide_eq_true (by first | (with_reducible assumption) | assumption)
              have hx6 := bt_at a0 x3_1
              replace p6 := eq_true p6
              replace q6 := eq_true q6
              go_wp2
              go_ret
              exact ⟨by first | rfl | (simp; done) | (simp [*]; done), by repeat (first | exact Drawn0.refl _ | apply Drawn0.step)⟩
            · rw [if_neg c7] at H
              have c7b0 : decide ((bt a0 x3_1) < 48) = false := decide_eq_false c7
              clear c7
              by_cases c9 : (bt a0 x3_1) > 57
              · rw [if_pos c9] at H
                have c9b0 : decide (57 < (bt a0 x3_1)) = true := decide_eq_true c9
                clear c9
                obtain rfl := Option.some.inj H
                have p6 : 0 ≤ (x3_1 : Int) := of_decide_eq_true (by first | (with_reducible assumption) | assumption)
                have q6 : x3_1 < (a0.size : Int) := of_decide_eq_true (by first | (with_reducible assumption) | assumption)
                have hx6 := bt_at a0 x3_1
                replace p6 := eq_true p6
                replace q6 := eq_true q6
                have p8 : 0 ≤ (x3_1 : Int) := of_decide_eq_true (by first | (with_reducible assumption) | assumption)
                have q8 : x3_1 < (a0.size : Int) := of_decide_eq_true (by first | (with_reducible assumption) | assumption)
                have hx8 := bt_at a0 x3_1
                replace p8 := eq_true p8
                replace q8 := eq_true q8
                go_wp2
                go_ret
                exact ⟨by first | rfl | (simp; done) | (simp [*]; done), by repeat (first | exact Drawn0.refl _ | apply Drawn0.step)⟩
              · rw [if_neg c9] at H
                have c9b0 : decide (57 < (bt a0 x3_1)) = false := decide_eq_false c9
                clear c9
                have H' := Aside0.mk H
                clear H
                have p6 : 0 ≤ (x3_1 : Int) := of_decide_eq_true (by first | (with_reducible assumption) | assumption)
                have q6 : x3_1 < (a0.size : Int) := of_decide_eq_true (by first | (with_reducible assumption) | assumption)
                have hx6 := bt_at a0 x3_1
                replace p6 := eq_true p6
                replace q6 := eq_true q6
                have p8 : 0 ≤ (x3_1 : Int) := of_decide_eq_true (by first | (with_reducible assumption) | assumption)
                have q8 : x3_1 < (a0.size : Int) := of_decide_eq_true (by first | (with_reducible assumption) | assumption)
                have hx8 := bt_at a0 x3_1
                replace p8 := eq_true p8
                replace q8 := eq_true q8
                go_wp2
                go_roundg k1
                case measure => have := HK1.out; omega
                case rel => exact ⟨(wrap64 (x3_1 + 1)), (by first | rfl | (simp; done) | (simp [*]; done)), H', ⟨by have := HK1.out; omega⟩, by repeat (first | exact Drawn0.refl _ | apply Drawn0.step)⟩
          · rw [if_neg c5] at H
            exact absurd H (by simp)
        · rw [if_neg c4] at H
          have c4b0 : decide (x3_1 < (a0.size : Int)) = false := decide_eq_false c4
          clear c4
          obtain rfl := Option.some.inj H
          go_wp2
          go_ret
          exact ⟨by first | rfl | (simp; done) | (simp [*]; done), by repeat (first | exact Drawn0.refl _ | apply Drawn0.step)⟩
  · replace c3 := Bool.eq_false_iff.mpr c3
    subst c3
    have H1 : (some false) = some r := by rw [if_neg (show ¬ (false = true) by decide)] at H; exact H
    clear H
    have H := H1
    clear H1
    obtain rfl := Option.some.inj H
    go_enter Try.func34, Try.ntmps34
    go_wp2_with (first | ((with_reducible refine gate_callee (f := 46) rfl ?_); refine goesL_ (some 6) rfl rfl Try.func46 (by kernel_rfl) rfl #[.int .i64 (a0.size : Int), .int .i64 1, .int .i64 9] rfl (by (try simp only [List.map_toArray, List.map_cons, List.map_nil]); first | done | rfl | (simp only [List.length_drop, List.length_take]; rfl)) ?_; (with_reducible refine (spec_l1In.calls (a0.size : Int) 1 9 false _ A2.out).mono ?_); rintro e w' ⟨rfl, ⟨nd, rfl⟩⟩; refine ⟨_, rfl, ?_⟩))
    go_ret
    exact ⟨by first | rfl | (simp; done) | (simp [*]; done), by repeat (first | exact Drawn0.refl _ | apply Drawn0.step)⟩

end Go.Proofs.Ytpdcjkiejglaiaa.Q

/- Laid by a program of this session (wip/tools/own_print.py) over the translation of this seat: contracts of the functions that the statement reaches. -/
namespace Go.Proofs.Ytpdcjkiejglaiaa.Q
open Go.RowKit Go.Proofs.YtpdcjkiejglaiaaW.PrintWords Go.Proofs.YtpdcjkiejglaiaaW.PrintLast Go.Proofs.YtpdcjkiejglaiaaW.PrintMore
attribute [local go_sem] max2_int min2_int max_two min_two max_three min_three max_four min_four   -- for this text's walks alone
set_option linter.unusedVariables false
set_option linter.unusedSimpArgs false

/-! ### impl_IsReading: function 36 -/
def impl_IsReading.f (k : Nat) (a0 : ByteArray) : Option (Bool) := (impl_areDigits.f k a0 1 9).bind fun t101 => (some t101)
theorem impl_IsReading.mono : ∀ a0 k, LeO (impl_IsReading.f k a0) (impl_IsReading.f (k + 1) a0) := by
  intro a0 k
  unfold impl_IsReading.f
  repeat' first
      | (with_reducible exact impl_areDigits.mono _ _ _ _)
      | (with_reducible exact LeO.refl _)
      | (with_reducible exact LeO.none _)
      | (with_reducible refine LeO.ite ?_ ?_)
      | (with_reducible refine LeO.bind ?_ (fun _ => ?_))
      | exact impl_areDigits.mono _ _ _ _
      | exact LeO.none _
      | refine LeO.ite ?_ ?_
      | refine LeO.bind ?_ (fun _ => ?_)
set_option maxHeartbeats 8000000 in
set_option maxRecDepth 100000 in
theorem impl_IsReading.calls (k : Nat) (a0 : ByteArray) (r : Bool) (w : World) (h : impl_IsReading.f k a0 = some r) :
    Calls Try.prog 36 #[.string a0] w fun e w' => e = .returned (.bool r) ∧ Drawn0 w w' := by
  have H : ((impl_areDigits.f k a0 1 9).bind fun t101 => (some t101)) = some r := h
  clear h
  replace H := Option.bind_eq_some_iff.mp H
  obtain ⟨t101, A20, H⟩ := H
  replace H : (some t101) = some r := H
  have A2 := Aside0.mk A20
  clear A20
  obtain rfl := Option.some.inj H
  go_enter Try.func36, Try.ntmps36
  go_wp2_with (first | ((with_reducible refine gate_callee (f := 31) rfl ?_); refine goesL_ (some 4) rfl rfl Try.func31 (by kernel_rfl) rfl #[.string a0, .int .i64 1, .int .i64 9] rfl (by (try simp only [List.map_toArray, List.map_cons, List.map_nil]); first | done | rfl | (simp only [List.length_drop, List.length_take]; rfl)) ?_; (with_reducible refine (impl_areDigits.calls k a0 1 9 t101 _ A2.out).mono ?_); rintro e w' ⟨rfl, ⟨nd, rfl⟩⟩; refine ⟨_, rfl, ?_⟩))
  go_ret
  exact ⟨by first | rfl | (simp; done) | (simp [*]; done), by repeat (first | exact Drawn0.refl _ | apply Drawn0.step)⟩

end Go.Proofs.Ytpdcjkiejglaiaa.Q

/-
  Readings: both texts ask the same of a text: one to nine digits. And a lemma on loops that ask something of every place.
-/
namespace Go.Proofs.Ytpdcjkiejglaiaa.Q
open Go.RowKit Go.Proofs.YtpdcjkiejglaiaaW.PrintWords Go.Proofs.YtpdcjkiejglaiaaW.PrintLast Go.Proofs.YtpdcjkiejglaiaaW.PrintMore
set_option linter.unusedVariables false
set_option linter.unusedSimpArgs false

def allF (p : Nat → Bool) : Nat → Nat → Bool
  | 0, _ => true
  | d + 1, i => p i && allF p d (i + 1)
theorem allF_iff (p : Nat → Bool) : ∀ d i, allF p d i = true ↔ ∀ j, i ≤ j → j < i + d → p j = true
  | 0, i => by simp [allF]; intro j h1 h2; omega
  | d + 1, i => by
    simp only [allF, Bool.and_eq_true, allF_iff p d (i + 1)]
    constructor
    · rintro ⟨h1, h2⟩ j hj1 hj2
      by_cases e : j = i
      · rw [e]; exact h1
      · exact h2 j (by omega) (by omega)
    · intro h
      exact ⟨h i (by omega) (by omega), fun j h1 h2 => h j (by omega) (by omega)⟩
theorem Ev_all {l : Nat → Nat → Option Bool} {p : Nat → Bool} {n : Nat} {r : Bool} (stop : Ev (fun k => l k n) r)
    (yes : ∀ i, i < n → p i = true → ∀ q, Ev (fun k => l k (i + 1)) q → Ev (fun k => l k i) q) (no : ∀ i, i < n → p i = false → Ev (fun k => l k i) false) :
    ∀ d i, i + d = n → Ev (fun k => l k i) (allF p d i && r)
  | 0, i, h => by
    obtain rfl : i = n := by omega
    simpa [allF] using stop
  | d + 1, i, h => by
    have ih := Ev_all stop yes no d (i + 1) (by omega)
    simp only [allF]
    cases hp : p i with
    | true => simpa using yes i (by omega) hp _ ih
    | false => simpa using no i (by omega) hp

theorem Ev_all_from {l : Nat → Nat → Option Bool} {p : Nat → Bool} {n m : Nat} {r : Bool} (stop : Ev (fun k => l k n) r)
    (yes : ∀ i, m ≤ i → i < n → p i = true → ∀ q, Ev (fun k => l k (i + 1)) q → Ev (fun k => l k i) q) (no : ∀ i, m ≤ i → i < n → p i = false → Ev (fun k => l k i) false) :
    ∀ d i, m ≤ i → i + d = n → Ev (fun k => l k i) (allF p d i && r)
  | 0, i, _, h => by
    obtain rfl : i = n := by omega
    simpa [allF] using stop
  | d + 1, i, hm, h => by
    have ih := Ev_all_from stop yes no d (i + 1) (by omega) (by omega)
    simp only [allF]
    cases hp : p i with
    | true => simpa using yes i hm (by omega) hp _ ih
    | false => simpa using no i hm (by omega) hp

/-- are all bytes digits? -/
def digAt (s : ByteArray) (i : Nat) : Bool := decide (48 ≤ bt s i) && decide (bt s i ≤ 57)
def isDig (s : ByteArray) : Bool := allF (digAt s) s.size 0
theorem isDig_at {s : ByteArray} (h : isDig s = true) (i : Nat) (hi : i < s.size) : 48 ≤ bt s i ∧ bt s i ≤ 57 := by
  have := (allF_iff _ _ _).1 h i (by omega) (by omega)
  simpa [digAt] using this

theorem areDigits_ev (s : ByteArray) (lo hi : Int) (hs : s.size ≤ 140737488351232) :
    Ev (fun k => impl_areDigits.f k s lo hi) (isDig s && (decide (lo ≤ (s.size : Int)) && decide ((s.size : Int) ≤ hi))) := by
  have stop : Ev (fun k => impl_areDigits.l0 k s lo hi (s.size : Int) ((s.size : Nat) : Int)) (decide (lo ≤ (s.size : Int)) && decide ((s.size : Int) ≤ hi)) := by
    refine Ev.step (f := fun _ => some (decide (lo ≤ (s.size : Int)) && decide ((s.size : Int) ≤ hi))) (fun k => ?_) (Ev.now _)
    simp only [impl_areDigits.l0]
    rw [if_neg (by omega)]
    unfold impl_within.f
    by_cases h : lo ≤ (s.size : Int)
    · rw [if_pos h]; simp [h]
    · rw [if_neg h]; simp [h]
  refine Ev_all (l := fun k i => impl_areDigits.l0 k s lo hi (s.size : Int) (i : Int)) (p := digAt s) stop ?_ ?_ s.size 0 (by omega)
  · intro i hi' hp q hq
    refine Ev.step (fun k => ?_) hq
    simp only [digAt, Bool.and_eq_true, decide_eq_true_eq] at hp
    simp only [impl_areDigits.l0]
    rw [if_pos (by omega), if_pos (by omega), if_pos (by omega), if_neg (by omega), if_neg (by omega), wrap_id (by omega) (by omega)]
    rfl
  · intro i hi' hp
    refine Ev.step (f := fun _ => some false) (fun k => ?_) (Ev.now _)
    simp only [digAt, Bool.and_eq_false_iff, decide_eq_false_iff_not] at hp
    simp only [impl_areDigits.l0]
    rw [if_pos (by omega), if_pos (by omega), if_pos (by omega)]
    by_cases h : bt s (i : Int) < 48
    · rw [if_pos h]
    · rw [if_neg h, if_pos (by omega)]

def good (s : ByteArray) : Bool := isDig s && (decide ((1 : Int) ≤ (s.size : Int)) && decide ((s.size : Int) ≤ 9))
theorem good_at {s : ByteArray} (h : good s = true) : 1 ≤ s.size ∧ s.size ≤ 9 ∧ ∀ i : Nat, i < s.size → 48 ≤ bt s i ∧ bt s i ≤ 57 := by
  simp only [good, Bool.and_eq_true, decide_eq_true_eq] at h
  exact ⟨by omega, by omega, isDig_at h.1⟩
theorem IsReading_ev (s : ByteArray) (hs : s.size ≤ 140737488351232) : Ev (fun k => impl_IsReading.f k s) (good s) := by
  unfold impl_IsReading.f
  exact Ev.bind (areDigits_ev s 1 9 hs) (Ev.now _)
theorem miGood_ev (s : ByteArray) (hs : s.size ≤ 140737488351232) : Ev (fun k => spec_miGood.f k s) (good s) := by
  unfold spec_miGood.f
  have h1 : spec_l1In.f (s.size : Int) 1 9 = some (decide ((1 : Int) ≤ (s.size : Int)) && decide ((s.size : Int) ≤ 9)) := by
    unfold spec_l1In.f
    by_cases h : (s.size : Int) ≥ 1
    · rw [if_pos h]; simp [h]
    · rw [if_neg h]; simp; omega
  simp only [h1, Option.bind_some]
  by_cases h2 : (decide ((1 : Int) ≤ (s.size : Int)) && decide ((s.size : Int) ≤ 9)) = true
  · refine Ev.pos h2 ?_
    have stop : Ev (fun k => spec_miGood.l0 k s ((s.size : Nat) : Int)) true := by
      refine Ev.step (f := fun _ => some true) (fun k => ?_) (Ev.now _)
      simp only [spec_miGood.l0]
      rw [if_neg (by omega)]
    refine Ev.eq (Ev_all (l := fun k i => spec_miGood.l0 k s (i : Int)) (p := digAt s) stop ?_ ?_ s.size 0 (by omega)) (by simp [good, isDig, h2])
    · intro i hi' hp q hq
      refine Ev.step (fun k => ?_) hq
      simp only [digAt, Bool.and_eq_true, decide_eq_true_eq] at hp
      simp only [spec_miGood.l0]
      rw [if_pos (by omega), if_pos (by omega), if_neg (by omega), if_neg (by omega), wrap_id (by omega) (by omega)]
      rfl
    · intro i hi' hp
      refine Ev.step (f := fun _ => some false) (fun k => ?_) (Ev.now _)
      simp only [digAt, Bool.and_eq_false_iff, decide_eq_false_iff_not] at hp
      simp only [spec_miGood.l0]
      rw [if_pos (by omega), if_pos (by omega)]
      by_cases h : bt s (i : Int) < 48
      · rw [if_pos h]
      · rw [if_neg h, if_pos (by omega)]
  · refine Ev.neg h2 (Ev.eq (Ev.now _) ?_)
    simp only [good]
    cases hb : (decide ((1 : Int) ≤ (s.size : Int)) && decide ((s.size : Int) ≤ 9)) with
    | true => exact absurd hb h2
    | false => simp

end Go.Proofs.Ytpdcjkiejglaiaa.Q

/-
  The library contract of strings.IndexByte at this program: it returns the first place of the byte, or -1.
-/
namespace Go.Proofs
open Go.Shelf
def Try.lays137_ren : Go.Shelf.Ren := ⟨fun | 137 => 68 | 217 => 79 | 266 => 96 | n => n, fun | 9 => 9 | 5 => 5 | 3 => 3 | n => n, fun | n => n⟩
theorem Try.lays137 : Go.Proofs.Lays.n137 Try.prog Try.lays137_ren := {
  mixed := by kernel_rfl
  f137 := Try.func68.trans (congrArg some (by kernel_rfl))
  f217 := Try.func79.trans (congrArg some (by kernel_rfl))
  f266 := Try.func96.trans (congrArg some (by kernel_rfl))
  t3 := Try.underlying3
  a3 := Try.isAgg3
  z3 := Try.sizeOf3
  v3 := Try.zeroValue3
  t5 := Try.underlying5
  a5 := Try.isAgg5
  z5 := Try.sizeOf5
  v5 := Try.zeroValue5
  t9 := Try.underlying9
  a9 := Try.isAgg9
  z9 := Try.sizeOf9
  v9 := Try.zeroValue9 }
open Go.RowKit in
theorem Try.strings_IndexByte (s : ByteArray) (c : Int) (w : World) :
    Calls Try.prog 68 #[.string s, .int .u8 c] w fun e w' => e = .returned (.int .i64 (Lib.indexByte s.data.toList c.toNat.toUInt8)) ∧ w' = w := Any.strings_IndexByte Try.lays137 s c w
end Go.Proofs

/-
  'strings.IndexByte' in the form of the other contracts: it returns the first place of the byte in the text, or -1.
-/
namespace Go.Proofs.Ytpdcjkiejglaiaa.Q
open Go.RowKit Go.Proofs.YtpdcjkiejglaiaaW.PrintWords Go.Proofs.YtpdcjkiejglaiaaW.PrintLast Go.Proofs.YtpdcjkiejglaiaaW.PrintMore

def strings_IndexByte.f (a0 : ByteArray) (a1 : Int) : Option Int := some (Lib.indexByte a0.data.toList a1.toNat.toUInt8)
theorem strings_IndexByte.calls (a0 : ByteArray) (a1 : Int) (r : Int) (w : World) (h : strings_IndexByte.f a0 a1 = some r) :
    Calls Try.prog 68 #[.string a0, .int .u8 a1] w fun e w' => e = .returned (.int .i64 r) ∧ Drawn0 w w' := by
  obtain rfl := Option.some.inj h
  refine (Try.strings_IndexByte a0 a1 w).mono ?_
  rintro e w' ⟨rfl, rfl⟩
  exact ⟨rfl, Drawn0.refl _⟩

end Go.Proofs.Ytpdcjkiejglaiaa.Q

/- Laid by a program of this session (wip/tools/own_print.py) over the translation of this seat: contracts of the functions that the statement reaches. -/
namespace Go.Proofs.Ytpdcjkiejglaiaa.Q
open Go.RowKit Go.Proofs.YtpdcjkiejglaiaaW.PrintWords Go.Proofs.YtpdcjkiejglaiaaW.PrintLast Go.Proofs.YtpdcjkiejglaiaaW.PrintMore
attribute [local go_sem] max2_int min2_int max_two min_two max_three min_three max_four min_four   -- for this text's walks alone
set_option linter.unusedVariables false
set_option linter.unusedSimpArgs false

/-! ### impl_upside: function 67 -/
def impl_upside.j0 : Nat → Int → Int → Bool → Option (Int)
  | 0, _, _, _ => none
  | k + 1, x0, x3, x4 => if x4 = true then (some x0) else (if x3 = 54 then (some 57) else (if x3 = 57 then (some 54) else (some 0)))
def impl_upside.f (k : Nat) (a0 : Int) : Option (Int) := if a0 = 48 then (impl_upside.j0 k a0 a0 (a0 == 48)) else (if a0 = 49 then (impl_upside.j0 k a0 a0 (a0 == 49)) else (impl_upside.j0 k a0 a0 (a0 == 56)))
theorem impl_upside.mono_l : ∀ k, (∀ y0 y1 y2, LeO (impl_upside.j0 k y0 y1 y2) (impl_upside.j0 (k + 1) y0 y1 y2))
  | 0 => fun _ _ _ r h => by simp [impl_upside.j0] at h
  | k + 1 => by
    have ih0 := impl_upside.mono_l k
    · intro y0 y1 y2
      unfold impl_upside.j0
      repeat' first
      | (with_reducible exact ih0 _ _ _)
      | (with_reducible exact LeO.refl _)
      | (with_reducible exact LeO.none _)
      | (with_reducible refine LeO.ite ?_ ?_)
      | (with_reducible refine LeO.bind ?_ (fun _ => ?_))
      | exact ih0 _ _ _
      | exact LeO.none _
      | refine LeO.ite ?_ ?_
      | refine LeO.bind ?_ (fun _ => ?_)
theorem impl_upside.mono : ∀ a0 k, LeO (impl_upside.f k a0) (impl_upside.f (k + 1) a0) := by
  intro a0 k
  have ih0 := impl_upside.mono_l k
  unfold impl_upside.f
  repeat' first
      | (with_reducible exact ih0 _ _ _)
      | (with_reducible exact LeO.refl _)
      | (with_reducible exact LeO.none _)
      | (with_reducible refine LeO.ite ?_ ?_)
      | (with_reducible refine LeO.bind ?_ (fun _ => ?_))
      | exact ih0 _ _ _
      | exact LeO.none _
      | refine LeO.ite ?_ ?_
      | refine LeO.bind ?_ (fun _ => ?_)
set_option maxHeartbeats 8000000 in
set_option maxRecDepth 100000 in
theorem impl_upside.calls (k : Nat) (a0 : Int) (r : Int) (w : World) (h : impl_upside.f k a0 = some r) :
    Calls Try.prog 67 #[.int .u8 a0] w fun e w' => e = .returned (.int .u8 r) ∧ Drawn0 w w' := by
  have H : (if a0 = 48 then (impl_upside.j0 k a0 a0 (a0 == 48)) else (if a0 = 49 then (impl_upside.j0 k a0 a0 (a0 == 49)) else (impl_upside.j0 k a0 a0 (a0 == 56)))) = some r := h
  clear h
  have HC2 := Aside0.mk H
  clear H
  go_enter Try.func67, Try.ntmps67
  go_upto_if 4 with (fail)
  go_cut [4] (fun v4 wc => ∃ (kq : Nat) (x4_1 : Bool), v4 = .bool x4_1 ∧ Aside0 (impl_upside.j0 kq a0 a0 x4_1 = some r) ∧ Aside0 (kq ≤ k) ∧ Drawn0 w wc)
  case first =>
    have H := HC2.out
    clear HC2
    by_cases c3 : a0 = 48
    · rw [if_pos c3] at H
      have c3b0 : (a0 == 48) = true := beq_iff_eq.mpr c3
      have c3b1 : (a0 != 48) = false := bne_eq_false_iff_eq.mpr c3
      clear c3
      (first | rw [c3b0] | (simp only [i64_w, i32_w]; rw [c3b0]) | skip)
      have H' := Aside0.mk H
      clear H
      go_wp2
      go_meet
      case rel => exact ⟨_, ((a0 == 48)), (by first | rfl | (simp; done) | (simp [*]; done)), H', ⟨by first | omega | exact Nat.le_refl _⟩, by repeat (first | exact Drawn0.refl _ | apply Drawn0.step)⟩
    · rw [if_neg c3] at H
      have c3b0 : (a0 == 48) = false := beq_eq_false_iff_ne.mpr c3
      have c3b1 : (a0 != 48) = true := bne_iff_ne.mpr c3
      (first | rw [c3b0] | (simp only [i64_w, i32_w]; rw [c3b0]) | skip)
      by_cases c4 : a0 = 49
      · rw [if_pos c4] at H
        have c4b0 : (a0 == 49) = true := beq_iff_eq.mpr c4
        have c4b1 : (a0 != 49) = false := bne_eq_false_iff_eq.mpr c4
        clear c4
        have H' := Aside0.mk H
        clear H
        go_wp2
        go_meet
        case rel => exact ⟨_, ((a0 == 49)), (by first | rfl | (simp; done) | (simp [*]; done)), H', ⟨by first | omega | exact Nat.le_refl _⟩, by repeat (first | exact Drawn0.refl _ | apply Drawn0.step)⟩
      · rw [if_neg c4] at H
        have c4b0 : (a0 == 49) = false := beq_eq_false_iff_ne.mpr c4
        have c4b1 : (a0 != 49) = true := bne_iff_ne.mpr c4
        have H' := Aside0.mk H
        clear H
        go_wp2
        go_meet
        case rel => exact ⟨_, ((a0 == 56)), (by first | rfl | (simp; done) | (simp [*]; done)), H', ⟨by first | omega | exact Nat.le_refl _⟩, by repeat (first | exact Drawn0.refl _ | apply Drawn0.step)⟩
  case rest =>
    clear HC2
    try clear p2
    try clear c3
    try clear c3b0
    try clear c3b1
    try clear c4
    try clear c4b0
    try clear c4b1
    obtain ⟨kq, x4_1, rfl, HA, HJ1, ⟨mc1, rfl⟩⟩ := hcut
    cases kq with
    | zero => exact absurd HA.out (by simp [impl_upside.j0])
    | succ kj1 =>
      have H := HA.out
      clear HA
      simp only [impl_upside.j0] at H
      by_cases c5 : x4_1 = true
      · subst c5
        have H1 : (some a0) = some r := by rw [if_pos rfl] at H; exact H
        clear H
        have H := H1
        clear H1
        obtain rfl := Option.some.inj H
        go_wp2
        go_ret
        exact ⟨by first | rfl | (simp; done) | (simp [*]; done), by repeat (first | exact Drawn0.refl _ | apply Drawn0.step)⟩
      · replace c5 := Bool.eq_false_iff.mpr c5
        subst c5
        have H1 : (if a0 = 54 then (some 57) else (if a0 = 57 then (some 54) else (some 0))) = some r := by rw [if_neg (show ¬ (false = true) by decide)] at H; exact H
        clear H
        have H := H1
        clear H1
        by_cases c6 : a0 = 54
        · rw [if_pos c6] at H
          have c6b0 : (a0 == 54) = true := beq_iff_eq.mpr c6
          have c6b1 : (a0 != 54) = false := bne_eq_false_iff_eq.mpr c6
          clear c6
          obtain rfl := Option.some.inj H
          go_wp2
          go_ret
          exact ⟨by first | rfl | (simp; done) | (simp [*]; done), by repeat (first | exact Drawn0.refl _ | apply Drawn0.step)⟩
        · rw [if_neg c6] at H
          have c6b0 : (a0 == 54) = false := beq_eq_false_iff_ne.mpr c6
          have c6b1 : (a0 != 54) = true := bne_iff_ne.mpr c6
          by_cases c7 : a0 = 57
          · rw [if_pos c7] at H
            have c7b0 : (a0 == 57) = true := beq_iff_eq.mpr c7
            have c7b1 : (a0 != 57) = false := bne_eq_false_iff_eq.mpr c7
            clear c7
            obtain rfl := Option.some.inj H
            go_wp2
            go_ret
            exact ⟨by first | rfl | (simp; done) | (simp [*]; done), by repeat (first | exact Drawn0.refl _ | apply Drawn0.step)⟩
          · rw [if_neg c7] at H
            have c7b0 : (a0 == 57) = false := beq_eq_false_iff_ne.mpr c7
            have c7b1 : (a0 != 57) = true := bne_iff_ne.mpr c7
            obtain rfl := Option.some.inj H
            go_wp2
            go_ret
            exact ⟨by first | rfl | (simp; done) | (simp [*]; done), by repeat (first | exact Drawn0.refl _ | apply Drawn0.step)⟩

end Go.Proofs.Ytpdcjkiejglaiaa.Q

/-
  'may' (can a text begin a reading of a kind with so many digits): what it returns, kind by kind. Laid by a program of this session; one arm (upside down, two calls in one statement) written by hand.
-/
namespace Go.Proofs.Ytpdcjkiejglaiaa.Q
open Go.RowKit Go.Proofs.YtpdcjkiejglaiaaW.PrintWords Go.Proofs.YtpdcjkiejglaiaaW.PrintLast Go.Proofs.YtpdcjkiejglaiaaW.PrintMore
attribute [local go_sem] max2_int min2_int max_two min_two max_three min_three max_four min_four   -- for this text's walks alone
set_option linter.unusedVariables false
set_option linter.unusedSimpArgs false

/-! ### impl_may: function 61 -/
def impl_may.f (k : Nat) (a0 : Int) (a1 : ByteArray) (a2 : Int) : Option (Bool) := if 0 ≤ (wrap64 ((a1.size : Int) - 1)) then (if (wrap64 ((a1.size : Int) - 1)) < (a1.size : Int) then (if a0 = 97 then (if 0 < (a1.size : Int) then (some ((bt a1 (wrap64 ((a1.size : Int) - 1))) == (bt a1 0))) else (none)) else (if a0 = 109 then (if (wrap64 ((wrap64 (a2 - 1)) - (wrap64 ((a1.size : Int) - 1)))) > (wrap64 ((a1.size : Int) - 1)) then (some true) else (if 0 ≤ (wrap64 ((wrap64 (a2 - 1)) - (wrap64 ((a1.size : Int) - 1)))) then (if (wrap64 ((wrap64 (a2 - 1)) - (wrap64 ((a1.size : Int) - 1)))) < (a1.size : Int) then (some ((bt a1 (wrap64 ((wrap64 (a2 - 1)) - (wrap64 ((a1.size : Int) - 1))))) == (bt a1 (wrap64 ((a1.size : Int) - 1))))) else (none)) else (none))) else (if a0 = 117 then ((impl_upside.f k (bt a1 (wrap64 ((a1.size : Int) - 1)))).bind fun t179 => (if t179 = 0 then (some false) else (if (wrap64 ((wrap64 (a2 - 1)) - (wrap64 ((a1.size : Int) - 1)))) > (wrap64 ((a1.size : Int) - 1)) then (some true) else (if 0 ≤ (wrap64 ((wrap64 (a2 - 1)) - (wrap64 ((a1.size : Int) - 1)))) then (if (wrap64 ((wrap64 (a2 - 1)) - (wrap64 ((a1.size : Int) - 1)))) < (a1.size : Int) then ((impl_upside.f k (bt a1 (wrap64 ((a1.size : Int) - 1)))).bind fun t180 => (some ((bt a1 (wrap64 ((wrap64 (a2 - 1)) - (wrap64 ((a1.size : Int) - 1))))) == t180))) else (none)) else (none))))) else (if a0 = 114 then (if (wrap64 ((a1.size : Int) - 1)) = 0 then (some (decide ((wrap64 ((((bt a1 (wrap64 ((a1.size : Int) - 1))) - 48) % 256) + (wrap64 (a2 - (a1.size : Int))))) ≤ 9))) else (if 0 ≤ (wrap64 ((wrap64 ((a1.size : Int) - 1)) - 1)) then (if (wrap64 ((wrap64 ((a1.size : Int) - 1)) - 1)) < (a1.size : Int) then (if (bt a1 (wrap64 ((wrap64 ((a1.size : Int) - 1)) - 1))) < (bt a1 (wrap64 ((a1.size : Int) - 1))) then (some (decide ((wrap64 ((((bt a1 (wrap64 ((a1.size : Int) - 1))) - 48) % 256) + (wrap64 (a2 - (a1.size : Int))))) ≤ 9))) else (some false)) else (none)) else (none))) else (if a0 = 102 then (if (wrap64 ((a1.size : Int) - 1)) = 0 then (some (decide ((((bt a1 (wrap64 ((a1.size : Int) - 1))) - 48) % 256) ≥ (wrap64 (a2 - (a1.size : Int)))))) else (if 0 ≤ (wrap64 ((wrap64 ((a1.size : Int) - 1)) - 1)) then (if (wrap64 ((wrap64 ((a1.size : Int) - 1)) - 1)) < (a1.size : Int) then (if (bt a1 (wrap64 ((wrap64 ((a1.size : Int) - 1)) - 1))) > (bt a1 (wrap64 ((a1.size : Int) - 1))) then (some (decide ((((bt a1 (wrap64 ((a1.size : Int) - 1))) - 48) % 256) ≥ (wrap64 (a2 - (a1.size : Int)))))) else (some false)) else (none)) else (none))) else (if (wrap64 ((a1.size : Int) - 1)) ≤ (a1.size : Int) then ((strings_IndexByte.f (a1.extract 0 ((wrap64 ((a1.size : Int) - 1)) : Int).toNat) (bt a1 (wrap64 ((a1.size : Int) - 1)))).bind fun t181 => (some (decide (t181 < 0)))) else (none))))))) else (none)) else (none)
theorem impl_may.mono : ∀ a0 a1 a2 k, LeO (impl_may.f k a0 a1 a2) (impl_may.f (k + 1) a0 a1 a2) := by
  intro a0 a1 a2 k
  unfold impl_may.f
  repeat' first
      | (with_reducible exact impl_upside.mono _ _)
      | (with_reducible exact LeO.refl _)
      | (with_reducible exact LeO.none _)
      | (with_reducible refine LeO.ite ?_ ?_)
      | (with_reducible refine LeO.bind ?_ (fun _ => ?_))
      | exact impl_upside.mono _ _
      | exact LeO.none _
      | refine LeO.ite ?_ ?_
      | refine LeO.bind ?_ (fun _ => ?_)
set_option maxHeartbeats 8000000 in
set_option maxRecDepth 100000 in
theorem impl_may.calls (k : Nat) (a0 : Int) (a1 : ByteArray) (a2 : Int) (r : Bool) (w : World) (h : impl_may.f k a0 a1 a2 = some r) :
    Calls Try.prog 61 #[.int .u8 a0, .string a1, .int .i64 a2] w fun e w' => e = .returned (.bool r) ∧ Drawn0 w w' := by
  have H : (if 0 ≤ (wrap64 ((a1.size : Int) - 1)) then (if (wrap64 ((a1.size : Int) - 1)) < (a1.size : Int) then (if a0 = 97 then (if 0 < (a1.size : Int) then (some ((bt a1 (wrap64 ((a1.size : Int) - 1))) == (bt a1 0))) else (none)) else (if a0 = 109 then (if (wrap64 ((wrap64 (a2 - 1)) - (wrap64 ((a1.size : Int) - 1)))) > (wrap64 ((a1.size : Int) - 1)) then (some true) else (if 0 ≤ (wrap64 ((wrap64 (a2 - 1)) - (wrap64 ((a1.size : Int) - 1)))) then (if (wrap64 ((wrap64 (a2 - 1)) - (wrap64 ((a1.size : Int) - 1)))) < (a1.size : Int) then (some ((bt a1 (wrap64 ((wrap64 (a2 - 1)) - (wrap64 ((a1.size : Int) - 1))))) == (bt a1 (wrap64 ((a1.size : Int) - 1))))) else (none)) else (none))) else (if a0 = 117 then ((impl_upside.f k (bt a1 (wrap64 ((a1.size : Int) - 1)))).bind fun t179 => (if t179 = 0 then (some false) else (if (wrap64 ((wrap64 (a2 - 1)) - (wrap64 ((a1.size : Int) - 1)))) > (wrap64 ((a1.size : Int) - 1)) then (some true) else (if 0 ≤ (wrap64 ((wrap64 (a2 - 1)) - (wrap64 ((a1.size : Int) - 1)))) then (if (wrap64 ((wrap64 (a2 - 1)) - (wrap64 ((a1.size : Int) - 1)))) < (a1.size : Int) then ((impl_upside.f k (bt a1 (wrap64 ((a1.size : Int) - 1)))).bind fun t180 => (some ((bt a1 (wrap64 ((wrap64 (a2 - 1)) - (wrap64 ((a1.size : Int) - 1))))) == t180))) else (none)) else (none))))) else (if a0 = 114 then (if (wrap64 ((a1.size : Int) - 1)) = 0 then (some (decide ((wrap64 ((((bt a1 (wrap64 ((a1.size : Int) - 1))) - 48) % 256) + (wrap64 (a2 - (a1.size : Int))))) ≤ 9))) else (if 0 ≤ (wrap64 ((wrap64 ((a1.size : Int) - 1)) - 1)) then (if (wrap64 ((wrap64 ((a1.size : Int) - 1)) - 1)) < (a1.size : Int) then (if (bt a1 (wrap64 ((wrap64 ((a1.size : Int) - 1)) - 1))) < (bt a1 (wrap64 ((a1.size : Int) - 1))) then (some (decide ((wrap64 ((((bt a1 (wrap64 ((a1.size : Int) - 1))) - 48) % 256) + (wrap64 (a2 - (a1.size : Int))))) ≤ 9))) else (some false)) else (none)) else (none))) else (if a0 = 102 then (if (wrap64 ((a1.size : Int) - 1)) = 0 then (some (decide ((((bt a1 (wrap64 ((a1.size : Int) - 1))) - 48) % 256) ≥ (wrap64 (a2 - (a1.size : Int)))))) else (if 0 ≤ (wrap64 ((wrap64 ((a1.size : Int) - 1)) - 1)) then (if (wrap64 ((wrap64 ((a1.size : Int) - 1)) - 1)) < (a1.size : Int) then (if (bt a1 (wrap64 ((wrap64 ((a1.size : Int) - 1)) - 1))) > (bt a1 (wrap64 ((a1.size : Int) - 1))) then (some (decide ((((bt a1 (wrap64 ((a1.size : Int) - 1))) - 48) % 256) ≥ (wrap64 (a2 - (a1.size : Int)))))) else (some false)) else (none)) else (none))) else (if (wrap64 ((a1.size : Int) - 1)) ≤ (a1.size : Int) then ((strings_IndexByte.f (a1.extract 0 ((wrap64 ((a1.size : Int) - 1)) : Int).toNat) (bt a1 (wrap64 ((a1.size : Int) - 1)))).bind fun t181 => (some (decide (t181 < 0)))) else (none))))))) else (none)) else (none)) = some r := h
  clear h
  obtain ⟨ji4, hji4⟩ : ∃ j_ : Int, (wrap64 ((a1.size : Int) - 1)) = j_ := ⟨_, rfl⟩
  replace H : (if 0 ≤ (ji4) then (if (ji4) < (a1.size : Int) then (if a0 = 97 then (if 0 < (a1.size : Int) then (some ((bt a1 (ji4)) == (bt a1 0))) else (none)) else (if a0 = 109 then (if (wrap64 ((wrap64 (a2 - 1)) - (ji4))) > (ji4) then (some true) else (if 0 ≤ (wrap64 ((wrap64 (a2 - 1)) - (ji4))) then (if (wrap64 ((wrap64 (a2 - 1)) - (ji4))) < (a1.size : Int) then (some ((bt a1 (wrap64 ((wrap64 (a2 - 1)) - (ji4)))) == (bt a1 (ji4)))) else (none)) else (none))) else (if a0 = 117 then ((impl_upside.f k (bt a1 (ji4))).bind fun t179 => (if t179 = 0 then (some false) else (if (wrap64 ((wrap64 (a2 - 1)) - (ji4))) > (ji4) then (some true) else (if 0 ≤ (wrap64 ((wrap64 (a2 - 1)) - (ji4))) then (if (wrap64 ((wrap64 (a2 - 1)) - (ji4))) < (a1.size : Int) then ((impl_upside.f k (bt a1 (ji4))).bind fun t180 => (some ((bt a1 (wrap64 ((wrap64 (a2 - 1)) - (ji4)))) == t180))) else (none)) else (none))))) else (if a0 = 114 then (if (ji4) = 0 then (some (decide ((wrap64 ((((bt a1 (ji4)) - 48) % 256) + (wrap64 (a2 - (a1.size : Int))))) ≤ 9))) else (if 0 ≤ (wrap64 ((ji4) - 1)) then (if (wrap64 ((ji4) - 1)) < (a1.size : Int) then (if (bt a1 (wrap64 ((ji4) - 1))) < (bt a1 (ji4)) then (some (decide ((wrap64 ((((bt a1 (ji4)) - 48) % 256) + (wrap64 (a2 - (a1.size : Int))))) ≤ 9))) else (some false)) else (none)) else (none))) else (if a0 = 102 then (if (ji4) = 0 then (some (decide ((((bt a1 (ji4)) - 48) % 256) ≥ (wrap64 (a2 - (a1.size : Int)))))) else (if 0 ≤ (wrap64 ((ji4) - 1)) then (if (wrap64 ((ji4) - 1)) < (a1.size : Int) then (if (bt a1 (wrap64 ((ji4) - 1))) > (bt a1 (ji4)) then (some (decide ((((bt a1 (ji4)) - 48) % 256) ≥ (wrap64 (a2 - (a1.size : Int)))))) else (some false)) else (none)) else (none))) else (if (ji4) ≤ (a1.size : Int) then ((strings_IndexByte.f (a1.extract 0 ((ji4) : Int).toNat) (bt a1 (ji4))).bind fun t181 => (some (decide (t181 < 0)))) else (none))))))) else (none)) else (none)) = some r := by first | (rw [hji4] at H; exact H) | (simp only [hji4] at H ⊢; exact H)
  have hji4w : (IntKind.i64.wrap ((a1.size : Int) - 1)) = ji4 := (i64_w _).trans hji4
  by_cases c5 : 0 ≤ (ji4)
  · rw [if_pos c5] at H
    have c5b0 : decide (0 ≤ (ji4)) = true := decide_eq_true c5
    clear c5
    by_cases c6 : (ji4) < (a1.size : Int)
    · rw [if_pos c6] at H
      have c6b0 : decide ((ji4) < (a1.size : Int)) = true := decide_eq_true c6
      clear c6
      by_cases c8 : a0 = 97
      · rw [if_pos c8] at H
        have c8b0 : (a0 == 97) = true := beq_iff_eq.mpr c8
        have c8b1 : (a0 != 97) = false := bne_eq_false_iff_eq.mpr c8
        clear c8
        by_cases c10 : 0 < (a1.size : Int)
        · rw [if_pos c10] at H
          have c10b0 : decide (0 < (a1.size : Int)) = true := decide_eq_true c10
          have c10b1 : decide (0 < a1.size) = true := decide_eq_true (by omega)
          clear c10
          obtain rfl := Option.some.inj H
          have p7 : 0 ≤ ((ji4) : Int) := of_decide_eq_true (by first | (with_reducible assumption) | assumption)
          have q7 : (ji4) < (a1.size : Int) := of_decide_eq_true (by first | (with_reducible assumption) | assumption)
          have hx7 := bt_at a1 (ji4)
          replace p7 := eq_true p7
          replace q7 := eq_true q7
          have p9 : 0 ≤ ((ji4) : Int) := of_decide_eq_true (by first | (with_reducible assumption) | assumption)
          have q9 : (ji4) < (a1.size : Int) := of_decide_eq_true (by first | (with_reducible assumption) | assumption)
          have hx9 := bt_at a1 (ji4)
          replace p9 := eq_true p9
          replace q9 := eq_true q9
          have p11 : 0 ≤ (0 : Int) := (by omega)
          have q11 : 0 < a1.size := (by have : (0 : Int) < (a1.size : Int) := of_decide_eq_true (by first | (with_reducible assumption) | assumption); omega)
          have hx11 : ∀ h : 0 < a1.size, ((a1[0]'h).toNat : Int) = bt a1 0 := bt_at a1 0
          clear p11
          have qi11 : (0 < (a1.size : Int)) = True := eq_true (of_decide_eq_true (by first | (with_reducible assumption) | assumption))
          replace q11 := eq_true q11
          go_enter Try.func61, Try.ntmps61
          go_wp2
          repeat (go_quiet (fail); try go_wp2)
          go_ret
          exact ⟨by first | rfl | (simp; done) | (simp only [← hji4] <;> (first | rfl | simp)) | (simp [*]; done), by repeat (first | exact Drawn0.refl _ | apply Drawn0.step)⟩
        · rw [if_neg c10] at H
          exact absurd H (by simp)
      · rw [if_neg c8] at H
        have c8b0 : (a0 == 97) = false := beq_eq_false_iff_ne.mpr c8
        have c8b1 : (a0 != 97) = true := bne_iff_ne.mpr c8
        by_cases c12 : a0 = 109
        · rw [if_pos c12] at H
          have c12b0 : (a0 == 109) = true := beq_iff_eq.mpr c12
          have c12b1 : (a0 != 109) = false := bne_eq_false_iff_eq.mpr c12
          clear c12
          by_cases c13 : (wrap64 ((wrap64 (a2 - 1)) - (ji4))) > (ji4)
          · rw [if_pos c13] at H
            have c13b0 : decide ((ji4) < (wrap64 ((wrap64 (a2 - 1)) - (ji4)))) = true := decide_eq_true c13
            clear c13
            obtain rfl := Option.some.inj H
            have p7 : 0 ≤ ((ji4) : Int) := of_decide_eq_true (by first | (with_reducible assumption) | assumption)
            have q7 : (ji4) < (a1.size : Int) := of_decide_eq_true (by first | (with_reducible assumption) | assumption)
            have hx7 := bt_at a1 (ji4)
            replace p7 := eq_true p7
            replace q7 := eq_true q7
            go_enter Try.func61, Try.ntmps61
            go_wp2
            repeat (go_quiet (fail); try go_wp2)
            go_ret
            exact ⟨by first | rfl | (simp; done) | (simp only [← hji4] <;> (first | rfl | simp)) | (simp [*]; done), by repeat (first | exact Drawn0.refl _ | apply Drawn0.step)⟩
          · rw [if_neg c13] at H
            have c13b0 : decide ((ji4) < (wrap64 ((wrap64 (a2 - 1)) - (ji4)))) = false := decide_eq_false c13
            clear c13
            obtain ⟨ji14, hji14⟩ : ∃ j_ : Int, (wrap64 ((wrap64 (a2 - 1)) - (ji4))) = j_ := ⟨_, rfl⟩
            replace H : (if 0 ≤ (ji14) then (if (ji14) < (a1.size : Int) then (some ((bt a1 (ji14)) == (bt a1 (ji4)))) else (none)) else (none)) = some r := by first | (rw [hji14] at H; exact H) | (simp only [hji14] at H ⊢; exact H)
            (try rw [hji14] at c13b0)
            have hji14w : (IntKind.i64.wrap ((wrap64 (a2 - 1)) - (ji4))) = ji14 := (i64_w _).trans hji14
            by_cases c15 : 0 ≤ (ji14)
            · rw [if_pos c15] at H
              have c15b0 : decide (0 ≤ (ji14)) = true := decide_eq_true c15
              clear c15
              by_cases c16 : (ji14) < (a1.size : Int)
              · rw [if_pos c16] at H
                have c16b0 : decide ((ji14) < (a1.size : Int)) = true := decide_eq_true c16
                clear c16
                obtain rfl := Option.some.inj H
                have p7 : 0 ≤ ((ji4) : Int) := of_decide_eq_true (by first | (with_reducible assumption) | assumption)
                have q7 : (ji4) < (a1.size : Int) := of_decide_eq_true (by first | (with_reducible assumption) | assumption)
                have hx7 := bt_at a1 (ji4)
                replace p7 := eq_true p7
                replace q7 := eq_true q7
                have p17 : 0 ≤ ((ji14) : Int) := of_decide_eq_true (by first | (with_reducible assumption) | assumption)
                have q17 : (ji14) < (a1.size : Int) := of_decide_eq_true (by first | (with_reducible assumption) | assumption)
                have hx17 := bt_at a1 (ji14)
                replace p17 := eq_true p17
                replace q17 := eq_true q17
                have p18 : 0 ≤ ((ji4) : Int) := of_decide_eq_true (by first | (with_reducible assumption) | assumption)
                have q18 : (ji4) < (a1.size : Int) := of_decide_eq_true (by first | (with_reducible assumption) | assumption)
                have hx18 := bt_at a1 (ji4)
                replace p18 := eq_true p18
                replace q18 := eq_true q18
                go_enter Try.func61, Try.ntmps61
                go_wp2
                repeat (go_quiet (fail); try go_wp2)
                go_ret
                exact ⟨by first | rfl | (simp; done) | (simp only [← hji4, ← hji14] <;> (first | rfl | simp)) | (simp [*]; done), by repeat (first | exact Drawn0.refl _ | apply Drawn0.step)⟩
              · rw [if_neg c16] at H
                exact absurd H (by simp)
            · rw [if_neg c15] at H
              exact absurd H (by simp)
        · rw [if_neg c12] at H
          have c12b0 : (a0 == 109) = false := beq_eq_false_iff_ne.mpr c12
          have c12b1 : (a0 != 109) = true := bne_iff_ne.mpr c12
          by_cases c19 : a0 = 117
          · rw [if_pos c19] at H
            have c19b0 : (a0 == 117) = true := beq_iff_eq.mpr c19
            have c19b1 : (a0 != 117) = false := bne_eq_false_iff_eq.mpr c19
            clear c19
            replace H := Option.bind_eq_some_iff.mp H
            obtain ⟨t179, A210, H⟩ := H
            replace H : (if t179 = 0 then (some false) else (if (wrap64 ((wrap64 (a2 - 1)) - (ji4))) > (ji4) then (some true) else (if 0 ≤ (wrap64 ((wrap64 (a2 - 1)) - (ji4))) then (if (wrap64 ((wrap64 (a2 - 1)) - (ji4))) < (a1.size : Int) then ((impl_upside.f k (bt a1 (ji4))).bind fun t180 => (some ((bt a1 (wrap64 ((wrap64 (a2 - 1)) - (ji4)))) == t180))) else (none)) else (none)))) = some r := H
            have A21 := Aside0.mk A210
            clear A210
            by_cases c22 : t179 = 0
            · rw [if_pos c22] at H
              have c22b0 : (t179 == 0) = true := beq_iff_eq.mpr c22
              have c22b1 : (t179 != 0) = false := bne_eq_false_iff_eq.mpr c22
              clear c22
              obtain rfl := Option.some.inj H
              have p7 : 0 ≤ ((ji4) : Int) := of_decide_eq_true (by first | (with_reducible assumption) | assumption)
              have q7 : (ji4) < (a1.size : Int) := of_decide_eq_true (by first | (with_reducible assumption) | assumption)
              have hx7 := bt_at a1 (ji4)
              replace p7 := eq_true p7
              replace q7 := eq_true q7
              have p20 : 0 ≤ ((ji4) : Int) := of_decide_eq_true (by first | (with_reducible assumption) | assumption)
              have q20 : (ji4) < (a1.size : Int) := of_decide_eq_true (by first | (with_reducible assumption) | assumption)
              have hx20 := bt_at a1 (ji4)
              replace p20 := eq_true p20
              replace q20 := eq_true q20
              go_enter Try.func61, Try.ntmps61
              go_wp2_with (first | (go_at_call 67; (with_reducible refine (impl_upside.calls k (bt a1 (ji4)) t179 _ A21.out).mono ?_); rintro e w' ⟨rfl, ⟨nd, rfl⟩⟩; (try first | exact ⟨rfl, _, World.drewN_drewN _ _ _⟩ | exact ⟨rfl, _, Eq.trans (World.drewN_drewN _ _ _) (congrArg (World.drewN _) (Nat.add_assoc _ _ _))⟩)))
              repeat (go_quiet (first | (go_at_call 67; (with_reducible refine (impl_upside.calls k (bt a1 (ji4)) t179 _ A21.out).mono ?_); rintro e w' ⟨rfl, ⟨nd, rfl⟩⟩; (try first | exact ⟨rfl, _, World.drewN_drewN _ _ _⟩ | exact ⟨rfl, _, Eq.trans (World.drewN_drewN _ _ _) (congrArg (World.drewN _) (Nat.add_assoc _ _ _))⟩))); try go_wp2_with (first | (go_at_call 67; (with_reducible refine (impl_upside.calls k (bt a1 (ji4)) t179 _ A21.out).mono ?_); rintro e w' ⟨rfl, ⟨nd, rfl⟩⟩; (try first | exact ⟨rfl, _, World.drewN_drewN _ _ _⟩ | exact ⟨rfl, _, Eq.trans (World.drewN_drewN _ _ _) (congrArg (World.drewN _) (Nat.add_assoc _ _ _))⟩))))
              go_ret
              exact ⟨by first | rfl | (simp; done) | (simp only [← hji4] <;> (first | rfl | simp)) | (simp [*]; done), by repeat (first | exact Drawn0.refl _ | apply Drawn0.step)⟩
            · rw [if_neg c22] at H
              have c22b0 : (t179 == 0) = false := beq_eq_false_iff_ne.mpr c22
              have c22b1 : (t179 != 0) = true := bne_iff_ne.mpr c22
              by_cases c23 : (wrap64 ((wrap64 (a2 - 1)) - (ji4))) > (ji4)
              · rw [if_pos c23] at H
                have c23b0 : decide ((ji4) < (wrap64 ((wrap64 (a2 - 1)) - (ji4)))) = true := decide_eq_true c23
                clear c23
                obtain rfl := Option.some.inj H
                have p7 : 0 ≤ ((ji4) : Int) := of_decide_eq_true (by first | (with_reducible assumption) | assumption)
                have q7 : (ji4) < (a1.size : Int) := of_decide_eq_true (by first | (with_reducible assumption) | assumption)
                have hx7 := bt_at a1 (ji4)
                replace p7 := eq_true p7
                replace q7 := eq_true q7
                have p20 : 0 ≤ ((ji4) : Int) := of_decide_eq_true (by first | (with_reducible assumption) | assumption)
                have q20 : (ji4) < (a1.size : Int) := of_decide_eq_true (by first | (with_reducible assumption) | assumption)
                have hx20 := bt_at a1 (ji4)
                replace p20 := eq_true p20
                replace q20 := eq_true q20
                go_enter Try.func61, Try.ntmps61
                go_wp2_with (first | (go_at_call 67; (with_reducible refine (impl_upside.calls k (bt a1 (ji4)) t179 _ A21.out).mono ?_); rintro e w' ⟨rfl, ⟨nd, rfl⟩⟩; (try first | exact ⟨rfl, _, World.drewN_drewN _ _ _⟩ | exact ⟨rfl, _, Eq.trans (World.drewN_drewN _ _ _) (congrArg (World.drewN _) (Nat.add_assoc _ _ _))⟩)))
                repeat (go_quiet (first | (go_at_call 67; (with_reducible refine (impl_upside.calls k (bt a1 (ji4)) t179 _ A21.out).mono ?_); rintro e w' ⟨rfl, ⟨nd, rfl⟩⟩; (try first | exact ⟨rfl, _, World.drewN_drewN _ _ _⟩ | exact ⟨rfl, _, Eq.trans (World.drewN_drewN _ _ _) (congrArg (World.drewN _) (Nat.add_assoc _ _ _))⟩))); try go_wp2_with (first | (go_at_call 67; (with_reducible refine (impl_upside.calls k (bt a1 (ji4)) t179 _ A21.out).mono ?_); rintro e w' ⟨rfl, ⟨nd, rfl⟩⟩; (try first | exact ⟨rfl, _, World.drewN_drewN _ _ _⟩ | exact ⟨rfl, _, Eq.trans (World.drewN_drewN _ _ _) (congrArg (World.drewN _) (Nat.add_assoc _ _ _))⟩))))
                go_ret
                exact ⟨by first | rfl | (simp; done) | (simp only [← hji4] <;> (first | rfl | simp)) | (simp [*]; done), by repeat (first | exact Drawn0.refl _ | apply Drawn0.step)⟩
              · rw [if_neg c23] at H
                have c23b0 : decide ((ji4) < (wrap64 ((wrap64 (a2 - 1)) - (ji4)))) = false := decide_eq_false c23
                clear c23
                obtain ⟨ji24, hji24⟩ : ∃ j_ : Int, (wrap64 ((wrap64 (a2 - 1)) - (ji4))) = j_ := ⟨_, rfl⟩
                replace H : (if 0 ≤ (ji24) then (if (ji24) < (a1.size : Int) then ((impl_upside.f k (bt a1 (ji4))).bind fun t180 => (some ((bt a1 (ji24)) == t180))) else (none)) else (none)) = some r := by first | (rw [hji24] at H; exact H) | (simp only [hji24] at H ⊢; exact H)
                (try rw [hji24] at c23b0)
                (try rw [hji24] at A21)
                have hji24w : (IntKind.i64.wrap ((wrap64 (a2 - 1)) - (ji4))) = ji24 := (i64_w _).trans hji24
                by_cases c25 : 0 ≤ (ji24)
                · rw [if_pos c25] at H
                  have c25b0 : decide (0 ≤ (ji24)) = true := decide_eq_true c25
                  clear c25
                  by_cases c26 : (ji24) < (a1.size : Int)
                  · rw [if_pos c26] at H
                    have c26b0 : decide ((ji24) < (a1.size : Int)) = true := decide_eq_true c26
                    clear c26
                    replace H := Option.bind_eq_some_iff.mp H
                    obtain ⟨t180, A290, H⟩ := H
                    replace H : (some ((bt a1 (ji24)) == t180)) = some r := H
                    have A29 := Aside0.mk A290
                    clear A290
                    obtain rfl := Option.some.inj H
                    have p7 : 0 ≤ ((ji4) : Int) := of_decide_eq_true (by first | (with_reducible assumption) | assumption)
                    have q7 : (ji4) < (a1.size : Int) := of_decide_eq_true (by first | (with_reducible assumption) | assumption)
                    have hx7 := bt_at a1 (ji4)
                    replace p7 := eq_true p7
                    replace q7 := eq_true q7
                    have p20 : 0 ≤ ((ji4) : Int) := of_decide_eq_true (by first | (with_reducible assumption) | assumption)
                    have q20 : (ji4) < (a1.size : Int) := of_decide_eq_true (by first | (with_reducible assumption) | assumption)
                    have hx20 := bt_at a1 (ji4)
                    replace p20 := eq_true p20
                    replace q20 := eq_true q20
                    obtain rfl : t180 = t179 := Option.some.inj (A29.out.symm.trans A21.out)
                    have hx27 := bt_at a1 (ji24)
                    have p27 : 0 ≤ ((ji24) : Int) := of_decide_eq_true (by first | (with_reducible assumption) | assumption)
                    have q27 : (ji24) < (a1.size : Int) := of_decide_eq_true (by first | (with_reducible assumption) | assumption)
                    replace p27 := eq_true p27
                    replace q27 := eq_true q27
                    go_enter Try.func61, Try.ntmps61
                    go_wp2_with (fail)
                    go_quiet ((go_at_call 67; (with_reducible refine (impl_upside.calls k (bt a1 (ji4)) t180 _ A21.out).mono ?_); rintro e w' ⟨rfl, ⟨nd, rfl⟩⟩; first | exact ⟨rfl, _, World.drewN_drewN _ _ _⟩ | exact ⟨rfl, _, Eq.trans (World.drewN_drewN _ _ _) (congrArg (World.drewN _) (Nat.add_assoc _ _ _))⟩))
                    go_wp2
                    go_ret
                    exact ⟨by first | rfl | (simp; done) | (simp only [← hji4, ← hji24] <;> (first | rfl | simp)) | (simp [*]; done), by repeat (first | exact Drawn0.refl _ | apply Drawn0.step)⟩
                  · rw [if_neg c26] at H
                    exact absurd H (by simp)
                · rw [if_neg c25] at H
                  exact absurd H (by simp)
          · rw [if_neg c19] at H
            have c19b0 : (a0 == 117) = false := beq_eq_false_iff_ne.mpr c19
            have c19b1 : (a0 != 117) = true := bne_iff_ne.mpr c19
            by_cases c30 : a0 = 114
            · rw [if_pos c30] at H
              have c30b0 : (a0 == 114) = true := beq_iff_eq.mpr c30
              have c30b1 : (a0 != 114) = false := bne_eq_false_iff_eq.mpr c30
              clear c30
              by_cases c31 : (ji4) = 0
              · rw [if_pos c31] at H
                have c31b0 : ((ji4) == 0) = true := beq_iff_eq.mpr c31
                have c31b1 : ((ji4) != 0) = false := bne_eq_false_iff_eq.mpr c31
                clear c31
                obtain rfl := Option.some.inj H
                have p7 : 0 ≤ ((ji4) : Int) := of_decide_eq_true (by first | (with_reducible assumption) | assumption)
                have q7 : (ji4) < (a1.size : Int) := of_decide_eq_true (by first | (with_reducible assumption) | assumption)
                have hx7 := bt_at a1 (ji4)
                replace p7 := eq_true p7
                replace q7 := eq_true q7
                go_enter Try.func61, Try.ntmps61
                go_wp2
                repeat (go_quiet (fail); try go_wp2)
                go_ret
                exact ⟨by first | rfl | (simp; done) | (simp only [← hji4] <;> (first | rfl | simp)) | (simp [*]; done), by repeat (first | exact Drawn0.refl _ | apply Drawn0.step)⟩
              · rw [if_neg c31] at H
                have c31b0 : ((ji4) == 0) = false := beq_eq_false_iff_ne.mpr c31
                have c31b1 : ((ji4) != 0) = true := bne_iff_ne.mpr c31
                obtain ⟨ji32, hji32⟩ : ∃ j_ : Int, (wrap64 ((ji4) - 1)) = j_ := ⟨_, rfl⟩
                replace H : (if 0 ≤ (ji32) then (if (ji32) < (a1.size : Int) then (if (bt a1 (ji32)) < (bt a1 (ji4)) then (some (decide ((wrap64 ((((bt a1 (ji4)) - 48) % 256) + (wrap64 (a2 - (a1.size : Int))))) ≤ 9))) else (some false)) else (none)) else (none)) = some r := by first | (rw [hji32] at H; exact H) | (simp only [hji32] at H ⊢; exact H)
                have hji32w : (IntKind.i64.wrap ((ji4) - 1)) = ji32 := (i64_w _).trans hji32
                by_cases c33 : 0 ≤ (ji32)
                · rw [if_pos c33] at H
                  have c33b0 : decide (0 ≤ (ji32)) = true := decide_eq_true c33
                  clear c33
                  by_cases c34 : (ji32) < (a1.size : Int)
                  · rw [if_pos c34] at H
                    have c34b0 : decide ((ji32) < (a1.size : Int)) = true := decide_eq_true c34
                    clear c34
                    by_cases c37 : (bt a1 (ji32)) < (bt a1 (ji4))
                    · rw [if_pos c37] at H
                      have c37b0 : decide ((bt a1 (ji32)) < (bt a1 (ji4))) = true := decide_eq_true c37
                      clear c37
                      obtain rfl := Option.some.inj H
                      have p7 : 0 ≤ ((ji4) : Int) := of_decide_eq_true (by first | (with_reducible assumption) | assumption)
                      have q7 : (ji4) < (a1.size : Int) := of_decide_eq_true (by first | (with_reducible assumption) | assumption)
                      have hx7 := bt_at a1 (ji4)
                      replace p7 := eq_true p7
                      replace q7 := eq_true q7
                      have p35 : 0 ≤ ((ji32) : Int) := of_decide_eq_true (by first | (with_reducible assumption) | assumption)
                      have q35 : (ji32) < (a1.size : Int) := of_decide_eq_true (by first | (with_reducible assumption) | assumption)
                      have hx35 := bt_at a1 (ji32)
                      replace p35 := eq_true p35
                      replace q35 := eq_true q35
                      have p36 : 0 ≤ ((ji4) : Int) := of_decide_eq_true (by first | (with_reducible assumption) | assumption)
                      have q36 : (ji4) < (a1.size : Int) := of_decide_eq_true (by first | (with_reducible assumption) | assumption)
                      have hx36 := bt_at a1 (ji4)
                      replace p36 := eq_true p36
                      replace q36 := eq_true q36
                      go_enter Try.func61, Try.ntmps61
                      go_wp2
                      repeat (go_quiet (fail); try go_wp2)
                      go_ret
                      exact ⟨by first | rfl | (simp; done) | (simp only [← hji4, ← hji32] <;> (first | rfl | simp)) | (simp [*]; done), by repeat (first | exact Drawn0.refl _ | apply Drawn0.step)⟩
                    · rw [if_neg c37] at H
                      have c37b0 : decide ((bt a1 (ji32)) < (bt a1 (ji4))) = false := decide_eq_false c37
                      clear c37
                      obtain rfl := Option.some.inj H
                      have p7 : 0 ≤ ((ji4) : Int) := of_decide_eq_true (by first | (with_reducible assumption) | assumption)
                      have q7 : (ji4) < (a1.size : Int) := of_decide_eq_true (by first | (with_reducible assumption) | assumption)
                      have hx7 := bt_at a1 (ji4)
                      replace p7 := eq_true p7
                      replace q7 := eq_true q7
                      have p35 : 0 ≤ ((ji32) : Int) := of_decide_eq_true (by first | (with_reducible assumption) | assumption)
                      have q35 : (ji32) < (a1.size : Int) := of_decide_eq_true (by first | (with_reducible assumption) | assumption)
                      have hx35 := bt_at a1 (ji32)
                      replace p35 := eq_true p35
                      replace q35 := eq_true q35
                      have p36 : 0 ≤ ((ji4) : Int) := of_decide_eq_true (by first | (with_reducible assumption) | assumption)
                      have q36 : (ji4) < (a1.size : Int) := of_decide_eq_true (by first | (with_reducible assumption) | assumption)
                      have hx36 := bt_at a1 (ji4)
                      replace p36 := eq_true p36
                      replace q36 := eq_true q36
                      go_enter Try.func61, Try.ntmps61
                      go_wp2
                      repeat (go_quiet (fail); try go_wp2)
                      go_ret
                      exact ⟨by first | rfl | (simp; done) | (simp only [← hji4, ← hji32] <;> (first | rfl | simp)) | (simp [*]; done), by repeat (first | exact Drawn0.refl _ | apply Drawn0.step)⟩
                  · rw [if_neg c34] at H
                    exact absurd H (by simp)
                · rw [if_neg c33] at H
                  exact absurd H (by simp)
            · rw [if_neg c30] at H
              have c30b0 : (a0 == 114) = false := beq_eq_false_iff_ne.mpr c30
              have c30b1 : (a0 != 114) = true := bne_iff_ne.mpr c30
              by_cases c38 : a0 = 102
              · rw [if_pos c38] at H
                have c38b0 : (a0 == 102) = true := beq_iff_eq.mpr c38
                have c38b1 : (a0 != 102) = false := bne_eq_false_iff_eq.mpr c38
                clear c38
                by_cases c39 : (ji4) = 0
                · rw [if_pos c39] at H
                  have c39b0 : ((ji4) == 0) = true := beq_iff_eq.mpr c39
                  have c39b1 : ((ji4) != 0) = false := bne_eq_false_iff_eq.mpr c39
                  clear c39
                  obtain rfl := Option.some.inj H
                  have p7 : 0 ≤ ((ji4) : Int) := of_decide_eq_true (by first | (with_reducible assumption) | assumption)
                  have q7 : (ji4) < (a1.size : Int) := of_decide_eq_true (by first | (with_reducible assumption) | assumption)
                  have hx7 := bt_at a1 (ji4)
                  replace p7 := eq_true p7
                  replace q7 := eq_true q7
                  go_enter Try.func61, Try.ntmps61
                  go_wp2
                  repeat (go_quiet (fail); try go_wp2)
                  go_ret
                  exact ⟨by first | rfl | (simp; done) | (simp only [← hji4] <;> (first | rfl | simp)) | (simp [*]; done), by repeat (first | exact Drawn0.refl _ | apply Drawn0.step)⟩
                · rw [if_neg c39] at H
                  have c39b0 : ((ji4) == 0) = false := beq_eq_false_iff_ne.mpr c39
                  have c39b1 : ((ji4) != 0) = true := bne_iff_ne.mpr c39
                  obtain ⟨ji40, hji40⟩ : ∃ j_ : Int, (wrap64 ((ji4) - 1)) = j_ := ⟨_, rfl⟩
                  replace H : (if 0 ≤ (ji40) then (if (ji40) < (a1.size : Int) then (if (bt a1 (ji40)) > (bt a1 (ji4)) then (some (decide ((((bt a1 (ji4)) - 48) % 256) ≥ (wrap64 (a2 - (a1.size : Int)))))) else (some false)) else (none)) else (none)) = some r := by first | (rw [hji40] at H; exact H) | (simp only [hji40] at H ⊢; exact H)
                  have hji40w : (IntKind.i64.wrap ((ji4) - 1)) = ji40 := (i64_w _).trans hji40
                  by_cases c41 : 0 ≤ (ji40)
                  · rw [if_pos c41] at H
                    have c41b0 : decide (0 ≤ (ji40)) = true := decide_eq_true c41
                    clear c41
                    by_cases c42 : (ji40) < (a1.size : Int)
                    · rw [if_pos c42] at H
                      have c42b0 : decide ((ji40) < (a1.size : Int)) = true := decide_eq_true c42
                      clear c42
                      by_cases c45 : (bt a1 (ji40)) > (bt a1 (ji4))
                      · rw [if_pos c45] at H
                        have c45b0 : decide ((bt a1 (ji4)) < (bt a1 (ji40))) = true := decide_eq_true c45
                        clear c45
                        obtain rfl := Option.some.inj H
                        have p7 : 0 ≤ ((ji4) : Int) := of_decide_eq_true (by first | (with_reducible assumption) | assumption)
                        have q7 : (ji4) < (a1.size : Int) := of_decide_eq_true (by first | (with_reducible assumption) | assumption)
                        have hx7 := bt_at a1 (ji4)
                        replace p7 := eq_true p7
                        replace q7 := eq_true q7
                        have p43 : 0 ≤ ((ji40) : Int) := of_decide_eq_true (by first | (with_reducible assumption) | assumption)
                        have q43 : (ji40) < (a1.size : Int) := of_decide_eq_true (by first | (with_reducible assumption) | assumption)
                        have hx43 := bt_at a1 (ji40)
                        replace p43 := eq_true p43
                        replace q43 := eq_true q43
                        have p44 : 0 ≤ ((ji4) : Int) := of_decide_eq_true (by first | (with_reducible assumption) | assumption)
                        have q44 : (ji4) < (a1.size : Int) := of_decide_eq_true (by first | (with_reducible assumption) | assumption)
                        have hx44 := bt_at a1 (ji4)
                        replace p44 := eq_true p44
                        replace q44 := eq_true q44
                        go_enter Try.func61, Try.ntmps61
                        go_wp2
                        repeat (go_quiet (fail); try go_wp2)
                        go_ret
                        exact ⟨by first | rfl | (simp; done) | (simp only [← hji4, ← hji40] <;> (first | rfl | simp)) | (simp [*]; done), by repeat (first | exact Drawn0.refl _ | apply Drawn0.step)⟩
                      · rw [if_neg c45] at H
                        have c45b0 : decide ((bt a1 (ji4)) < (bt a1 (ji40))) = false := decide_eq_false c45
                        clear c45
                        obtain rfl := Option.some.inj H
                        have p7 : 0 ≤ ((ji4) : Int) := of_decide_eq_true (by first | (with_reducible assumption) | assumption)
                        have q7 : (ji4) < (a1.size : Int) := of_decide_eq_true (by first | (with_reducible assumption) | assumption)
                        have hx7 := bt_at a1 (ji4)
                        replace p7 := eq_true p7
                        replace q7 := eq_true q7
                        have p43 : 0 ≤ ((ji40) : Int) := of_decide_eq_true (by first | (with_reducible assumption) | assumption)
                        have q43 : (ji40) < (a1.size : Int) := of_decide_eq_true (by first | (with_reducible assumption) | assumption)
                        have hx43 := bt_at a1 (ji40)
                        replace p43 := eq_true p43
                        replace q43 := eq_true q43
                        have p44 : 0 ≤ ((ji4) : Int) := of_decide_eq_true (by first | (with_reducible assumption) | assumption)
                        have q44 : (ji4) < (a1.size : Int) := of_decide_eq_true (by first | (with_reducible assumption) | assumption)
                        have hx44 := bt_at a1 (ji4)
                        replace p44 := eq_true p44
                        replace q44 := eq_true q44
                        go_enter Try.func61, Try.ntmps61
                        go_wp2
                        repeat (go_quiet (fail); try go_wp2)
                        go_ret
                        exact ⟨by first | rfl | (simp; done) | (simp only [← hji4, ← hji40] <;> (first | rfl | simp)) | (simp [*]; done), by repeat (first | exact Drawn0.refl _ | apply Drawn0.step)⟩
                    · rw [if_neg c42] at H
                      exact absurd H (by simp)
                  · rw [if_neg c41] at H
                    exact absurd H (by simp)
              · rw [if_neg c38] at H
                have c38b0 : (a0 == 102) = false := beq_eq_false_iff_ne.mpr c38
                have c38b1 : (a0 != 102) = true := bne_iff_ne.mpr c38
                have c46b0 := eq_true (of_decide_eq_true (by first | (with_reducible assumption) | assumption) : 0 ≤ (ji4))
                by_cases c47 : (ji4) ≤ (a1.size : Int)
                · rw [if_pos c47] at H
                  have c47b0 := eq_true c47
                  have c47b1 : decide ((ji4) ≤ (a1.size : Int)) = true := decide_eq_true c47
                  clear c47
                  replace H := Option.bind_eq_some_iff.mp H
                  obtain ⟨t181, A490, H⟩ := H
                  replace H : (some (decide (t181 < 0))) = some r := H
                  have A49 := Aside0.mk A490
                  clear A490
                  obtain rfl := Option.some.inj H
                  have p7 : 0 ≤ ((ji4) : Int) := of_decide_eq_true (by first | (with_reducible assumption) | assumption)
                  have q7 : (ji4) < (a1.size : Int) := of_decide_eq_true (by first | (with_reducible assumption) | assumption)
                  have hx7 := bt_at a1 (ji4)
                  replace p7 := eq_true p7
                  replace q7 := eq_true q7
                  have p48 : 0 ≤ ((ji4) : Int) := of_decide_eq_true (by first | (with_reducible assumption) | assumption)
                  have q48 : (ji4) < (a1.size : Int) := of_decide_eq_true (by first | (with_reducible assumption) | assumption)
                  have hx48 := bt_at a1 (ji4)
                  replace p48 := eq_true p48
                  replace q48 := eq_true q48
                  go_enter Try.func61, Try.ntmps61
                  go_wp2_with (first | (go_at_call 68; (with_reducible refine (strings_IndexByte.calls (a1.extract 0 ((ji4) : Int).toNat) (bt a1 (ji4)) t181 _ A49.out).mono ?_); rintro e w' ⟨rfl, ⟨nd, rfl⟩⟩; (try first | exact ⟨rfl, _, World.drewN_drewN _ _ _⟩ | exact ⟨rfl, _, Eq.trans (World.drewN_drewN _ _ _) (congrArg (World.drewN _) (Nat.add_assoc _ _ _))⟩)))
                  repeat (go_quiet (first | (go_at_call 68; (with_reducible refine (strings_IndexByte.calls (a1.extract 0 ((ji4) : Int).toNat) (bt a1 (ji4)) t181 _ A49.out).mono ?_); rintro e w' ⟨rfl, ⟨nd, rfl⟩⟩; (try first | exact ⟨rfl, _, World.drewN_drewN _ _ _⟩ | exact ⟨rfl, _, Eq.trans (World.drewN_drewN _ _ _) (congrArg (World.drewN _) (Nat.add_assoc _ _ _))⟩))); try go_wp2_with (first | (go_at_call 68; (with_reducible refine (strings_IndexByte.calls (a1.extract 0 ((ji4) : Int).toNat) (bt a1 (ji4)) t181 _ A49.out).mono ?_); rintro e w' ⟨rfl, ⟨nd, rfl⟩⟩; (try first | exact ⟨rfl, _, World.drewN_drewN _ _ _⟩ | exact ⟨rfl, _, Eq.trans (World.drewN_drewN _ _ _) (congrArg (World.drewN _) (Nat.add_assoc _ _ _))⟩))))
                  go_ret
                  exact ⟨by first | rfl | (simp; done) | (simp only [← hji4] <;> (first | rfl | simp)) | (simp [*]; done), by repeat (first | exact Drawn0.refl _ | apply Drawn0.step)⟩
                · rw [if_neg c47] at H
                  exact absurd H (by simp)
    · rw [if_neg c6] at H
      exact absurd H (by simp)
  · rw [if_neg c5] at H
    exact absurd H (by simp)

end Go.Proofs.Ytpdcjkiejglaiaa.Q

/-
  'miDigits' (the reference's count of different digits): over a text of bytes below 128 it returns the number of places whose byte stands nowhere before.
-/
namespace Go.Proofs.Ytpdcjkiejglaiaa.Q
open Go.RowKit Go.Proofs.YtpdcjkiejglaiaaW.PrintWords Go.Proofs.YtpdcjkiejglaiaaW.PrintLast Go.Proofs.YtpdcjkiejglaiaaW.PrintMore

/-- does the byte at place i stand nowhere among the first k? -/
def newTo (s : ByteArray) (i : Nat) : Nat → Bool
  | 0 => true
  | k + 1 => newTo s i k && (bt s k != bt s i)
def cntNew (s : ByteArray) : Nat → Int
  | 0 => 0
  | i + 1 => cntNew s i + (if newTo s i i = true then 1 else 0)
def low (s : ByteArray) : Prop := ∀ i (h : i < s.size), (s[i]'h).toNat < 128
theorem cntNew_le (s : ByteArray) : ∀ i : Nat, 0 ≤ cntNew s i ∧ cntNew s i ≤ i
  | 0 => ⟨by simp [cntNew], by simp [cntNew]⟩
  | i + 1 => by have := cntNew_le s i; simp only [cntNew]; split <;> omega
theorem cntNew_yes (s : ByteArray) (i : Nat) (h : newTo s i i = true) : cntNew s (i + 1) = cntNew s i + 1 := by simp [cntNew, h]
theorem cntNew_no (s : ByteArray) (i : Nat) (h : newTo s i i = false) : cntNew s (i + 1) = cntNew s i := by simp [cntNew, h]
theorem iter_below (w : World) (s : ByteArray) (p : Nat) : Below w.heap.size w (w.iter s p) := below_alloc (Below.refl _ _) _
theorem bt_nat (s : ByteArray) (i : Nat) (h : i < s.size) : ((s[i]'h).toNat : Int) = bt s i := bt_at s i h

set_option maxHeartbeats 1000000 in
theorem miDigits_any (s : ByteArray) (w : World) (hs : s.size ≤ 9223372036854775807) (hl : low s) :
    Calls Try.prog 50 #[.string s] w fun e w' => e = .returned (.int .i64 (cntNew s s.size)) ∧ Below w.heap.size w w' := by
  have HL := Aside0.mk hl
  clear hl
  go_enter Try.func50, Try.ntmps50
  go_wp2
  go_loopg [3] (s.size) (fun g v3 wr => ∃ pos : Nat, v3 = .int .i64 (cntNew s pos) ∧ Aside0 (pos + g = s.size) ∧ Aside0 (wr.heap[w.heap.size]? = some (.stringIter s pos)) ∧ Aside0 (Below w.heap.size w wr))
  case atStart => exact ⟨0, rfl, ⟨by omega⟩, ⟨World.iter_heap _ _ _⟩, ⟨iter_below _ _ _⟩⟩
  case round =>
    obtain ⟨pos, rfl, hg, hit, hb⟩ := hrel
    obtain ⟨go, rfl⟩ : ∃ x, x = gk := ⟨_, rfl⟩
    obtain ⟨wo, rfl⟩ : ∃ x, x = wr := ⟨_, rfl⟩
    by_cases hp : pos < s.size
    · have hnx : ∀ ty, (Instr.next (.pointer (some ⟨w.heap.size, 0, none⟩)) true ty).run Try.prog wo = _ := fun ty => Lib.run_next_ascii_at wo w.heap.size s pos ty hit.out hp (HL.out pos hp)
      have hc := cntNew_le s pos
      obtain ⟨w1, hw1⟩ : ∃ w1, w1 = wo.iterAt w.heap.size s (pos + 1) := ⟨_, rfl⟩
      have hit1 : Aside0 (w1.heap[w.heap.size]? = some (.stringIter s (pos + 1))) := ⟨by rw [hw1]; exact Lib.iterAt_heap _ _ _ _ _ hit.out⟩
      have hb1 : Aside0 (Below w.heap.size w w1) := ⟨by rw [hw1]; exact Lib.below_iterAt hb.out (Nat.le_refl _) _ _⟩
      rw [← hw1] at hnx
      clear hw1
      go_wp2
      go_loopg [5, 6] (pos) (fun g v5 v6 w2 => ∃ k : Nat, v5 = .bool (newTo s pos k) ∧ v6 = .int .i64 k ∧ Aside0 (k + g = pos) ∧ ∃ n, w2 = w1.drewN n)
      case atStart => exact ⟨0, rfl, rfl, ⟨by omega⟩, 0, rfl⟩
      case round =>
        obtain ⟨k, rfl, rfl, hk, n, rfl⟩ := hrel
        clear hnx
        have hk' := hk.out
        by_cases hlt : k < pos
        · have hb1 : k < s.size := by omega
          have bk := bt_nat s k hb1
          have bp := bt_nat s pos hp
          cases hn : newTo s pos k with
          | true =>
            clear hk'
            have HN := Aside0.mk hn
            have e1 : newTo s pos (k + 1) = (bt s k != bt s pos) := by simp [newTo, hn]
            have E1 := Aside0.mk e1
            clear hn e1
            go_wp2
            go_quiet (fail)
            go_wp2
            all_goals
              go_roundg (gk - 1)
              case measure => have := hk.out; omega
              case rel =>
                refine ⟨k + 1, ?_, by go_num, ⟨by have := hk.out; omega⟩, _, rfl⟩
                rw [E1.out]
          | false =>
            clear hk'
            have HN := Aside0.mk hn
            have e1 : newTo s pos (k + 1) = false := by simp [newTo, hn]
            have E1 := Aside0.mk e1
            clear hn e1
            go_wp2
            go_quiet (fail)
            go_wp2
            all_goals
              go_roundg (gk - 1)
              case measure => have := hk.out; omega
              case rel =>
                refine ⟨k + 1, ?_, by go_num, ⟨by have := hk.out; omega⟩, _, rfl⟩
                rw [E1.out]
        · obtain rfl : k = pos := by omega
          clear hk'
          cases hn : newTo s k k with
          | true =>
            have HN := Aside0.mk (cntNew_yes s k hn)
            clear hn
            go_wp2
            go_roundg (go - 1)
            case measure => have := hg.out; omega
            case rel => exact ⟨k + 1, by rw [HN.out], ⟨by have := hg.out; omega⟩, ⟨by exact hit1.out⟩, ⟨pw_below_drewN hb1.out _⟩⟩
          | false =>
            have HN := Aside0.mk (cntNew_no s k hn)
            clear hn
            go_wp2
            go_roundg (go - 1)
            case measure => have := hg.out; omega
            case rel => exact ⟨k + 1, by rw [HN.out], ⟨by have := hg.out; omega⟩, ⟨by exact hit1.out⟩, ⟨pw_below_drewN hb1.out _⟩⟩
    · have hnx : ∀ ty, (Instr.next (.pointer (some ⟨w.heap.size, 0, none⟩)) true ty).run Try.prog wo = _ := fun ty => Lib.run_next_end_at wo w.heap.size s pos ty hit.out hp
      obtain rfl : pos = s.size := by have := hg.out; omega
      go_wp2
      go_ret
      exact ⟨rfl, hb.out⟩

def lowB (s : ByteArray) : Bool := s.data.toList.all fun c => decide (c.toNat < 128)
theorem low_of (s : ByteArray) (h : lowB s = true) : low s := by
  intro i hi
  unfold lowB at h
  rw [List.all_eq_true] at h
  simpa using h (s[i]'hi) (by
    show s.data[i]'hi ∈ s.data.toList
    exact Array.getElem_mem_toList hi)
def spec_miDigits.f (a0 : ByteArray) : Option Int := if lowB a0 = true then (if a0.size ≤ 9223372036854775807 then some (cntNew a0 a0.size) else none) else none
theorem spec_miDigits.calls (a0 : ByteArray) (r : Int) (w : World) (h : spec_miDigits.f a0 = some r) :
    Calls Try.prog 50 #[.string a0] w fun e w' => e = .returned (.int .i64 r) ∧ Below w.heap.size w w' := by
  unfold spec_miDigits.f at h
  by_cases h1 : lowB a0 = true
  · rw [if_pos h1] at h
    by_cases h2 : a0.size ≤ 9223372036854775807
    · rw [if_pos h2] at h
      obtain rfl := Option.some.inj h
      exact miDigits_any a0 w h2 (low_of a0 h1)
    · rw [if_neg h2] at h
      cases h
  · rw [if_neg h1] at h
    cases h

end Go.Proofs.Ytpdcjkiejglaiaa.Q

/- Laid by a program of this session (wip/tools/own_print.py) over the translation of this seat: contracts of the functions that the statement reaches. -/
namespace Go.Proofs.Ytpdcjkiejglaiaa.Q
open Go.RowKit Go.Proofs.YtpdcjkiejglaiaaW.PrintWords Go.Proofs.YtpdcjkiejglaiaaW.PrintLast Go.Proofs.YtpdcjkiejglaiaaW.PrintMore
attribute [local go_sem] max2_int min2_int max_two min_two max_three min_three max_four min_four   -- for this text's walks alone
set_option linter.unusedVariables false
set_option linter.unusedSimpArgs false

/-! ### impl_isOf: function 37 -/
def impl_isOf.l0 : Nat → Int → ByteArray → Int → Int → Option (Bool)
  | 0, _, _, _, _ => none
  | k + 1, x0, x1, x7, x8 => if x8 < x7 then (if 0 ≤ (wrap64 (x8 + 1)) then (if (wrap64 (x8 + 1)) ≤ (x1.size : Int) then ((impl_may.f k x0 (x1.extract 0 ((wrap64 (x8 + 1)) : Int).toNat) (x1.size : Int)).bind fun t101 => (if t101 = true then (impl_isOf.l0 k x0 x1 x7 (wrap64 (x8 + 1))) else (some false))) else (none)) else (none)) else (some true)
def impl_isOf.f (k : Nat) (a0 : Int) (a1 : ByteArray) : Option (Bool) := impl_isOf.l0 k a0 a1 (a1.size : Int) 0
theorem impl_isOf.mono_l : ∀ k, (∀ y0 y1 y2 y3, LeO (impl_isOf.l0 k y0 y1 y2 y3) (impl_isOf.l0 (k + 1) y0 y1 y2 y3))
  | 0 => fun _ _ _ _ r h => by simp [impl_isOf.l0] at h
  | k + 1 => by
    have ih0 := impl_isOf.mono_l k
    · intro y0 y1 y2 y3
      unfold impl_isOf.l0
      repeat' first
      | (with_reducible exact ih0 _ _ _ _)
      | (with_reducible exact impl_may.mono _ _ _ _)
      | (with_reducible exact LeO.refl _)
      | (with_reducible exact LeO.none _)
      | (with_reducible refine LeO.ite ?_ ?_)
      | (with_reducible refine LeO.bind ?_ (fun _ => ?_))
      | exact ih0 _ _ _ _
      | exact impl_may.mono _ _ _ _
      | exact LeO.none _
      | refine LeO.ite ?_ ?_
      | refine LeO.bind ?_ (fun _ => ?_)
theorem impl_isOf.mono : ∀ a0 a1 k, LeO (impl_isOf.f k a0 a1) (impl_isOf.f (k + 1) a0 a1) := by
  intro a0 a1 k
  have ih0 := impl_isOf.mono_l k
  unfold impl_isOf.f
  repeat' first
      | (with_reducible exact ih0 _ _ _ _)
      | (with_reducible exact impl_may.mono _ _ _ _)
      | (with_reducible exact LeO.refl _)
      | (with_reducible exact LeO.none _)
      | (with_reducible refine LeO.ite ?_ ?_)
      | (with_reducible refine LeO.bind ?_ (fun _ => ?_))
      | exact ih0 _ _ _ _
      | exact impl_may.mono _ _ _ _
      | exact LeO.none _
      | refine LeO.ite ?_ ?_
      | refine LeO.bind ?_ (fun _ => ?_)
set_option maxHeartbeats 8000000 in
set_option maxRecDepth 100000 in
theorem impl_isOf.calls (k : Nat) (a0 : Int) (a1 : ByteArray) (r : Bool) (w : World) (h : impl_isOf.f k a0 a1 = some r) :
    Calls Try.prog 37 #[.int .u8 a0, .string a1] w fun e w' => e = .returned (.bool r) ∧ Drawn0 w w' := by
  have H : (impl_isOf.l0 k a0 a1 (a1.size : Int) 0) = some r := h
  clear h
  have H' := Aside0.mk H
  clear H
  go_enter Try.func37, Try.ntmps37
  go_wp2
  go_loopg [8] k (fun kq v8 w' => ∃ (x8_1 : Int), v8 = .int .i64 x8_1 ∧ Aside0 (impl_isOf.l0 kq a0 a1 (a1.size : Int) x8_1 = some r) ∧ Aside0 (kq ≤ k) ∧ Drawn0 w w')
  case atStart => exact ⟨(0), (by first | rfl | (simp; done) | (simp [*]; done)), H', ⟨Nat.le_refl _⟩, by repeat (first | exact Drawn0.refl _ | apply Drawn0.step)⟩
  case round =>
    clear H'
    try clear p2
    obtain ⟨x8_1, rfl, HA, HK1, ⟨m1, rfl⟩⟩ := hrel
    cases gk with
    | zero => exact absurd HA.out (by simp [impl_isOf.l0])
    | succ k1 =>
      have H := HA.out
      clear HA
      simp only [impl_isOf.l0] at H
      by_cases c3 : x8_1 < (a1.size : Int)
      · rw [if_pos c3] at H
        have c3b0 : decide (x8_1 < (a1.size : Int)) = true := decide_eq_true c3
        clear c3
        obtain ⟨ji4, hji4⟩ : ∃ j_ : Int, (wrap64 (x8_1 + 1)) = j_ := ⟨_, rfl⟩
        replace H : (if 0 ≤ (ji4) then (if (ji4) ≤ (a1.size : Int) then ((impl_may.f k1 a0 (a1.extract 0 ((ji4) : Int).toNat) (a1.size : Int)).bind fun t101 => (if t101 = true then (impl_isOf.l0 k1 a0 a1 (a1.size : Int) ji4) else (some false))) else (none)) else (none)) = some r := by first | (rw [hji4] at H; exact H) | (simp only [hji4] at H ⊢; exact H)
        have hji4w : (IntKind.i64.wrap (x8_1 + 1)) = ji4 := (i64_w _).trans hji4
        by_cases c5 : 0 ≤ (ji4)
        · rw [if_pos c5] at H
          have c5b0 := eq_true c5
          have c5b1 : decide (0 ≤ (ji4)) = true := decide_eq_true c5
          clear c5
          by_cases c6 : (ji4) ≤ (a1.size : Int)
          · rw [if_pos c6] at H
            have c6b0 := eq_true c6
            have c6b1 : decide ((ji4) ≤ (a1.size : Int)) = true := decide_eq_true c6
            clear c6
            replace H := Option.bind_eq_some_iff.mp H
            obtain ⟨t101, A70, H⟩ := H
            replace H : (if t101 = true then (impl_isOf.l0 k1 a0 a1 (a1.size : Int) ji4) else (some false)) = some r := H
            have A7 := Aside0.mk A70
            clear A70
            by_cases c8 : t101 = true
            · subst c8
              have H1 : (impl_isOf.l0 k1 a0 a1 (a1.size : Int) ji4) = some r := by rw [if_pos rfl] at H; exact H
              clear H
              have H := H1
              clear H1
              have H' := Aside0.mk H
              clear H
              go_wp2_with (first | ((with_reducible refine gate_callee (f := 61) rfl ?_); refine goesL_ (some 18) rfl rfl Try.func61 (by kernel_rfl) rfl #[.int .u8 a0, .string (a1.extract 0 ((ji4) : Int).toNat), .int .i64 (a1.size : Int)] rfl (by (try simp only [List.map_toArray, List.map_cons, List.map_nil]); first | done | (simp only [hji4]; rfl) | rfl | (simp only [List.length_drop, List.length_take]; rfl)) ?_; (with_reducible refine (impl_may.calls k1 a0 (a1.extract 0 ((ji4) : Int).toNat) (a1.size : Int) true _ A7.out).mono ?_); rintro e w' ⟨rfl, ⟨nd, rfl⟩⟩; refine ⟨_, rfl, ?_⟩))
              go_roundg k1
              case measure => have := HK1.out; omega
              case rel => exact ⟨(ji4), (by first | rfl | (simp; done) | (simp only [← hji4] <;> (first | rfl | simp)) | (simp [*]; done)), H', ⟨by have := HK1.out; omega⟩, by repeat (first | exact Drawn0.refl _ | apply Drawn0.step)⟩
            · replace c8 := Bool.eq_false_iff.mpr c8
              subst c8
              have H1 : (some false) = some r := by rw [if_neg (show ¬ (false = true) by decide)] at H; exact H
              clear H
              have H := H1
              clear H1
              obtain rfl := Option.some.inj H
              go_wp2_with (first | ((with_reducible refine gate_callee (f := 61) rfl ?_); refine goesL_ (some 18) rfl rfl Try.func61 (by kernel_rfl) rfl #[.int .u8 a0, .string (a1.extract 0 ((ji4) : Int).toNat), .int .i64 (a1.size : Int)] rfl (by (try simp only [List.map_toArray, List.map_cons, List.map_nil]); first | done | (simp only [hji4]; rfl) | rfl | (simp only [List.length_drop, List.length_take]; rfl)) ?_; (with_reducible refine (impl_may.calls k1 a0 (a1.extract 0 ((ji4) : Int).toNat) (a1.size : Int) false _ A7.out).mono ?_); rintro e w' ⟨rfl, ⟨nd, rfl⟩⟩; refine ⟨_, rfl, ?_⟩))
              go_ret
              exact ⟨by first | rfl | (simp; done) | (simp only [← hji4] <;> (first | rfl | simp)) | (simp [*]; done), by repeat (first | exact Drawn0.refl _ | apply Drawn0.step)⟩
          · rw [if_neg c6] at H
            exact absurd H (by simp)
        · rw [if_neg c5] at H
          exact absurd H (by simp)
      · rw [if_neg c3] at H
        have c3b0 : decide (x8_1 < (a1.size : Int)) = false := decide_eq_false c3
        clear c3
        obtain rfl := Option.some.inj H
        go_wp2
        go_ret
        exact ⟨by first | rfl | (simp; done) | (simp [*]; done), by repeat (first | exact Drawn0.refl _ | apply Drawn0.step)⟩

end Go.Proofs.Ytpdcjkiejglaiaa.Q

/-
  What 'may' and 'isOf' of the program return, in plain words.
-/
namespace Go.Proofs.Ytpdcjkiejglaiaa.Q
open Go.RowKit Go.Proofs.YtpdcjkiejglaiaaW.PrintWords Go.Proofs.YtpdcjkiejglaiaaW.PrintLast Go.Proofs.YtpdcjkiejglaiaaW.PrintMore
set_option linter.unusedVariables false
set_option linter.unusedSimpArgs false

theorem newTo_iff (s : ByteArray) (i : Nat) : ∀ k, newTo s i k = true ↔ ∀ j : Nat, j < k → bt s j ≠ bt s i
  | 0 => by simp [newTo]
  | k + 1 => by
    simp only [newTo, Bool.and_eq_true, newTo_iff s i k, bne_iff_ne]
    constructor
    · rintro ⟨h1, h2⟩ j hj
      by_cases e : j = k
      · rw [e]; exact h2
      · exact h1 j (by omega)
    · intro h
      exact ⟨fun j hj => h j (by omega), h k (by omega)⟩
theorem idx_neg : ∀ (l : List UInt8) (c : UInt8), Lib.indexByte l c < 0 ↔ c ∉ l
  | [], c => by simp [Lib.indexByte]
  | b :: l, c => by
    have ih := idx_neg l c
    have hg := Lib.indexByte_ge l c
    unfold Lib.indexByte
    by_cases hb : b = c
    · subst hb; simp
    · have hb' : (b == c) = false := by simpa using hb
      rw [hb']
      simp only [Bool.false_eq_true, if_false]
      by_cases h1 : Lib.indexByte l c = -1
      · rw [h1]
        simp only [beq_self_eq_true, if_true]
        rw [h1] at ih
        simp only [List.mem_cons, not_or]
        constructor
        · intro _; exact ⟨fun e => hb e.symm, ih.1 (by decide)⟩
        · intro _; decide
      · rw [if_neg (by simpa using h1)]
        simp only [List.mem_cons, not_or]
        constructor
        · intro h; omega
        · rintro ⟨_, h⟩; have := ih.2 h; omega
theorem idx_new (p : ByteArray) (i : Nat) (hi : i < p.size) : decide (Lib.indexByte (p.extract 0 i).data.toList (bt p i).toNat.toUInt8 < 0) = newTo p i i := by
  rw [Bool.eq_iff_iff, decide_eq_true_eq, idx_neg, newTo_iff, Lib.extract_data]
  have hb : ∀ j : Nat, j < p.size → ∃ h : j < p.data.toList.length, ((p.data.toList[j]'h).toNat : Int) = bt p j := by
    intro j hj
    have h' : j < p.data.toList.length := by rw [Array.length_toList]; exact hj
    exact ⟨h', bt_at p (j : Int) hj⟩
  have hc : ((bt p i).toNat.toUInt8.toNat : Int) = bt p i := by
    have := bt_range p i
    simp [Nat.toUInt8]
    omega
  constructor
  · intro h j hj e
    apply h
    obtain ⟨h1, h2⟩ := hb j (by omega)
    have : p.data.toList[j]'h1 = (bt p i).toNat.toUInt8 := toNat_inj (by rw [h2, e, hc])
    rw [← this]
    rw [List.drop_zero, Nat.sub_zero, List.mem_iff_getElem]
    exact ⟨j, by rw [List.length_take]; omega, by simp⟩
  · intro h hm
    rw [List.drop_zero, Nat.sub_zero, List.mem_iff_getElem] at hm
    obtain ⟨j, hj, e⟩ := hm
    rw [List.length_take] at hj
    rw [List.getElem_take] at e
    obtain ⟨h1, h2⟩ := hb j (by omega)
    exact h j (by omega) (by rw [← h2, e, hc])

/-- a digit upside down -/
def up (x : Int) : Int := if x = 48 ∨ x = 49 ∨ x = 56 then x else if x = 54 then 57 else if x = 57 then 54 else 0
theorem upside_ev (x : Int) : Ev (fun k => impl_upside.f k x) (up x) := by
  refine Ev.step (f := fun _ => some (up x)) (fun k => ?_) (Ev.now _)
  unfold impl_upside.f up
  simp only [impl_upside.j0]
  by_cases h1 : x = 48
  · simp [h1]
  · by_cases h2 : x = 49
    · simp [h2]
    · by_cases h3 : x = 56
      · simp [h3]
      · by_cases h4 : x = 54
        · subst h4; decide
        · by_cases h5 : x = 57
          · subst h5; decide
          · simp [h1, h2, h3, h4, h5]

/-- may the digit at place i of a text stand there, in a reading of a kind with n digits? -/
def mayAt (c : Int) (p : ByteArray) (n i : Nat) : Bool :=
  if c = 97 then bt p i == bt p 0
  else if c = 109 then decide (i < n - 1 - i) || (bt p ((n - 1 - i : Nat) : Int) == bt p i)
  else if c = 117 then up (bt p i) != 0 && (decide (i < n - 1 - i) || (bt p ((n - 1 - i : Nat) : Int) == up (bt p i)))
  else if c = 114 then (decide (i = 0) || decide (bt p ((i - 1 : Nat) : Int) < bt p i)) && decide (bt p i - 48 + ((n - 1 - i : Nat) : Int) ≤ 9)
  else if c = 102 then (decide (i = 0) || decide (bt p i < bt p ((i - 1 : Nat) : Int))) && decide (((n - 1 - i : Nat) : Int) ≤ bt p i - 48)
  else newTo p i i

theorem may_ev (c : Int) (p : ByteArray) (n i : Nat) (hi : p.size = i + 1) (hn : i + 1 ≤ n) (hn9 : n ≤ 9) (hd : ∀ j : Nat, j < p.size → 48 ≤ bt p j ∧ bt p j ≤ 57) :
    Ev (fun k => impl_may.f k c p (n : Int)) (mayAt c p n i) := by
  unfold impl_may.f mayAt
  have e1 : wrap64 ((p.size : Int) - 1) = (i : Int) := by rw [wrap_id (by omega) (by omega)]; omega
  have e2 : wrap64 (wrap64 ((n : Int) - 1) - (i : Int)) = ((n - 1 - i : Nat) : Int) := by rw [wrap_id (i := (n : Int) - 1) (by omega) (by omega), wrap_id (by omega) (by omega)]; omega
  have e3 : wrap64 ((n : Int) - (p.size : Int)) = ((n - 1 - i : Nat) : Int) := by rw [wrap_id (by omega) (by omega)]; omega
  have hdi := hd i (by omega)
  have e4 : (bt p i - 48) % 256 = bt p i - 48 := by omega
  simp only [e1, e2, e3, e4]
  refine Ev.pos (by omega) (Ev.pos (by omega) ?_)
  by_cases h1 : c = 97
  · refine Ev.pos h1 ?_
    rw [if_pos h1]
    exact Ev.pos (by omega) (Ev.now _)
  refine Ev.neg h1 ?_
  rw [if_neg h1]
  by_cases h2 : c = 109
  · refine Ev.pos h2 ?_
    rw [if_pos h2]
    by_cases h : i < n - 1 - i
    · exact Ev.pos (by omega) (Ev.eq (Ev.now _) (by simp [h]))
    · exact Ev.neg (by omega) (Ev.pos (by omega) (Ev.pos (by omega) (Ev.eq (Ev.now _) (by simp [h]))))
  refine Ev.neg h2 ?_
  rw [if_neg h2]
  by_cases h3 : c = 117
  · refine Ev.pos h3 (Ev.bind' (upside_ev _) ?_)
    rw [if_pos h3]
    by_cases hu : up (bt p i) = 0
    · exact Ev.pos hu (Ev.eq (Ev.now _) (by simp [hu]))
    · refine Ev.neg hu ?_
      have hu' : (up (bt p i) != 0) = true := by simpa using hu
      rw [hu', Bool.true_and]
      by_cases h : i < n - 1 - i
      · exact Ev.pos (by omega) (Ev.eq (Ev.now _) (by simp [h]))
      · exact Ev.neg (by omega) (Ev.pos (by omega) (Ev.pos (by omega) (Ev.bind' (upside_ev _) (Ev.eq (Ev.now _) (by simp [h])))))
  refine Ev.neg h3 ?_
  rw [if_neg h3]
  by_cases h4 : c = 114
  · refine Ev.pos h4 ?_
    rw [if_pos h4]
    by_cases h : i = 0
    · refine Ev.pos (by omega) (Ev.eq (Ev.now _) ?_)
      rw [wrap_id (by omega) (by omega)]; simp [h]
    · refine Ev.neg (by omega) ?_
      have e5 : wrap64 ((i : Int) - 1) = ((i - 1 : Nat) : Int) := by rw [wrap_id (by omega) (by omega)]; omega
      simp only [e5]
      refine Ev.pos (by omega) (Ev.pos (by omega) ?_)
      by_cases hl : bt p ((i - 1 : Nat) : Int) < bt p i
      · refine Ev.pos hl (Ev.eq (Ev.now _) ?_)
        rw [wrap_id (by omega) (by omega)]; simp [h, hl]
      · exact Ev.neg hl (Ev.eq (Ev.now _) (by simp [h, hl]))
  refine Ev.neg h4 ?_
  rw [if_neg h4]
  by_cases h5 : c = 102
  · refine Ev.pos h5 ?_
    rw [if_pos h5]
    by_cases h : i = 0
    · refine Ev.pos (by omega) (Ev.eq (Ev.now _) ?_)
      simp [h]
    · refine Ev.neg (by omega) ?_
      have e5 : wrap64 ((i : Int) - 1) = ((i - 1 : Nat) : Int) := by rw [wrap_id (by omega) (by omega)]; omega
      simp only [e5]
      refine Ev.pos (by omega) (Ev.pos (by omega) ?_)
      by_cases hl : bt p i < bt p ((i - 1 : Nat) : Int)
      · refine Ev.pos hl (Ev.eq (Ev.now _) ?_)
        simp [h, hl]
      · exact Ev.neg hl (Ev.eq (Ev.now _) (by simp [h, hl]))
  refine Ev.neg h5 (Ev.pos (by omega) ?_)
  rw [if_neg h5]
  unfold strings_IndexByte.f
  simp only [Option.bind_some]
  refine Ev.eq (Ev.now _) ?_
  rw [show ((i : Int)).toNat = i by omega]
  exact idx_new p i (by omega)

/-- what 'may' asks of a text's first digits it asks of the text -/
theorem newTo_extract (s : ByteArray) (m : Nat) (hm : m ≤ s.size) (i : Nat) (hi : i < m) : ∀ k, k ≤ i → newTo (s.extract 0 m) i k = newTo s i k
  | 0, _ => rfl
  | k + 1, h => by
    simp only [newTo]
    rw [newTo_extract s m hm i hi k (by omega), bt_extract0 s m hm k (by omega), bt_extract0 s m hm i hi]
theorem mayAt_extract (c : Int) (s : ByteArray) (n i : Nat) (hi : i < s.size) (hn : i + 1 ≤ n) : mayAt c (s.extract 0 (i + 1)) n i = mayAt c s n i := by
  unfold mayAt
  have b := fun (j : Nat) (hj : j < i + 1) => bt_extract0 s (i + 1) (by omega) j hj
  have b0 := b 0 (by omega)
  rw [b i (by omega), b (i - 1) (by omega), newTo_extract s (i + 1) (by omega) i (by omega) i (by omega)]
  rw [show ((0 : Nat) : Int) = 0 from rfl] at b0
  rw [b0]
  by_cases h : i < n - 1 - i
  · simp [h]
  · rw [b (n - 1 - i) (by omega)]

theorem isOf_ev (c : Int) (s : ByteArray) (h9 : s.size ≤ 9) (hd : ∀ j : Nat, j < s.size → 48 ≤ bt s j ∧ bt s j ≤ 57) :
    Ev (fun k => impl_isOf.f k c s) (allF (mayAt c s s.size) s.size 0) := by
  unfold impl_isOf.f
  have stop : Ev (fun k => impl_isOf.l0 k c s (s.size : Int) ((s.size : Nat) : Int)) true := by
    refine Ev.step (f := fun _ => some true) (fun k => ?_) (Ev.now _)
    simp only [impl_isOf.l0]
    rw [if_neg (by omega)]
  have m : ∀ i, i < s.size → Ev (fun k => impl_may.f k c (s.extract 0 (i + 1)) (s.size : Int)) (mayAt c s s.size i) := by
    intro i hi
    have := may_ev c (s.extract 0 (i + 1)) s.size i (size_extract0 _ _ (by omega)) (by omega) h9 (fun j hj => by
      rw [size_extract0 _ _ (by omega)] at hj
      rw [bt_extract0 _ _ (by omega) _ hj]
      exact hd j (by omega))
    rwa [mayAt_extract c s s.size i hi (by omega)] at this
  have round : ∀ i, i < s.size → ∀ (q : Bool), (if mayAt c s s.size i = true then Ev (fun k => impl_isOf.l0 k c s (s.size : Int) ((i + 1 : Nat) : Int)) q else q = false) → Ev (fun k => impl_isOf.l0 k c s (s.size : Int) (i : Int)) q := by
    intro i hi q hq
    have e1 : wrap64 ((i : Int) + 1) = ((i + 1 : Nat) : Int) := by rw [wrap_id (by omega) (by omega)]; rfl
    refine Ev.step (f := fun k => (impl_may.f k c (s.extract 0 (i + 1)) (s.size : Int)).bind fun t => if t = true then impl_isOf.l0 k c s (s.size : Int) ((i + 1 : Nat) : Int) else some false) (fun k => ?_) ?_
    · simp only [impl_isOf.l0]
      rw [if_pos (by omega), e1, if_pos (by omega), if_pos (by omega)]
      rfl
    · refine Ev.bind' (m i hi) ?_
      by_cases h : mayAt c s s.size i = true
      · rw [if_pos h] at hq
        exact Ev.pos h hq
      · rw [if_neg h] at hq
        exact Ev.neg h (hq ▸ Ev.now _)
  refine Ev.eq (Ev_all (l := fun k i => impl_isOf.l0 k c s (s.size : Int) (i : Int)) (p := mayAt c s s.size) stop ?_ ?_ s.size 0 (by omega)) (by simp)
  · intro i hi hp q hq
    exact round i hi q (by rw [if_pos hp]; exact hq)
  · intro i hi hp
    exact round i hi false (by rw [if_neg (by simp [hp])])

end Go.Proofs.Ytpdcjkiejglaiaa.Q

/- Laid by a program of this session (wip/tools/own_print.py) over the translation of this seat: contracts of the functions that the statement reaches. -/
namespace Go.Proofs.Ytpdcjkiejglaiaa.Q
open Go.RowKit Go.Proofs.YtpdcjkiejglaiaaW.PrintWords Go.Proofs.YtpdcjkiejglaiaaW.PrintLast Go.Proofs.YtpdcjkiejglaiaaW.PrintMore
attribute [local go_sem] max2_int min2_int max_two min_two max_three min_three max_four min_four   -- for this text's walks alone
set_option linter.unusedVariables false
set_option linter.unusedSimpArgs false

/-! ### spec_miTurn: function 59 -/
def spec_miTurn.l0 : Nat → ByteArray → ByteArray → Int → Option (ByteArray)
  | 0, _, _, _ => none
  | k + 1, x0, x3, x4 => if x4 ≥ 0 then (if 0 ≤ x4 then (if x4 ≤ (wrap64 (x4 + 1)) then (if (wrap64 (x4 + 1)) ≤ (x0.size : Int) then (if x3.size + (x0.extract (x4 : Int).toNat ((wrap64 (x4 + 1)) : Int).toNat).size ≤ 9223372036854775807 then (spec_miTurn.l0 k x0 (x3 ++ (x0.extract (x4 : Int).toNat ((wrap64 (x4 + 1)) : Int).toNat)) (wrap64 (x4 - 1))) else (none)) else (none)) else (none)) else (none)) else (some x3)
def spec_miTurn.f (k : Nat) (a0 : ByteArray) : Option (ByteArray) := spec_miTurn.l0 k a0 (⟨#[]⟩ : ByteArray) (wrap64 ((a0.size : Int) - 1))
theorem spec_miTurn.mono_l : ∀ k, (∀ y0 y1 y2, LeO (spec_miTurn.l0 k y0 y1 y2) (spec_miTurn.l0 (k + 1) y0 y1 y2))
  | 0 => fun _ _ _ r h => by simp [spec_miTurn.l0] at h
  | k + 1 => by
    have ih0 := spec_miTurn.mono_l k
    · intro y0 y1 y2
      unfold spec_miTurn.l0
      repeat' first
      | (with_reducible exact ih0 _ _ _)
      | (with_reducible exact LeO.refl _)
      | (with_reducible exact LeO.none _)
      | (with_reducible refine LeO.ite ?_ ?_)
      | (with_reducible refine LeO.bind ?_ (fun _ => ?_))
      | exact ih0 _ _ _
      | exact LeO.none _
      | refine LeO.ite ?_ ?_
      | refine LeO.bind ?_ (fun _ => ?_)
theorem spec_miTurn.mono : ∀ a0 k, LeO (spec_miTurn.f k a0) (spec_miTurn.f (k + 1) a0) := by
  intro a0 k
  have ih0 := spec_miTurn.mono_l k
  unfold spec_miTurn.f
  repeat' first
      | (with_reducible exact ih0 _ _ _)
      | (with_reducible exact LeO.refl _)
      | (with_reducible exact LeO.none _)
      | (with_reducible refine LeO.ite ?_ ?_)
      | (with_reducible refine LeO.bind ?_ (fun _ => ?_))
      | exact ih0 _ _ _
      | exact LeO.none _
      | refine LeO.ite ?_ ?_
      | refine LeO.bind ?_ (fun _ => ?_)
set_option maxHeartbeats 8000000 in
set_option maxRecDepth 100000 in
theorem spec_miTurn.calls (k : Nat) (a0 : ByteArray) (r : ByteArray) (w : World) (h : spec_miTurn.f k a0 = some r) :
    Calls Try.prog 59 #[.string a0] w fun e w' => e = .returned (.string r) ∧ Drawn0 w w' := by
  have H : (spec_miTurn.l0 k a0 (⟨#[]⟩ : ByteArray) (wrap64 ((a0.size : Int) - 1))) = some r := h
  clear h
  have H' := Aside0.mk H
  clear H
  go_enter Try.func59, Try.ntmps59
  go_wp2
  go_loopg [3, 4] k (fun kq v3 v4 w' => ∃ (x3_1 : ByteArray) (x4_1 : Int), v3 = .string x3_1 ∧ v4 = .int .i64 x4_1 ∧ Aside0 (spec_miTurn.l0 kq a0 x3_1 x4_1 = some r) ∧ Aside0 (kq ≤ k) ∧ Drawn0 w w')
  case atStart => exact ⟨((⟨#[]⟩ : ByteArray)), (wrap64 ((a0.size : Int) - 1)), (by first | rfl | (simp; done) | (simp [*]; done)), (by first | rfl | (simp; done) | (simp [*]; done)), H', ⟨Nat.le_refl _⟩, by repeat (first | exact Drawn0.refl _ | apply Drawn0.step)⟩
  case round =>
    clear H'
    obtain ⟨x3_1, x4_1, rfl, rfl, HA, HK1, ⟨m1, rfl⟩⟩ := hrel
    cases gk with
    | zero => exact absurd HA.out (by simp [spec_miTurn.l0])
    | succ k1 =>
      have H := HA.out
      clear HA
      simp only [spec_miTurn.l0] at H
      by_cases c2 : x4_1 ≥ 0
      · rw [if_pos c2] at H
        have c2b0 : decide (0 ≤ x4_1) = true := decide_eq_true c2
        clear c2
        by_cases c3 : 0 ≤ x4_1
        · rw [if_pos c3] at H
          have c3b0 := eq_true c3
          have c3b1 : decide (0 ≤ x4_1) = true := decide_eq_true c3
          clear c3
          by_cases c4 : x4_1 ≤ (wrap64 (x4_1 + 1))
          · rw [if_pos c4] at H
            have c4b0 := eq_true c4
            have c4b1 : decide (x4_1 ≤ (wrap64 (x4_1 + 1))) = true := decide_eq_true c4
            by_cases c5 : (wrap64 (x4_1 + 1)) ≤ (a0.size : Int)
            · rw [if_pos c5] at H
              have c5b0 := eq_true c5
              have c5b1 : decide ((wrap64 (x4_1 + 1)) ≤ (a0.size : Int)) = true := decide_eq_true c5
              by_cases c6 : x3_1.size + (a0.extract (x4_1 : Int).toNat ((wrap64 (x4_1 + 1)) : Int).toNat).size ≤ 9223372036854775807
              · rw [if_pos c6] at H
                have c6b0 := eq_true c6
                have c6b1 : decide (x3_1.size + (a0.extract (x4_1 : Int).toNat ((wrap64 (x4_1 + 1)) : Int).toNat).size ≤ 9223372036854775807) = true := decide_eq_true c6
                try have c6b2 : (9223372036854775807 < x3_1.size + (a0.extract (x4_1 : Int).toNat ((wrap64 (x4_1 + 1)) : Int).toNat).size) = False := eq_false (Nat.not_lt.2 c6)
                have H' := Aside0.mk H
                clear H
                go_wp2
                go_roundg k1
                case measure => have := HK1.out; omega
                case rel => exact ⟨(x3_1 ++ (a0.extract (x4_1 : Int).toNat ((wrap64 (x4_1 + 1)) : Int).toNat)), (wrap64 (x4_1 - 1)), (by first | rfl | (simp; done) | (simp [*]; done)), (by first | rfl | (simp; done) | (simp [*]; done)), H', ⟨by have := HK1.out; omega⟩, by repeat (first | exact Drawn0.refl _ | apply Drawn0.step)⟩
              · rw [if_neg c6] at H
                exact absurd H (by simp)
            · rw [if_neg c5] at H
              exact absurd H (by simp)
          · rw [if_neg c4] at H
            exact absurd H (by simp)
        · rw [if_neg c3] at H
          exact absurd H (by simp)
      · rw [if_neg c2] at H
        have c2b0 : decide (0 ≤ x4_1) = false := decide_eq_false c2
        clear c2
        obtain rfl := Option.some.inj H
        go_wp2
        go_ret
        exact ⟨by first | rfl | (simp; done) | (simp [*]; done), by repeat (first | exact Drawn0.refl _ | apply Drawn0.step)⟩

end Go.Proofs.Ytpdcjkiejglaiaa.Q

/- Laid by a program of this session (wip/tools/own_print.py) over the translation of this seat: contracts of the functions that the statement reaches. -/
namespace Go.Proofs.Ytpdcjkiejglaiaa.Q
open Go.RowKit Go.Proofs.YtpdcjkiejglaiaaW.PrintWords Go.Proofs.YtpdcjkiejglaiaaW.PrintLast Go.Proofs.YtpdcjkiejglaiaaW.PrintMore
attribute [local go_sem] max2_int min2_int max_two min_two max_three min_three max_four min_four   -- for this text's walks alone
set_option linter.unusedVariables false
set_option linter.unusedSimpArgs false

/-! ### spec_miUpside: function 60 -/
mutual
def spec_miUpside.l0 : Nat → ByteArray → ByteArray → Int → Option (ByteArray × Bool)
  | 0, _, _, _ => none
  | k + 1, x0, x4, x5 => if x5 ≥ 0 then (if 0 ≤ x5 then (if x5 < (x0.size : Int) then (if (bt x0 x5) = 48 then (spec_miUpside.j1 k x0 x4 x5 (bt x0 x5) ((bt x0 x5) == 48)) else (if (bt x0 x5) = 49 then (spec_miUpside.j1 k x0 x4 x5 (bt x0 x5) ((bt x0 x5) == 49)) else (spec_miUpside.j1 k x0 x4 x5 (bt x0 x5) ((bt x0 x5) == 56)))) else (none)) else (none)) else (some (x4, true))
def spec_miUpside.j1 : Nat → ByteArray → ByteArray → Int → Int → Bool → Option (ByteArray × Bool)
  | 0, _, _, _, _, _ => none
  | k + 1, x0, x4, x5, x15, x16 => if x16 = true then (if 0 ≤ x5 then (if x5 ≤ (wrap64 (x5 + 1)) then (if (wrap64 (x5 + 1)) ≤ (x0.size : Int) then (if x4.size + (x0.extract (x5 : Int).toNat ((wrap64 (x5 + 1)) : Int).toNat).size ≤ 9223372036854775807 then (spec_miUpside.l0 k x0 (x4 ++ (x0.extract (x5 : Int).toNat ((wrap64 (x5 + 1)) : Int).toNat)) (wrap64 (x5 - 1))) else (none)) else (none)) else (none)) else (none)) else (if x15 = 54 then (if x4.size + 1 ≤ 9223372036854775807 then (spec_miUpside.l0 k x0 (x4 ++ (⟨#[57]⟩ : ByteArray)) (wrap64 (x5 - 1))) else (none)) else (if x15 = 57 then (if x4.size + 1 ≤ 9223372036854775807 then (spec_miUpside.l0 k x0 (x4 ++ (⟨#[54]⟩ : ByteArray)) (wrap64 (x5 - 1))) else (none)) else (some ((⟨#[]⟩ : ByteArray), false))))
end
def spec_miUpside.f (k : Nat) (a0 : ByteArray) : Option (ByteArray × Bool) := spec_miUpside.l0 k a0 (⟨#[]⟩ : ByteArray) (wrap64 ((a0.size : Int) - 1))
theorem spec_miUpside.mono_l : ∀ k, (∀ y0 y1 y2, LeO (spec_miUpside.l0 k y0 y1 y2) (spec_miUpside.l0 (k + 1) y0 y1 y2)) ∧ (∀ y0 y1 y2 y3 y4, LeO (spec_miUpside.j1 k y0 y1 y2 y3 y4) (spec_miUpside.j1 (k + 1) y0 y1 y2 y3 y4))
  | 0 => ⟨fun _ _ _ r h => by simp [spec_miUpside.l0] at h, fun _ _ _ _ _ r h => by simp [spec_miUpside.j1] at h⟩
  | k + 1 => by
    obtain ⟨ih0, ih1⟩ := spec_miUpside.mono_l k
    refine ⟨?_, ?_⟩
    · intro y0 y1 y2
      unfold spec_miUpside.l0
      repeat' first
      | (with_reducible exact ih0 _ _ _)
      | (with_reducible exact ih1 _ _ _ _ _)
      | (with_reducible exact LeO.refl _)
      | (with_reducible exact LeO.none _)
      | (with_reducible refine LeO.ite ?_ ?_)
      | (with_reducible refine LeO.bind ?_ (fun _ => ?_))
      | exact ih0 _ _ _
      | exact ih1 _ _ _ _ _
      | exact LeO.none _
      | refine LeO.ite ?_ ?_
      | refine LeO.bind ?_ (fun _ => ?_)
    · intro y0 y1 y2 y3 y4
      unfold spec_miUpside.j1
      repeat' first
      | (with_reducible exact ih0 _ _ _)
      | (with_reducible exact ih1 _ _ _ _ _)
      | (with_reducible exact LeO.refl _)
      | (with_reducible exact LeO.none _)
      | (with_reducible refine LeO.ite ?_ ?_)
      | (with_reducible refine LeO.bind ?_ (fun _ => ?_))
      | exact ih0 _ _ _
      | exact ih1 _ _ _ _ _
      | exact LeO.none _
      | refine LeO.ite ?_ ?_
      | refine LeO.bind ?_ (fun _ => ?_)
theorem spec_miUpside.mono : ∀ a0 k, LeO (spec_miUpside.f k a0) (spec_miUpside.f (k + 1) a0) := by
  intro a0 k
  obtain ⟨ih0, ih1⟩ := spec_miUpside.mono_l k
  unfold spec_miUpside.f
  repeat' first
      | (with_reducible exact ih0 _ _ _)
      | (with_reducible exact ih1 _ _ _ _ _)
      | (with_reducible exact LeO.refl _)
      | (with_reducible exact LeO.none _)
      | (with_reducible refine LeO.ite ?_ ?_)
      | (with_reducible refine LeO.bind ?_ (fun _ => ?_))
      | exact ih0 _ _ _
      | exact ih1 _ _ _ _ _
      | exact LeO.none _
      | refine LeO.ite ?_ ?_
      | refine LeO.bind ?_ (fun _ => ?_)
set_option maxHeartbeats 8000000 in
set_option maxRecDepth 100000 in
theorem spec_miUpside.calls (k : Nat) (a0 : ByteArray) (r1 : ByteArray) (r2 : Bool) (w : World) (h : spec_miUpside.f k a0 = some (r1, r2)) :
    Calls Try.prog 60 #[.string a0] w fun e w' => e = .returned (.tuple #[.string r1, .bool r2]) ∧ Drawn0 w w' := by
  have H : (spec_miUpside.l0 k a0 (⟨#[]⟩ : ByteArray) (wrap64 ((a0.size : Int) - 1))) = some (r1, r2) := h
  clear h
  have H' := Aside0.mk H
  clear H
  go_enter Try.func60, Try.ntmps60
  go_wp2
  go_loopg [4, 5] k (fun kq v4 v5 w' => ∃ (x4_1 : ByteArray) (x5_1 : Int), v4 = .string x4_1 ∧ v5 = .int .i64 x5_1 ∧ Aside0 (spec_miUpside.l0 kq a0 x4_1 x5_1 = some (r1, r2)) ∧ Aside0 (kq ≤ k) ∧ Drawn0 w w')
  case atStart => exact ⟨((⟨#[]⟩ : ByteArray)), (wrap64 ((a0.size : Int) - 1)), (by first | rfl | (simp; done) | (simp [*]; done)), (by first | rfl | (simp; done) | (simp [*]; done)), H', ⟨Nat.le_refl _⟩, by repeat (first | exact Drawn0.refl _ | apply Drawn0.step)⟩
  case round =>
    clear H'
    obtain ⟨x4_1, x5_1, rfl, rfl, HA, HK1, ⟨m1, rfl⟩⟩ := hrel
    cases gk with
    | zero => exact absurd HA.out (by simp [spec_miUpside.l0])
    | succ k1 =>
      have H := HA.out
      clear HA
      simp only [spec_miUpside.l0] at H
      by_cases c2 : x5_1 ≥ 0
      · rw [if_pos c2] at H
        have c2b0 : decide (0 ≤ x5_1) = true := decide_eq_true c2
        clear c2
        by_cases c3 : 0 ≤ x5_1
        · rw [if_pos c3] at H
          have c3b0 : decide (0 ≤ x5_1) = true := decide_eq_true c3
          clear c3
          by_cases c4 : x5_1 < (a0.size : Int)
          · rw [if_pos c4] at H
            have c4b0 : decide (x5_1 < (a0.size : Int)) = true := decide_eq_true c4
            clear c4
            have HC6 := Aside0.mk H
            clear H
            have p5 : 0 ≤ (x5_1 : Int) := of_decide_eq_true (by first | (with_reducible assumption) | assumption)
            have q5 : x5_1 < (a0.size : Int) := of_decide_eq_true (by first | (with_reducible assumption) | assumption)
            have hx5 := bt_at a0 x5_1
            replace p5 := eq_true p5
            replace q5 := eq_true q5
            go_upto_if 16 with (fail)
            go_cut [16] (fun v16 wc => ∃ (kq : Nat) (x16_5 : Bool), v16 = .bool x16_5 ∧ Aside0 (spec_miUpside.j1 kq a0 x4_1 x5_1 (bt a0 x5_1) x16_5 = some (r1, r2)) ∧ Aside0 (kq ≤ k1) ∧ Drawn0 w wc)
            case first =>
              have H := HC6.out
              clear HC6
              by_cases c7 : (bt a0 x5_1) = 48
              · rw [if_pos c7] at H
                have c7b0 : ((bt a0 x5_1) == 48) = true := beq_iff_eq.mpr c7
                have c7b1 : ((bt a0 x5_1) != 48) = false := bne_eq_false_iff_eq.mpr c7
                clear c7
                (first | rw [c7b0] | (simp only [i64_w, i32_w]; rw [c7b0]) | skip)
                have H' := Aside0.mk H
                clear H
                go_wp2
                go_meet
                case rel => exact ⟨_, (((bt a0 x5_1) == 48)), (by first | rfl | (simp; done) | (simp [*]; done)), H', ⟨by have := HK1.out; first | omega | exact Nat.le_refl _⟩, by repeat (first | exact Drawn0.refl _ | apply Drawn0.step)⟩
              · rw [if_neg c7] at H
                have c7b0 : ((bt a0 x5_1) == 48) = false := beq_eq_false_iff_ne.mpr c7
                have c7b1 : ((bt a0 x5_1) != 48) = true := bne_iff_ne.mpr c7
                (first | rw [c7b0] | (simp only [i64_w, i32_w]; rw [c7b0]) | skip)
                by_cases c8 : (bt a0 x5_1) = 49
                · rw [if_pos c8] at H
                  have c8b0 : ((bt a0 x5_1) == 49) = true := beq_iff_eq.mpr c8
                  have c8b1 : ((bt a0 x5_1) != 49) = false := bne_eq_false_iff_eq.mpr c8
                  clear c8
                  have H' := Aside0.mk H
                  clear H
                  go_wp2
                  go_meet
                  case rel => exact ⟨_, (((bt a0 x5_1) == 49)), (by first | rfl | (simp; done) | (simp [*]; done)), H', ⟨by have := HK1.out; first | omega | exact Nat.le_refl _⟩, by repeat (first | exact Drawn0.refl _ | apply Drawn0.step)⟩
                · rw [if_neg c8] at H
                  have c8b0 : ((bt a0 x5_1) == 49) = false := beq_eq_false_iff_ne.mpr c8
                  have c8b1 : ((bt a0 x5_1) != 49) = true := bne_iff_ne.mpr c8
                  have H' := Aside0.mk H
                  clear H
                  go_wp2
                  go_meet
                  case rel => exact ⟨_, (((bt a0 x5_1) == 56)), (by first | rfl | (simp; done) | (simp [*]; done)), H', ⟨by have := HK1.out; first | omega | exact Nat.le_refl _⟩, by repeat (first | exact Drawn0.refl _ | apply Drawn0.step)⟩
            case rest =>
              clear HC6
              try clear c2
              try clear c2b0
              try clear p2
              try clear c3
              try clear c3b0
              try clear c4
              try clear c4b0
              try clear p5
              try clear q5
              try clear hx5
              try clear c6
              try clear p6
              try clear c7
              try clear c7b0
              try clear c7b1
              try clear c8
              try clear c8b0
              try clear c8b1
              try clear p5
              try clear q5
              obtain ⟨kq, x16_5, rfl, HA, HJ5, ⟨mc5, rfl⟩⟩ := hcut
              cases kq with
              | zero => exact absurd HA.out (by simp [spec_miUpside.j1])
              | succ kj5 =>
                have H := HA.out
                clear HA
                simp only [spec_miUpside.j1] at H
                by_cases c9 : x16_5 = true
                · subst c9
                  have H1 : (if 0 ≤ x5_1 then (if x5_1 ≤ (wrap64 (x5_1 + 1)) then (if (wrap64 (x5_1 + 1)) ≤ (a0.size : Int) then (if x4_1.size + (a0.extract (x5_1 : Int).toNat ((wrap64 (x5_1 + 1)) : Int).toNat).size ≤ 9223372036854775807 then (spec_miUpside.l0 kj5 a0 (x4_1 ++ (a0.extract (x5_1 : Int).toNat ((wrap64 (x5_1 + 1)) : Int).toNat)) (wrap64 (x5_1 - 1))) else (none)) else (none)) else (none)) else (none)) = some (r1, r2) := by rw [if_pos rfl] at H; exact H
                  clear H
                  have H := H1
                  clear H1
                  by_cases c10 : 0 ≤ x5_1
                  · rw [if_pos c10] at H
                    have c10b0 := eq_true c10
                    have c10b1 : decide (0 ≤ x5_1) = true := decide_eq_true c10
                    clear c10
                    by_cases c11 : x5_1 ≤ (wrap64 (x5_1 + 1))
                    · rw [if_pos c11] at H
                      have c11b0 := eq_true c11
                      have c11b1 : decide (x5_1 ≤ (wrap64 (x5_1 + 1))) = true := decide_eq_true c11
                      by_cases c12 : (wrap64 (x5_1 + 1)) ≤ (a0.size : Int)
                      · rw [if_pos c12] at H
                        have c12b0 := eq_true c12
                        have c12b1 : decide ((wrap64 (x5_1 + 1)) ≤ (a0.size : Int)) = true := decide_eq_true c12
                        by_cases c13 : x4_1.size + (a0.extract (x5_1 : Int).toNat ((wrap64 (x5_1 + 1)) : Int).toNat).size ≤ 9223372036854775807
                        · rw [if_pos c13] at H
                          have c13b0 := eq_true c13
                          have c13b1 : decide (x4_1.size + (a0.extract (x5_1 : Int).toNat ((wrap64 (x5_1 + 1)) : Int).toNat).size ≤ 9223372036854775807) = true := decide_eq_true c13
                          try have c13b2 : (9223372036854775807 < x4_1.size + (a0.extract (x5_1 : Int).toNat ((wrap64 (x5_1 + 1)) : Int).toNat).size) = False := eq_false (Nat.not_lt.2 c13)
                          have H' := Aside0.mk H
                          clear H
                          go_wp2
                          go_roundg kj5
                          case measure => have := HK1.out; have := HJ5.out; omega
                          case rel => exact ⟨(x4_1 ++ (a0.extract (x5_1 : Int).toNat ((wrap64 (x5_1 + 1)) : Int).toNat)), (wrap64 (x5_1 - 1)), (by first | rfl | (simp; done) | (simp [*]; done)), (by first | rfl | (simp; done) | (simp [*]; done)), H', ⟨by have := HK1.out; have := HJ5.out; omega⟩, by repeat (first | exact Drawn0.refl _ | apply Drawn0.step)⟩
                        · rw [if_neg c13] at H
                          exact absurd H (by simp)
                      · rw [if_neg c12] at H
                        exact absurd H (by simp)
                    · rw [if_neg c11] at H
                      exact absurd H (by simp)
                  · rw [if_neg c10] at H
                    exact absurd H (by simp)
                · replace c9 := Bool.eq_false_iff.mpr c9
                  subst c9
                  have H1 : (if (bt a0 x5_1) = 54 then (if x4_1.size + 1 ≤ 9223372036854775807 then (spec_miUpside.l0 kj5 a0 (x4_1 ++ (⟨#[57]⟩ : ByteArray)) (wrap64 (x5_1 - 1))) else (none)) else (if (bt a0 x5_1) = 57 then (if x4_1.size + 1 ≤ 9223372036854775807 then (spec_miUpside.l0 kj5 a0 (x4_1 ++ (⟨#[54]⟩ : ByteArray)) (wrap64 (x5_1 - 1))) else (none)) else (some ((⟨#[]⟩ : ByteArray), false)))) = some (r1, r2) := by rw [if_neg (show ¬ (false = true) by decide)] at H; exact H
                  clear H
                  have H := H1
                  clear H1
                  by_cases c14 : (bt a0 x5_1) = 54
                  · rw [if_pos c14] at H
                    have c14b0 : ((bt a0 x5_1) == 54) = true := beq_iff_eq.mpr c14
                    have c14b1 : ((bt a0 x5_1) != 54) = false := bne_eq_false_iff_eq.mpr c14
                    clear c14
                    by_cases c15 : x4_1.size + 1 ≤ 9223372036854775807
                    · rw [if_pos c15] at H
                      have c15b0 := eq_true c15
                      have c15b1 : decide (x4_1.size + 1 ≤ 9223372036854775807) = true := decide_eq_true c15
                      try have c15b2 : (9223372036854775807 < x4_1.size + 1) = False := eq_false (Nat.not_lt.2 c15)
                      have H' := Aside0.mk H
                      clear H
                      go_wp2
                      go_roundg kj5
                      case measure => have := HK1.out; have := HJ5.out; omega
                      case rel => exact ⟨(x4_1 ++ (⟨#[57]⟩ : ByteArray)), (wrap64 (x5_1 - 1)), (by first | rfl | (simp; done) | (simp [*]; done)), (by first | rfl | (simp; done) | (simp [*]; done)), H', ⟨by have := HK1.out; have := HJ5.out; omega⟩, by repeat (first | exact Drawn0.refl _ | apply Drawn0.step)⟩
                    · rw [if_neg c15] at H
                      exact absurd H (by simp)
                  · rw [if_neg c14] at H
                    have c14b0 : ((bt a0 x5_1) == 54) = false := beq_eq_false_iff_ne.mpr c14
                    have c14b1 : ((bt a0 x5_1) != 54) = true := bne_iff_ne.mpr c14
                    by_cases c16 : (bt a0 x5_1) = 57
                    · rw [if_pos c16] at H
                      have c16b0 : ((bt a0 x5_1) == 57) = true := beq_iff_eq.mpr c16
                      have c16b1 : ((bt a0 x5_1) != 57) = false := bne_eq_false_iff_eq.mpr c16
                      clear c16
                      by_cases c17 : x4_1.size + 1 ≤ 9223372036854775807
                      · rw [if_pos c17] at H
                        have c17b0 := eq_true c17
                        have c17b1 : decide (x4_1.size + 1 ≤ 9223372036854775807) = true := decide_eq_true c17
                        try have c17b2 : (9223372036854775807 < x4_1.size + 1) = False := eq_false (Nat.not_lt.2 c17)
                        have H' := Aside0.mk H
                        clear H
                        go_wp2
                        go_roundg kj5
                        case measure => have := HK1.out; have := HJ5.out; omega
                        case rel => exact ⟨(x4_1 ++ (⟨#[54]⟩ : ByteArray)), (wrap64 (x5_1 - 1)), (by first | rfl | (simp; done) | (simp [*]; done)), (by first | rfl | (simp; done) | (simp [*]; done)), H', ⟨by have := HK1.out; have := HJ5.out; omega⟩, by repeat (first | exact Drawn0.refl _ | apply Drawn0.step)⟩
                      · rw [if_neg c17] at H
                        exact absurd H (by simp)
                    · rw [if_neg c16] at H
                      have c16b0 : ((bt a0 x5_1) == 57) = false := beq_eq_false_iff_ne.mpr c16
                      have c16b1 : ((bt a0 x5_1) != 57) = true := bne_iff_ne.mpr c16
                      simp only [Option.some.injEq, Prod.mk.injEq] at H
                      obtain ⟨rfl, rfl⟩ := H
                      go_wp2
                      go_ret2
                      exact ⟨by first | rfl | (simp; done) | (simp [*]; done), by repeat (first | exact Drawn0.refl _ | apply Drawn0.step)⟩
          · rw [if_neg c4] at H
            exact absurd H (by simp)
        · rw [if_neg c3] at H
          exact absurd H (by simp)
      · rw [if_neg c2] at H
        have c2b0 : decide (0 ≤ x5_1) = false := decide_eq_false c2
        clear c2
        simp only [Option.some.injEq, Prod.mk.injEq] at H
        obtain ⟨rfl, rfl⟩ := H
        go_wp2
        go_ret2
        exact ⟨by first | rfl | (simp; done) | (simp [*]; done), by repeat (first | exact Drawn0.refl _ | apply Drawn0.step)⟩

end Go.Proofs.Ytpdcjkiejglaiaa.Q

/- Laid by a program of this session (wip/tools/own_print.py) over the translation of this seat: contracts of the functions that the statement reaches. -/
namespace Go.Proofs.Ytpdcjkiejglaiaa.Q
open Go.RowKit Go.Proofs.YtpdcjkiejglaiaaW.PrintWords Go.Proofs.YtpdcjkiejglaiaaW.PrintLast Go.Proofs.YtpdcjkiejglaiaaW.PrintMore
attribute [local go_sem] max2_int min2_int max_two min_two max_three min_three max_four min_four   -- for this text's walks alone
set_option linter.unusedVariables false
set_option linter.unusedSimpArgs false

/-! ### spec_miIs: function 35 -/
def spec_miIs.l0 : Nat → ByteArray → ByteArray → Int → Option (Bool)
  | 0, _, _, _ => none
  | k + 1, x0, x1, x7 => if x7 < (x0.size : Int) then (if x1.toList = ([114] : List UInt8) then (if 0 ≤ x7 then (if 0 ≤ (wrap64 (x7 - 1)) then (if (wrap64 (x7 - 1)) < (x0.size : Int) then (if (bt x0 x7) ≤ (bt x0 (wrap64 (x7 - 1))) then (some false) else (if x1.toList = ([102] : List UInt8) then (if (bt x0 x7) ≥ (bt x0 (wrap64 (x7 - 1))) then (some false) else (spec_miIs.l0 k x0 x1 (wrap64 (x7 + 1)))) else (spec_miIs.l0 k x0 x1 (wrap64 (x7 + 1))))) else (none)) else (none)) else (none)) else (if x1.toList = ([102] : List UInt8) then (if 0 ≤ x7 then (if 0 ≤ (wrap64 (x7 - 1)) then (if (wrap64 (x7 - 1)) < (x0.size : Int) then (if (bt x0 x7) ≥ (bt x0 (wrap64 (x7 - 1))) then (some false) else (spec_miIs.l0 k x0 x1 (wrap64 (x7 + 1)))) else (none)) else (none)) else (none)) else (spec_miIs.l0 k x0 x1 (wrap64 (x7 + 1))))) else (some true)
def spec_miIs.f (k : Nat) (a0 : ByteArray) (a1 : ByteArray) : Option (Bool) := if a1.toList = ([97] : List UInt8) then ((spec_miDigits.f a0).bind fun t101 => (some (t101 == 1))) else (if a1.toList = ([109] : List UInt8) then ((spec_miTurn.f k a0).bind fun t102 => (some (t102.toList == a0.toList))) else (if a1.toList = ([117] : List UInt8) then ((spec_miUpside.f k a0).bind fun bt103 => (if bt103.2 = true then (some (bt103.1.toList == a0.toList)) else (some false))) else (if a1.toList = ([100] : List UInt8) then ((spec_miDigits.f a0).bind fun t105 => (some (t105 == (a0.size : Int)))) else (spec_miIs.l0 k a0 a1 1))))
theorem spec_miIs.mono_l : ∀ k, (∀ y0 y1 y2, LeO (spec_miIs.l0 k y0 y1 y2) (spec_miIs.l0 (k + 1) y0 y1 y2))
  | 0 => fun _ _ _ r h => by simp [spec_miIs.l0] at h
  | k + 1 => by
    have ih0 := spec_miIs.mono_l k
    · intro y0 y1 y2
      unfold spec_miIs.l0
      repeat' first
      | (with_reducible exact ih0 _ _ _)
      | (with_reducible exact spec_miTurn.mono _ _)
      | (with_reducible exact spec_miUpside.mono _ _)
      | (with_reducible exact LeO.refl _)
      | (with_reducible exact LeO.none _)
      | (with_reducible refine LeO.ite ?_ ?_)
      | (with_reducible refine LeO.bind ?_ (fun _ => ?_))
      | exact ih0 _ _ _
      | exact spec_miTurn.mono _ _
      | exact spec_miUpside.mono _ _
      | exact LeO.none _
      | refine LeO.ite ?_ ?_
      | refine LeO.bind ?_ (fun _ => ?_)
theorem spec_miIs.mono : ∀ a0 a1 k, LeO (spec_miIs.f k a0 a1) (spec_miIs.f (k + 1) a0 a1) := by
  intro a0 a1 k
  have ih0 := spec_miIs.mono_l k
  unfold spec_miIs.f
  repeat' first
      | (with_reducible exact ih0 _ _ _)
      | (with_reducible exact spec_miTurn.mono _ _)
      | (with_reducible exact spec_miUpside.mono _ _)
      | (with_reducible exact LeO.refl _)
      | (with_reducible exact LeO.none _)
      | (with_reducible refine LeO.ite ?_ ?_)
      | (with_reducible refine LeO.bind ?_ (fun _ => ?_))
      | exact ih0 _ _ _
      | exact spec_miTurn.mono _ _
      | exact spec_miUpside.mono _ _
      | exact LeO.none _
      | refine LeO.ite ?_ ?_
      | refine LeO.bind ?_ (fun _ => ?_)
set_option maxHeartbeats 8000000 in
set_option maxRecDepth 100000 in
theorem spec_miIs.calls (k : Nat) (a0 : ByteArray) (a1 : ByteArray) (r : Bool) (w : World) (h : spec_miIs.f k a0 a1 = some r) :
    Calls Try.prog 35 #[.string a0, .string a1] w fun e w' => e = .returned (.bool r) ∧ Below w.heap.size w w' := by
  have HB := Aside0.mk (Below.refl w.heap.size w)
  have H : (if a1.toList = ([97] : List UInt8) then ((spec_miDigits.f a0).bind fun t101 => (some (t101 == 1))) else (if a1.toList = ([109] : List UInt8) then ((spec_miTurn.f k a0).bind fun t102 => (some (t102.toList == a0.toList))) else (if a1.toList = ([117] : List UInt8) then ((spec_miUpside.f k a0).bind fun bt103 => (if bt103.2 = true then (some (bt103.1.toList == a0.toList)) else (some false))) else (if a1.toList = ([100] : List UInt8) then ((spec_miDigits.f a0).bind fun t105 => (some (t105 == (a0.size : Int)))) else (spec_miIs.l0 k a0 a1 1))))) = some r := h
  clear h
  by_cases c3 : a1.toList = ([97] : List UInt8)
  · rw [if_pos c3] at H
    have c3b0 : (a1.toList == ([97] : List UInt8)) = true := beq_iff_eq.mpr c3
    have c3b1 : (a1.toList != ([97] : List UInt8)) = false := bne_eq_false_iff_eq.mpr c3
    clear c3
    replace H := Option.bind_eq_some_iff.mp H
    obtain ⟨t101, A40, H⟩ := H
    replace H : (some (t101 == 1)) = some r := H
    have A4 := Aside0.mk A40
    clear A40
    obtain rfl := Option.some.inj H
    go_enter Try.func35, Try.ntmps35
    go_wp2_with (first | (go_at_call 50; (with_reducible refine (spec_miDigits.calls a0 t101 _ A4.out).mono ?_); rintro e w5 ⟨rfl, hb⟩; have n0_ := Aside0.mk (below_step (by repeat (first | (with_reducible first | exact HB.out | apply below_alloc | apply pw_below_drewN | apply below_drew1) | exact HB.out)) hb); clear HB; have HB := n0_; clear n0_; (try clear hb); (try clear hb2); (try clear hk); (try clear hi)))
    repeat (go_quiet (first | (go_at_call 50; (with_reducible refine (spec_miDigits.calls a0 t101 _ A4.out).mono ?_); rintro e w5 ⟨rfl, hb⟩; have n0_ := Aside0.mk (below_step (by repeat (first | (with_reducible first | exact HB.out | apply below_alloc | apply pw_below_drewN | apply below_drew1) | exact HB.out)) hb); clear HB; have HB := n0_; clear n0_; (try clear hb); (try clear hb2); (try clear hk); (try clear hi))); try go_wp2_with (first | (go_at_call 50; (with_reducible refine (spec_miDigits.calls a0 t101 _ A4.out).mono ?_); rintro e w5 ⟨rfl, hb⟩; have n0_ := Aside0.mk (below_step (by repeat (first | (with_reducible first | exact HB.out | apply below_alloc | apply pw_below_drewN | apply below_drew1) | exact HB.out)) hb); clear HB; have HB := n0_; clear n0_; (try clear hb); (try clear hb2); (try clear hk); (try clear hi))))
    go_ret
    exact ⟨by first | rfl | (simp [errW_none, errW_some] <;> rfl) | (simp [*, errW_none, errW_some] <;> rfl), by repeat (first | (with_reducible first | exact HB.out | apply below_alloc | apply pw_below_drewN | apply below_drew1) | exact HB.out)⟩
  · rw [if_neg c3] at H
    have c3b0 : (a1.toList == ([97] : List UInt8)) = false := beq_eq_false_iff_ne.mpr c3
    have c3b1 : (a1.toList != ([97] : List UInt8)) = true := bne_iff_ne.mpr c3
    by_cases c6 : a1.toList = ([109] : List UInt8)
    · rw [if_pos c6] at H
      have c6b0 : (a1.toList == ([109] : List UInt8)) = true := beq_iff_eq.mpr c6
      have c6b1 : (a1.toList != ([109] : List UInt8)) = false := bne_eq_false_iff_eq.mpr c6
      clear c6
      replace H := Option.bind_eq_some_iff.mp H
      obtain ⟨t102, A70, H⟩ := H
      replace H : (some (t102.toList == a0.toList)) = some r := H
      have A7 := Aside0.mk A70
      clear A70
      obtain rfl := Option.some.inj H
      go_enter Try.func35, Try.ntmps35
      go_wp2_with (first | (go_at_call 59; (with_reducible refine (spec_miTurn.calls k a0 t102 _ A7.out).mono ?_); rintro e w' ⟨rfl, ⟨nd, rfl⟩⟩; (try first | exact ⟨rfl, _, World.drewN_drewN _ _ _⟩ | exact ⟨rfl, _, Eq.trans (World.drewN_drewN _ _ _) (congrArg (World.drewN _) (Nat.add_assoc _ _ _))⟩)))
      repeat (go_quiet (first | (go_at_call 59; (with_reducible refine (spec_miTurn.calls k a0 t102 _ A7.out).mono ?_); rintro e w' ⟨rfl, ⟨nd, rfl⟩⟩; (try first | exact ⟨rfl, _, World.drewN_drewN _ _ _⟩ | exact ⟨rfl, _, Eq.trans (World.drewN_drewN _ _ _) (congrArg (World.drewN _) (Nat.add_assoc _ _ _))⟩))); try go_wp2_with (first | (go_at_call 59; (with_reducible refine (spec_miTurn.calls k a0 t102 _ A7.out).mono ?_); rintro e w' ⟨rfl, ⟨nd, rfl⟩⟩; (try first | exact ⟨rfl, _, World.drewN_drewN _ _ _⟩ | exact ⟨rfl, _, Eq.trans (World.drewN_drewN _ _ _) (congrArg (World.drewN _) (Nat.add_assoc _ _ _))⟩))))
      go_ret
      exact ⟨by first | rfl | (simp [errW_none, errW_some] <;> rfl) | (simp [*, errW_none, errW_some] <;> rfl), by repeat (first | (with_reducible first | exact HB.out | apply below_alloc | apply pw_below_drewN | apply below_drew1) | exact HB.out)⟩
    · rw [if_neg c6] at H
      have c6b0 : (a1.toList == ([109] : List UInt8)) = false := beq_eq_false_iff_ne.mpr c6
      have c6b1 : (a1.toList != ([109] : List UInt8)) = true := bne_iff_ne.mpr c6
      by_cases c8 : a1.toList = ([117] : List UInt8)
      · rw [if_pos c8] at H
        have c8b0 : (a1.toList == ([117] : List UInt8)) = true := beq_iff_eq.mpr c8
        have c8b1 : (a1.toList != ([117] : List UInt8)) = false := bne_eq_false_iff_eq.mpr c8
        clear c8
        replace H := Option.bind_eq_some_iff.mp H
        obtain ⟨⟨t103, t104⟩, A90, H⟩ := H
        replace H : (if t104 = true then (some (t103.toList == a0.toList)) else (some false)) = some r := H
        have A9 := Aside0.mk A90
        clear A90
        by_cases c10 : t104 = true
        · subst c10
          have H1 : (some (t103.toList == a0.toList)) = some r := by rw [if_pos rfl] at H; exact H
          clear H
          have H := H1
          clear H1
          obtain rfl := Option.some.inj H
          go_enter Try.func35, Try.ntmps35
          go_wp2_with (first | (go_at_call 60; (with_reducible refine (spec_miUpside.calls k a0 t103 true _ A9.out).mono ?_); rintro e w' ⟨rfl, ⟨nd, rfl⟩⟩; (try first | exact ⟨rfl, _, World.drewN_drewN _ _ _⟩ | exact ⟨rfl, _, Eq.trans (World.drewN_drewN _ _ _) (congrArg (World.drewN _) (Nat.add_assoc _ _ _))⟩)))
          repeat (go_quiet (first | (go_at_call 60; (with_reducible refine (spec_miUpside.calls k a0 t103 true _ A9.out).mono ?_); rintro e w' ⟨rfl, ⟨nd, rfl⟩⟩; (try first | exact ⟨rfl, _, World.drewN_drewN _ _ _⟩ | exact ⟨rfl, _, Eq.trans (World.drewN_drewN _ _ _) (congrArg (World.drewN _) (Nat.add_assoc _ _ _))⟩))); try go_wp2_with (first | (go_at_call 60; (with_reducible refine (spec_miUpside.calls k a0 t103 true _ A9.out).mono ?_); rintro e w' ⟨rfl, ⟨nd, rfl⟩⟩; (try first | exact ⟨rfl, _, World.drewN_drewN _ _ _⟩ | exact ⟨rfl, _, Eq.trans (World.drewN_drewN _ _ _) (congrArg (World.drewN _) (Nat.add_assoc _ _ _))⟩))))
          go_ret
          exact ⟨by first | rfl | (simp [errW_none, errW_some] <;> rfl) | (simp [*, errW_none, errW_some] <;> rfl), by repeat (first | (with_reducible first | exact HB.out | apply below_alloc | apply pw_below_drewN | apply below_drew1) | exact HB.out)⟩
        · replace c10 := Bool.eq_false_iff.mpr c10
          subst c10
          have H1 : (some false) = some r := by rw [if_neg (show ¬ (false = true) by decide)] at H; exact H
          clear H
          have H := H1
          clear H1
          obtain rfl := Option.some.inj H
          go_enter Try.func35, Try.ntmps35
          go_wp2_with (first | (go_at_call 60; (with_reducible refine (spec_miUpside.calls k a0 t103 false _ A9.out).mono ?_); rintro e w' ⟨rfl, ⟨nd, rfl⟩⟩; (try first | exact ⟨rfl, _, World.drewN_drewN _ _ _⟩ | exact ⟨rfl, _, Eq.trans (World.drewN_drewN _ _ _) (congrArg (World.drewN _) (Nat.add_assoc _ _ _))⟩)))
          repeat (go_quiet (first | (go_at_call 60; (with_reducible refine (spec_miUpside.calls k a0 t103 false _ A9.out).mono ?_); rintro e w' ⟨rfl, ⟨nd, rfl⟩⟩; (try first | exact ⟨rfl, _, World.drewN_drewN _ _ _⟩ | exact ⟨rfl, _, Eq.trans (World.drewN_drewN _ _ _) (congrArg (World.drewN _) (Nat.add_assoc _ _ _))⟩))); try go_wp2_with (first | (go_at_call 60; (with_reducible refine (spec_miUpside.calls k a0 t103 false _ A9.out).mono ?_); rintro e w' ⟨rfl, ⟨nd, rfl⟩⟩; (try first | exact ⟨rfl, _, World.drewN_drewN _ _ _⟩ | exact ⟨rfl, _, Eq.trans (World.drewN_drewN _ _ _) (congrArg (World.drewN _) (Nat.add_assoc _ _ _))⟩))))
          go_ret
          exact ⟨by first | rfl | (simp [errW_none, errW_some] <;> rfl) | (simp [*, errW_none, errW_some] <;> rfl), by repeat (first | (with_reducible first | exact HB.out | apply below_alloc | apply pw_below_drewN | apply below_drew1) | exact HB.out)⟩
      · rw [if_neg c8] at H
        have c8b0 : (a1.toList == ([117] : List UInt8)) = false := beq_eq_false_iff_ne.mpr c8
        have c8b1 : (a1.toList != ([117] : List UInt8)) = true := bne_iff_ne.mpr c8
        by_cases c11 : a1.toList = ([100] : List UInt8)
        · rw [if_pos c11] at H
          have c11b0 : (a1.toList == ([100] : List UInt8)) = true := beq_iff_eq.mpr c11
          have c11b1 : (a1.toList != ([100] : List UInt8)) = false := bne_eq_false_iff_eq.mpr c11
          clear c11
          replace H := Option.bind_eq_some_iff.mp H
          obtain ⟨t105, A120, H⟩ := H
          replace H : (some (t105 == (a0.size : Int))) = some r := H
          have A12 := Aside0.mk A120
          clear A120
          obtain rfl := Option.some.inj H
          go_enter Try.func35, Try.ntmps35
          go_wp2_with (first | (go_at_call 50; (with_reducible refine (spec_miDigits.calls a0 t105 _ A12.out).mono ?_); rintro e w13 ⟨rfl, hb⟩; have n0_ := Aside0.mk (below_step (by repeat (first | (with_reducible first | exact HB.out | apply below_alloc | apply pw_below_drewN | apply below_drew1) | exact HB.out)) hb); clear HB; have HB := n0_; clear n0_; (try clear hb); (try clear hb2); (try clear hk); (try clear hi)))
          repeat (go_quiet (first | (go_at_call 50; (with_reducible refine (spec_miDigits.calls a0 t105 _ A12.out).mono ?_); rintro e w13 ⟨rfl, hb⟩; have n0_ := Aside0.mk (below_step (by repeat (first | (with_reducible first | exact HB.out | apply below_alloc | apply pw_below_drewN | apply below_drew1) | exact HB.out)) hb); clear HB; have HB := n0_; clear n0_; (try clear hb); (try clear hb2); (try clear hk); (try clear hi))); try go_wp2_with (first | (go_at_call 50; (with_reducible refine (spec_miDigits.calls a0 t105 _ A12.out).mono ?_); rintro e w13 ⟨rfl, hb⟩; have n0_ := Aside0.mk (below_step (by repeat (first | (with_reducible first | exact HB.out | apply below_alloc | apply pw_below_drewN | apply below_drew1) | exact HB.out)) hb); clear HB; have HB := n0_; clear n0_; (try clear hb); (try clear hb2); (try clear hk); (try clear hi))))
          go_ret
          exact ⟨by first | rfl | (simp [errW_none, errW_some] <;> rfl) | (simp [*, errW_none, errW_some] <;> rfl), by repeat (first | (with_reducible first | exact HB.out | apply below_alloc | apply pw_below_drewN | apply below_drew1) | exact HB.out)⟩
        · rw [if_neg c11] at H
          have c11b0 : (a1.toList == ([100] : List UInt8)) = false := beq_eq_false_iff_ne.mpr c11
          have c11b1 : (a1.toList != ([100] : List UInt8)) = true := bne_iff_ne.mpr c11
          have H' := Aside0.mk H
          clear H
          go_enter Try.func35, Try.ntmps35
          go_wp2
          repeat (go_quiet (fail); try go_wp2)
          go_loopg [7] k (fun kq v7 w' => ∃ (x7_1 : Int), v7 = .int .i64 x7_1 ∧ Aside0 (spec_miIs.l0 kq a0 a1 x7_1 = some r) ∧ Aside0 (kq ≤ k) ∧ Aside0 (Below w.heap.size w w'))
          case atStart => exact ⟨(1), (by first | rfl | (simp; done) | (simp [*]; done)), H', ⟨Nat.le_refl _⟩, ⟨by repeat (first | (with_reducible first | exact HB.out | apply below_alloc | apply pw_below_drewN | apply below_drew1) | exact HB.out)⟩⟩
          case round =>
            clear H'
            try clear c1
            try clear p2
            try clear c3
            try clear c3b0
            try clear c3b1
            try clear c6
            try clear c6b0
            try clear c6b1
            try clear c8
            try clear c8b0
            try clear c8b1
            try clear c10
            try clear c11
            try clear c11b0
            try clear c11b1
            obtain ⟨x7_1, rfl, HA, HK1, HB⟩ := hrel
            cases gk with
            | zero => exact absurd HA.out (by simp [spec_miIs.l0])
            | succ k1 =>
              have H := HA.out
              clear HA
              simp only [spec_miIs.l0] at H
              by_cases c14 : x7_1 < (a0.size : Int)
              · rw [if_pos c14] at H
                have c14b0 : decide (x7_1 < (a0.size : Int)) = true := decide_eq_true c14
                clear c14
                by_cases c15 : a1.toList = ([114] : List UInt8)
                · rw [if_pos c15] at H
                  have c15b0 : (a1.toList == ([114] : List UInt8)) = true := beq_iff_eq.mpr c15
                  have c15b1 : (a1.toList != ([114] : List UInt8)) = false := bne_eq_false_iff_eq.mpr c15
                  clear c15
                  by_cases c16 : 0 ≤ x7_1
                  · rw [if_pos c16] at H
                    have c16b0 : decide (0 ≤ x7_1) = true := decide_eq_true c16
                    clear c16
                    obtain ⟨ji18, hji18⟩ : ∃ j_ : Int, (wrap64 (x7_1 - 1)) = j_ := ⟨_, rfl⟩
                    replace H : (if 0 ≤ (ji18) then (if (ji18) < (a0.size : Int) then (if (bt a0 x7_1) ≤ (bt a0 (ji18)) then (some false) else (if a1.toList = ([102] : List UInt8) then (if (bt a0 x7_1) ≥ (bt a0 (ji18)) then (some false) else (spec_miIs.l0 k1 a0 a1 (wrap64 (x7_1 + 1)))) else (spec_miIs.l0 k1 a0 a1 (wrap64 (x7_1 + 1))))) else (none)) else (none)) = some r := by first | (rw [hji18] at H; exact H) | (simp only [hji18] at H ⊢; exact H)
                    have hji18w : (IntKind.i64.wrap (x7_1 - 1)) = ji18 := (i64_w _).trans hji18
                    by_cases c19 : 0 ≤ (ji18)
                    · rw [if_pos c19] at H
                      have c19b0 : decide (0 ≤ (ji18)) = true := decide_eq_true c19
                      clear c19
                      by_cases c20 : (ji18) < (a0.size : Int)
                      · rw [if_pos c20] at H
                        have c20b0 : decide ((ji18) < (a0.size : Int)) = true := decide_eq_true c20
                        clear c20
                        by_cases c22 : (bt a0 x7_1) ≤ (bt a0 (ji18))
                        · rw [if_pos c22] at H
                          have c22b0 : decide ((bt a0 x7_1) ≤ (bt a0 (ji18))) = true := decide_eq_true c22
                          clear c22
                          obtain rfl := Option.some.inj H
                          have p17 : 0 ≤ (x7_1 : Int) := of_decide_eq_true (by first | (with_reducible assumption) | assumption)
                          have q17 : x7_1 < (a0.size : Int) := of_decide_eq_true (by first | (with_reducible assumption) | assumption)
                          have hx17 := bt_at a0 x7_1
                          replace p17 := eq_true p17
                          replace q17 := eq_true q17
                          have p21 : 0 ≤ ((ji18) : Int) := of_decide_eq_true (by first | (with_reducible assumption) | assumption)
                          have q21 : (ji18) < (a0.size : Int) := of_decide_eq_true (by first | (with_reducible assumption) | assumption)
                          have hx21 := bt_at a0 (ji18)
                          replace p21 := eq_true p21
                          replace q21 := eq_true q21
                          go_wp2
                          repeat (go_quiet (fail); try go_wp2)
                          go_ret
                          exact ⟨by first | rfl | (simp [errW_none, errW_some] <;> rfl) | (simp only [← hji18]; first | rfl | (simp [errW_none, errW_some] <;> rfl)) | (simp [*, errW_none, errW_some] <;> rfl), by repeat (first | (with_reducible first | exact HB.out | apply below_alloc | apply pw_below_drewN | apply below_drew1) | exact HB.out)⟩
                        · rw [if_neg c22] at H
                          have c22b0 : decide ((bt a0 x7_1) ≤ (bt a0 (ji18))) = false := decide_eq_false c22
                          clear c22
                          by_cases c23 : a1.toList = ([102] : List UInt8)
                          · rw [if_pos c23] at H
                            have c23b0 : (a1.toList == ([102] : List UInt8)) = true := beq_iff_eq.mpr c23
                            have c23b1 : (a1.toList != ([102] : List UInt8)) = false := bne_eq_false_iff_eq.mpr c23
                            clear c23
                            by_cases c26 : (bt a0 x7_1) ≥ (bt a0 (ji18))
                            · rw [if_pos c26] at H
                              have c26b0 : decide ((bt a0 (ji18)) ≤ (bt a0 x7_1)) = true := decide_eq_true c26
                              clear c26
                              obtain rfl := Option.some.inj H
                              have p17 : 0 ≤ (x7_1 : Int) := of_decide_eq_true (by first | (with_reducible assumption) | assumption)
                              have q17 : x7_1 < (a0.size : Int) := of_decide_eq_true (by first | (with_reducible assumption) | assumption)
                              have hx17 := bt_at a0 x7_1
                              replace p17 := eq_true p17
                              replace q17 := eq_true q17
                              have p21 : 0 ≤ ((ji18) : Int) := of_decide_eq_true (by first | (with_reducible assumption) | assumption)
                              have q21 : (ji18) < (a0.size : Int) := of_decide_eq_true (by first | (with_reducible assumption) | assumption)
                              have hx21 := bt_at a0 (ji18)
                              replace p21 := eq_true p21
                              replace q21 := eq_true q21
                              have p24 : 0 ≤ (x7_1 : Int) := of_decide_eq_true (by first | (with_reducible assumption) | assumption)
                              have q24 : x7_1 < (a0.size : Int) := of_decide_eq_true (by first | (with_reducible assumption) | assumption)
                              have hx24 := bt_at a0 x7_1
                              replace p24 := eq_true p24
                              replace q24 := eq_true q24
                              have p25 : 0 ≤ ((ji18) : Int) := of_decide_eq_true (by first | (with_reducible assumption) | assumption)
                              have q25 : (ji18) < (a0.size : Int) := of_decide_eq_true (by first | (with_reducible assumption) | assumption)
                              have hx25 := bt_at a0 (ji18)
                              replace p25 := eq_true p25
                              replace q25 := eq_true q25
                              go_wp2
                              repeat (go_quiet (fail); try go_wp2)
                              go_ret
                              exact ⟨by first | rfl | (simp [errW_none, errW_some] <;> rfl) | (simp only [← hji18]; first | rfl | (simp [errW_none, errW_some] <;> rfl)) | (simp [*, errW_none, errW_some] <;> rfl), by repeat (first | (with_reducible first | exact HB.out | apply below_alloc | apply pw_below_drewN | apply below_drew1) | exact HB.out)⟩
                            · rw [if_neg c26] at H
                              have c26b0 : decide ((bt a0 (ji18)) ≤ (bt a0 x7_1)) = false := decide_eq_false c26
                              clear c26
                              have H' := Aside0.mk H
                              clear H
                              have p17 : 0 ≤ (x7_1 : Int) := of_decide_eq_true (by first | (with_reducible assumption) | assumption)
                              have q17 : x7_1 < (a0.size : Int) := of_decide_eq_true (by first | (with_reducible assumption) | assumption)
                              have hx17 := bt_at a0 x7_1
                              replace p17 := eq_true p17
                              replace q17 := eq_true q17
                              have p21 : 0 ≤ ((ji18) : Int) := of_decide_eq_true (by first | (with_reducible assumption) | assumption)
                              have q21 : (ji18) < (a0.size : Int) := of_decide_eq_true (by first | (with_reducible assumption) | assumption)
                              have hx21 := bt_at a0 (ji18)
                              replace p21 := eq_true p21
                              replace q21 := eq_true q21
                              have p24 : 0 ≤ (x7_1 : Int) := of_decide_eq_true (by first | (with_reducible assumption) | assumption)
                              have q24 : x7_1 < (a0.size : Int) := of_decide_eq_true (by first | (with_reducible assumption) | assumption)
                              have hx24 := bt_at a0 x7_1
                              replace p24 := eq_true p24
                              replace q24 := eq_true q24
                              have p25 : 0 ≤ ((ji18) : Int) := of_decide_eq_true (by first | (with_reducible assumption) | assumption)
                              have q25 : (ji18) < (a0.size : Int) := of_decide_eq_true (by first | (with_reducible assumption) | assumption)
                              have hx25 := bt_at a0 (ji18)
                              replace p25 := eq_true p25
                              replace q25 := eq_true q25
                              go_wp2
                              repeat (go_quiet (fail); try go_wp2)
                              go_roundg k1
                              case measure => have := HK1.out; omega
                              case rel => exact ⟨(wrap64 (x7_1 + 1)), (by first | rfl | (simp; done) | (simp [*]; done)), H', ⟨by have := HK1.out; omega⟩, ⟨by repeat (first | (with_reducible first | exact HB.out | apply below_alloc | apply pw_below_drewN | apply below_drew1) | exact HB.out)⟩⟩
                          · rw [if_neg c23] at H
                            have c23b0 : (a1.toList == ([102] : List UInt8)) = false := beq_eq_false_iff_ne.mpr c23
                            have c23b1 : (a1.toList != ([102] : List UInt8)) = true := bne_iff_ne.mpr c23
                            have H' := Aside0.mk H
                            clear H
                            have p17 : 0 ≤ (x7_1 : Int) := of_decide_eq_true (by first | (with_reducible assumption) | assumption)
                            have q17 : x7_1 < (a0.size : Int) := of_decide_eq_true (by first | (with_reducible assumption) | assumption)
                            have hx17 := bt_at a0 x7_1
                            replace p17 := eq_true p17
                            replace q17 := eq_true q17
                            have p21 : 0 ≤ ((ji18) : Int) := of_decide_eq_true (by first | (with_reducible assumption) | assumption)
                            have q21 : (ji18) < (a0.size : Int) := of_decide_eq_true (by first | (with_reducible assumption) | assumption)
                            have hx21 := bt_at a0 (ji18)
                            replace p21 := eq_true p21
                            replace q21 := eq_true q21
                            go_wp2
                            repeat (go_quiet (fail); try go_wp2)
                            go_roundg k1
                            case measure => have := HK1.out; omega
                            case rel => exact ⟨(wrap64 (x7_1 + 1)), (by first | rfl | (simp; done) | (simp [*]; done)), H', ⟨by have := HK1.out; omega⟩, ⟨by repeat (first | (with_reducible first | exact HB.out | apply below_alloc | apply pw_below_drewN | apply below_drew1) | exact HB.out)⟩⟩
                      · rw [if_neg c20] at H
                        exact absurd H (by simp)
                    · rw [if_neg c19] at H
                      exact absurd H (by simp)
                  · rw [if_neg c16] at H
                    exact absurd H (by simp)
                · rw [if_neg c15] at H
                  have c15b0 : (a1.toList == ([114] : List UInt8)) = false := beq_eq_false_iff_ne.mpr c15
                  have c15b1 : (a1.toList != ([114] : List UInt8)) = true := bne_iff_ne.mpr c15
                  by_cases c27 : a1.toList = ([102] : List UInt8)
                  · rw [if_pos c27] at H
                    have c27b0 : (a1.toList == ([102] : List UInt8)) = true := beq_iff_eq.mpr c27
                    have c27b1 : (a1.toList != ([102] : List UInt8)) = false := bne_eq_false_iff_eq.mpr c27
                    clear c27
                    by_cases c28 : 0 ≤ x7_1
                    · rw [if_pos c28] at H
                      have c28b0 : decide (0 ≤ x7_1) = true := decide_eq_true c28
                      clear c28
                      obtain ⟨ji30, hji30⟩ : ∃ j_ : Int, (wrap64 (x7_1 - 1)) = j_ := ⟨_, rfl⟩
                      replace H : (if 0 ≤ (ji30) then (if (ji30) < (a0.size : Int) then (if (bt a0 x7_1) ≥ (bt a0 (ji30)) then (some false) else (spec_miIs.l0 k1 a0 a1 (wrap64 (x7_1 + 1)))) else (none)) else (none)) = some r := by first | (rw [hji30] at H; exact H) | (simp only [hji30] at H ⊢; exact H)
                      have hji30w : (IntKind.i64.wrap (x7_1 - 1)) = ji30 := (i64_w _).trans hji30
                      by_cases c31 : 0 ≤ (ji30)
                      · rw [if_pos c31] at H
                        have c31b0 : decide (0 ≤ (ji30)) = true := decide_eq_true c31
                        clear c31
                        by_cases c32 : (ji30) < (a0.size : Int)
                        · rw [if_pos c32] at H
                          have c32b0 : decide ((ji30) < (a0.size : Int)) = true := decide_eq_true c32
                          clear c32
                          by_cases c34 : (bt a0 x7_1) ≥ (bt a0 (ji30))
                          · rw [if_pos c34] at H
                            have c34b0 : decide ((bt a0 (ji30)) ≤ (bt a0 x7_1)) = true := decide_eq_true c34
                            clear c34
                            obtain rfl := Option.some.inj H
                            have p29 : 0 ≤ (x7_1 : Int) := of_decide_eq_true (by first | (with_reducible assumption) | assumption)
                            have q29 : x7_1 < (a0.size : Int) := of_decide_eq_true (by first | (with_reducible assumption) | assumption)
                            have hx29 := bt_at a0 x7_1
                            replace p29 := eq_true p29
                            replace q29 := eq_true q29
                            have p33 : 0 ≤ ((ji30) : Int) := of_decide_eq_true (by first | (with_reducible assumption) | assumption)
                            have q33 : (ji30) < (a0.size : Int) := of_decide_eq_true (by first | (with_reducible assumption) | assumption)
                            have hx33 := bt_at a0 (ji30)
                            replace p33 := eq_true p33
                            replace q33 := eq_true q33
                            go_wp2
                            repeat (go_quiet (fail); try go_wp2)
                            go_ret
                            exact ⟨by first | rfl | (simp [errW_none, errW_some] <;> rfl) | (simp only [← hji30]; first | rfl | (simp [errW_none, errW_some] <;> rfl)) | (simp [*, errW_none, errW_some] <;> rfl), by repeat (first | (with_reducible first | exact HB.out | apply below_alloc | apply pw_below_drewN | apply below_drew1) | exact HB.out)⟩
                          · rw [if_neg c34] at H
                            have c34b0 : decide ((bt a0 (ji30)) ≤ (bt a0 x7_1)) = false := decide_eq_false c34
                            clear c34
                            have H' := Aside0.mk H
                            clear H
                            have p29 : 0 ≤ (x7_1 : Int) := of_decide_eq_true (by first | (with_reducible assumption) | assumption)
                            have q29 : x7_1 < (a0.size : Int) := of_decide_eq_true (by first | (with_reducible assumption) | assumption)
                            have hx29 := bt_at a0 x7_1
                            replace p29 := eq_true p29
                            replace q29 := eq_true q29
                            have p33 : 0 ≤ ((ji30) : Int) := of_decide_eq_true (by first | (with_reducible assumption) | assumption)
                            have q33 : (ji30) < (a0.size : Int) := of_decide_eq_true (by first | (with_reducible assumption) | assumption)
                            have hx33 := bt_at a0 (ji30)
                            replace p33 := eq_true p33
                            replace q33 := eq_true q33
                            go_wp2
                            repeat (go_quiet (fail); try go_wp2)
                            go_roundg k1
                            case measure => have := HK1.out; omega
                            case rel => exact ⟨(wrap64 (x7_1 + 1)), (by first | rfl | (simp; done) | (simp [*]; done)), H', ⟨by have := HK1.out; omega⟩, ⟨by repeat (first | (with_reducible first | exact HB.out | apply below_alloc | apply pw_below_drewN | apply below_drew1) | exact HB.out)⟩⟩
                        · rw [if_neg c32] at H
                          exact absurd H (by simp)
                      · rw [if_neg c31] at H
                        exact absurd H (by simp)
                    · rw [if_neg c28] at H
                      exact absurd H (by simp)
                  · rw [if_neg c27] at H
                    have c27b0 : (a1.toList == ([102] : List UInt8)) = false := beq_eq_false_iff_ne.mpr c27
                    have c27b1 : (a1.toList != ([102] : List UInt8)) = true := bne_iff_ne.mpr c27
                    have H' := Aside0.mk H
                    clear H
                    go_wp2
                    repeat (go_quiet (fail); try go_wp2)
                    go_roundg k1
                    case measure => have := HK1.out; omega
                    case rel => exact ⟨(wrap64 (x7_1 + 1)), (by first | rfl | (simp; done) | (simp [*]; done)), H', ⟨by have := HK1.out; omega⟩, ⟨by repeat (first | (with_reducible first | exact HB.out | apply below_alloc | apply pw_below_drewN | apply below_drew1) | exact HB.out)⟩⟩
              · rw [if_neg c14] at H
                have c14b0 : decide (x7_1 < (a0.size : Int)) = false := decide_eq_false c14
                clear c14
                obtain rfl := Option.some.inj H
                go_wp2
                repeat (go_quiet (fail); try go_wp2)
                go_ret
                exact ⟨by first | rfl | (simp [errW_none, errW_some] <;> rfl) | (simp [*, errW_none, errW_some] <;> rfl), by repeat (first | (with_reducible first | exact HB.out | apply below_alloc | apply pw_below_drewN | apply below_drew1) | exact HB.out)⟩

end Go.Proofs.Ytpdcjkiejglaiaa.Q

/-
  The reference's readings turned, upside down, and its test of a kind, in plain words: a reading is of a kind just if each of its digits may stand where it stands.
-/
namespace Go.Proofs.Ytpdcjkiejglaiaa.Q
open Go.RowKit Go.Proofs.YtpdcjkiejglaiaaW.PrintWords Go.Proofs.YtpdcjkiejglaiaaW.PrintLast Go.Proofs.YtpdcjkiejglaiaaW.PrintMore
set_option linter.unusedVariables false
set_option linter.unusedSimpArgs false

theorem li_one (s : ByteArray) (i : Nat) (hi : i < s.size) : li (s.extract i (i + 1)) = [bt s i] := by
  have h : i < (li s).length := by rw [li_length]; exact hi
  rw [li_extract, bt_li, show i + 1 - i = 1 by omega]
  have e : (li s).getD ((i : Int)).toNat 0 = (li s)[i] := by simp [List.getD_eq_getElem?_getD, h]
  rw [e, List.drop_eq_getElem_cons h]
  rfl
theorem li_take_succ (s : ByteArray) (i : Nat) (hi : i < s.size) : (li s).take (i + 1) = (li s).take i ++ [bt s i] := by
  have h : i < (li s).length := by rw [li_length]; exact hi
  rw [List.take_succ_eq_append_getElem h, bt_li]
  simp [List.getD_eq_getElem?_getD, h]
theorem getD_reverse (l : List Int) (i : Nat) (hi : i < l.length) : l.reverse.getD i 0 = l.getD (l.length - 1 - i) 0 := by
  have h2 : l.length - 1 - i < l.length := by omega
  simp [List.getD_eq_getElem?_getD, List.getElem?_reverse, hi, h2]

theorem turn_loop (s : ByteArray) (hs : s.size ≤ 140737488351232) : ∀ (i : Nat) (acc : ByteArray), i ≤ s.size → acc.size + i ≤ 281474976710656 →
    ∃ t, Ev (fun k => spec_miTurn.l0 k s acc ((i : Int) - 1)) t ∧ li t = li acc ++ ((li s).take i).reverse
  | 0, acc, _, _ => by
    refine ⟨acc, Ev.step (f := fun _ => some acc) (fun k => ?_) (Ev.now _), by simp⟩
    simp only [spec_miTurn.l0]
    rw [if_neg (by omega)]
  | i + 1, acc, hi, ha => by
    have hz : (s.extract i (i + 1)).size = 1 := by rw [ByteArray.size_extract]; omega
    obtain ⟨t, ht, hl⟩ := turn_loop s hs i (acc ++ s.extract i (i + 1)) (by omega) (by rw [ByteArray.size_append, hz]; omega)
    refine ⟨t, Ev.step (fun k => ?_) ht, ?_⟩
    · simp only [spec_miTurn.l0]
      have e0 : ((i + 1 : Nat) : Int) - 1 = (i : Int) := by omega
      rw [e0]
      have e1 : wrap64 ((i : Int) + 1) = ((i + 1 : Nat) : Int) := by rw [wrap_id (by omega) (by omega)]; rfl
      rw [e1, show ((i : Int)).toNat = i from rfl, show (((i + 1 : Nat) : Int)).toNat = i + 1 from rfl, hz]
      rw [if_pos (by omega), if_pos (by omega), if_pos (by omega), if_pos (by omega), if_pos (by omega), wrap_id (by omega) (by omega)]
    · rw [hl, li_append, li_one s i (by omega), li_take_succ s i (by omega)]
      simp
theorem miTurn_ev (s : ByteArray) (hs : s.size ≤ 140737488351232) : ∃ t, Ev (fun k => spec_miTurn.f k s) t ∧ li t = (li s).reverse := by
  obtain ⟨t, ht, hl⟩ := turn_loop s hs s.size ⟨#[]⟩ (Nat.le_refl _) (by show 0 + s.size ≤ _; omega)
  refine ⟨t, ?_, ?_⟩
  · unfold spec_miTurn.f
    rw [wrap_id (by omega) (by omega)]
    exact ht
  · rw [hl, List.take_of_length_le (by rw [li_length]; omega)]
    rfl

theorem li_lit1 (c : UInt8) : li ⟨#[c]⟩ = [(c.toNat : Int)] := rfl
theorem up_cases (x : Int) : (x = 48 ∨ x = 49 ∨ x = 56) ∧ up x = x ∨ x = 54 ∧ up x = 57 ∨ x = 57 ∧ up x = 54 ∨ x ≠ 48 ∧ x ≠ 49 ∧ x ≠ 56 ∧ x ≠ 54 ∧ x ≠ 57 ∧ up x = 0 := by
  unfold up
  by_cases h : x = 48 ∨ x = 49 ∨ x = 56
  · exact .inl ⟨h, by rw [if_pos h]⟩
  · rw [if_neg h]
    by_cases h4 : x = 54
    · subst h4; exact .inr (.inl ⟨rfl, by decide⟩)
    · by_cases h5 : x = 57
      · subst h5; exact .inr (.inr (.inl ⟨rfl, by decide⟩))
      · rw [if_neg h4, if_neg h5]
        exact .inr (.inr (.inr ⟨by omega, by omega, by omega, h4, h5, rfl⟩))
def upOk (s : ByteArray) (i : Nat) : Bool := up (bt s i) != 0
theorem up_loop (s : ByteArray) (hs : s.size ≤ 140737488351232) : ∀ (i : Nat) (acc : ByteArray), i ≤ s.size → acc.size + i ≤ 281474976710656 →
    ∃ t b, Ev (fun k => spec_miUpside.l0 k s acc ((i : Int) - 1)) (t, b) ∧ (b = true ↔ ∀ j : Nat, j < i → up (bt s j) ≠ 0) ∧ (b = true → li t = li acc ++ (((li s).take i).map up).reverse) ∧ (b = false → t = ⟨#[]⟩)
  | 0, acc, _, _ => by
    refine ⟨acc, true, Ev.step (f := fun _ => some (acc, true)) (fun k => ?_) (Ev.now _), by simp, by simp, by simp⟩
    simp only [spec_miUpside.l0]
    rw [if_neg (by omega)]
  | i + 1, acc, hi, ha => by
    have e0 : ((i + 1 : Nat) : Int) - 1 = (i : Int) := by omega
    have e1 : wrap64 ((i : Int) + 1) = ((i + 1 : Nat) : Int) := by rw [wrap_id (by omega) (by omega)]; rfl
    have hz : (s.extract i (i + 1)).size = 1 := by rw [ByteArray.size_extract]; omega
    have fin : ∀ (acc' : ByteArray), acc'.size = acc.size + 1 → li acc' = li acc ++ [up (bt s i)] → up (bt s i) ≠ 0 →
        (∀ q, Ev (fun k => spec_miUpside.l0 k s acc' ((i : Int) - 1)) q → Ev (fun k => spec_miUpside.l0 k s acc (i : Int)) q) →
        ∃ t b, Ev (fun k => spec_miUpside.l0 k s acc (i : Int)) (t, b) ∧ (b = true ↔ ∀ j : Nat, j < i + 1 → up (bt s j) ≠ 0) ∧ (b = true → li t = li acc ++ (((li s).take (i + 1)).map up).reverse) ∧ (b = false → t = ⟨#[]⟩) := by
      intro acc' hsz hl hu go
      obtain ⟨t, b, ht, h1, h2, h3⟩ := up_loop s hs i acc' (by omega) (by omega)
      refine ⟨t, b, go _ ht, ?_, ?_, h3⟩
      · rw [h1]
        constructor
        · intro h j hj
          by_cases e : j = i
          · rw [e]; exact hu
          · exact h j (by omega)
        · intro h j hj
          exact h j (by omega)
      · intro hb
        rw [h2 hb, hl, li_take_succ s i (by omega)]
        simp
    rw [e0]
    rcases up_cases (bt s i) with ⟨h, hu⟩ | ⟨h, hu⟩ | ⟨h, hu⟩ | ⟨h1, h2, h3, h4, h5, hu⟩
    · refine fin (acc ++ s.extract i (i + 1)) (by rw [ByteArray.size_append, hz]) (by rw [li_append, li_one s i (by omega), hu]) (by rw [hu]; omega) fun q hq => ?_
      have step : ∀ k, spec_miUpside.j1 (k + 1) s acc (i : Int) (bt s i) true = spec_miUpside.l0 k s (acc ++ s.extract i (i + 1)) ((i : Int) - 1) := by
        intro k
        simp only [spec_miUpside.j1]
        rw [if_true, e1, show ((i : Int)).toNat = i from rfl, show (((i + 1 : Nat) : Int)).toNat = i + 1 from rfl, hz]
        rw [if_pos (by omega), if_pos (by omega), if_pos (by omega), if_pos (by omega), wrap_id (by omega) (by omega)]
      refine Ev.step (f := fun k => spec_miUpside.j1 k s acc (i : Int) (bt s i) true) (fun k => ?_) (Ev.step step hq)
      simp only [spec_miUpside.l0]
      rw [if_pos (by omega), if_pos (by omega), if_pos (by omega)]
      by_cases h48 : bt s i = 48
      · rw [if_pos h48]; simp [h48]
      · rw [if_neg h48]
        by_cases h49 : bt s i = 49
        · rw [if_pos h49]; simp [h49]
        · rw [if_neg h49]
          have h56 : bt s i = 56 := by omega
          simp [h56]
    all_goals
      have j : ∀ k, spec_miUpside.l0 (k + 1) s acc (i : Int) = spec_miUpside.j1 k s acc (i : Int) (bt s i) false := by
        intro k
        simp only [spec_miUpside.l0]
        rw [if_pos (by omega), if_pos (by omega), if_pos (by omega), if_neg (by omega), if_neg (by omega)]
        have h56 : (bt s (i : Int) == 56) = false := by rw [beq_eq_false_iff_ne]; omega
        rw [h56]
    · refine fin (acc ++ ⟨#[57]⟩) (by rw [ByteArray.size_append]; rfl) (by rw [li_append, hu]; rfl) (by rw [hu]; decide) fun q hq => ?_
      refine Ev.step j (Ev.step (fun k => ?_) hq)
      simp only [spec_miUpside.j1]
      rw [if_neg (by decide), if_pos h, if_pos (by omega), wrap_id (by omega) (by omega)]
    · refine fin (acc ++ ⟨#[54]⟩) (by rw [ByteArray.size_append]; rfl) (by rw [li_append, hu]; rfl) (by rw [hu]; decide) fun q hq => ?_
      refine Ev.step j (Ev.step (fun k => ?_) hq)
      simp only [spec_miUpside.j1]
      rw [if_neg (by decide), if_neg (by omega), if_pos h, if_pos (by omega), wrap_id (by omega) (by omega)]
    · refine ⟨⟨#[]⟩, false, Ev.step j (Ev.step (f := fun _ => some (⟨#[]⟩, false)) (fun k => ?_) (Ev.now _)), ?_, by simp, by simp⟩
      · simp only [spec_miUpside.j1]
        rw [if_neg (by decide), if_neg h4, if_neg h5]
      · simp only [Bool.false_eq_true, false_iff]
        intro h
        exact h i (by omega) hu
theorem miUpside_ev (s : ByteArray) (hs : s.size ≤ 140737488351232) : ∃ t b, Ev (fun k => spec_miUpside.f k s) (t, b) ∧ (b = true ↔ ∀ j : Nat, j < s.size → up (bt s j) ≠ 0) ∧ (b = true → li t = ((li s).map up).reverse) ∧ (b = false → t = ⟨#[]⟩) := by
  obtain ⟨t, b, ht, h1, h2, h3⟩ := up_loop s hs s.size ⟨#[]⟩ (Nat.le_refl _) (by show 0 + s.size ≤ _; omega)
  refine ⟨t, b, ?_, h1, ?_, h3⟩
  · unfold spec_miUpside.f
    rw [wrap_id (by omega) (by omega)]
    exact ht
  · intro hb
    rw [h2 hb, List.take_of_length_le (by rw [li_length]; omega)]
    rfl

end Go.Proofs.Ytpdcjkiejglaiaa.Q

/-
  The search of 'multiple' in plain words: paths through the list, and what stands once a rest of 0 is met.
-/
namespace Go.Proofs.Ytpdcjkiejglaiaa.Q
open Go.RowKit Go.Proofs.YtpdcjkiejglaiaaW.PrintWords Go.Proofs.YtpdcjkiejglaiaaW.PrintLast Go.Proofs.YtpdcjkiejglaiaaW.PrintMore
set_option linter.unusedVariables false
set_option linter.unusedSimpArgs false

theorem li_str (l : List Int) (h : ∀ x ∈ l, 0 ≤ x ∧ x < 256) : li (strOfNums l) = l := by
  unfold li strOfNums
  simp only [List.map_map]
  rw [List.map_congr_left (g := id)]
  · simp
  · intro x hx
    have := h x hx
    simp [Nat.toUInt8]
    omega

/-- a list goes on another one, element by element -/
def Ext (l l' : List S56) : Prop := l.length ≤ l'.length ∧ ∀ j : Nat, j < l.length → rd_T56 l' (j : Int) = rd_T56 l (j : Int)
theorem Ext.refl (l : List S56) : Ext l l := ⟨Nat.le_refl _, fun _ _ => rfl⟩
theorem Ext.trans {a b c : List S56} (h : Ext a b) (k : Ext b c) : Ext a c := ⟨Nat.le_trans h.1 k.1, fun j hj => (k.2 j (by have := h.1; omega)).trans (h.2 j hj)⟩
theorem Ext.app (l : List S56) (x : S56) : Ext l (l ++ [x]) := ⟨by simp, fun j hj => by rw [rd_append, if_pos hj]⟩
theorem mpush_ext (n before rest d : Int) (s : MSt) : Ext s.list (mpush n before rest d s).list := by
  unfold mpush
  split
  · exact Ext.refl _
  · exact Ext.app _ _
theorem mall_ext (n before rest : Int) : ∀ (ds : List Int) (s : MSt), Ext s.list (mall n before rest ds s).list
  | [], s => Ext.refl _
  | d :: l, s => (mpush_ext n before rest d s).trans (mall_ext n before rest l _)

/-- every place leads to a lesser one -/
def Down (l : List S56) : Prop := ∀ j : Nat, j < l.length → -1 ≤ (rd_T56 l j).f1 ∧ (rd_T56 l j).f1 < j
theorem stop' (l : List S56) (f : Nat) (k : Int) (h : ¬ 0 ≤ k) : chain l f k = [] := by
  cases f with
  | zero => rfl
  | succ f => simp only [chain]; rw [if_neg h]
theorem go' (l : List S56) (f : Nat) (k : Int) (h : 0 ≤ k) : chain l (f + 1) k = (rd_T56 l k).f2 :: chain l f (rd_T56 l k).f1 := by
  simp only [chain]
  rw [if_pos h]
theorem chain_same {l l' : List S56} (he : Ext l l') (hd : Down l) : ∀ (f f' : Nat) (k : Int), k < f → k < f' → k < l.length → chain l' f' k = chain l f k := by
  intro f
  induction f with
  | zero =>
    intro f' k h1 h2 h3
    rw [stop' _ _ _ (by omega), stop' _ _ _ (by omega)]
  | succ f ih =>
    intro f' k h1 h2 h3
    by_cases h0 : 0 ≤ k
    · obtain ⟨q, rfl⟩ := Int.eq_ofNat_of_zero_le h0
      obtain ⟨f', rfl⟩ : ∃ m, f' = m + 1 := ⟨f' - 1, by omega⟩
      have hb := hd q (by omega)
      rw [go' _ _ _ h0, go' _ _ _ h0, he.2 q (by omega), ih f' _ (by omega) (by omega) (by omega)]
    · rw [stop' _ _ _ h0, stop' _ _ _ h0]
theorem chain_dig {l : List S56} (hd : Down l) (hg : ∀ j : Nat, j < l.length → 48 ≤ (rd_T56 l j).f2 ∧ (rd_T56 l j).f2 ≤ 57) : ∀ (f : Nat) (k : Int), k < l.length → ∀ x ∈ chain l f k, 48 ≤ x ∧ x ≤ 57 := by
  intro f
  induction f with
  | zero => intro k _ x hx; simp [chain] at hx
  | succ f ih =>
    intro k hk x hx
    by_cases h0 : 0 ≤ k
    · obtain ⟨q, rfl⟩ := Int.eq_ofNat_of_zero_le h0
      rw [go' _ _ _ h0] at hx
      have hb := hd q (by omega)
      rcases List.mem_cons.1 hx with rfl | hx
      · exact hg q (by omega)
      · exact ih _ (by omega) x hx
    · rw [stop' _ _ _ h0] at hx; simp at hx
theorem chain_len (l : List S56) : ∀ (f : Nat) (k : Int), (chain l f k).length ≤ f
  | 0, _ => Nat.le_refl _
  | f + 1, k => by
    simp only [chain]
    split
    · have := chain_len l f (rd_T56 l k).f1; simp; omega
    · simp
/-- the digits that lead to a place, from the first one on -/
def path (l : List S56) (k : Nat) : List Int := (chain l 401 (k : Int)).reverse
theorem path_same {l l' : List S56} (he : Ext l l') (hd : Down l) (k : Nat) (hk : k < l.length) (h4 : l.length ≤ 400) : path l' k = path l k := by
  unfold path
  rw [chain_same he hd 401 401 k (by omega) (by omega) (by omega)]
theorem path_new {l : List S56} (hd : Down l) (h4 : l.length ≤ 399) (x : S56) (p : Nat) (hp : p < l.length) (hx : x.f1 = (p : Int)) : path (l ++ [x]) l.length = path l p ++ [x.f2] := by
  unfold path
  rw [go' _ 400 _ (by omega), rd_append, if_neg (by omega), if_pos rfl, hx, chain_same (Ext.app l x) hd 401 400 p (by omega) (by omega) (by omega)]
  simp
theorem path_first {l : List S56} (x : S56) (hx : x.f1 = -1) : path (l ++ [x]) l.length = [x.f2] := by
  unfold path
  rw [go' _ 400 _ (by omega), rd_append, if_neg (by omega), if_pos rfl, hx, stop' _ _ _ (by omega)]
  simp

/-- ONCE A REST OF 0 IS MET, ITS PATH IS WHAT COMES OF IT. -/
theorem scan_zero {n : Nat} (hn : 0 < n) (hn4 : n ≤ 400) (ds : List Int) (hds : ∀ d ∈ ds, 48 ≤ d ∧ d ≤ 57) (c : Nat) : ∀ (g i : Nat) (s : MSt), MInv n s → i ≤ c → c < s.list.length → c < i + g → (rd_T56 s.list c).f0 = 0 → (∀ q : Nat, q < c → (rd_T56 s.list q).f0 ≠ 0) →
    mscan n ds g i s = (strOfNums (path s.list c), true) := by
  intro g
  induction g with
  | zero => intro i s _ h1 _ h2 _ _; omega
  | succ g ih =>
    intro i s hI hic hc hg h0 hne
    simp only [mscan]
    rw [if_pos (by omega)]
    by_cases e : i = c
    · subst e
      rw [if_pos h0]
      rfl
    · rw [if_neg (hne i (by omega))]
      have hx := mall_ext n (i : Int) (rd_T56 s.list (i : Int)).f0 ds s
      have ha := MInv.all (n := n) hn (i : Int) (rd_T56 s.list (i : Int)).f0 (by omega) ds hds (s := s) (by omega) hI
      have hle := hI.le
      rw [ih (i + 1) _ ha.1 (by omega) (by omega) (by omega) (by rw [hx.2 c hc]; exact h0) (fun q hq => by rw [hx.2 q (by omega)]; exact hne q hq), path_same hx hI.before c hc (by omega)]

end Go.Proofs.Ytpdcjkiejglaiaa.Q

/-
  The reference's search for a least multiple, level by level, comes to what the program's comes to.
-/
namespace Go.Proofs.Ytpdcjkiejglaiaa.Q
open Go.RowKit Go.Proofs.YtpdcjkiejglaiaaW.PrintWords Go.Proofs.YtpdcjkiejglaiaaW.PrintLast Go.Proofs.YtpdcjkiejglaiaaW.PrintMore
set_option linter.unusedVariables false
set_option linter.unusedSimpArgs false

/-- one node's digits: the root alone passes over 0 -/
def mgen (root : Bool) (n before rest : Int) : List Int → MSt → MSt
  | [], s => s
  | d :: l, s => mgen root n before rest l (if (root && decide (d = 48)) = true then s else mpush n before rest d s)
theorem mgen_root (n : Int) : ∀ (ds : List Int) (s : MSt), mgen true n (-1) 0 ds s = mfirst n ds s
  | [], s => rfl
  | d :: l, s => by
    simp only [mgen, mfirst, Bool.true_and, decide_eq_true_eq]
    rw [mgen_root n l]
theorem mgen_all (n before rest : Int) : ∀ (ds : List Int) (s : MSt), mgen false n before rest ds s = mall n before rest ds s
  | [], s => rfl
  | d :: l, s => by
    simp only [mgen, mall, Bool.false_and, Bool.false_eq_true, if_false]
    rw [mgen_all n before rest l]
theorem mgen_ext (root : Bool) (n before rest : Int) : ∀ (ds : List Int) (s : MSt), Ext s.list (mgen root n before rest ds s).list
  | [], s => Ext.refl _
  | d :: l, s => by
    simp only [mgen]
    refine Ext.trans ?_ (mgen_ext root n before rest l _)
    split
    · exact Ext.refl _
    · exact mpush_ext _ _ _ _ _
theorem mgen_inv {n : Nat} (hn : 0 < n) (root : Bool) (before rest : Int) (hb : -1 ≤ before) : ∀ (ds : List Int), (∀ d ∈ ds, 48 ≤ d ∧ d ≤ 57) → ∀ {s : MSt}, before < s.list.length → MInv n s → MInv n (mgen root n before rest ds s)
  | [], _, _, _, h => h
  | d :: l, hd, s, hlt, h => by
    have hdd := hd d (List.mem_cons_self ..)
    have hle := mpush_le n before rest d s
    simp only [mgen]
    split
    · exact mgen_inv hn root before rest hb l (fun x hx => hd x (List.mem_cons_of_mem _ hx)) hlt h
    · exact mgen_inv hn root before rest hb l (fun x hx => hd x (List.mem_cons_of_mem _ hx)) (by omega) (h.push hn _ _ _ hb hlt hdd.1 hdd.2)

/-- no rest of 0 has been met -/
structure Gd (n : Nat) (s : MSt) : Prop where
  inv : MInv n s
  nz : ∀ q : Nat, q < s.list.length → (rd_T56 s.list q).f0 ≠ 0
  z0 : rdOf false s.met 0 = false
/-- texts and rests of the places from a on -/
structure Seg (s : MSt) (a : Nat) (now : List ByteArray) (rests : List Int) : Prop where
  same : rests.length = now.length
  fit : a + now.length ≤ s.list.length
  txt : ∀ q : Nat, q < now.length → li (rdOf ByteArray.empty now (q : Int)) = path s.list (a + q)
  rst : ∀ q : Nat, q < now.length → rd rests (q : Int) = (rd_T56 s.list ((a + q : Nat) : Int)).f0
theorem Seg.ext {s s' : MSt} {a : Nat} {now : List ByteArray} {rests : List Int} (h : Seg s a now rests) (he : Ext s.list s'.list) (hd : Down s.list) (h4 : s.list.length ≤ 400) : Seg s' a now rests := by
  have hf := h.fit
  exact ⟨h.same, by have := he.1; omega, fun q hq => by rw [path_same he hd _ (by omega) h4]; exact h.txt q hq, fun q hq => by rw [he.2 _ (by omega)]; exact h.rst q hq⟩
theorem rdOf_app (xs : List ByteArray) (x : ByteArray) (q : Nat) : rdOf ByteArray.empty (xs ++ [x]) (q : Int) = if q < xs.length then rdOf ByteArray.empty xs (q : Int) else if q = xs.length then x else ByteArray.empty := by
  unfold rdOf
  simp only [Int.toNat_natCast, List.getD_eq_getElem?_getD]
  by_cases h : q < xs.length
  · rw [if_pos h, List.getElem?_append_left h]
  · rw [if_neg h, List.getElem?_append_right (by omega)]
    by_cases e : q = xs.length
    · rw [if_pos e]; simp [e]
    · rw [if_neg e, List.getElem?_eq_none (by simp; omega)]; rfl
theorem rd_app (xs : List Int) (x : Int) (q : Nat) : rd (xs ++ [x]) (q : Int) = if q < xs.length then rd xs (q : Int) else if q = xs.length then x else 0 := by
  unfold rd
  simp only [Int.toNat_natCast, List.getD_eq_getElem?_getD]
  by_cases h : q < xs.length
  · rw [if_pos h, List.getElem?_append_left h]
  · rw [if_neg h, List.getElem?_append_right (by omega)]
    by_cases e : q = xs.length
    · rw [if_pos e]; simp [e]
    · rw [if_neg e, List.getElem?_eq_none (by simp; omega)]; rfl
theorem Gd.push {n : Nat} {s : MSt} (h : Gd n s) (hn : 0 < n) (before rest d : Int) (hb1 : -1 ≤ before) (hb2 : before < s.list.length) (hd1 : 48 ≤ d) (hd2 : d ≤ 57) (hr : nextRest n rest d ≠ 0) : Gd n (mpush n before rest d s) := by
  refine ⟨h.inv.push hn before rest d hb1 hb2 hd1 hd2, ?_, ?_⟩
  · unfold mpush
    split
    · exact h.nz
    · intro q hq
      simp only [List.length_append, List.length_singleton] at hq
      rw [rd_append]
      by_cases e : q < s.list.length
      · rw [if_pos e]; exact h.nz q e
      · rw [if_neg e, if_pos (by omega)]; exact hr
  · unfold mpush
    split
    · exact h.z0
    · have h1 := (nextRest_lt (n := n) (by omega) rest d).1
      have h2 := h.z0
      unfold rdOf at h2 ⊢
      simp only [List.getD_eq_getElem?_getD] at h2 ⊢
      rw [List.getElem?_set_ne (by omega)]
      exact h2

theorem wrap_succ (j : Nat) (h : j ≤ 140737488351232) : wrap64 ((j : Int) + 1) = ((j + 1 : Nat) : Int) := by rw [wrap_id (by omega) (by omega)]; rfl
theorem rest_at (rests : List Int) (i : Nat) (ρ d : Int) (n : Nat) (hri : rd rests (i : Int) = ρ) (h0 : 0 ≤ ρ) (h1 : ρ < n) (hn4 : n ≤ 400) (hd1 : 48 ≤ d) (hd2 : d ≤ 57) :
    Int.tmod (wrap64 (wrap64 (10 * rd rests (i : Int)) + (d - 48) % 256)) n = nextRest n ρ d := by
  rw [hri, wrap_id (i := 10 * ρ) (by omega) (by omega), show (d - 48) % 256 = d - 48 by omega, wrap_id (by omega) (by omega)]
  unfold nextRest
  exact Int.tmod_eq_emod_of_nonneg (by omega)
theorem j3_body {n : Nat} {str T : ByteArray} {met : List Bool} {rests left : List Int} {next now : List ByteArray} {i j : Nat} {len r : Int} {X : ByteArray}
    (c2 : (i : Int) < (rests.length : Int)) (c4 : (j : Int) < (str.size : Int)) (c5 : ¬ (n : Int) = 0) (e1 : wrap64 ((j : Int) + 1) = ((j + 1 : Nat) : Int))
    (e2 : Int.tmod (wrap64 (wrap64 (10 * rd rests (i : Int)) + (bt str j - 48) % 256)) n = r) (hX : str.extract j (j + 1) = X) (hz : X.size = 1) (c8 : T.size + 1 ≤ 9223372036854775807) (c9 : 0 ≤ r) (c10 : r < (met.length : Int))
    (c11 : next.length < 8796093022208) (c12 : left.length < 17592186044416) :
    ∀ k, spec_leMultiple.j3 (k + 1) n str met rests next left (i : Int) T (j : Int) now len (i : Int) false =
          if r = 0 then some (T ++ X, true)
          else if rdOf false met r = true then spec_leMultiple.l2 k n str met rests next left (i : Int) T ((j + 1 : Nat) : Int) now len (i : Int)
          else spec_leMultiple.l2 k n str (met.set r.toNat true) rests (next ++ [T ++ X]) (left ++ [r]) (i : Int) T ((j + 1 : Nat) : Int) now len (i : Int) := by
  intro k
  have c1 : 0 ≤ (i : Int) := Int.natCast_nonneg _
  have c3 : 0 ≤ (j : Int) := Int.natCast_nonneg _
  have c6 : (j : Int) ≤ ((j + 1 : Nat) : Int) := by omega
  have c7 : ((j + 1 : Nat) : Int) ≤ (str.size : Int) := by omega
  have t1 : ((j : Int)).toNat = j := rfl
  have t2 : (((j + 1 : Nat) : Int)).toNat = j + 1 := rfl
  simp only [spec_leMultiple.j3, e1, e2, t1, t2, hX, hz]
  rw [if_neg (show ¬ (false = true) by decide), if_pos c1, if_pos c2, if_pos c3, if_pos c4, if_neg c5, if_pos c6, if_pos c7, if_pos c8, if_pos c9, if_pos c10, if_pos c6, if_pos c7, if_pos c8, if_pos c11, if_pos c12]
section
variable {n : Nat} (hn : 0 < n) (hn4 : n ≤ 400) {str : ByteArray} (hsz : str.size ≤ 1000) (hds : ∀ d ∈ li str, 48 ≤ d ∧ d ≤ 57)
theorem dig_at {str : ByteArray} (hds : ∀ d ∈ li str, 48 ≤ d ∧ d ≤ 57) (j : Nat) (hj : j < str.size) : 48 ≤ bt str j ∧ bt str j ≤ 57 := by
  have h : j < (li str).length := by rw [li_length]; exact hj
  have := hds ((li str)[j]) (List.getElem_mem h)
  rw [bt_li]
  simpa [List.getD_eq_getElem?_getD, h] using this
theorem drop_li (s : ByteArray) (j : Nat) (hj : j < s.size) : (li s).drop j = bt s j :: (li s).drop (j + 1) := by
  have h : j < (li s).length := by rw [li_length]; exact hj
  rw [List.drop_eq_getElem_cons h, bt_li]
  simp [List.getD_eq_getElem?_getD, h]

set_option maxHeartbeats 1000000 in
include hn hn4 hsz hds in
theorem l2_ev (root : Bool) (before ρ : Int) (T : ByteArray) (P : List Int) (hT : li T = P) (hP : ∀ x ∈ P, 48 ≤ x ∧ x ≤ 57) (hPl : P.length ≤ 401) (hroot : root = true ↔ P = []) (hρ0 : 0 ≤ ρ) (hρ1 : ρ < n)
    (now : List ByteArray) (rests : List Int) (i : Nat) (hi : i < rests.length) (hri : rd rests (i : Int) = ρ) (len : Int) (g I b : Nat) (hg : I + g = 401) (hb1 : -1 ≤ before) (hbI : before < I) (hi9 : i ≤ 1000)
    (hpath : ∀ (l : List S56), Down l → l.length ≤ 399 → (root = true ∧ before = -1 ∨ ∃ p : Nat, root = false ∧ before = p ∧ p < l.length ∧ path l p = P) → ∀ x : S56, x.f1 = before → path (l ++ [x]) l.length = P ++ [x.f2])
    (base : List S56) (hbase : ∀ (s : MSt), Ext base s.list → Gd n s → (before < s.list.length) ∧ (root = true ∧ before = -1 ∨ ∃ p : Nat, root = false ∧ before = p ∧ p < s.list.length ∧ path s.list p = P) ∧ I ≤ s.list.length)
    (K : ∀ (s' : MSt) next left, Ext base s'.list → Gd n s' → Seg s' b next left → b + next.length = s'.list.length → Ev (fun k => spec_leMultiple.l1 k n str s'.met rests next left now len ((i + 1 : Nat) : Int)) (mscan n (li str) g I s')) :
    ∀ (d j : Nat) (s : MSt) next left, j + d = str.size → Ext base s.list → Gd n s → Seg s b next left → b + next.length = s.list.length →
      Ev (fun k => spec_leMultiple.l2 k n str s.met rests next left (i : Int) T (j : Int) now len (i : Int)) (mscan n (li str) g I (mgen root n before ρ ((li str).drop j) s)) := by
  intro d
  induction d with
  | zero =>
    intro j s next left hj he hG hS hl
    obtain rfl : j = str.size := by omega
    rw [List.drop_of_length_le (by rw [li_length]; omega)]
    refine Ev.step (fun k => ?_) (K s next left he hG hS hl)
    simp only [spec_leMultiple.l2]
    rw [if_neg (by omega), wrap_id (by omega) (by omega)]
    rfl
  | succ d ih =>
    intro j s next left hj he hG hS hl
    have hjs : j < str.size := by omega
    have hdd := dig_at hds j hjs
    have hle := hG.inv.le
    obtain ⟨hbl, hpp, hIl⟩ := hbase s he hG
    rw [drop_li str j hjs]
    simp only [mgen]
    have hTe : T.toList = ([] : List UInt8) ↔ P = [] := by
      have := toList_li T ⟨#[]⟩
      rw [hT] at this
      have e : (⟨#[]⟩ : ByteArray).toList = [] := by rw [ByteArray.toList_eq]
      rw [e] at this
      exact this
    have hTs : T.size = P.length := by rw [← hT, li_length]
    -- the test of 0 at the root
    have enter : ∀ q, Ev (fun k => spec_leMultiple.j3 k n str s.met rests next left (i : Int) T (j : Int) now len (i : Int) (root && decide (bt str j = 48))) q →
        Ev (fun k => spec_leMultiple.l2 k n str s.met rests next left (i : Int) T (j : Int) now len (i : Int)) q := by
      intro q hq
      refine Ev.step (fun k => ?_) hq
      have c1 : (j : Int) < (str.size : Int) := by omega
      have c2 : 0 ≤ (j : Int) := Int.natCast_nonneg _
      simp only [spec_leMultiple.l2]
      rw [if_pos c1]
      by_cases hr : root = true
      · have eb : (bt str (j : Int) == 48) = (root && decide (bt str (j : Int) = 48)) := by rw [hr, Bool.true_and, Bool.eq_iff_iff, beq_iff_eq, decide_eq_true_eq]
        rw [if_pos (hTe.2 (hroot.1 hr)), if_pos c2, eb]
      · have eb : (root && decide (bt str (j : Int) = 48)) = false := by have : root = false := by simpa using hr
                                                                         rw [this, Bool.false_and]
        rw [if_neg (fun e => hr (hroot.2 (hTe.1 e))), eb]
    refine enter _ ?_
    by_cases hskip : (root && decide (bt str j = 48)) = true
    · rw [if_pos hskip, hskip]
      refine Ev.step (fun k => ?_) (ih (j + 1) s next left (by omega) he hG hS hl)
      have e1 : wrap64 ((j : Int) + 1) = ((j + 1 : Nat) : Int) := wrap_succ j (by omega)
      simp only [spec_leMultiple.j3]
      rw [if_true, e1]
    · rw [if_neg hskip]
      have hsk : (root && decide (bt str j = 48)) = false := by simpa using hskip
      rw [hsk]
      have hrl := nextRest_lt (n := (n : Int)) (by omega) ρ (bt str j)
      have hml := hG.inv.len
      have hz : (str.extract j (j + 1)).size = 1 := by rw [ByteArray.size_extract]; omega
      have l1 := hS.fit
      have l2 := hS.same
      have c2 : (i : Int) < (rests.length : Int) := by omega
      have c4 : (j : Int) < (str.size : Int) := by omega
      have c5 : ¬ (n : Int) = 0 := by omega
      have c8 : T.size + 1 ≤ 9223372036854775807 := by omega
      have c10 : nextRest n ρ (bt str j) < (s.met.length : Int) := by omega
      have c11 : next.length < 8796093022208 := by omega
      have c12 : left.length < 17592186044416 := by omega
      have body := j3_body (T := T) (met := s.met) (next := next) (left := left) (now := now) (len := len) (rests := rests) (i := i) (j := j) (n := n) (str := str) c2 c4 c5 (wrap_succ j (by omega)) (rest_at rests i ρ (bt str j) n hri hρ0 hρ1 hn4 hdd.1 hdd.2) rfl hz c8 hrl.1 c10 c11 c12
      clear c2 c4 c5 c8 c10 c11 c12
      by_cases h0 : nextRest n ρ (bt str j) = 0
      · -- the rest of 0
        refine Ev.step body (Ev.pos h0 (Ev.eq (Ev.now _) ?_))
        have hm : rdOf false s.met (nextRest n ρ (bt str j)) = false := by rw [h0]; exact hG.z0
        have hpush : mpush n before ρ (bt str j) s = ⟨s.met.set (nextRest n ρ (bt str j)).toNat true, s.list ++ [⟨nextRest n ρ (bt str j), before, bt str j⟩]⟩ := by
          unfold mpush; rw [if_neg (by rw [hm]; decide)]
        have hinv := hG.inv.push hn before ρ (bt str j) hb1 hbl hdd.1 hdd.2
        have hlt : s.list.length < n := by
          have h1 := hinv.le
          rw [hpush] at h1
          simp at h1
          omega
        have hx := mgen_ext root n before ρ ((li str).drop (j + 1)) (mpush n before ρ (bt str j) s)
        have hds' : ∀ d ∈ (li str).drop (j + 1), 48 ≤ d ∧ d ≤ 57 := fun d hd => hds d (List.mem_of_mem_drop hd)
        have hin2 := mgen_inv hn root before ρ hb1 ((li str).drop (j + 1)) hds' (s := mpush n before ρ (bt str j) s) (by have := mpush_le n before ρ (bt str j) s; omega) hinv
        have hlen : (mpush n before ρ (bt str j) s).list.length = s.list.length + 1 := by rw [hpush]; simp
        have hat : rd_T56 (mpush n before ρ (bt str j) s).list (s.list.length : Int) = ⟨nextRest n ρ (bt str j), before, bt str j⟩ := by
          rw [hpush]
          show rd_T56 (s.list ++ [_]) _ = _
          rw [rd_append, if_neg (by omega), if_pos rfl]
        have hbef : ∀ q : Nat, q < s.list.length → rd_T56 (mpush n before ρ (bt str j) s).list (q : Int) = rd_T56 s.list (q : Int) := fun q hq => (mpush_ext n before ρ (bt str j) s).2 q hq
        rw [scan_zero hn hn4 (li str) hds s.list.length g I _ hin2 (by omega) (by have := hx.1; omega) (by omega) (by rw [hx.2 _ (by omega), hat]; exact h0) (fun q hq => by rw [hx.2 _ (by omega), hbef q hq]; exact hG.nz q hq)]
        rw [path_same hx hinv.before _ (by omega) (by omega)]
        have hp := hpath s.list hG.inv.before (by omega) hpp ⟨nextRest n ρ (bt str j), before, bt str j⟩ rfl
        have : path (mpush n before ρ (bt str j) s).list s.list.length = P ++ [bt str j] := by rw [hpush]; exact hp
        rw [this]
        congr 1
        apply li_inj
        rw [li_append, hT, li_one str j hjs, li_str]
        intro x hx
        rcases List.mem_append.1 hx with h | h
        · have := hP x h; omega
        · have : x = bt str j := by simpa using h
          omega
      · by_cases hm : rdOf false s.met (nextRest n ρ (bt str j)) = true
        · have hpush : mpush n before ρ (bt str j) s = s := by unfold mpush; rw [if_pos hm]
          rw [hpush]
          exact Ev.step body (Ev.neg h0 (Ev.pos hm (ih (j + 1) s next left (by omega) he hG hS hl)))
        · have hpush : mpush n before ρ (bt str j) s = ⟨s.met.set (nextRest n ρ (bt str j)).toNat true, s.list ++ [⟨nextRest n ρ (bt str j), before, bt str j⟩]⟩ := by
            unfold mpush; rw [if_neg hm]
          have hG' := hG.push hn before ρ (bt str j) hb1 hbl hdd.1 hdd.2 h0
          have hx := mpush_ext n before ρ (bt str j) s
          have hlt : s.list.length < n := by
            have h1 := hG'.inv.le
            rw [hpush] at h1
            simp at h1
            omega
          have hp := hpath s.list hG.inv.before (by omega) hpp ⟨nextRest n ρ (bt str j), before, bt str j⟩ rfl
          have hS' : Seg (mpush n before ρ (bt str j) s) b (next ++ [T ++ str.extract j (j + 1)]) (left ++ [nextRest n ρ (bt str j)]) := by
            have hS2 := hS.ext hx hG.inv.before (by omega)
            refine ⟨by simp [hS.same], by rw [hpush]; simp; omega, ?_, ?_⟩
            · intro q hq
              simp only [List.length_append, List.length_singleton] at hq
              rw [rdOf_app]
              by_cases e : q < next.length
              · rw [if_pos e]; exact hS2.txt q e
              · obtain rfl : q = next.length := by omega
                rw [if_neg e, if_pos rfl, hl, li_append, hT, li_one str j hjs, hpush]
                exact hp.symm
            · intro q hq
              simp only [List.length_append, List.length_singleton] at hq
              rw [rd_app]
              by_cases e : q < next.length
              · rw [if_pos (by rw [hS.same]; exact e)]; exact hS2.rst q e
              · obtain rfl : q = next.length := by omega
                rw [hS.same, if_neg e, if_pos rfl, hl, hpush]
                show _ = (rd_T56 (s.list ++ [_]) _).f0
                rw [rd_append, if_neg (by omega), if_pos rfl]
          have hl' : b + (next ++ [T ++ str.extract j (j + 1)]).length = (mpush n before ρ (bt str j) s).list.length := by rw [hpush]; simp; omega
          have := ih (j + 1) (mpush n before ρ (bt str j) s) _ _ (by omega) (he.trans hx) hG' hS' hl'
          rw [hpush] at this ⊢
          exact Ev.step body (Ev.neg h0 (Ev.neg hm this))
end

end Go.Proofs.Ytpdcjkiejglaiaa.Q

/-
  The reference's least multiple is the program's: for every number of 1 to 400 and every text of digits.
-/
namespace Go.Proofs.Ytpdcjkiejglaiaa.Q
open Go.RowKit Go.Proofs.YtpdcjkiejglaiaaW.PrintWords Go.Proofs.YtpdcjkiejglaiaaW.PrintLast Go.Proofs.YtpdcjkiejglaiaaW.PrintMore
set_option linter.unusedVariables false
set_option linter.unusedSimpArgs false

section
variable {n : Nat} (hn : 0 < n) (hn4 : n ≤ 400) {str : ByteArray} (hsz : str.size ≤ 1000) (hds : ∀ d ∈ li str, 48 ≤ d ∧ d ≤ 57)

def AtA (n : Nat) (str : ByteArray) (g : Nat) : Prop := ∀ (I : Nat) (s : MSt) (a b : Nat) (now : List ByteArray) (rests : List Int) (next : List ByteArray) (left : List Int) (i : Nat), I + g = 401 → Gd n s → Seg s a now rests → b = a + now.length → Seg s b next left → b + next.length = s.list.length → I = a + i → i < now.length →
  Ev (fun k => spec_leMultiple.l1 k n str s.met rests next left now (now.length : Int) (i : Int)) (mscan n (li str) g I s)
def AtFull (n : Nat) (str : ByteArray) (g : Nat) : Prop := ∀ (I : Nat) (s : MSt) (a b : Nat) (now : List ByteArray) (rests : List Int) (next : List ByteArray) (left : List Int) (i : Nat), I + g = 401 → Gd n s → Seg s a now rests → b = a + now.length → Seg s b next left → b + next.length = s.list.length → I = a + i → i ≤ now.length →
  Ev (fun k => spec_leMultiple.l1 k n str s.met rests next left now (now.length : Int) (i : Int)) (mscan n (li str) g I s)
def At0 (n : Nat) (str : ByteArray) (g : Nat) : Prop := ∀ (s : MSt) (b : Nat) (next : List ByteArray) (left : List Int), b + g = 401 → Gd n s → Seg s b next left → b + next.length = s.list.length →
  Ev (fun k => spec_leMultiple.l0 k n str s.met next left) (mscan n (li str) g b s)

theorem seg_nil (s : MSt) (b : Nat) (h : b ≤ s.list.length) : Seg s b [] [] := ⟨rfl, by simpa using h, fun q hq => by simp at hq, fun q hq => by simp at hq⟩
theorem at0_of {g : Nat} (hA : AtA n str g) : At0 n str g := by
  intro s b next left hg hG hS hl
  by_cases h0 : next.length = 0
  · obtain rfl : next = [] := List.eq_nil_of_length_eq_zero h0
    have hlen : s.list.length = b := by simpa using hl.symm
    refine Ev.step (f := fun _ => some (⟨#[]⟩, false)) (fun k => ?_) (Ev.eq (Ev.now _) ?_)
    · simp only [spec_leMultiple.l0]
      rw [if_neg (by simp)]
    · cases g with
      | zero => rfl
      | succ g => simp only [mscan]; rw [if_neg (by omega)]
  · have hp : (next.length : Int) > 0 := by omega
    have := hA b s b (b + next.length) next left [] [] 0 hg hG hS rfl (seg_nil s _ (by omega)) (by simpa using hl) rfl (by omega)
    refine Ev.step (fun k => ?_) this
    simp only [spec_leMultiple.l0]
    rw [if_pos hp]
    rfl
theorem full_of {g : Nat} (hA : AtA n str g) : AtFull n str g := by
  intro I s a b now rests next left i hg hG hS hb hN hl hI hi
  by_cases hlt : i < now.length
  · exact hA I s a b now rests next left i hg hG hS hb hN hl hI hlt
  · have e : I = b := by omega
    subst e
    have := at0_of hA s I next left hg hG hN hl
    refine Ev.step (fun k => ?_) this
    have c : ¬ (i : Int) < (now.length : Int) := by omega
    simp only [spec_leMultiple.l1]
    rw [if_neg c]
theorem path_ne (l : List S56) (k : Nat) : path l k ≠ [] := by
  unfold path
  rw [go' _ 400 _ (by omega)]
  simp
include hn hn4 hsz hds in
theorem atA_step {g : Nat} (hF : AtFull n str g) : AtA n str (g + 1) := by
  intro I s a b now rests next left i hg hG hS hb hN hl hI hi
  have hle := hG.inv.le
  have hfit := hS.fit
  have hsame := hS.same
  have hIl : I < s.list.length := by omega
  have hr := hG.inv.rest I hIl
  have hrd : rd rests (i : Int) = (rd_T56 s.list (I : Int)).f0 := by rw [hS.rst i hi, hI]
  have htx : li (rdOf ByteArray.empty now (i : Int)) = path s.list I := by rw [hS.txt i hi, hI]
  have hgo := l2_ev hn hn4 hsz hds false (I : Int) (rd_T56 s.list (I : Int)).f0 (rdOf ByteArray.empty now (i : Int)) (path s.list I) htx
    (fun x hx => chain_dig hG.inv.before hG.inv.dig 401 (I : Int) (by omega) x (by unfold path at hx; exact List.mem_reverse.1 hx))
    (by unfold path; rw [List.length_reverse]; exact chain_len _ _ _) (by simp [path_ne]) hr.1 hr.2 now rests i (by omega) hrd (now.length : Int) g (I + 1) b (by omega) (by omega) (by omega) (by omega)
    (fun l hd h4 hor x hx => by
      rcases hor with ⟨h, _⟩ | ⟨p, _, hp, hpl, hpp⟩
      · cases h
      · have : I = p := by omega
        subst this
        rw [path_new hd h4 x I hpl hx, hpp])
    s.list (fun s' he hG' => ⟨by have := he.1; omega, .inr ⟨I, rfl, rfl, by have := he.1; omega, path_same he hG.inv.before I hIl (by omega)⟩, by have := he.1; omega⟩)
    (fun s' next' left' he hG' hS' hl' => by
      exact hF (I + 1) s' a b now rests next' left' (i + 1) (by omega) hG' (hS.ext he hG.inv.before (by omega)) hb hS' hl' (by omega) (by omega))
    str.size 0 s next left (by omega) (Ext.refl _) hG hN hl
  refine Ev.step (fun k => ?_) (Ev.eq hgo ?_)
  · have c1 : (i : Int) < (now.length : Int) := by omega
    have c2 : 0 ≤ (i : Int) := by omega
    simp only [spec_leMultiple.l1]
    rw [if_pos c1, if_pos c2, if_pos c1]
    rfl
  · rw [List.drop_zero, mgen_all]
    conv => rhs; simp only [mscan]
    rw [if_pos hIl, if_neg (hG.nz I hIl)]
include hn hn4 hsz hds in
theorem atA_all : ∀ g, AtA n str g
  | 0 => by
    intro I s a b now rests next left i hg hG hS hb hN hl hI hi
    have := hG.inv.le
    have := hS.fit
    omega
  | g + 1 => atA_step hn hn4 hsz hds (full_of (atA_all g))
theorem gd_init (hn : 0 < n) : Gd n ⟨List.replicate n false, []⟩ :=
  ⟨MInv.init n, fun q hq => by simp at hq, by unfold rdOf; simp [hn]⟩
include hn hn4 hsz hds in
/-- THE REFERENCE'S SEARCH COMES TO THE PROGRAM'S. -/
theorem leMul_ev : Ev (fun k => spec_leMultiple.f k n str) (mscan n (li str) 401 0 (mfirst n (li str) ⟨List.replicate n false, []⟩)) := by
  have h0 := at0_of (atA_all hn hn4 hsz hds 401)
  have hgo := l2_ev hn hn4 hsz hds true (-1) 0 ⟨#[]⟩ [] rfl (fun x hx => by simp at hx) (by simp) (by simp) (by omega) (by omega) [⟨#[]⟩] [0] 0 (by decide) rfl 1 401 0 0 rfl (by omega) (by omega) (by omega)
    (fun l hd h4 hor x hx => by rw [path_first x hx]; rfl)
    [] (fun s' he hG' => ⟨by omega, .inl ⟨rfl, rfl⟩, by omega⟩)
    (fun s' next' left' he hG' hS' hl' => by
      have := h0 s' 0 next' left' rfl hG' hS' hl'
      refine Ev.step (fun k => ?_) this
      simp only [spec_leMultiple.l1]
      rw [if_neg (by decide)])
    str.size 0 ⟨List.replicate n false, []⟩ [] [] (by omega) (Ext.refl _) (gd_init hn) (seg_nil _ _ (Nat.le_refl _)) rfl
  rw [List.drop_zero, mgen_root] at hgo
  have e1 : Ev (fun k => spec_leMultiple.l1 k n str (List.replicate n false) [0] [] [] [⟨#[]⟩] 1 0) (mscan n (li str) 401 0 (mfirst n (li str) ⟨List.replicate n false, []⟩)) := by
    refine Ev.step (fun k => ?_) hgo
    simp only [spec_leMultiple.l1]
    rw [if_pos (by decide), if_pos (by decide), if_pos (by decide)]
    rfl
  have c1 : 0 ≤ (n : Int) := by omega
  have c2 : ((n : Int)).toNat ≤ 281474976710656 := by rw [Int.toNat_natCast]; omega
  unfold spec_leMultiple.f
  refine Ev.pos c1 (Ev.pos c2 ?_)
  rw [Int.toNat_natCast]
  refine Ev.step (fun k => ?_) e1
  simp only [spec_leMultiple.l0]
  rw [if_pos (by decide)]
  rfl
end

/-- what both come to -/
def mulOf (n : Int) (s : ByteArray) : ByteArray × Bool := mscan n (li s) 401 0 (mfirst n (li s) ⟨List.replicate n.toNat false, []⟩)
theorem spec_mul {n : Int} {s : ByteArray} (h1 : 1 ≤ n) (h4 : n ≤ 400) (hs : s.size ≤ 1000) (hds : ∀ d ∈ li s, 48 ≤ d ∧ d ≤ 57) : Ev (fun k => spec_leMultiple.f k n s) (mulOf n s) := by
  obtain ⟨m, rfl⟩ := Int.eq_ofNat_of_zero_le (show 0 ≤ n by omega)
  have := leMul_ev (n := m) (str := s) (by omega) (by omega) hs hds
  unfold mulOf
  rwa [Int.toNat_natCast]
theorem impl_mul {n : Int} {s : ByteArray} (h1 : 1 ≤ n) (h4 : n ≤ 400) (hs : s.size ≤ 1000) (hds : ∀ d ∈ li s, 48 ≤ d ∧ d ≤ 57) : impl_multiple.f n s = some (mulOf n s) := by
  unfold impl_multiple.f mulOf
  rw [if_pos ⟨h1, h4, hs, by rw [List.all_eq_true]; intro d hd; simpa using hds d hd⟩]

end Go.Proofs.Ytpdcjkiejglaiaa.Q

/-
  The reference's test of a kind is that of the program: a reading is of a kind just if each of its digits may stand where it stands.
-/
namespace Go.Proofs.Ytpdcjkiejglaiaa.Q
open Go.RowKit Go.Proofs.YtpdcjkiejglaiaaW.PrintWords Go.Proofs.YtpdcjkiejglaiaaW.PrintLast Go.Proofs.YtpdcjkiejglaiaaW.PrintMore
set_option linter.unusedVariables false
set_option linter.unusedSimpArgs false

theorem cntNew_pos (s : ByteArray) : ∀ n : Nat, 1 ≤ n → 1 ≤ cntNew s n
  | 0, h => by omega
  | 1, _ => by simp [cntNew, newTo]
  | n + 2, _ => by
    have h1 := cntNew_pos s (n + 1) (by omega)
    have e : cntNew s (n + 2) = cntNew s (n + 1) + (if newTo s (n + 1) (n + 1) = true then 1 else 0) := rfl
    rw [e]
    split <;> omega
theorem cntNew_one (s : ByteArray) : ∀ n : Nat, 1 ≤ n → (cntNew s n = 1 ↔ ∀ i, 1 ≤ i → i < n → newTo s i i = false)
  | 0, h => by omega
  | 1, _ => by
    simp only [cntNew, newTo, if_true]
    constructor
    · intro _ i h1 h2; omega
    · intro _; rfl
  | n + 2, _ => by
    have ih := cntNew_one s (n + 1) (by omega)
    have hp := cntNew_pos s (n + 1) (by omega)
    have e : cntNew s (n + 2) = cntNew s (n + 1) + (if newTo s (n + 1) (n + 1) = true then 1 else 0) := rfl
    rw [e]
    constructor
    · intro h i h1 h2
      by_cases hn : newTo s (n + 1) (n + 1) = true
      · rw [if_pos hn] at h; omega
      · rw [if_neg hn] at h
        by_cases hi : i = n + 1
        · rw [hi]; simpa using hn
        · exact ih.1 (by omega) i h1 (by omega)
    · intro h
      rw [if_neg (by rw [h (n + 1) (by omega) (by omega)]; decide), ih.2 (fun i h1 h2 => h i h1 (by omega))]
      rfl
theorem cntNew_all (s : ByteArray) : ∀ n : Nat, (cntNew s n = n ↔ ∀ i, i < n → newTo s i i = true)
  | 0 => by simp [cntNew]
  | n + 1 => by
    have ih := cntNew_all s n
    have hl := cntNew_le s n
    have e : cntNew s (n + 1) = cntNew s n + (if newTo s n n = true then 1 else 0) := rfl
    rw [e]
    constructor
    · intro h i hi
      by_cases hn : newTo s n n = true
      · rw [if_pos hn] at h
        by_cases he : i = n
        · rw [he]; exact hn
        · exact ih.1 (by omega) i (by omega)
      · rw [if_neg hn] at h; omega
    · intro h
      rw [if_pos (h n (by omega)), ih.2 (fun i hi => h i (by omega))]
      rfl

/-- a kind's letter as a text -/
def kt (c : UInt8) : ByteArray := ⟨#[c]⟩
theorem kt_toList (c : UInt8) : (kt c).toList = [c] := by rw [ByteArray.toList_eq]; rfl

theorem low_dig {s : ByteArray} (hd : ∀ j : Nat, j < s.size → 48 ≤ bt s j ∧ bt s j ≤ 57) : lowB s = true := by
  unfold lowB
  rw [List.all_eq_true]
  intro c hc
  obtain ⟨j, hj, rfl⟩ := List.mem_iff_getElem.1 hc
  have hj' : j < s.size := by rw [Array.length_toList] at hj; exact hj
  have h1 := hd j hj'
  have h2 : ((s.data.toList[j].toNat : Nat) : Int) = bt s j := bt_at s (j : Int) hj'
  simp only [decide_eq_true_eq]
  omega
theorem miDigits_dig {s : ByteArray} (h9 : s.size ≤ 9) (hd : ∀ j : Nat, j < s.size → 48 ≤ bt s j ∧ bt s j ≤ 57) : spec_miDigits.f s = some (cntNew s s.size) := by
  unfold spec_miDigits.f
  rw [if_pos (low_dig hd), if_pos (by omega)]

theorem kind_a (s : ByteArray) (h1 : 1 ≤ s.size) : (cntNew s s.size == 1) = allF (mayAt 97 s s.size) s.size 0 := by
  rw [Bool.eq_iff_iff, allF_iff, beq_iff_eq, cntNew_one s _ h1]
  have e : ∀ j, (mayAt 97 s s.size j = true ↔ bt s j = bt s 0) := fun j => by simp [mayAt]
  constructor
  · intro h
    have : ∀ j, j < s.size → bt s j = bt s 0 := by
      intro j
      induction j using Nat.strongRecOn with
      | _ j ih =>
        intro hj
        by_cases h0 : j = 0
        · rw [h0]; rfl
        · have := h j (by omega) hj
          have hn : ¬ ∀ i : Nat, i < j → bt s i ≠ bt s j := fun hh => by rw [(newTo_iff s j j).2 hh] at this; cases this
          have : ∃ i : Nat, i < j ∧ bt s i = bt s j := by
            apply Classical.byContradiction
            intro hx
            exact hn fun i hi he => hx ⟨i, hi, he⟩
          obtain ⟨i, hi, he⟩ := this
          rw [← he, ih i hi (by omega)]
    intro j _ hj
    exact (e j).2 (this j (by omega))
  · intro h i hi1 hi2
    cases hn : newTo s i i with
    | false => rfl
    | true =>
      have := (newTo_iff s i i).1 hn 0 (by omega)
      exact absurd ((e i).1 (h i (by omega) (by omega))).symm this
theorem kind_d (s : ByteArray) : (cntNew s s.size == (s.size : Int)) = allF (mayAt 100 s s.size) s.size 0 := by
  rw [Bool.eq_iff_iff, allF_iff, beq_iff_eq, cntNew_all s]
  have e : ∀ j, mayAt 100 s s.size j = newTo s j j := fun j => by simp [mayAt]
  constructor
  · intro h j _ hj
    rw [e]; exact h j (by omega)
  · intro h i hi
    rw [← e]; exact h i (by omega) (by omega)
theorem bt_of_li {s t : ByteArray} {l : List Int} (h : li t = l) (i : Nat) : bt t i = l.getD i 0 := by rw [bt_li, h]; rfl
theorem kind_m (s t : ByteArray) (ht : li t = (li s).reverse) : (t.toList == s.toList) = allF (mayAt 109 s s.size) s.size 0 := by
  rw [beq_li, Bool.eq_iff_iff, allF_iff, decide_eq_true_eq]
  have hz : t.size = s.size := by rw [size_li ht, List.length_reverse, li_length]
  have hb : ∀ i : Nat, i < s.size → bt t i = bt s ((s.size - 1 - i : Nat) : Int) := by
    intro i hi
    rw [bt_of_li (s := s) ht, getD_reverse _ _ (by rw [li_length]; exact hi), li_length, bt_li]
    rfl
  have e : ∀ j, (mayAt 109 s s.size j = true ↔ j < s.size - 1 - j ∨ bt s ((s.size - 1 - j : Nat) : Int) = bt s j) := fun j => by simp [mayAt]
  constructor
  · intro h j _ hj
    refine (e j).2 (.inr ?_)
    rw [← hb j (by omega), bt_li, bt_li, h]
  · intro h
    refine li_ext hz fun i hi => ?_
    rw [hz] at hi
    rw [hb i hi]
    by_cases hlt : i < s.size - 1 - i
    · have := (e (s.size - 1 - i)).1 (h _ (by omega) (by omega))
      rw [show s.size - 1 - (s.size - 1 - i) = i by omega] at this
      rcases this with h1 | h1
      · omega
      · exact h1.symm
    · rcases (e i).1 (h i (by omega) (by omega)) with h1 | h1
      · omega
      · exact h1
theorem up_up {x : Int} (h : up x ≠ 0) : up (up x) = x := by
  rcases up_cases x with ⟨h1, h2⟩ | ⟨h1, h2⟩ | ⟨h1, h2⟩ | ⟨_, _, _, _, _, h2⟩
  · rw [h2, h2]
  · rw [h2, h1]; decide
  · rw [h2, h1]; decide
  · exact absurd h2 h
theorem kind_u (s t : ByteArray) (b : Bool) (h1 : b = true ↔ ∀ j : Nat, j < s.size → up (bt s j) ≠ 0) (h2 : b = true → li t = ((li s).map up).reverse) :
    (if b = true then (t.toList == s.toList) else false) = allF (mayAt 117 s s.size) s.size 0 := by
  have e : ∀ j, (mayAt 117 s s.size j = true ↔ up (bt s j) ≠ 0 ∧ (j < s.size - 1 - j ∨ bt s ((s.size - 1 - j : Nat) : Int) = up (bt s j))) := fun j => by simp [mayAt]
  by_cases hb : b = true
  · rw [if_pos hb, beq_li, Bool.eq_iff_iff, allF_iff, decide_eq_true_eq]
    have ht := h2 hb
    have hu := h1.1 hb
    have hz : t.size = s.size := by rw [size_li ht, List.length_reverse, List.length_map, li_length]
    have hbt : ∀ i : Nat, i < s.size → bt t i = up (bt s ((s.size - 1 - i : Nat) : Int)) := by
      intro i hi
      rw [bt_of_li (s := s) ht, getD_reverse _ _ (by rw [List.length_map, li_length]; exact hi), List.length_map, li_length, bt_li]
      have hlt : s.size - 1 - i < (li s).length := by rw [li_length]; omega
      simp [List.getD_eq_getElem?_getD, hlt]
    constructor
    · intro h j _ hj
      refine (e j).2 ⟨hu j (by omega), .inr ?_⟩
      have h3 := hbt (s.size - 1 - j) (by omega)
      rw [show s.size - 1 - (s.size - 1 - j) = j by omega] at h3
      rw [← h3, bt_li, bt_li, h]
    · intro h
      refine li_ext hz fun i hi => ?_
      rw [hz] at hi
      rw [hbt i hi]
      by_cases hlt : i < s.size - 1 - i
      · have := ((e (s.size - 1 - i)).1 (h _ (by omega) (by omega))).2
        rw [show s.size - 1 - (s.size - 1 - i) = i by omega] at this
        rcases this with h3 | h3
        · omega
        · exact h3.symm
      · rcases ((e i).1 (h i (by omega) (by omega))).2 with h3 | h3
        · omega
        · rw [h3, up_up (hu i hi)]
  · rw [if_neg hb]
    symm
    cases ha : allF (mayAt 117 s s.size) s.size 0 with
    | false => rfl
    | true =>
      exfalso
      apply hb
      rw [h1]
      intro j hj
      exact ((e j).1 ((allF_iff _ _ _).1 ha j (by omega) (by omega))).1
theorem rise_le (s : ByteArray) (hd : ∀ j : Nat, j < s.size → 48 ≤ bt s j ∧ bt s j ≤ 57) (h : ∀ j : Nat, 1 ≤ j → j < s.size → bt s ((j - 1 : Nat) : Int) < bt s j) :
    ∀ d i : Nat, i + d + 1 = s.size → bt s i + d ≤ 57
  | 0, i, hi => by have := hd i (by omega); omega
  | d + 1, i, hi => by
    have h1 := rise_le s hd h d (i + 1) (by omega)
    have h2 := h (i + 1) (by omega) (by omega)
    rw [show i + 1 - 1 = i by omega] at h2
    omega
theorem fall_ge (s : ByteArray) (hd : ∀ j : Nat, j < s.size → 48 ≤ bt s j ∧ bt s j ≤ 57) (h : ∀ j : Nat, 1 ≤ j → j < s.size → bt s j < bt s ((j - 1 : Nat) : Int)) :
    ∀ d i : Nat, i + d + 1 = s.size → 48 + (d : Int) ≤ bt s i
  | 0, i, hi => by have := hd i (by omega); omega
  | d + 1, i, hi => by
    have h1 := fall_ge s hd h d (i + 1) (by omega)
    have h2 := h (i + 1) (by omega) (by omega)
    rw [show i + 1 - 1 = i by omega] at h2
    omega
def riseAt (s : ByteArray) (i : Nat) : Bool := decide (bt s ((i - 1 : Nat) : Int) < bt s i)
def fallAt (s : ByteArray) (i : Nat) : Bool := decide (bt s i < bt s ((i - 1 : Nat) : Int))
theorem kind_r (s : ByteArray) (h1 : 1 ≤ s.size) (hd : ∀ j : Nat, j < s.size → 48 ≤ bt s j ∧ bt s j ≤ 57) : allF (riseAt s) (s.size - 1) 1 = allF (mayAt 114 s s.size) s.size 0 := by
  have e : ∀ j, (mayAt 114 s s.size j = true ↔ (j = 0 ∨ bt s ((j - 1 : Nat) : Int) < bt s j) ∧ bt s j - 48 + ((s.size - 1 - j : Nat) : Int) ≤ 9) := fun j => by simp [mayAt]
  rw [Bool.eq_iff_iff, allF_iff, allF_iff]
  constructor
  · intro h j _ hj
    have hr : ∀ j : Nat, 1 ≤ j → j < s.size → bt s ((j - 1 : Nat) : Int) < bt s j := fun j a b => by simpa [riseAt] using h j a (by omega)
    refine (e j).2 ⟨?_, ?_⟩
    · by_cases h0 : j = 0
      · exact .inl h0
      · exact .inr (hr j (by omega) (by omega))
    · have := rise_le s hd hr (s.size - 1 - j) j (by omega)
      omega
  · intro h j a b
    rcases ((e j).1 (h j (by omega) (by omega))).1 with h0 | h0
    · omega
    · simpa [riseAt] using h0
theorem kind_f (s : ByteArray) (h1 : 1 ≤ s.size) (hd : ∀ j : Nat, j < s.size → 48 ≤ bt s j ∧ bt s j ≤ 57) : allF (fallAt s) (s.size - 1) 1 = allF (mayAt 102 s s.size) s.size 0 := by
  have e : ∀ j, (mayAt 102 s s.size j = true ↔ (j = 0 ∨ bt s j < bt s ((j - 1 : Nat) : Int)) ∧ ((s.size - 1 - j : Nat) : Int) ≤ bt s j - 48) := fun j => by simp [mayAt]
  rw [Bool.eq_iff_iff, allF_iff, allF_iff]
  constructor
  · intro h j _ hj
    have hr : ∀ j : Nat, 1 ≤ j → j < s.size → bt s j < bt s ((j - 1 : Nat) : Int) := fun j a b => by simpa [fallAt] using h j a (by omega)
    refine (e j).2 ⟨?_, ?_⟩
    · by_cases h0 : j = 0
      · exact .inl h0
      · exact .inr (hr j (by omega) (by omega))
    · have := fall_ge s hd hr (s.size - 1 - j) j (by omega)
      omega
  · intro h j a b
    rcases ((e j).1 (h j (by omega) (by omega))).1 with h0 | h0
    · omega
    · simpa [fallAt] using h0

/-- the letters of the kinds -/
def isLetter (c : UInt8) : Prop := c = 97 ∨ c = 109 ∨ c = 117 ∨ c = 114 ∨ c = 102 ∨ c = 100

theorem miIs_rise (s : ByteArray) (h9 : s.size ≤ 9) (h1 : 1 ≤ s.size) : Ev (fun k => spec_miIs.l0 k s (kt 114) 1) (allF (riseAt s) (s.size - 1) 1) := by
  have stop : Ev (fun k => spec_miIs.l0 k s (kt 114) ((s.size : Nat) : Int)) true := by
    refine Ev.step (f := fun _ => some true) (fun k => ?_) (Ev.now _)
    simp only [spec_miIs.l0]
    rw [if_neg (by omega)]
  have body : ∀ i : Nat, 1 ≤ i → i < s.size → ∀ k, spec_miIs.l0 (k + 1) s (kt 114) (i : Int) = if bt s i ≤ bt s ((i - 1 : Nat) : Int) then some false else spec_miIs.l0 k s (kt 114) ((i + 1 : Nat) : Int) := by
    intro i hi1 hi k
    have e1 : wrap64 ((i : Int) - 1) = ((i - 1 : Nat) : Int) := by rw [wrap_id (by omega) (by omega)]; omega
    have e2 : wrap64 ((i : Int) + 1) = ((i + 1 : Nat) : Int) := by rw [wrap_id (by omega) (by omega)]; rfl
    simp only [spec_miIs.l0, kt_toList, e1, e2]
    rw [if_pos (by omega), if_true, if_pos (by omega), if_pos (by omega), if_pos (by omega)]
    have hne : ¬ ([114] : List UInt8) = [102] := by decide
    simp only [hne, if_false]
  refine Ev.eq (Ev_all_from (l := fun k i => spec_miIs.l0 k s (kt 114) (i : Int)) (p := riseAt s) (n := s.size) (m := 1) stop ?_ ?_ (s.size - 1) 1 (by omega) (by omega)) (by simp)
  · intro i hm hi hp q hq
    simp only [riseAt, decide_eq_true_eq] at hp
    exact Ev.step (fun k => by rw [body i hm hi k, if_neg (by omega)]) hq
  · intro i hm hi hp
    simp only [riseAt, decide_eq_false_iff_not] at hp
    exact Ev.step (f := fun _ => some false) (fun k => by rw [body i hm hi k, if_pos (by omega)]) (Ev.now _)
theorem miIs_fall (s : ByteArray) (h9 : s.size ≤ 9) (h1 : 1 ≤ s.size) : Ev (fun k => spec_miIs.l0 k s (kt 102) 1) (allF (fallAt s) (s.size - 1) 1) := by
  have stop : Ev (fun k => spec_miIs.l0 k s (kt 102) ((s.size : Nat) : Int)) true := by
    refine Ev.step (f := fun _ => some true) (fun k => ?_) (Ev.now _)
    simp only [spec_miIs.l0]
    rw [if_neg (by omega)]
  have body : ∀ i : Nat, 1 ≤ i → i < s.size → ∀ k, spec_miIs.l0 (k + 1) s (kt 102) (i : Int) = if bt s i ≥ bt s ((i - 1 : Nat) : Int) then some false else spec_miIs.l0 k s (kt 102) ((i + 1 : Nat) : Int) := by
    intro i hi1 hi k
    have e1 : wrap64 ((i : Int) - 1) = ((i - 1 : Nat) : Int) := by rw [wrap_id (by omega) (by omega)]; omega
    have e2 : wrap64 ((i : Int) + 1) = ((i + 1 : Nat) : Int) := by rw [wrap_id (by omega) (by omega)]; rfl
    have hne : ¬ ([102] : List UInt8) = [114] := by decide
    simp only [spec_miIs.l0, kt_toList, e1, e2]
    rw [if_pos (by omega), if_neg hne, if_true, if_pos (by omega), if_pos (by omega), if_pos (by omega)]
  refine Ev.eq (Ev_all_from (l := fun k i => spec_miIs.l0 k s (kt 102) (i : Int)) (p := fallAt s) (n := s.size) (m := 1) stop ?_ ?_ (s.size - 1) 1 (by omega) (by omega)) (by simp)
  · intro i hm hi hp q hq
    simp only [fallAt, decide_eq_true_eq] at hp
    exact Ev.step (fun k => by rw [body i hm hi k, if_neg (by omega)]) hq
  · intro i hm hi hp
    simp only [fallAt, decide_eq_false_iff_not] at hp
    exact Ev.step (f := fun _ => some false) (fun k => by rw [body i hm hi k, if_pos (by omega)]) (Ev.now _)

/-- THE TWO TESTS OF A KIND ARE ONE. -/
theorem miIs_ev (c : UInt8) (hc : isLetter c) (s : ByteArray) (h1 : 1 ≤ s.size) (h9 : s.size ≤ 9) (hd : ∀ j : Nat, j < s.size → 48 ≤ bt s j ∧ bt s j ≤ 57) :
    Ev (fun k => spec_miIs.f k s (kt c)) (allF (mayAt (c.toNat : Int) s s.size) s.size 0) := by
  unfold spec_miIs.f
  simp only [kt_toList]
  have ne : ∀ {a b : UInt8}, a ≠ b → ¬ ([a] : List UInt8) = [b] := fun h e => h (by simpa using e)
  rcases hc with rfl | rfl | rfl | rfl | rfl | rfl
  · refine Ev.pos rfl ?_
    simp only [miDigits_dig h9 hd, Option.bind_some]
    exact Ev.eq (Ev.now _) (kind_a s h1)
  · refine Ev.neg (ne (by decide)) (Ev.pos rfl ?_)
    obtain ⟨t, ht, hl⟩ := miTurn_ev s (by omega)
    exact Ev.bind' ht (Ev.eq (Ev.now _) (kind_m s t hl))
  · refine Ev.neg (ne (by decide)) (Ev.neg (ne (by decide)) (Ev.pos rfl ?_))
    obtain ⟨t, b, ht, h2, h3, _⟩ := miUpside_ev s (by omega)
    refine Ev.bind' ht ?_
    have hk := kind_u s t b h2 h3
    by_cases hb : b = true
    · refine Ev.pos hb (Ev.eq (Ev.now _) ?_)
      rw [if_pos hb] at hk; exact hk
    · refine Ev.neg hb (Ev.eq (Ev.now _) ?_)
      rw [if_neg hb] at hk; exact hk
  · refine Ev.neg (ne (by decide)) (Ev.neg (ne (by decide)) (Ev.neg (ne (by decide)) (Ev.neg (ne (by decide)) ?_)))
    exact Ev.eq (miIs_rise s h9 h1) (kind_r s h1 hd)
  · refine Ev.neg (ne (by decide)) (Ev.neg (ne (by decide)) (Ev.neg (ne (by decide)) (Ev.neg (ne (by decide)) ?_)))
    exact Ev.eq (miIs_fall s h9 h1) (kind_f s h1 hd)
  · refine Ev.neg (ne (by decide)) (Ev.neg (ne (by decide)) (Ev.neg (ne (by decide)) (Ev.pos rfl ?_)))
    simp only [miDigits_dig h9 hd, Option.bind_some]
    exact Ev.eq (Ev.now _) (kind_d s)

end Go.Proofs.Ytpdcjkiejglaiaa.Q

/- Laid by a program of this session (wip/tools/own_print.py) over the translation of this seat: contracts of the functions that the statement reaches. -/
namespace Go.Proofs.Ytpdcjkiejglaiaa.Q
open Go.RowKit Go.Proofs.YtpdcjkiejglaiaaW.PrintWords Go.Proofs.YtpdcjkiejglaiaaW.PrintLast Go.Proofs.YtpdcjkiejglaiaaW.PrintMore
attribute [local go_sem] max2_int min2_int max_two min_two max_three min_three max_four min_four   -- for this text's walks alone
set_option linter.unusedVariables false
set_option linter.unusedSimpArgs false

/-! ### spec_leText: function 29 -/
def spec_leText.l0 : Nat → ByteArray → Int → Option (Bool)
  | 0, _, _ => none
  | k + 1, x0, x3 => if x3 < (x0.size : Int) then (if 0 ≤ x3 then (if (bt x0 x3) < 48 then (some false) else (if (bt x0 x3) > 57 then (some false) else (if x3 > 0 then (if 0 ≤ (wrap64 (x3 - 1)) then (if (wrap64 (x3 - 1)) < (x0.size : Int) then (if (bt x0 x3) ≤ (bt x0 (wrap64 (x3 - 1))) then (some false) else (spec_leText.l0 k x0 (wrap64 (x3 + 1)))) else (none)) else (none)) else (spec_leText.l0 k x0 (wrap64 (x3 + 1)))))) else (none)) else (some true)
def spec_leText.f (k : Nat) (a0 : ByteArray) : Option (Bool) := (spec_l1In.f (a0.size : Int) 1 10).bind fun t101 => (if t101 = true then (spec_leText.l0 k a0 0) else (some false))
theorem spec_leText.mono_l : ∀ k, (∀ y0 y1, LeO (spec_leText.l0 k y0 y1) (spec_leText.l0 (k + 1) y0 y1))
  | 0 => fun _ _ r h => by simp [spec_leText.l0] at h
  | k + 1 => by
    have ih0 := spec_leText.mono_l k
    · intro y0 y1
      unfold spec_leText.l0
      repeat' first
      | (with_reducible exact ih0 _ _)
      | (with_reducible exact LeO.refl _)
      | (with_reducible exact LeO.none _)
      | (with_reducible refine LeO.ite ?_ ?_)
      | (with_reducible refine LeO.bind ?_ (fun _ => ?_))
      | exact ih0 _ _
      | exact LeO.none _
      | refine LeO.ite ?_ ?_
      | refine LeO.bind ?_ (fun _ => ?_)
theorem spec_leText.mono : ∀ a0 k, LeO (spec_leText.f k a0) (spec_leText.f (k + 1) a0) := by
  intro a0 k
  have ih0 := spec_leText.mono_l k
  unfold spec_leText.f
  repeat' first
      | (with_reducible exact ih0 _ _)
      | (with_reducible exact LeO.refl _)
      | (with_reducible exact LeO.none _)
      | (with_reducible refine LeO.ite ?_ ?_)
      | (with_reducible refine LeO.bind ?_ (fun _ => ?_))
      | exact ih0 _ _
      | exact LeO.none _
      | refine LeO.ite ?_ ?_
      | refine LeO.bind ?_ (fun _ => ?_)
set_option maxHeartbeats 8000000 in
set_option maxRecDepth 100000 in
theorem spec_leText.calls (k : Nat) (a0 : ByteArray) (r : Bool) (w : World) (h : spec_leText.f k a0 = some r) :
    Calls Try.prog 29 #[.string a0] w fun e w' => e = .returned (.bool r) ∧ Drawn0 w w' := by
  have H : ((spec_l1In.f (a0.size : Int) 1 10).bind fun t101 => (if t101 = true then (spec_leText.l0 k a0 0) else (some false))) = some r := h
  clear h
  replace H := Option.bind_eq_some_iff.mp H
  obtain ⟨t101, A20, H⟩ := H
  replace H : (if t101 = true then (spec_leText.l0 k a0 0) else (some false)) = some r := H
  have A2 := Aside0.mk A20
  clear A20
  by_cases c3 : t101 = true
  · subst c3
    have H1 : (spec_leText.l0 k a0 0) = some r := by rw [if_pos rfl] at H; exact H
    clear H
    have H := H1
    clear H1
    have H' := Aside0.mk H
    clear H
    go_enter Try.func29, Try.ntmps29
    go_wp2_with (first | (go_at_call 46; (with_reducible refine (spec_l1In.calls (a0.size : Int) 1 10 true _ A2.out).mono ?_); rintro e w' ⟨rfl, ⟨nd, rfl⟩⟩; (try first | exact ⟨rfl, _, World.drewN_drewN _ _ _⟩ | exact ⟨rfl, _, Eq.trans (World.drewN_drewN _ _ _) (congrArg (World.drewN _) (Nat.add_assoc _ _ _))⟩)))
    repeat (go_quiet (first | (go_at_call 46; (with_reducible refine (spec_l1In.calls (a0.size : Int) 1 10 true _ A2.out).mono ?_); rintro e w' ⟨rfl, ⟨nd, rfl⟩⟩; (try first | exact ⟨rfl, _, World.drewN_drewN _ _ _⟩ | exact ⟨rfl, _, Eq.trans (World.drewN_drewN _ _ _) (congrArg (World.drewN _) (Nat.add_assoc _ _ _))⟩))); try go_wp2_with (first | (go_at_call 46; (with_reducible refine (spec_l1In.calls (a0.size : Int) 1 10 true _ A2.out).mono ?_); rintro e w' ⟨rfl, ⟨nd, rfl⟩⟩; (try first | exact ⟨rfl, _, World.drewN_drewN _ _ _⟩ | exact ⟨rfl, _, Eq.trans (World.drewN_drewN _ _ _) (congrArg (World.drewN _) (Nat.add_assoc _ _ _))⟩))))
    go_loopg [3] k (fun kq v3 w' => ∃ (x3_1 : Int), v3 = .int .i64 x3_1 ∧ Aside0 (spec_leText.l0 kq a0 x3_1 = some r) ∧ Aside0 (kq ≤ k) ∧ Drawn0 w w')
    case atStart => exact ⟨(0), (by first | rfl | (simp; done) | (simp [*]; done)), H', ⟨Nat.le_refl _⟩, by repeat (first | exact Drawn0.refl _ | apply Drawn0.step)⟩
    case round =>
      clear H'
      try clear c2
      try clear p2
      try clear c3
      obtain ⟨x3_1, rfl, HA, HK1, ⟨m1, rfl⟩⟩ := hrel
      cases gk with
      | zero => exact absurd HA.out (by simp [spec_leText.l0])
      | succ k1 =>
        have H := HA.out
        clear HA
        simp only [spec_leText.l0] at H
        by_cases c4 : x3_1 < (a0.size : Int)
        · rw [if_pos c4] at H
          have c4b0 : decide (x3_1 < (a0.size : Int)) = true := decide_eq_true c4
          clear c4
          by_cases c5 : 0 ≤ x3_1
          · rw [if_pos c5] at H
            have c5b0 : decide (0 ≤ x3_1) = true := decide_eq_true c5
            clear c5
            by_cases c7 : (bt a0 x3_1) < 48
            · rw [if_pos c7] at H
              have c7b0 : decide ((bt a0 x3_1) < 48) = true := decide_eq_true c7
              clear c7
              obtain rfl := Option.some.inj H
              have p6 : 0 ≤ (x3_1 : Int) := of_decide_eq_true (by first | (with_reducible assumption) | assumption)
              have q6 : x3_1 < (a0.size : Int) := of_decide_eq_true (by first | (with_reducible assumption) | assumption)
              have hx6 := bt_at a0 x3_1
              replace p6 := eq_true p6
              replace q6 := eq_true q6
              go_wp2
              repeat (go_quiet (fail); try go_wp2)
              go_ret
              exact ⟨by first | rfl | (simp; done) | (simp [*]; done), by repeat (first | exact Drawn0.refl _ | apply Drawn0.step)⟩
            · rw [if_neg c7] at H
              have c7b0 : decide ((bt a0 x3_1) < 48) = false := decide_eq_false c7
              clear c7
              by_cases c9 : (bt a0 x3_1) > 57
              · rw [if_pos c9] at H
                have c9b0 : decide (57 < (bt a0 x3_1)) = true := decide_eq_true c9
                clear c9
                obtain rfl := Option.some.inj H
                have p6 : 0 ≤ (x3_1 : Int) := of_decide_eq_true (by first | (with_reducible assumption) | assumption)
                have q6 : x3_1 < (a0.size : Int) := of_decide_eq_true (by first | (with_reducible assumption) | assumption)
                have hx6 := bt_at a0 x3_1
                replace p6 := eq_true p6
                replace q6 := eq_true q6
                have p8 : 0 ≤ (x3_1 : Int) := of_decide_eq_true (by first | (with_reducible assumption) | assumption)
                have q8 : x3_1 < (a0.size : Int) := of_decide_eq_true (by first | (with_reducible assumption) | assumption)
                have hx8 := bt_at a0 x3_1
                replace p8 := eq_true p8
                replace q8 := eq_true q8
                go_wp2
                repeat (go_quiet (fail); try go_wp2)
                go_ret
                exact ⟨by first | rfl | (simp; done) | (simp [*]; done), by repeat (first | exact Drawn0.refl _ | apply Drawn0.step)⟩
              · rw [if_neg c9] at H
                have c9b0 : decide (57 < (bt a0 x3_1)) = false := decide_eq_false c9
                clear c9
                by_cases c10 : x3_1 > 0
                · rw [if_pos c10] at H
                  have c10b0 : decide (0 < x3_1) = true := decide_eq_true c10
                  clear c10
                  obtain ⟨ji12, hji12⟩ : ∃ j_ : Int, (wrap64 (x3_1 - 1)) = j_ := ⟨_, rfl⟩
                  replace H : (if 0 ≤ (ji12) then (if (ji12) < (a0.size : Int) then (if (bt a0 x3_1) ≤ (bt a0 (ji12)) then (some false) else (spec_leText.l0 k1 a0 (wrap64 (x3_1 + 1)))) else (none)) else (none)) = some r := by first | (rw [hji12] at H; exact H) | (simp only [hji12] at H ⊢; exact H)
                  have hji12w : (IntKind.i64.wrap (x3_1 - 1)) = ji12 := (i64_w _).trans hji12
                  by_cases c13 : 0 ≤ (ji12)
                  · rw [if_pos c13] at H
                    have c13b0 : decide (0 ≤ (ji12)) = true := decide_eq_true c13
                    clear c13
                    by_cases c14 : (ji12) < (a0.size : Int)
                    · rw [if_pos c14] at H
                      have c14b0 : decide ((ji12) < (a0.size : Int)) = true := decide_eq_true c14
                      clear c14
                      by_cases c16 : (bt a0 x3_1) ≤ (bt a0 (ji12))
                      · rw [if_pos c16] at H
                        have c16b0 : decide ((bt a0 x3_1) ≤ (bt a0 (ji12))) = true := decide_eq_true c16
                        clear c16
                        obtain rfl := Option.some.inj H
                        have p6 : 0 ≤ (x3_1 : Int) := of_decide_eq_true (by first | (with_reducible assumption) | assumption)
                        have q6 : x3_1 < (a0.size : Int) := of_decide_eq_true (by first | (with_reducible assumption) | assumption)
                        have hx6 := bt_at a0 x3_1
                        replace p6 := eq_true p6
                        replace q6 := eq_true q6
                        have p8 : 0 ≤ (x3_1 : Int) := of_decide_eq_true (by first | (with_reducible assumption) | assumption)
                        have q8 : x3_1 < (a0.size : Int) := of_decide_eq_true (by first | (with_reducible assumption) | assumption)
                        have hx8 := bt_at a0 x3_1
                        replace p8 := eq_true p8
                        replace q8 := eq_true q8
                        have p11 : 0 ≤ (x3_1 : Int) := of_decide_eq_true (by first | (with_reducible assumption) | assumption)
                        have q11 : x3_1 < (a0.size : Int) := of_decide_eq_true (by first | (with_reducible assumption) | assumption)
                        have hx11 := bt_at a0 x3_1
                        replace p11 := eq_true p11
                        replace q11 := eq_true q11
                        have p15 : 0 ≤ ((ji12) : Int) := of_decide_eq_true (by first | (with_reducible assumption) | assumption)
                        have q15 : (ji12) < (a0.size : Int) := of_decide_eq_true (by first | (with_reducible assumption) | assumption)
                        have hx15 := bt_at a0 (ji12)
                        replace p15 := eq_true p15
                        replace q15 := eq_true q15
                        go_wp2
                        repeat (go_quiet (fail); try go_wp2)
                        go_ret
                        exact ⟨by first | rfl | (simp; done) | (simp only [← hji12] <;> (first | rfl | simp)) | (simp [*]; done), by repeat (first | exact Drawn0.refl _ | apply Drawn0.step)⟩
                      · rw [if_neg c16] at H
                        have c16b0 : decide ((bt a0 x3_1) ≤ (bt a0 (ji12))) = false := decide_eq_false c16
                        clear c16
                        have H' := Aside0.mk H
                        clear H
                        have p6 : 0 ≤ (x3_1 : Int) := of_decide_eq_true (by first | (with_reducible assumption) | assumption)
                        have q6 : x3_1 < (a0.size : Int) := of_decide_eq_true (by first | (with_reducible assumption) | assumption)
                        have hx6 := bt_at a0 x3_1
                        replace p6 := eq_true p6
                        replace q6 := eq_true q6
                        have p8 : 0 ≤ (x3_1 : Int) := of_decide_eq_true (by first | (with_reducible assumption) | assumption)
                        have q8 : x3_1 < (a0.size : Int) := of_decide_eq_true (by first | (with_reducible assumption) | assumption)
                        have hx8 := bt_at a0 x3_1
                        replace p8 := eq_true p8
                        replace q8 := eq_true q8
                        have p11 : 0 ≤ (x3_1 : Int) := of_decide_eq_true (by first | (with_reducible assumption) | assumption)
                        have q11 : x3_1 < (a0.size : Int) := of_decide_eq_true (by first | (with_reducible assumption) | assumption)
                        have hx11 := bt_at a0 x3_1
                        replace p11 := eq_true p11
                        replace q11 := eq_true q11
                        have p15 : 0 ≤ ((ji12) : Int) := of_decide_eq_true (by first | (with_reducible assumption) | assumption)
                        have q15 : (ji12) < (a0.size : Int) := of_decide_eq_true (by first | (with_reducible assumption) | assumption)
                        have hx15 := bt_at a0 (ji12)
                        replace p15 := eq_true p15
                        replace q15 := eq_true q15
                        go_wp2
                        repeat (go_quiet (fail); try go_wp2)
                        go_roundg k1
                        case measure => have := HK1.out; omega
                        case rel => exact ⟨(wrap64 (x3_1 + 1)), (by first | rfl | (simp; done) | (simp [*]; done)), H', ⟨by have := HK1.out; omega⟩, by repeat (first | exact Drawn0.refl _ | apply Drawn0.step)⟩
                    · rw [if_neg c14] at H
                      exact absurd H (by simp)
                  · rw [if_neg c13] at H
                    exact absurd H (by simp)
                · rw [if_neg c10] at H
                  have c10b0 : decide (0 < x3_1) = false := decide_eq_false c10
                  clear c10
                  have H' := Aside0.mk H
                  clear H
                  have p6 : 0 ≤ (x3_1 : Int) := of_decide_eq_true (by first | (with_reducible assumption) | assumption)
                  have q6 : x3_1 < (a0.size : Int) := of_decide_eq_true (by first | (with_reducible assumption) | assumption)
                  have hx6 := bt_at a0 x3_1
                  replace p6 := eq_true p6
                  replace q6 := eq_true q6
                  have p8 : 0 ≤ (x3_1 : Int) := of_decide_eq_true (by first | (with_reducible assumption) | assumption)
                  have q8 : x3_1 < (a0.size : Int) := of_decide_eq_true (by first | (with_reducible assumption) | assumption)
                  have hx8 := bt_at a0 x3_1
                  replace p8 := eq_true p8
                  replace q8 := eq_true q8
                  go_wp2
                  repeat (go_quiet (fail); try go_wp2)
                  go_roundg k1
                  case measure => have := HK1.out; omega
                  case rel => exact ⟨(wrap64 (x3_1 + 1)), (by first | rfl | (simp; done) | (simp [*]; done)), H', ⟨by have := HK1.out; omega⟩, by repeat (first | exact Drawn0.refl _ | apply Drawn0.step)⟩
          · rw [if_neg c5] at H
            exact absurd H (by simp)
        · rw [if_neg c4] at H
          have c4b0 : decide (x3_1 < (a0.size : Int)) = false := decide_eq_false c4
          clear c4
          obtain rfl := Option.some.inj H
          go_wp2
          repeat (go_quiet (fail); try go_wp2)
          go_ret
          exact ⟨by first | rfl | (simp; done) | (simp [*]; done), by repeat (first | exact Drawn0.refl _ | apply Drawn0.step)⟩
  · replace c3 := Bool.eq_false_iff.mpr c3
    subst c3
    have H1 : (some false) = some r := by rw [if_neg (show ¬ (false = true) by decide)] at H; exact H
    clear H
    have H := H1
    clear H1
    obtain rfl := Option.some.inj H
    go_enter Try.func29, Try.ntmps29
    go_wp2_with (first | (go_at_call 46; (with_reducible refine (spec_l1In.calls (a0.size : Int) 1 10 false _ A2.out).mono ?_); rintro e w' ⟨rfl, ⟨nd, rfl⟩⟩; (try first | exact ⟨rfl, _, World.drewN_drewN _ _ _⟩ | exact ⟨rfl, _, Eq.trans (World.drewN_drewN _ _ _) (congrArg (World.drewN _) (Nat.add_assoc _ _ _))⟩)))
    repeat (go_quiet (first | (go_at_call 46; (with_reducible refine (spec_l1In.calls (a0.size : Int) 1 10 false _ A2.out).mono ?_); rintro e w' ⟨rfl, ⟨nd, rfl⟩⟩; (try first | exact ⟨rfl, _, World.drewN_drewN _ _ _⟩ | exact ⟨rfl, _, Eq.trans (World.drewN_drewN _ _ _) (congrArg (World.drewN _) (Nat.add_assoc _ _ _))⟩))); try go_wp2_with (first | (go_at_call 46; (with_reducible refine (spec_l1In.calls (a0.size : Int) 1 10 false _ A2.out).mono ?_); rintro e w' ⟨rfl, ⟨nd, rfl⟩⟩; (try first | exact ⟨rfl, _, World.drewN_drewN _ _ _⟩ | exact ⟨rfl, _, Eq.trans (World.drewN_drewN _ _ _) (congrArg (World.drewN _) (Nat.add_assoc _ _ _))⟩))))
    go_ret
    exact ⟨by first | rfl | (simp; done) | (simp [*]; done), by repeat (first | exact Drawn0.refl _ | apply Drawn0.step)⟩

end Go.Proofs.Ytpdcjkiejglaiaa.Q

/- Laid by a program of this session (wip/tools/own_print.py) over the translation of this seat: contracts of the functions that the statement reaches. -/
namespace Go.Proofs.Ytpdcjkiejglaiaa.Q
open Go.RowKit Go.Proofs.YtpdcjkiejglaiaaW.PrintWords Go.Proofs.YtpdcjkiejglaiaaW.PrintLast Go.Proofs.YtpdcjkiejglaiaaW.PrintMore
attribute [local go_sem] max2_int min2_int max_two min_two max_three min_three max_four min_four   -- for this text's walks alone
set_option linter.unusedVariables false
set_option linter.unusedSimpArgs false

/-! ### spec_LeastMultiple: function 13 -/
def spec_LeastMultiple.f (k : Nat) (a0 : Int) (a1 : ByteArray) : Option (ByteArray × Bool) := (spec_leDivisor.f a0).bind fun t101 => (if t101 = true then ((spec_leText.f k a1).bind fun t102 => (if t102 = true then ((spec_leMultiple.f k a0 a1).bind fun bt103 => (some (bt103.1, bt103.2))) else (some ((⟨#[]⟩ : ByteArray), false)))) else (some ((⟨#[]⟩ : ByteArray), false)))
theorem spec_LeastMultiple.mono : ∀ a0 a1 k, LeO (spec_LeastMultiple.f k a0 a1) (spec_LeastMultiple.f (k + 1) a0 a1) := by
  intro a0 a1 k
  unfold spec_LeastMultiple.f
  repeat' first
      | (with_reducible exact spec_leMultiple.mono _ _ _)
      | (with_reducible exact spec_leText.mono _ _)
      | (with_reducible exact LeO.refl _)
      | (with_reducible exact LeO.none _)
      | (with_reducible refine LeO.ite ?_ ?_)
      | (with_reducible refine LeO.bind ?_ (fun _ => ?_))
      | exact spec_leMultiple.mono _ _ _
      | exact spec_leText.mono _ _
      | exact LeO.none _
      | refine LeO.ite ?_ ?_
      | refine LeO.bind ?_ (fun _ => ?_)
set_option maxHeartbeats 8000000 in
set_option maxRecDepth 100000 in
theorem spec_LeastMultiple.calls (k : Nat) (a0 : Int) (a1 : ByteArray) (r1 : ByteArray) (r2 : Bool) (w : World) (h : spec_LeastMultiple.f k a0 a1 = some (r1, r2)) :
    Calls Try.prog 13 #[.int .i64 a0, .string a1] w fun e w' => e = .returned (.tuple #[.string r1, .bool r2]) ∧ Below w.heap.size w w' := by
  have HB := Aside0.mk (Below.refl w.heap.size w)
  have H : ((spec_leDivisor.f a0).bind fun t101 => (if t101 = true then ((spec_leText.f k a1).bind fun t102 => (if t102 = true then ((spec_leMultiple.f k a0 a1).bind fun bt103 => (some (bt103.1, bt103.2))) else (some ((⟨#[]⟩ : ByteArray), false)))) else (some ((⟨#[]⟩ : ByteArray), false)))) = some (r1, r2) := h
  clear h
  replace H := Option.bind_eq_some_iff.mp H
  obtain ⟨t101, A30, H⟩ := H
  replace H : (if t101 = true then ((spec_leText.f k a1).bind fun t102 => (if t102 = true then ((spec_leMultiple.f k a0 a1).bind fun bt103 => (some (bt103.1, bt103.2))) else (some ((⟨#[]⟩ : ByteArray), false)))) else (some ((⟨#[]⟩ : ByteArray), false))) = some (r1, r2) := H
  have A3 := Aside0.mk A30
  clear A30
  by_cases c4 : t101 = true
  · subst c4
    have H1 : ((spec_leText.f k a1).bind fun t102 => (if t102 = true then ((spec_leMultiple.f k a0 a1).bind fun bt103 => (some (bt103.1, bt103.2))) else (some ((⟨#[]⟩ : ByteArray), false)))) = some (r1, r2) := by rw [if_pos rfl] at H; exact H
    clear H
    have H := H1
    clear H1
    replace H := Option.bind_eq_some_iff.mp H
    obtain ⟨t102, A50, H⟩ := H
    replace H : (if t102 = true then ((spec_leMultiple.f k a0 a1).bind fun bt103 => (some (bt103.1, bt103.2))) else (some ((⟨#[]⟩ : ByteArray), false))) = some (r1, r2) := H
    have A5 := Aside0.mk A50
    clear A50
    by_cases c6 : t102 = true
    · subst c6
      have H1 : ((spec_leMultiple.f k a0 a1).bind fun bt103 => (some (bt103.1, bt103.2))) = some (r1, r2) := by rw [if_pos rfl] at H; exact H
      clear H
      have H := H1
      clear H1
      replace H := Option.bind_eq_some_iff.mp H
      obtain ⟨⟨t103, t104⟩, A70, H⟩ := H
      replace H : (some (t103, t104)) = some (r1, r2) := H
      have A7 := Aside0.mk A70
      clear A70
      simp only [Option.some.injEq, Prod.mk.injEq] at H
      obtain ⟨rfl, rfl⟩ := H
      go_enter Try.func13, Try.ntmps13
      go_wp2_with (first | ((with_reducible refine gate_callee (f := 27) rfl ?_); refine goesL_ (some 7) rfl rfl Try.func27 (by kernel_rfl) rfl #[.int .i64 a0] rfl (by (try simp only [List.map_toArray, List.map_cons, List.map_nil]); first | done | rfl | (simp only [List.length_drop, List.length_take]; rfl)) ?_; (with_reducible refine (spec_leDivisor.calls a0 true _ A3.out).mono ?_); rintro e w' ⟨rfl, ⟨nd, rfl⟩⟩; refine ⟨_, rfl, ?_⟩) | (go_at_call 29; (with_reducible refine (spec_leText.calls k a1 true _ A5.out).mono ?_); rintro e w' ⟨rfl, ⟨nd, rfl⟩⟩) | ((with_reducible refine gate_callee (f := 28) rfl ?_); refine goesL_ (some 16) rfl rfl Try.func28 (by kernel_rfl) rfl #[.int .i64 a0, .string a1] rfl (by (try simp only [List.map_toArray, List.map_cons, List.map_nil]); first | done | rfl | (simp only [List.length_drop, List.length_take]; rfl)) ?_; (with_reducible refine (spec_leMultiple.calls k a0 a1 t103 t104 _ A7.out).mono ?_); rintro e w8 ⟨rfl, hb⟩; refine ⟨_, rfl, ?_⟩; have n0_ := Aside0.mk (below_step (by repeat (first | (with_reducible first | exact HB.out | apply below_alloc | apply pw_below_drewN | apply below_drew1) | exact HB.out)) hb); clear HB; have HB := n0_; clear n0_; (try clear hb); (try clear hb2); (try clear hk); (try clear hi)))
      go_ret2
      exact ⟨by first | rfl | (simp [errW_none, errW_some] <;> rfl) | (simp [*, errW_none, errW_some] <;> rfl), by repeat (first | (with_reducible first | exact HB.out | apply below_alloc | apply pw_below_drewN | apply below_drew1) | exact HB.out)⟩
    · replace c6 := Bool.eq_false_iff.mpr c6
      subst c6
      have H1 : (some ((⟨#[]⟩ : ByteArray), false)) = some (r1, r2) := by rw [if_neg (show ¬ (false = true) by decide)] at H; exact H
      clear H
      have H := H1
      clear H1
      simp only [Option.some.injEq, Prod.mk.injEq] at H
      obtain ⟨rfl, rfl⟩ := H
      go_enter Try.func13, Try.ntmps13
      go_wp2_with (first | ((with_reducible refine gate_callee (f := 27) rfl ?_); refine goesL_ (some 7) rfl rfl Try.func27 (by kernel_rfl) rfl #[.int .i64 a0] rfl (by (try simp only [List.map_toArray, List.map_cons, List.map_nil]); first | done | rfl | (simp only [List.length_drop, List.length_take]; rfl)) ?_; (with_reducible refine (spec_leDivisor.calls a0 true _ A3.out).mono ?_); rintro e w' ⟨rfl, ⟨nd, rfl⟩⟩; refine ⟨_, rfl, ?_⟩) | (go_at_call 29; (with_reducible refine (spec_leText.calls k a1 false _ A5.out).mono ?_); rintro e w' ⟨rfl, ⟨nd, rfl⟩⟩))
      go_ret2
      exact ⟨by first | rfl | (simp [errW_none, errW_some] <;> rfl) | (simp [*, errW_none, errW_some] <;> rfl), by repeat (first | (with_reducible first | exact HB.out | apply below_alloc | apply pw_below_drewN | apply below_drew1) | exact HB.out)⟩
  · replace c4 := Bool.eq_false_iff.mpr c4
    subst c4
    have H1 : (some ((⟨#[]⟩ : ByteArray), false)) = some (r1, r2) := by rw [if_neg (show ¬ (false = true) by decide)] at H; exact H
    clear H
    have H := H1
    clear H1
    simp only [Option.some.injEq, Prod.mk.injEq] at H
    obtain ⟨rfl, rfl⟩ := H
    go_enter Try.func13, Try.ntmps13
    go_wp2_with (first | ((with_reducible refine gate_callee (f := 27) rfl ?_); refine goesL_ (some 7) rfl rfl Try.func27 (by kernel_rfl) rfl #[.int .i64 a0] rfl (by (try simp only [List.map_toArray, List.map_cons, List.map_nil]); first | done | rfl | (simp only [List.length_drop, List.length_take]; rfl)) ?_; (with_reducible refine (spec_leDivisor.calls a0 false _ A3.out).mono ?_); rintro e w' ⟨rfl, ⟨nd, rfl⟩⟩; refine ⟨_, rfl, ?_⟩))
    go_ret2
    exact ⟨by first | rfl | (simp [errW_none, errW_some] <;> rfl) | (simp [*, errW_none, errW_some] <;> rfl), by repeat (first | (with_reducible first | exact HB.out | apply below_alloc | apply pw_below_drewN | apply below_drew1) | exact HB.out)⟩

end Go.Proofs.Ytpdcjkiejglaiaa.Q

/- Laid by a program of this session (wip/tools/own_print.py) over the translation of this seat: contracts of the functions that the statement reaches. -/
namespace Go.Proofs.Ytpdcjkiejglaiaa.Q
open Go.RowKit Go.Proofs.YtpdcjkiejglaiaaW.PrintWords Go.Proofs.YtpdcjkiejglaiaaW.PrintLast Go.Proofs.YtpdcjkiejglaiaaW.PrintMore
attribute [local go_sem] max2_int min2_int max_two min_two max_three min_three max_four min_four   -- for this text's walks alone
set_option linter.unusedVariables false
set_option linter.unusedSimpArgs false

/-! ### impl_LeastMultiple: function 14 -/
mutual
def impl_LeastMultiple.j0 : Nat → Int → ByteArray → Bool → Option (ByteArray × Bool)
  | 0, _, _, _ => none
  | k + 1, x0, x1, x14 => if x14 = true then (some ((⟨#[]⟩ : ByteArray), false)) else (impl_LeastMultiple.l0 k x0 x1 1)
def impl_LeastMultiple.l0 : Nat → Int → ByteArray → Int → Option (ByteArray × Bool)
  | 0, _, _, _ => none
  | k + 1, x0, x1, x6 => if x6 < (x1.size : Int) then (if 0 ≤ x6 then (if 0 ≤ (wrap64 (x6 - 1)) then (if (wrap64 (x6 - 1)) < (x1.size : Int) then (if (bt x1 x6) ≤ (bt x1 (wrap64 (x6 - 1))) then (some ((⟨#[]⟩ : ByteArray), false)) else (impl_LeastMultiple.l0 k x0 x1 (wrap64 (x6 + 1)))) else (none)) else (none)) else (none)) else ((impl_multiple.f x0 x1).bind fun bt103 => (some (bt103.1, bt103.2)))
end
def impl_LeastMultiple.f (k : Nat) (a0 : Int) (a1 : ByteArray) : Option (ByteArray × Bool) := (impl_isDivisor.f a0).bind fun t101 => (if t101 = true then ((impl_areDigits.f k a1 1 10).bind fun t102 => (impl_LeastMultiple.j0 k a0 a1 (!t102))) else (impl_LeastMultiple.j0 k a0 a1 true))
theorem impl_LeastMultiple.mono_l : ∀ k, (∀ y0 y1 y2, LeO (impl_LeastMultiple.j0 k y0 y1 y2) (impl_LeastMultiple.j0 (k + 1) y0 y1 y2)) ∧ (∀ y0 y1 y2, LeO (impl_LeastMultiple.l0 k y0 y1 y2) (impl_LeastMultiple.l0 (k + 1) y0 y1 y2))
  | 0 => ⟨fun _ _ _ r h => by simp [impl_LeastMultiple.j0] at h, fun _ _ _ r h => by simp [impl_LeastMultiple.l0] at h⟩
  | k + 1 => by
    obtain ⟨ih0, ih1⟩ := impl_LeastMultiple.mono_l k
    refine ⟨?_, ?_⟩
    · intro y0 y1 y2
      unfold impl_LeastMultiple.j0
      repeat' first
      | (with_reducible exact ih0 _ _ _)
      | (with_reducible exact ih1 _ _ _)
      | (with_reducible exact impl_areDigits.mono _ _ _ _)
      | (with_reducible exact LeO.refl _)
      | (with_reducible exact LeO.none _)
      | (with_reducible refine LeO.ite ?_ ?_)
      | (with_reducible refine LeO.bind ?_ (fun _ => ?_))
      | exact ih0 _ _ _
      | exact ih1 _ _ _
      | exact impl_areDigits.mono _ _ _ _
      | exact LeO.none _
      | refine LeO.ite ?_ ?_
      | refine LeO.bind ?_ (fun _ => ?_)
    · intro y0 y1 y2
      unfold impl_LeastMultiple.l0
      repeat' first
      | (with_reducible exact ih0 _ _ _)
      | (with_reducible exact ih1 _ _ _)
      | (with_reducible exact impl_areDigits.mono _ _ _ _)
      | (with_reducible exact LeO.refl _)
      | (with_reducible exact LeO.none _)
      | (with_reducible refine LeO.ite ?_ ?_)
      | (with_reducible refine LeO.bind ?_ (fun _ => ?_))
      | exact ih0 _ _ _
      | exact ih1 _ _ _
      | exact impl_areDigits.mono _ _ _ _
      | exact LeO.none _
      | refine LeO.ite ?_ ?_
      | refine LeO.bind ?_ (fun _ => ?_)
theorem impl_LeastMultiple.mono : ∀ a0 a1 k, LeO (impl_LeastMultiple.f k a0 a1) (impl_LeastMultiple.f (k + 1) a0 a1) := by
  intro a0 a1 k
  obtain ⟨ih0, ih1⟩ := impl_LeastMultiple.mono_l k
  unfold impl_LeastMultiple.f
  repeat' first
      | (with_reducible exact ih0 _ _ _)
      | (with_reducible exact ih1 _ _ _)
      | (with_reducible exact impl_areDigits.mono _ _ _ _)
      | (with_reducible exact LeO.refl _)
      | (with_reducible exact LeO.none _)
      | (with_reducible refine LeO.ite ?_ ?_)
      | (with_reducible refine LeO.bind ?_ (fun _ => ?_))
      | exact ih0 _ _ _
      | exact ih1 _ _ _
      | exact impl_areDigits.mono _ _ _ _
      | exact LeO.none _
      | refine LeO.ite ?_ ?_
      | refine LeO.bind ?_ (fun _ => ?_)
set_option maxHeartbeats 8000000 in
set_option maxRecDepth 100000 in
theorem impl_LeastMultiple.calls (k : Nat) (a0 : Int) (a1 : ByteArray) (r1 : ByteArray) (r2 : Bool) (w : World) (h : impl_LeastMultiple.f k a0 a1 = some (r1, r2)) :
    Calls Try.prog 14 #[.int .i64 a0, .string a1] w fun e w' => e = .returned (.tuple #[.string r1, .bool r2]) ∧ Below w.heap.size w w' := by
  have HB := Aside0.mk (Below.refl w.heap.size w)
  have H : ((impl_isDivisor.f a0).bind fun t101 => (if t101 = true then ((impl_areDigits.f k a1 1 10).bind fun t102 => (impl_LeastMultiple.j0 k a0 a1 (!t102))) else (impl_LeastMultiple.j0 k a0 a1 true))) = some (r1, r2) := h
  clear h
  have HC3 := Aside0.mk H
  clear H
  go_enter Try.func14, Try.ntmps14
  go_upto_region 1 with (fail)
  repeat (go_quiet (fail); go_upto_region 1 with (fail))
  go_cut [14] (fun v14 wc => ∃ (kq : Nat) (x14_2 : Bool), v14 = .bool x14_2 ∧ Aside0 (impl_LeastMultiple.j0 kq a0 a1 x14_2 = some (r1, r2)) ∧ Aside0 (kq ≤ k) ∧ Aside0 (Below w.heap.size w wc))
  case first =>
    have H := HC3.out
    clear HC3
    replace H := Option.bind_eq_some_iff.mp H
    obtain ⟨t101, A40, H⟩ := H
    replace H : (if t101 = true then ((impl_areDigits.f k a1 1 10).bind fun t102 => (impl_LeastMultiple.j0 k a0 a1 (!t102))) else (impl_LeastMultiple.j0 k a0 a1 true)) = some (r1, r2) := H
    have A4 := Aside0.mk A40
    clear A40
    by_cases c5 : t101 = true
    · subst c5
      have H1 : ((impl_areDigits.f k a1 1 10).bind fun t102 => (impl_LeastMultiple.j0 k a0 a1 (!t102))) = some (r1, r2) := by rw [if_pos rfl] at H; exact H
      clear H
      have H := H1
      clear H1
      replace H := Option.bind_eq_some_iff.mp H
      obtain ⟨t102, A60, H⟩ := H
      replace H : (impl_LeastMultiple.j0 k a0 a1 (!t102)) = some (r1, r2) := H
      have A6 := Aside0.mk A60
      clear A60
      have H' := Aside0.mk H
      clear H
      go_wp2_with (first | (go_at_call 30; (with_reducible refine (impl_isDivisor.calls a0 true _ A4.out).mono ?_); rintro e w' ⟨rfl, ⟨nd, rfl⟩⟩; (try first | exact ⟨rfl, _, World.drewN_drewN _ _ _⟩ | exact ⟨rfl, _, Eq.trans (World.drewN_drewN _ _ _) (congrArg (World.drewN _) (Nat.add_assoc _ _ _))⟩)) | (go_at_call 31; (with_reducible refine (impl_areDigits.calls k a1 1 10 t102 _ A6.out).mono ?_); rintro e w' ⟨rfl, ⟨nd, rfl⟩⟩; (try first | exact ⟨rfl, _, World.drewN_drewN _ _ _⟩ | exact ⟨rfl, _, Eq.trans (World.drewN_drewN _ _ _) (congrArg (World.drewN _) (Nat.add_assoc _ _ _))⟩)))
      repeat (go_quiet (first | (go_at_call 30; (with_reducible refine (impl_isDivisor.calls a0 true _ A4.out).mono ?_); rintro e w' ⟨rfl, ⟨nd, rfl⟩⟩; (try first | exact ⟨rfl, _, World.drewN_drewN _ _ _⟩ | exact ⟨rfl, _, Eq.trans (World.drewN_drewN _ _ _) (congrArg (World.drewN _) (Nat.add_assoc _ _ _))⟩)) | (go_at_call 31; (with_reducible refine (impl_areDigits.calls k a1 1 10 t102 _ A6.out).mono ?_); rintro e w' ⟨rfl, ⟨nd, rfl⟩⟩; (try first | exact ⟨rfl, _, World.drewN_drewN _ _ _⟩ | exact ⟨rfl, _, Eq.trans (World.drewN_drewN _ _ _) (congrArg (World.drewN _) (Nat.add_assoc _ _ _))⟩))); try go_wp2_with (first | (go_at_call 30; (with_reducible refine (impl_isDivisor.calls a0 true _ A4.out).mono ?_); rintro e w' ⟨rfl, ⟨nd, rfl⟩⟩; (try first | exact ⟨rfl, _, World.drewN_drewN _ _ _⟩ | exact ⟨rfl, _, Eq.trans (World.drewN_drewN _ _ _) (congrArg (World.drewN _) (Nat.add_assoc _ _ _))⟩)) | (go_at_call 31; (with_reducible refine (impl_areDigits.calls k a1 1 10 t102 _ A6.out).mono ?_); rintro e w' ⟨rfl, ⟨nd, rfl⟩⟩; (try first | exact ⟨rfl, _, World.drewN_drewN _ _ _⟩ | exact ⟨rfl, _, Eq.trans (World.drewN_drewN _ _ _) (congrArg (World.drewN _) (Nat.add_assoc _ _ _))⟩))))
      go_meet
      case rel => exact ⟨_, (!t102), (by first | rfl | (simp; done) | (simp [*]; done)), H', ⟨by first | omega | exact Nat.le_refl _⟩, ⟨by repeat (first | (with_reducible first | exact HB.out | apply below_alloc | apply pw_below_drewN | apply below_drew1) | exact HB.out)⟩⟩
    · replace c5 := Bool.eq_false_iff.mpr c5
      subst c5
      have H1 : (impl_LeastMultiple.j0 k a0 a1 true) = some (r1, r2) := by rw [if_neg (show ¬ (false = true) by decide)] at H; exact H
      clear H
      have H := H1
      clear H1
      have H' := Aside0.mk H
      clear H
      go_wp2_with (first | (go_at_call 30; (with_reducible refine (impl_isDivisor.calls a0 false _ A4.out).mono ?_); rintro e w' ⟨rfl, ⟨nd, rfl⟩⟩; (try first | exact ⟨rfl, _, World.drewN_drewN _ _ _⟩ | exact ⟨rfl, _, Eq.trans (World.drewN_drewN _ _ _) (congrArg (World.drewN _) (Nat.add_assoc _ _ _))⟩)))
      repeat (go_quiet (first | (go_at_call 30; (with_reducible refine (impl_isDivisor.calls a0 false _ A4.out).mono ?_); rintro e w' ⟨rfl, ⟨nd, rfl⟩⟩; (try first | exact ⟨rfl, _, World.drewN_drewN _ _ _⟩ | exact ⟨rfl, _, Eq.trans (World.drewN_drewN _ _ _) (congrArg (World.drewN _) (Nat.add_assoc _ _ _))⟩))); try go_wp2_with (first | (go_at_call 30; (with_reducible refine (impl_isDivisor.calls a0 false _ A4.out).mono ?_); rintro e w' ⟨rfl, ⟨nd, rfl⟩⟩; (try first | exact ⟨rfl, _, World.drewN_drewN _ _ _⟩ | exact ⟨rfl, _, Eq.trans (World.drewN_drewN _ _ _) (congrArg (World.drewN _) (Nat.add_assoc _ _ _))⟩))))
      go_meet
      case rel => exact ⟨_, (true), (by first | rfl | (simp; done) | (simp [*]; done)), H', ⟨by first | omega | exact Nat.le_refl _⟩, ⟨by repeat (first | (with_reducible first | exact HB.out | apply below_alloc | apply pw_below_drewN | apply below_drew1) | exact HB.out)⟩⟩
  case rest =>
    clear HC3
    try clear c1
    try clear p2
    try clear c5
    obtain ⟨kq, x14_2, rfl, HA, HJ2, HB⟩ := hcut
    cases kq with
    | zero => exact absurd HA.out (by simp [impl_LeastMultiple.j0])
    | succ kj2 =>
      have H := HA.out
      clear HA
      simp only [impl_LeastMultiple.j0] at H
      by_cases c7 : x14_2 = true
      · subst c7
        have H1 : (some ((⟨#[]⟩ : ByteArray), false)) = some (r1, r2) := by rw [if_pos rfl] at H; exact H
        clear H
        have H := H1
        clear H1
        simp only [Option.some.injEq, Prod.mk.injEq] at H
        obtain ⟨rfl, rfl⟩ := H
        go_wp2
        repeat (go_quiet (fail); try go_wp2)
        go_ret2
        exact ⟨by first | rfl | (simp [errW_none, errW_some] <;> rfl) | (simp [*, errW_none, errW_some] <;> rfl), by repeat (first | (with_reducible first | exact HB.out | apply below_alloc | apply pw_below_drewN | apply below_drew1) | exact HB.out)⟩
      · replace c7 := Bool.eq_false_iff.mpr c7
        subst c7
        have H1 : (impl_LeastMultiple.l0 kj2 a0 a1 1) = some (r1, r2) := by rw [if_neg (show ¬ (false = true) by decide)] at H; exact H
        clear H
        have H := H1
        clear H1
        have H' := Aside0.mk H
        clear H
        go_wp2
        repeat (go_quiet (fail); try go_wp2)
        go_loopg [6] kj2 (fun kq v6 w' => ∃ (x6_2 : Int), v6 = .int .i64 x6_2 ∧ Aside0 (impl_LeastMultiple.l0 kq a0 a1 x6_2 = some (r1, r2)) ∧ Aside0 (kq ≤ kj2) ∧ Aside0 (Below w.heap.size w w'))
        case atStart => exact ⟨(1), (by first | rfl | (simp; done) | (simp [*]; done)), H', ⟨Nat.le_refl _⟩, ⟨by repeat (first | (with_reducible first | exact HB.out | apply below_alloc | apply pw_below_drewN | apply below_drew1) | exact HB.out)⟩⟩
        case round =>
          clear H'
          try clear c1
          try clear p2
          try clear c5
          try clear c7
          try clear p2
          obtain ⟨x6_2, rfl, HA, HK2, HB⟩ := hrel
          cases gk with
          | zero => exact absurd HA.out (by simp [impl_LeastMultiple.l0])
          | succ k2 =>
            have H := HA.out
            clear HA
            simp only [impl_LeastMultiple.l0] at H
            by_cases c8 : x6_2 < (a1.size : Int)
            · rw [if_pos c8] at H
              have c8b0 : decide (x6_2 < (a1.size : Int)) = true := decide_eq_true c8
              clear c8
              by_cases c9 : 0 ≤ x6_2
              · rw [if_pos c9] at H
                have c9b0 : decide (0 ≤ x6_2) = true := decide_eq_true c9
                clear c9
                obtain ⟨ji11, hji11⟩ : ∃ j_ : Int, (wrap64 (x6_2 - 1)) = j_ := ⟨_, rfl⟩
                replace H : (if 0 ≤ (ji11) then (if (ji11) < (a1.size : Int) then (if (bt a1 x6_2) ≤ (bt a1 (ji11)) then (some ((⟨#[]⟩ : ByteArray), false)) else (impl_LeastMultiple.l0 k2 a0 a1 (wrap64 (x6_2 + 1)))) else (none)) else (none)) = some (r1, r2) := by first | (rw [hji11] at H; exact H) | (simp only [hji11] at H ⊢; exact H)
                have hji11w : (IntKind.i64.wrap (x6_2 - 1)) = ji11 := (i64_w _).trans hji11
                by_cases c12 : 0 ≤ (ji11)
                · rw [if_pos c12] at H
                  have c12b0 : decide (0 ≤ (ji11)) = true := decide_eq_true c12
                  clear c12
                  by_cases c13 : (ji11) < (a1.size : Int)
                  · rw [if_pos c13] at H
                    have c13b0 : decide ((ji11) < (a1.size : Int)) = true := decide_eq_true c13
                    clear c13
                    by_cases c15 : (bt a1 x6_2) ≤ (bt a1 (ji11))
                    · rw [if_pos c15] at H
                      have c15b0 : decide ((bt a1 x6_2) ≤ (bt a1 (ji11))) = true := decide_eq_true c15
                      clear c15
                      simp only [Option.some.injEq, Prod.mk.injEq] at H
                      obtain ⟨rfl, rfl⟩ := H
                      have p10 : 0 ≤ (x6_2 : Int) := of_decide_eq_true (by first | (with_reducible assumption) | assumption)
                      have q10 : x6_2 < (a1.size : Int) := of_decide_eq_true (by first | (with_reducible assumption) | assumption)
                      have hx10 := bt_at a1 x6_2
                      replace p10 := eq_true p10
                      replace q10 := eq_true q10
                      have p14 : 0 ≤ ((ji11) : Int) := of_decide_eq_true (by first | (with_reducible assumption) | assumption)
                      have q14 : (ji11) < (a1.size : Int) := of_decide_eq_true (by first | (with_reducible assumption) | assumption)
                      have hx14 := bt_at a1 (ji11)
                      replace p14 := eq_true p14
                      replace q14 := eq_true q14
                      go_wp2
                      repeat (go_quiet (fail); try go_wp2)
                      go_ret2
                      exact ⟨by first | rfl | (simp [errW_none, errW_some] <;> rfl) | (simp only [← hji11]; first | rfl | (simp [errW_none, errW_some] <;> rfl)) | (simp [*, errW_none, errW_some] <;> rfl), by repeat (first | (with_reducible first | exact HB.out | apply below_alloc | apply pw_below_drewN | apply below_drew1) | exact HB.out)⟩
                    · rw [if_neg c15] at H
                      have c15b0 : decide ((bt a1 x6_2) ≤ (bt a1 (ji11))) = false := decide_eq_false c15
                      clear c15
                      have H' := Aside0.mk H
                      clear H
                      have p10 : 0 ≤ (x6_2 : Int) := of_decide_eq_true (by first | (with_reducible assumption) | assumption)
                      have q10 : x6_2 < (a1.size : Int) := of_decide_eq_true (by first | (with_reducible assumption) | assumption)
                      have hx10 := bt_at a1 x6_2
                      replace p10 := eq_true p10
                      replace q10 := eq_true q10
                      have p14 : 0 ≤ ((ji11) : Int) := of_decide_eq_true (by first | (with_reducible assumption) | assumption)
                      have q14 : (ji11) < (a1.size : Int) := of_decide_eq_true (by first | (with_reducible assumption) | assumption)
                      have hx14 := bt_at a1 (ji11)
                      replace p14 := eq_true p14
                      replace q14 := eq_true q14
                      go_wp2
                      repeat (go_quiet (fail); try go_wp2)
                      go_roundg k2
                      case measure => have := HJ2.out; have := HK2.out; omega
                      case rel => exact ⟨(wrap64 (x6_2 + 1)), (by first | rfl | (simp; done) | (simp [*]; done)), H', ⟨by have := HJ2.out; have := HK2.out; omega⟩, ⟨by repeat (first | (with_reducible first | exact HB.out | apply below_alloc | apply pw_below_drewN | apply below_drew1) | exact HB.out)⟩⟩
                  · rw [if_neg c13] at H
                    exact absurd H (by simp)
                · rw [if_neg c12] at H
                  exact absurd H (by simp)
              · rw [if_neg c9] at H
                exact absurd H (by simp)
            · rw [if_neg c8] at H
              have c8b0 : decide (x6_2 < (a1.size : Int)) = false := decide_eq_false c8
              clear c8
              replace H := Option.bind_eq_some_iff.mp H
              obtain ⟨⟨t103, t104⟩, A160, H⟩ := H
              replace H : (some (t103, t104)) = some (r1, r2) := H
              have A16 := Aside0.mk A160
              clear A160
              simp only [Option.some.injEq, Prod.mk.injEq] at H
              obtain ⟨rfl, rfl⟩ := H
              go_wp2_with (first | (go_at_call 32; (with_reducible refine (impl_multiple.calls a0 a1 t103 t104 _ A16.out).mono ?_); rintro e w17 ⟨rfl, hb⟩; have n0_ := Aside0.mk (below_step (by repeat (first | (with_reducible first | exact HB.out | apply below_alloc | apply pw_below_drewN | apply below_drew1) | exact HB.out)) hb); clear HB; have HB := n0_; clear n0_; (try clear hb); (try clear hb2); (try clear hk); (try clear hi)))
              repeat (go_quiet (first | (go_at_call 32; (with_reducible refine (impl_multiple.calls a0 a1 t103 t104 _ A16.out).mono ?_); rintro e w17 ⟨rfl, hb⟩; have n0_ := Aside0.mk (below_step (by repeat (first | (with_reducible first | exact HB.out | apply below_alloc | apply pw_below_drewN | apply below_drew1) | exact HB.out)) hb); clear HB; have HB := n0_; clear n0_; (try clear hb); (try clear hb2); (try clear hk); (try clear hi))); try go_wp2_with (first | (go_at_call 32; (with_reducible refine (impl_multiple.calls a0 a1 t103 t104 _ A16.out).mono ?_); rintro e w17 ⟨rfl, hb⟩; have n0_ := Aside0.mk (below_step (by repeat (first | (with_reducible first | exact HB.out | apply below_alloc | apply pw_below_drewN | apply below_drew1) | exact HB.out)) hb); clear HB; have HB := n0_; clear n0_; (try clear hb); (try clear hb2); (try clear hk); (try clear hi))))
              go_ret2
              exact ⟨by first | rfl | (simp [errW_none, errW_some] <;> rfl) | (simp [*, errW_none, errW_some] <;> rfl), by repeat (first | (with_reducible first | exact HB.out | apply below_alloc | apply pw_below_drewN | apply below_drew1) | exact HB.out)⟩

end Go.Proofs.Ytpdcjkiejglaiaa.Q

/-
  LeastMultiple in plain words: both texts ask the same of their arguments and come to the same.
-/
namespace Go.Proofs.Ytpdcjkiejglaiaa.Q
open Go.RowKit Go.Proofs.YtpdcjkiejglaiaaW.PrintWords Go.Proofs.YtpdcjkiejglaiaaW.PrintLast Go.Proofs.YtpdcjkiejglaiaaW.PrintMore
set_option linter.unusedVariables false
set_option linter.unusedSimpArgs false

def divOk (n : Int) : Bool := decide (1 ≤ n) && decide (n ≤ 400)
theorem spec_div (n : Int) : spec_leDivisor.f n = some (divOk n) := by
  unfold spec_leDivisor.f spec_l1In.f divOk
  by_cases h : n ≥ 1
  · rw [if_pos h]; simp [h]
  · rw [if_neg h]; simp; omega
theorem impl_div (n : Int) : impl_isDivisor.f n = some (divOk n) := by
  unfold impl_isDivisor.f impl_within.f divOk
  by_cases h : 1 ≤ n
  · rw [if_pos h]; simp [h]
  · rw [if_neg h]; simp [h]
def stepAt (s : ByteArray) (i : Nat) : Bool := digAt s i && (decide (i = 0) || riseAt s i)
def txtOk (s : ByteArray) : Bool := (decide ((1 : Int) ≤ (s.size : Int)) && decide ((s.size : Int) ≤ 10)) && allF (stepAt s) s.size 0
theorem txt_split (s : ByteArray) : txtOk s = ((isDig s && (decide ((1 : Int) ≤ (s.size : Int)) && decide ((s.size : Int) ≤ 10))) && allF (riseAt s) (s.size - 1) 1) := by
  rw [Bool.eq_iff_iff]
  unfold txtOk isDig
  simp only [Bool.and_eq_true, allF_iff, stepAt, Bool.or_eq_true, decide_eq_true_eq]
  constructor
  · rintro ⟨⟨h1, h2⟩, h3⟩
    refine ⟨⟨fun j a b => (h3 j a b).1, h1, h2⟩, fun j a b => ?_⟩
    rcases (h3 j (by omega) (by omega)).2 with h | h
    · omega
    · exact h
  · rintro ⟨⟨h1, h2, h3⟩, h4⟩
    refine ⟨⟨h2, h3⟩, fun j a b => ⟨h1 j a b, ?_⟩⟩
    by_cases h : j = 0
    · exact .inl h
    · exact .inr (h4 j (by omega) (by omega))
theorem txt_at {s : ByteArray} (h : txtOk s = true) : 1 ≤ s.size ∧ s.size ≤ 10 ∧ ∀ d ∈ li s, 48 ≤ d ∧ d ≤ 57 := by
  rw [txt_split] at h
  simp only [Bool.and_eq_true, decide_eq_true_eq] at h
  refine ⟨by omega, by omega, fun d hd => ?_⟩
  obtain ⟨j, hj, rfl⟩ := List.mem_iff_getElem.1 hd
  have := isDig_at h.1.1 j (by rw [li_length] at hj; exact hj)
  rw [bt_li] at this
  simpa [List.getD_eq_getElem?_getD, hj] using this
theorem leText_ev (s : ByteArray) (hs : s.size ≤ 140737488351232) : Ev (fun k => spec_leText.f k s) (txtOk s) := by
  unfold spec_leText.f
  have h1 : spec_l1In.f (s.size : Int) 1 10 = some (decide ((1 : Int) ≤ (s.size : Int)) && decide ((s.size : Int) ≤ 10)) := by
    unfold spec_l1In.f
    by_cases h : (s.size : Int) ≥ 1
    · rw [if_pos h]; simp [h]
    · rw [if_neg h]; simp; omega
  simp only [h1, Option.bind_some]
  by_cases h2 : (decide ((1 : Int) ≤ (s.size : Int)) && decide ((s.size : Int) ≤ 10)) = true
  · refine Ev.pos h2 ?_
    have stop : Ev (fun k => spec_leText.l0 k s ((s.size : Nat) : Int)) true := by
      refine Ev.step (f := fun _ => some true) (fun k => ?_) (Ev.now _)
      simp only [spec_leText.l0]
      rw [if_neg (by omega)]
    have body : ∀ i : Nat, i < s.size → ∀ k, spec_leText.l0 (k + 1) s (i : Int) = if stepAt s i = true then spec_leText.l0 k s ((i + 1 : Nat) : Int) else some false := by
      intro i hi k
      have c1 : (i : Int) < (s.size : Int) := by omega
      have c2 : 0 ≤ (i : Int) := by omega
      have e1 := wrap_succ i (by omega)
      simp only [spec_leText.l0, stepAt, digAt, Bool.and_eq_true, Bool.or_eq_true, decide_eq_true_eq, riseAt]
      rw [if_pos c1, if_pos c2, e1]
      by_cases h48 : bt s (i : Int) < 48
      · rw [if_pos h48, if_neg (fun h => absurd h.1.1 (by omega))]
      · rw [if_neg h48]
        by_cases h57 : bt s (i : Int) > 57
        · rw [if_pos h57, if_neg (fun h => absurd h.1.2 (by omega))]
        · rw [if_neg h57]
          by_cases h0 : i = 0
          · rw [if_neg (by omega), if_pos ⟨⟨by omega, by omega⟩, .inl h0⟩]
          · have e2 : wrap64 ((i : Int) - 1) = ((i - 1 : Nat) : Int) := by rw [wrap_id (by omega) (by omega)]; omega
            rw [if_pos (show (i : Int) > 0 by omega), e2, if_pos (show 0 ≤ ((i - 1 : Nat) : Int) by omega), if_pos (show ((i - 1 : Nat) : Int) < (s.size : Int) by omega)]
            by_cases hle : bt s (i : Int) ≤ bt s ((i - 1 : Nat) : Int)
            · rw [if_pos hle, if_neg (fun h => by rcases h.2 with h | h; exact h0 h; omega)]
            · rw [if_neg hle, if_pos ⟨⟨by omega, by omega⟩, .inr (by omega)⟩]
    refine Ev.eq (Ev_all (l := fun k i => spec_leText.l0 k s (i : Int)) (p := stepAt s) stop ?_ ?_ s.size 0 (by omega)) (by simp [txtOk, h2])
    · intro i hi hp q hq
      exact Ev.step (fun k => by rw [body i hi k, if_pos hp]) hq
    · intro i hi hp
      exact Ev.step (f := fun _ => some false) (fun k => by rw [body i hi k, if_neg (by simp [hp])]) (Ev.now _)
  · refine Ev.neg h2 (Ev.eq (Ev.now _) ?_)
    unfold txtOk
    cases hb : (decide ((1 : Int) ≤ (s.size : Int)) && decide ((s.size : Int) ≤ 10)) with
    | true => exact absurd hb h2
    | false => simp

def leastOfText (n : Int) (s : ByteArray) : ByteArray × Bool := if (divOk n && txtOk s) = true then mulOf n s else (⟨#[]⟩, false)
theorem div_at {n : Int} (h : divOk n = true) : 1 ≤ n ∧ n ≤ 400 := by simpa [divOk] using h
theorem LeastMultiple_spec (n : Int) (s : ByteArray) (hs : s.size ≤ 140737488351232) : Ev (fun k => spec_LeastMultiple.f k n s) (leastOfText n s) := by
  unfold spec_LeastMultiple.f leastOfText
  simp only [spec_div, Option.bind_some]
  by_cases h1 : divOk n = true
  · refine Ev.pos h1 (Ev.bind' (leText_ev s hs) ?_)
    by_cases h2 : txtOk s = true
    · rw [if_pos (by simp [h1, h2])]
      obtain ⟨a, b, c⟩ := txt_at h2
      exact Ev.pos h2 (Ev.bind' (spec_mul (div_at h1).1 (div_at h1).2 (by omega) c) (Ev.now _))
    · rw [if_neg (by simp [h2])]
      exact Ev.neg h2 (Ev.now _)
  · rw [if_neg (by simp [h1])]
    exact Ev.neg h1 (Ev.now _)
theorem impl_rise (n : Int) (s : ByteArray) (hs : s.size ≤ 140737488351232) (r : ByteArray × Bool) : ∀ (d i : Nat), 1 ≤ i → i + d = s.size → (allF (riseAt s) d i = true → impl_multiple.f n s = some r) →
    Ev (fun k => impl_LeastMultiple.l0 k n s (i : Int)) (if allF (riseAt s) d i = true then r else (⟨#[]⟩, false))
  | 0, i, h1, h2, hm => by
    have c : ¬ (i : Int) < (s.size : Int) := by omega
    refine Ev.step (f := fun _ => some r) (fun k => ?_) (Ev.eq (Ev.now _) rfl)
    simp only [impl_LeastMultiple.l0]
    rw [if_neg c, hm rfl]
    rfl
  | d + 1, i, h1, h2, hm => by
    have c1 : (i : Int) < (s.size : Int) := by omega
    have c2 : 0 ≤ (i : Int) := by omega
    have e1 := wrap_succ i (by omega)
    have c3 : 0 ≤ ((i - 1 : Nat) : Int) := by omega
    have c4 : ((i - 1 : Nat) : Int) < (s.size : Int) := by omega
    have e2 : wrap64 ((i : Int) - 1) = ((i - 1 : Nat) : Int) := by rw [wrap_id (by omega) (by omega)]; omega
    have body : ∀ k, impl_LeastMultiple.l0 (k + 1) n s (i : Int) = if bt s (i : Int) ≤ bt s ((i - 1 : Nat) : Int) then some (⟨#[]⟩, false) else impl_LeastMultiple.l0 k n s ((i + 1 : Nat) : Int) := by
      intro k
      simp only [impl_LeastMultiple.l0]
      rw [if_pos c1, if_pos c2, e2, if_pos c3, if_pos c4, e1]
    by_cases hr : riseAt s i = true
    · have hall : allF (riseAt s) (d + 1) i = allF (riseAt s) d (i + 1) := by simp only [allF, hr, Bool.true_and]
      have ih := impl_rise n s hs r d (i + 1) (by omega) (by omega) (fun h => hm (by rw [hall]; exact h))
      rw [hall]
      simp only [riseAt, decide_eq_true_eq] at hr
      exact Ev.step body (Ev.neg (by omega) ih)
    · have hr' : riseAt s i = false := by simpa using hr
      have hall : allF (riseAt s) (d + 1) i = false := by simp only [allF, hr', Bool.false_and]
      rw [if_neg (by rw [hall]; decide)]
      simp only [riseAt, decide_eq_true_eq] at hr
      exact Ev.step body (Ev.pos (by omega) (Ev.now _))
theorem LeastMultiple_impl (n : Int) (s : ByteArray) (hs : s.size ≤ 140737488351232) : Ev (fun k => impl_LeastMultiple.f k n s) (leastOfText n s) := by
  unfold impl_LeastMultiple.f leastOfText
  simp only [impl_div, Option.bind_some]
  have no : Ev (fun k => impl_LeastMultiple.j0 k n s true) ((⟨#[]⟩ : ByteArray), false) := by
    refine Ev.step (f := fun _ => some ((⟨#[]⟩ : ByteArray), false)) (fun k => ?_) (Ev.now _)
    simp only [impl_LeastMultiple.j0]
    rw [if_true]
  by_cases h1 : divOk n = true
  · refine Ev.pos h1 (Ev.bind' (areDigits_ev s 1 10 hs) ?_)
    by_cases h2 : (isDig s && (decide ((1 : Int) ≤ (s.size : Int)) && decide ((s.size : Int) ≤ 10))) = true
    · rw [h2]
      have hz : 1 ≤ s.size := by simp only [Bool.and_eq_true, decide_eq_true_eq] at h2; omega
      have := impl_rise n s hs (mulOf n s) (s.size - 1) 1 (by omega) (by omega) (fun hr => by
        have ht : txtOk s = true := by rw [txt_split, h2, hr]; rfl
        obtain ⟨a, b, c⟩ := txt_at ht
        exact impl_mul (div_at h1).1 (div_at h1).2 (by omega) c)
      refine Ev.step (f := fun k => impl_LeastMultiple.l0 k n s 1) (fun k => ?_) (Ev.eq this ?_)
      · simp only [impl_LeastMultiple.j0]
        rw [if_neg (by decide)]
      · rw [txt_split, h1, h2, Bool.true_and, Bool.true_and]
    · have h2' : (isDig s && (decide ((1 : Int) ≤ (s.size : Int)) && decide ((s.size : Int) ≤ 10))) = false := by simpa using h2
      rw [h2', if_neg (by rw [txt_split, h2']; simp)]
      exact no
  · rw [if_neg (by simp [h1])]
    exact Ev.neg h1 no

end Go.Proofs.Ytpdcjkiejglaiaa.Q
