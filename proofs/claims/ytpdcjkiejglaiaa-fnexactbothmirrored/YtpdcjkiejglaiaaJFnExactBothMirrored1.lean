/-
  Texts of this claim, joined in their build order: the contracts of the functions that the statement reaches, and plain lemmas.
-/
import Derived.Test.YtpdcjkiejglaiaaJFnExactBothMirrored0
import Derived.Shelf.Small.Strs
import Derived.Shelf.Strings.Search1
import Derived.Test.YtpdcjkiejglaiaaProg

/- Laid by a program of this session (wip/tools/own_print.py) over the translation of this seat: contracts of the functions that the statement reaches. -/
namespace Go.Proofs.Ytpdcjkiejglaiaa.Q
open Go.RowKit Go.Proofs.YtpdcjkiejglaiaaW.PrintWords Go.Proofs.YtpdcjkiejglaiaaW.PrintLast Go.Proofs.YtpdcjkiejglaiaaW.PrintMore
attribute [local go_sem] max2_int min2_int max_two min_two max_three min_three max_four min_four   -- for this text's walks alone
set_option linter.unusedVariables false
set_option linter.unusedSimpArgs false

/-! ### impl_BothMirrored: function 20 -/
mutual
def impl_BothMirrored.j0 : Nat → ByteArray → ByteArray → Bool → Option (Int × Bool)
  | 0, _, _, _ => none
  | k + 1, x0, x1, x16 => if x16 = true then (some (0, false)) else ((impl_numberOf.f k x0).bind fun t103 => ((impl_numberOf.f k x1).bind fun t104 => (impl_BothMirrored.l0 k x0 x1 t103 t104 1)))
def impl_BothMirrored.l0 : Nat → ByteArray → ByteArray → Int → Int → Int → Option (Int × Bool)
  | 0, _, _, _, _, _ => none
  | k + 1, x0, x1, x6, x7, x8 => if x8 ≤ 1000000 then ((impl_round.f k (x0.size : Int)).bind fun t105 => (if t105 = 0 then (none) else ((impl_isMirrored.f (Int.tmod (wrap64 (x6 + x8)) t105) (x0.size : Int)).bind fun t106 => (if t106 = true then ((impl_round.f k (x1.size : Int)).bind fun t107 => (if t107 = 0 then (none) else ((impl_isMirrored.f (Int.tmod (wrap64 (x7 + x8)) t107) (x1.size : Int)).bind fun t108 => (if t108 = true then (some (x8, true)) else (impl_BothMirrored.l0 k x0 x1 x6 x7 (wrap64 (x8 + 1))))))) else (impl_BothMirrored.l0 k x0 x1 x6 x7 (wrap64 (x8 + 1))))))) else (some (0, false))
end
def impl_BothMirrored.f (k : Nat) (a0 : ByteArray) (a1 : ByteArray) : Option (Int × Bool) := (impl_IsReading.f k a0).bind fun t101 => (if t101 = true then ((impl_IsReading.f k a1).bind fun t102 => (impl_BothMirrored.j0 k a0 a1 (!t102))) else (impl_BothMirrored.j0 k a0 a1 true))
theorem impl_BothMirrored.mono_l : ∀ k, (∀ y0 y1 y2, LeO (impl_BothMirrored.j0 k y0 y1 y2) (impl_BothMirrored.j0 (k + 1) y0 y1 y2)) ∧ (∀ y0 y1 y2 y3 y4, LeO (impl_BothMirrored.l0 k y0 y1 y2 y3 y4) (impl_BothMirrored.l0 (k + 1) y0 y1 y2 y3 y4))
  | 0 => ⟨fun _ _ _ r h => by simp [impl_BothMirrored.j0] at h, fun _ _ _ _ _ r h => by simp [impl_BothMirrored.l0] at h⟩
  | k + 1 => by
    obtain ⟨ih0, ih1⟩ := impl_BothMirrored.mono_l k
    refine ⟨?_, ?_⟩
    · intro y0 y1 y2
      unfold impl_BothMirrored.j0
      repeat' first
      | (with_reducible exact ih0 _ _ _)
      | (with_reducible exact ih1 _ _ _ _ _)
      | (with_reducible exact impl_IsReading.mono _ _)
      | (with_reducible exact impl_numberOf.mono _ _)
      | (with_reducible exact impl_round.mono _ _)
      | (with_reducible exact LeO.refl _)
      | (with_reducible exact LeO.none _)
      | (with_reducible refine LeO.ite ?_ ?_)
      | (with_reducible refine LeO.bind ?_ (fun _ => ?_))
      | exact ih0 _ _ _
      | exact ih1 _ _ _ _ _
      | exact impl_IsReading.mono _ _
      | exact impl_numberOf.mono _ _
      | exact impl_round.mono _ _
      | exact LeO.none _
      | refine LeO.ite ?_ ?_
      | refine LeO.bind ?_ (fun _ => ?_)
    · intro y0 y1 y2 y3 y4
      unfold impl_BothMirrored.l0
      repeat' first
      | (with_reducible exact ih0 _ _ _)
      | (with_reducible exact ih1 _ _ _ _ _)
      | (with_reducible exact impl_IsReading.mono _ _)
      | (with_reducible exact impl_numberOf.mono _ _)
      | (with_reducible exact impl_round.mono _ _)
      | (with_reducible exact LeO.refl _)
      | (with_reducible exact LeO.none _)
      | (with_reducible refine LeO.ite ?_ ?_)
      | (with_reducible refine LeO.bind ?_ (fun _ => ?_))
      | exact ih0 _ _ _
      | exact ih1 _ _ _ _ _
      | exact impl_IsReading.mono _ _
      | exact impl_numberOf.mono _ _
      | exact impl_round.mono _ _
      | exact LeO.none _
      | refine LeO.ite ?_ ?_
      | refine LeO.bind ?_ (fun _ => ?_)
theorem impl_BothMirrored.mono : ∀ a0 a1 k, LeO (impl_BothMirrored.f k a0 a1) (impl_BothMirrored.f (k + 1) a0 a1) := by
  intro a0 a1 k
  obtain ⟨ih0, ih1⟩ := impl_BothMirrored.mono_l k
  unfold impl_BothMirrored.f
  repeat' first
      | (with_reducible exact ih0 _ _ _)
      | (with_reducible exact ih1 _ _ _ _ _)
      | (with_reducible exact impl_IsReading.mono _ _)
      | (with_reducible exact impl_numberOf.mono _ _)
      | (with_reducible exact impl_round.mono _ _)
      | (with_reducible exact LeO.refl _)
      | (with_reducible exact LeO.none _)
      | (with_reducible refine LeO.ite ?_ ?_)
      | (with_reducible refine LeO.bind ?_ (fun _ => ?_))
      | exact ih0 _ _ _
      | exact ih1 _ _ _ _ _
      | exact impl_IsReading.mono _ _
      | exact impl_numberOf.mono _ _
      | exact impl_round.mono _ _
      | exact LeO.none _
      | refine LeO.ite ?_ ?_
      | refine LeO.bind ?_ (fun _ => ?_)
set_option maxHeartbeats 8000000 in
set_option maxRecDepth 100000 in
theorem impl_BothMirrored.calls (k : Nat) (a0 : ByteArray) (a1 : ByteArray) (r1 : Int) (r2 : Bool) (w : World) (h : impl_BothMirrored.f k a0 a1 = some (r1, r2)) :
    Calls Try.prog 20 #[.string a0, .string a1] w fun e w' => e = .returned (.tuple #[.int .i64 r1, .bool r2]) ∧ Below w.heap.size w w' := by
  have HB := Aside0.mk (Below.refl w.heap.size w)
  have H : ((impl_IsReading.f k a0).bind fun t101 => (if t101 = true then ((impl_IsReading.f k a1).bind fun t102 => (impl_BothMirrored.j0 k a0 a1 (!t102))) else (impl_BothMirrored.j0 k a0 a1 true))) = some (r1, r2) := h
  clear h
  have HC3 := Aside0.mk H
  clear H
  go_enter Try.func20, Try.ntmps20
  go_upto_region 1 with (fail)
  go_cut [16] (fun v16 wc => ∃ (kq : Nat) (x16_2 : Bool), v16 = .bool x16_2 ∧ Aside0 (impl_BothMirrored.j0 kq a0 a1 x16_2 = some (r1, r2)) ∧ Aside0 (kq ≤ k) ∧ Aside0 (Below w.heap.size w wc))
  case first =>
    have H := HC3.out
    clear HC3
    replace H := Option.bind_eq_some_iff.mp H
    obtain ⟨t101, A40, H⟩ := H
    replace H : (if t101 = true then ((impl_IsReading.f k a1).bind fun t102 => (impl_BothMirrored.j0 k a0 a1 (!t102))) else (impl_BothMirrored.j0 k a0 a1 true)) = some (r1, r2) := H
    have A4 := Aside0.mk A40
    clear A40
    by_cases c5 : t101 = true
    · subst c5
      have H1 : ((impl_IsReading.f k a1).bind fun t102 => (impl_BothMirrored.j0 k a0 a1 (!t102))) = some (r1, r2) := by rw [if_pos rfl] at H; exact H
      clear H
      have H := H1
      clear H1
      replace H := Option.bind_eq_some_iff.mp H
      obtain ⟨t102, A60, H⟩ := H
      replace H : (impl_BothMirrored.j0 k a0 a1 (!t102)) = some (r1, r2) := H
      have A6 := Aside0.mk A60
      clear A60
      have H' := Aside0.mk H
      clear H
      go_wp2_with (first | ((with_reducible refine gate_callee (f := 36) rfl ?_); refine goesL_ (some 10) rfl rfl Try.func36 (by kernel_rfl) rfl #[.string a0] rfl (by (try simp only [List.map_toArray, List.map_cons, List.map_nil]); first | done | rfl | (simp only [List.length_drop, List.length_take]; rfl)) ?_; (with_reducible refine (impl_IsReading.calls k a0 true _ A4.out).mono ?_); rintro e w' ⟨rfl, ⟨nd, rfl⟩⟩; refine ⟨_, rfl, ?_⟩) | (go_at_call 36; (with_reducible refine (impl_IsReading.calls k a1 t102 _ A6.out).mono ?_); rintro e w' ⟨rfl, ⟨nd, rfl⟩⟩))
      go_meet
      case rel => exact ⟨_, (!t102), (by first | rfl | (simp; done) | (simp [*]; done)), H', ⟨by first | omega | exact Nat.le_refl _⟩, ⟨by repeat (first | (with_reducible first | exact HB.out | apply below_alloc | apply pw_below_drewN | apply below_drew1) | exact HB.out)⟩⟩
    · replace c5 := Bool.eq_false_iff.mpr c5
      subst c5
      have H1 : (impl_BothMirrored.j0 k a0 a1 true) = some (r1, r2) := by rw [if_neg (show ¬ (false = true) by decide)] at H; exact H
      clear H
      have H := H1
      clear H1
      have H' := Aside0.mk H
      clear H
      go_wp2_with (first | ((with_reducible refine gate_callee (f := 36) rfl ?_); refine goesL_ (some 10) rfl rfl Try.func36 (by kernel_rfl) rfl #[.string a0] rfl (by (try simp only [List.map_toArray, List.map_cons, List.map_nil]); first | done | rfl | (simp only [List.length_drop, List.length_take]; rfl)) ?_; (with_reducible refine (impl_IsReading.calls k a0 false _ A4.out).mono ?_); rintro e w' ⟨rfl, ⟨nd, rfl⟩⟩; refine ⟨_, rfl, ?_⟩))
      go_meet
      case rel => exact ⟨_, (true), (by first | rfl | (simp; done) | (simp [*]; done)), H', ⟨by first | omega | exact Nat.le_refl _⟩, ⟨by repeat (first | (with_reducible first | exact HB.out | apply below_alloc | apply pw_below_drewN | apply below_drew1) | exact HB.out)⟩⟩
  case rest =>
    clear HC3
    try clear c2
    try clear p2
    try clear c3
    try clear c5
    obtain ⟨kq, x16_2, rfl, HA, HJ2, HB⟩ := hcut
    cases kq with
    | zero => exact absurd HA.out (by simp [impl_BothMirrored.j0])
    | succ kj2 =>
      have H := HA.out
      clear HA
      simp only [impl_BothMirrored.j0] at H
      by_cases c7 : x16_2 = true
      · subst c7
        have H1 : (some (0, false)) = some (r1, r2) := by rw [if_pos rfl] at H; exact H
        clear H
        have H := H1
        clear H1
        simp only [Option.some.injEq, Prod.mk.injEq] at H
        obtain ⟨rfl, rfl⟩ := H
        go_wp2
        go_ret2
        exact ⟨by first | rfl | (simp [errW_none, errW_some] <;> rfl) | (simp [*, errW_none, errW_some] <;> rfl), by repeat (first | (with_reducible first | exact HB.out | apply below_alloc | apply pw_below_drewN | apply below_drew1) | exact HB.out)⟩
      · replace c7 := Bool.eq_false_iff.mpr c7
        subst c7
        have H1 : ((impl_numberOf.f kj2 a0).bind fun t103 => ((impl_numberOf.f kj2 a1).bind fun t104 => (impl_BothMirrored.l0 kj2 a0 a1 t103 t104 1))) = some (r1, r2) := by rw [if_neg (show ¬ (false = true) by decide)] at H; exact H
        clear H
        have H := H1
        clear H1
        replace H := Option.bind_eq_some_iff.mp H
        obtain ⟨t103, A80, H⟩ := H
        replace H : ((impl_numberOf.f kj2 a1).bind fun t104 => (impl_BothMirrored.l0 kj2 a0 a1 t103 t104 1)) = some (r1, r2) := H
        have A8 := Aside0.mk A80
        clear A80
        replace H := Option.bind_eq_some_iff.mp H
        obtain ⟨t104, A90, H⟩ := H
        replace H : (impl_BothMirrored.l0 kj2 a0 a1 t103 t104 1) = some (r1, r2) := H
        have A9 := Aside0.mk A90
        clear A90
        have H' := Aside0.mk H
        clear H
        go_wp2_with (first | ((with_reducible refine gate_callee (f := 43) rfl ?_); refine goesL_ (some 18) rfl rfl Try.func43 (by kernel_rfl) rfl #[.string a0] rfl (by (try simp only [List.map_toArray, List.map_cons, List.map_nil]); first | done | rfl | (simp only [List.length_drop, List.length_take]; rfl)) ?_; (with_reducible refine (impl_numberOf.calls kj2 a0 t103 _ A8.out).mono ?_); rintro e w' ⟨rfl, ⟨nd, rfl⟩⟩; refine ⟨_, rfl, ?_⟩) | ((with_reducible refine gate_callee (f := 43) rfl ?_); refine goesL_ (some 20) rfl rfl Try.func43 (by kernel_rfl) rfl #[.string a1] rfl (by (try simp only [List.map_toArray, List.map_cons, List.map_nil]); first | done | rfl | (simp only [List.length_drop, List.length_take]; rfl)) ?_; (with_reducible refine (impl_numberOf.calls kj2 a1 t104 _ A9.out).mono ?_); rintro e w' ⟨rfl, ⟨nd, rfl⟩⟩; refine ⟨_, rfl, ?_⟩))
        go_loopg [8] kj2 (fun kq v8 w' => ∃ (x8_2 : Int), v8 = .int .i64 x8_2 ∧ Aside0 (impl_BothMirrored.l0 kq a0 a1 t103 t104 x8_2 = some (r1, r2)) ∧ Aside0 (kq ≤ kj2) ∧ Aside0 (Below w.heap.size w w'))
        case atStart => exact ⟨(1), (by first | rfl | (simp; done) | (simp [*]; done)), H', ⟨Nat.le_refl _⟩, ⟨by repeat (first | (with_reducible first | exact HB.out | apply below_alloc | apply pw_below_drewN | apply below_drew1) | exact HB.out)⟩⟩
        case round =>
          clear H'
          try clear c2
          try clear p2
          try clear c3
          try clear c4
          try clear c5
          try clear c7
          try clear p2
          obtain ⟨x8_2, rfl, HA, HK2, HB⟩ := hrel
          cases gk with
          | zero => exact absurd HA.out (by simp [impl_BothMirrored.l0])
          | succ k2 =>
            have H := HA.out
            clear HA
            simp only [impl_BothMirrored.l0] at H
            by_cases c10 : x8_2 ≤ 1000000
            · rw [if_pos c10] at H
              have c10b0 : decide (x8_2 ≤ 1000000) = true := decide_eq_true c10
              clear c10
              replace H := Option.bind_eq_some_iff.mp H
              obtain ⟨t105, A110, H⟩ := H
              replace H : (if t105 = 0 then (none) else ((impl_isMirrored.f (Int.tmod (wrap64 (t103 + x8_2)) t105) (a0.size : Int)).bind fun t106 => (if t106 = true then ((impl_round.f k2 (a1.size : Int)).bind fun t107 => (if t107 = 0 then (none) else ((impl_isMirrored.f (Int.tmod (wrap64 (t104 + x8_2)) t107) (a1.size : Int)).bind fun t108 => (if t108 = true then (some (x8_2, true)) else (impl_BothMirrored.l0 k2 a0 a1 t103 t104 (wrap64 (x8_2 + 1))))))) else (impl_BothMirrored.l0 k2 a0 a1 t103 t104 (wrap64 (x8_2 + 1)))))) = some (r1, r2) := H
              have A11 := Aside0.mk A110
              clear A110
              by_cases c12 : t105 = 0
              · rw [if_pos c12] at H
                exact absurd H (by simp)
              · rw [if_neg c12] at H
                have c12b0 : (t105 == 0) = false := beq_eq_false_iff_ne.mpr c12
                have c12b1 : (t105 != 0) = true := bne_iff_ne.mpr c12
                replace H := Option.bind_eq_some_iff.mp H
                obtain ⟨t106, A130, H⟩ := H
                replace H : (if t106 = true then ((impl_round.f k2 (a1.size : Int)).bind fun t107 => (if t107 = 0 then (none) else ((impl_isMirrored.f (Int.tmod (wrap64 (t104 + x8_2)) t107) (a1.size : Int)).bind fun t108 => (if t108 = true then (some (x8_2, true)) else (impl_BothMirrored.l0 k2 a0 a1 t103 t104 (wrap64 (x8_2 + 1))))))) else (impl_BothMirrored.l0 k2 a0 a1 t103 t104 (wrap64 (x8_2 + 1)))) = some (r1, r2) := H
                have A13 := Aside0.mk A130
                clear A130
                by_cases c14 : t106 = true
                · subst c14
                  have H1 : ((impl_round.f k2 (a1.size : Int)).bind fun t107 => (if t107 = 0 then (none) else ((impl_isMirrored.f (Int.tmod (wrap64 (t104 + x8_2)) t107) (a1.size : Int)).bind fun t108 => (if t108 = true then (some (x8_2, true)) else (impl_BothMirrored.l0 k2 a0 a1 t103 t104 (wrap64 (x8_2 + 1))))))) = some (r1, r2) := by rw [if_pos rfl] at H; exact H
                  clear H
                  have H := H1
                  clear H1
                  replace H := Option.bind_eq_some_iff.mp H
                  obtain ⟨t107, A150, H⟩ := H
                  replace H : (if t107 = 0 then (none) else ((impl_isMirrored.f (Int.tmod (wrap64 (t104 + x8_2)) t107) (a1.size : Int)).bind fun t108 => (if t108 = true then (some (x8_2, true)) else (impl_BothMirrored.l0 k2 a0 a1 t103 t104 (wrap64 (x8_2 + 1)))))) = some (r1, r2) := H
                  have A15 := Aside0.mk A150
                  clear A150
                  by_cases c16 : t107 = 0
                  · rw [if_pos c16] at H
                    exact absurd H (by simp)
                  · rw [if_neg c16] at H
                    have c16b0 : (t107 == 0) = false := beq_eq_false_iff_ne.mpr c16
                    have c16b1 : (t107 != 0) = true := bne_iff_ne.mpr c16
                    replace H := Option.bind_eq_some_iff.mp H
                    obtain ⟨t108, A170, H⟩ := H
                    replace H : (if t108 = true then (some (x8_2, true)) else (impl_BothMirrored.l0 k2 a0 a1 t103 t104 (wrap64 (x8_2 + 1)))) = some (r1, r2) := H
                    have A17 := Aside0.mk A170
                    clear A170
                    by_cases c18 : t108 = true
                    · subst c18
                      have H1 : (some (x8_2, true)) = some (r1, r2) := by rw [if_pos rfl] at H; exact H
                      clear H
                      have H := H1
                      clear H1
                      simp only [Option.some.injEq, Prod.mk.injEq] at H
                      obtain ⟨rfl, rfl⟩ := H
                      go_wp2_with (first | ((with_reducible refine gate_callee (f := 45) rfl ?_); refine goesL_ (some 30) rfl rfl Try.func45 (by kernel_rfl) rfl #[.int .i64 (a0.size : Int)] rfl (by (try simp only [List.map_toArray, List.map_cons, List.map_nil]); first | done | rfl | (simp only [List.length_drop, List.length_take]; rfl)) ?_; (with_reducible refine (impl_round.calls k2 (a0.size : Int) t105 _ A11.out).mono ?_); rintro e w' ⟨rfl, ⟨nd, rfl⟩⟩; refine ⟨_, rfl, ?_⟩) | ((with_reducible refine gate_callee (f := 44) rfl ?_); refine goesL_ (some 34) rfl rfl Try.func44 (by kernel_rfl) rfl #[.int .i64 (Int.tmod (wrap64 (t103 + x8_2)) t105), .int .i64 (a0.size : Int)] rfl (by (try simp only [List.map_toArray, List.map_cons, List.map_nil]); first | done | rfl | (simp only [List.length_drop, List.length_take]; rfl)) ?_; (with_reducible refine (impl_isMirrored.calls (Int.tmod (wrap64 (t103 + x8_2)) t105) (a0.size : Int) true _ A13.out).mono ?_); rintro e w19 ⟨rfl, hb⟩; refine ⟨_, rfl, ?_⟩; have n0_ := Aside0.mk (below_step (by repeat (first | (with_reducible first | exact HB.out | apply below_alloc | apply pw_below_drewN | apply below_drew1) | exact HB.out)) hb); clear HB; have HB := n0_; clear n0_; (try clear hb); (try clear hb2); (try clear hk); (try clear hi)) | (go_at_call 45; (with_reducible refine (impl_round.calls k2 (a1.size : Int) t107 _ A15.out).mono ?_); rintro e w' ⟨rfl, ⟨nd, rfl⟩⟩) | (go_at_call 44; (with_reducible refine (impl_isMirrored.calls (Int.tmod (wrap64 (t104 + x8_2)) t107) (a1.size : Int) true _ A17.out).mono ?_); rintro e w20 ⟨rfl, hb⟩; have n0_ := Aside0.mk (below_step (by repeat (first | (with_reducible first | exact HB.out | apply below_alloc | apply pw_below_drewN | apply below_drew1) | exact HB.out)) hb); clear HB; have HB := n0_; clear n0_; (try clear hb); (try clear hb2); (try clear hk); (try clear hi)))
                      go_ret2
                      exact ⟨by first | rfl | (simp [errW_none, errW_some] <;> rfl) | (simp [*, errW_none, errW_some] <;> rfl), by repeat (first | (with_reducible first | exact HB.out | apply below_alloc | apply pw_below_drewN | apply below_drew1) | exact HB.out)⟩
                    · replace c18 := Bool.eq_false_iff.mpr c18
                      subst c18
                      have H1 : (impl_BothMirrored.l0 k2 a0 a1 t103 t104 (wrap64 (x8_2 + 1))) = some (r1, r2) := by rw [if_neg (show ¬ (false = true) by decide)] at H; exact H
                      clear H
                      have H := H1
                      clear H1
                      have H' := Aside0.mk H
                      clear H
                      go_wp2_with (first | ((with_reducible refine gate_callee (f := 45) rfl ?_); refine goesL_ (some 30) rfl rfl Try.func45 (by kernel_rfl) rfl #[.int .i64 (a0.size : Int)] rfl (by (try simp only [List.map_toArray, List.map_cons, List.map_nil]); first | done | rfl | (simp only [List.length_drop, List.length_take]; rfl)) ?_; (with_reducible refine (impl_round.calls k2 (a0.size : Int) t105 _ A11.out).mono ?_); rintro e w' ⟨rfl, ⟨nd, rfl⟩⟩; refine ⟨_, rfl, ?_⟩) | ((with_reducible refine gate_callee (f := 44) rfl ?_); refine goesL_ (some 34) rfl rfl Try.func44 (by kernel_rfl) rfl #[.int .i64 (Int.tmod (wrap64 (t103 + x8_2)) t105), .int .i64 (a0.size : Int)] rfl (by (try simp only [List.map_toArray, List.map_cons, List.map_nil]); first | done | rfl | (simp only [List.length_drop, List.length_take]; rfl)) ?_; (with_reducible refine (impl_isMirrored.calls (Int.tmod (wrap64 (t103 + x8_2)) t105) (a0.size : Int) true _ A13.out).mono ?_); rintro e w21 ⟨rfl, hb⟩; refine ⟨_, rfl, ?_⟩; have n0_ := Aside0.mk (below_step (by repeat (first | (with_reducible first | exact HB.out | apply below_alloc | apply pw_below_drewN | apply below_drew1) | exact HB.out)) hb); clear HB; have HB := n0_; clear n0_; (try clear hb); (try clear hb2); (try clear hk); (try clear hi)) | (go_at_call 45; (with_reducible refine (impl_round.calls k2 (a1.size : Int) t107 _ A15.out).mono ?_); rintro e w' ⟨rfl, ⟨nd, rfl⟩⟩) | (go_at_call 44; (with_reducible refine (impl_isMirrored.calls (Int.tmod (wrap64 (t104 + x8_2)) t107) (a1.size : Int) false _ A17.out).mono ?_); rintro e w22 ⟨rfl, hb⟩; have n0_ := Aside0.mk (below_step (by repeat (first | (with_reducible first | exact HB.out | apply below_alloc | apply pw_below_drewN | apply below_drew1) | exact HB.out)) hb); clear HB; have HB := n0_; clear n0_; (try clear hb); (try clear hb2); (try clear hk); (try clear hi)))
                      go_roundg k2
                      case measure => have := HJ2.out; have := HK2.out; omega
                      case rel => exact ⟨(wrap64 (x8_2 + 1)), (by first | rfl | (simp; done) | (simp [*]; done)), H', ⟨by have := HJ2.out; have := HK2.out; omega⟩, ⟨by repeat (first | (with_reducible first | exact HB.out | apply below_alloc | apply pw_below_drewN | apply below_drew1) | exact HB.out)⟩⟩
                · replace c14 := Bool.eq_false_iff.mpr c14
                  subst c14
                  have H1 : (impl_BothMirrored.l0 k2 a0 a1 t103 t104 (wrap64 (x8_2 + 1))) = some (r1, r2) := by rw [if_neg (show ¬ (false = true) by decide)] at H; exact H
                  clear H
                  have H := H1
                  clear H1
                  have H' := Aside0.mk H
                  clear H
                  go_wp2_with (first | ((with_reducible refine gate_callee (f := 45) rfl ?_); refine goesL_ (some 30) rfl rfl Try.func45 (by kernel_rfl) rfl #[.int .i64 (a0.size : Int)] rfl (by (try simp only [List.map_toArray, List.map_cons, List.map_nil]); first | done | rfl | (simp only [List.length_drop, List.length_take]; rfl)) ?_; (with_reducible refine (impl_round.calls k2 (a0.size : Int) t105 _ A11.out).mono ?_); rintro e w' ⟨rfl, ⟨nd, rfl⟩⟩; refine ⟨_, rfl, ?_⟩) | ((with_reducible refine gate_callee (f := 44) rfl ?_); refine goesL_ (some 34) rfl rfl Try.func44 (by kernel_rfl) rfl #[.int .i64 (Int.tmod (wrap64 (t103 + x8_2)) t105), .int .i64 (a0.size : Int)] rfl (by (try simp only [List.map_toArray, List.map_cons, List.map_nil]); first | done | rfl | (simp only [List.length_drop, List.length_take]; rfl)) ?_; (with_reducible refine (impl_isMirrored.calls (Int.tmod (wrap64 (t103 + x8_2)) t105) (a0.size : Int) false _ A13.out).mono ?_); rintro e w23 ⟨rfl, hb⟩; refine ⟨_, rfl, ?_⟩; have n0_ := Aside0.mk (below_step (by repeat (first | (with_reducible first | exact HB.out | apply below_alloc | apply pw_below_drewN | apply below_drew1) | exact HB.out)) hb); clear HB; have HB := n0_; clear n0_; (try clear hb); (try clear hb2); (try clear hk); (try clear hi)))
                  go_roundg k2
                  case measure => have := HJ2.out; have := HK2.out; omega
                  case rel => exact ⟨(wrap64 (x8_2 + 1)), (by first | rfl | (simp; done) | (simp [*]; done)), H', ⟨by have := HJ2.out; have := HK2.out; omega⟩, ⟨by repeat (first | (with_reducible first | exact HB.out | apply below_alloc | apply pw_below_drewN | apply below_drew1) | exact HB.out)⟩⟩
            · rw [if_neg c10] at H
              have c10b0 : decide (x8_2 ≤ 1000000) = false := decide_eq_false c10
              clear c10
              simp only [Option.some.injEq, Prod.mk.injEq] at H
              obtain ⟨rfl, rfl⟩ := H
              go_wp2
              go_ret2
              exact ⟨by first | rfl | (simp [errW_none, errW_some] <;> rfl) | (simp [*, errW_none, errW_some] <;> rfl), by repeat (first | (with_reducible first | exact HB.out | apply below_alloc | apply pw_below_drewN | apply below_drew1) | exact HB.out)⟩

end Go.Proofs.Ytpdcjkiejglaiaa.Q

/- Laid by a program of this session (wip/tools/own_print.py) over the translation of this seat: contracts of the functions that the statement reaches. -/
namespace Go.Proofs.Ytpdcjkiejglaiaa.Q
open Go.RowKit Go.Proofs.YtpdcjkiejglaiaaW.PrintWords Go.Proofs.YtpdcjkiejglaiaaW.PrintLast Go.Proofs.YtpdcjkiejglaiaaW.PrintMore
attribute [local go_sem] max2_int min2_int max_two min_two max_three min_three max_four min_four   -- for this text's walks alone
set_option linter.unusedVariables false
set_option linter.unusedSimpArgs false

/-! ### laws_FnExactBothMirrored: function 7 -/
def laws_FnExactBothMirrored.f (k : Nat) (a0 : ByteArray) (a1 : ByteArray) : Option (Bool) := if (a0.size : Int) > 1048576 then (some true) else (if (a1.size : Int) > 1048576 then (some true) else ((spec_BothMirrored.f k a0 a1).bind fun bt101 => ((impl_BothMirrored.f k a0 a1).bind fun bt103 => (if bt103.1 = bt101.1 then (if (bt103.2 != bt101.2) = true then (some false) else (some true)) else (some false)))))
theorem laws_FnExactBothMirrored.mono : ∀ a0 a1 k, LeO (laws_FnExactBothMirrored.f k a0 a1) (laws_FnExactBothMirrored.f (k + 1) a0 a1) := by
  intro a0 a1 k
  unfold laws_FnExactBothMirrored.f
  repeat' first
      | (with_reducible exact impl_BothMirrored.mono _ _ _)
      | (with_reducible exact spec_BothMirrored.mono _ _ _)
      | (with_reducible exact LeO.refl _)
      | (with_reducible exact LeO.none _)
      | (with_reducible refine LeO.ite ?_ ?_)
      | (with_reducible refine LeO.bind ?_ (fun _ => ?_))
      | exact impl_BothMirrored.mono _ _ _
      | exact spec_BothMirrored.mono _ _ _
      | exact LeO.none _
      | refine LeO.ite ?_ ?_
      | refine LeO.bind ?_ (fun _ => ?_)
set_option maxHeartbeats 8000000 in
set_option maxRecDepth 100000 in
theorem laws_FnExactBothMirrored.calls (k : Nat) (a0 : ByteArray) (a1 : ByteArray) (r : Bool) (w : World) (h : laws_FnExactBothMirrored.f k a0 a1 = some r) :
    Calls Try.prog 7 #[.string a0, .string a1] w fun e w' => e = .returned (.bool r) ∧ Below w.heap.size w w' := by
  have HB := Aside0.mk (Below.refl w.heap.size w)
  have H : (if (a0.size : Int) > 1048576 then (some true) else (if (a1.size : Int) > 1048576 then (some true) else ((spec_BothMirrored.f k a0 a1).bind fun bt101 => ((impl_BothMirrored.f k a0 a1).bind fun bt103 => (if bt103.1 = bt101.1 then (if (bt103.2 != bt101.2) = true then (some false) else (some true)) else (some false)))))) = some r := h
  clear h
  by_cases c3 : (a0.size : Int) > 1048576
  · rw [if_pos c3] at H
    have c3b0 : decide (1048576 < (a0.size : Int)) = true := decide_eq_true c3
    have c3b1 : decide (1048576 < a0.size) = true := decide_eq_true (by omega)
    clear c3
    obtain rfl := Option.some.inj H
    go_enter Try.func7, Try.ntmps7
    go_wp2
    go_ret
    exact ⟨by first | rfl | (simp [errW_none, errW_some] <;> rfl) | (simp [*, errW_none, errW_some] <;> rfl), by repeat (first | (with_reducible first | exact HB.out | apply below_alloc | apply pw_below_drewN | apply below_drew1) | exact HB.out)⟩
  · rw [if_neg c3] at H
    have c3b0 : decide (1048576 < (a0.size : Int)) = false := decide_eq_false c3
    have c3b1 : decide (1048576 < a0.size) = false := decide_eq_false (by omega)
    clear c3
    by_cases c4 : (a1.size : Int) > 1048576
    · rw [if_pos c4] at H
      have c4b0 : decide (1048576 < (a1.size : Int)) = true := decide_eq_true c4
      have c4b1 : decide (1048576 < a1.size) = true := decide_eq_true (by omega)
      clear c4
      obtain rfl := Option.some.inj H
      go_enter Try.func7, Try.ntmps7
      go_wp2
      go_ret
      exact ⟨by first | rfl | (simp [errW_none, errW_some] <;> rfl) | (simp [*, errW_none, errW_some] <;> rfl), by repeat (first | (with_reducible first | exact HB.out | apply below_alloc | apply pw_below_drewN | apply below_drew1) | exact HB.out)⟩
    · rw [if_neg c4] at H
      have c4b0 : decide (1048576 < (a1.size : Int)) = false := decide_eq_false c4
      have c4b1 : decide (1048576 < a1.size) = false := decide_eq_false (by omega)
      clear c4
      replace H := Option.bind_eq_some_iff.mp H
      obtain ⟨⟨t101, t102⟩, A50, H⟩ := H
      replace H : ((impl_BothMirrored.f k a0 a1).bind fun bt103 => (if bt103.1 = t101 then (if (bt103.2 != t102) = true then (some false) else (some true)) else (some false))) = some r := H
      have A5 := Aside0.mk A50
      clear A50
      replace H := Option.bind_eq_some_iff.mp H
      obtain ⟨⟨t103, t104⟩, A60, H⟩ := H
      replace H : (if t103 = t101 then (if (t104 != t102) = true then (some false) else (some true)) else (some false)) = some r := H
      have A6 := Aside0.mk A60
      clear A60
      by_cases c7 : t103 = t101
      · rw [if_pos c7] at H
        have c7b0 : (t103 == t101) = true := beq_iff_eq.mpr c7
        have c7b1 : (t103 != t101) = false := bne_eq_false_iff_eq.mpr c7
        clear c7
        by_cases c8 : (t104 != t102) = true
        · rw [if_pos c8] at H
          have c8b0 : (t104 != t102) = true := c8
          (try (have c8b1 : decide (t104 = t102) = false := by simpa using c8))
          (try (have c8b2 : (t104 == t102) = false := by simpa using c8))
          (try (have c8b3 : ¬ (t104 = t102) := by simpa using c8))
          clear c8
          obtain rfl := Option.some.inj H
          go_enter Try.func7, Try.ntmps7
          go_wp2_with (first | ((with_reducible refine gate_callee (f := 19) rfl ?_); refine goesL_ (some 18) rfl rfl Try.func19 (by kernel_rfl) rfl #[.string a0, .string a1] rfl (by (try simp only [List.map_toArray, List.map_cons, List.map_nil]); first | done | rfl | (simp only [List.length_drop, List.length_take]; rfl)) ?_; (with_reducible refine (spec_BothMirrored.calls k a0 a1 t101 t102 _ A5.out).mono ?_); rintro e w9 ⟨rfl, hb⟩; refine ⟨_, rfl, ?_⟩; have n0_ := Aside0.mk (below_step (by repeat (first | (with_reducible first | exact HB.out | apply below_alloc | apply pw_below_drewN | apply below_drew1) | exact HB.out)) hb); clear HB; have HB := n0_; clear n0_; (try clear hb); (try clear hb2); (try clear hk); (try clear hi)) | ((with_reducible refine gate_callee (f := 20) rfl ?_); refine goesL_ (some 24) rfl rfl Try.func20 (by kernel_rfl) rfl #[.string a0, .string a1] rfl (by (try simp only [List.map_toArray, List.map_cons, List.map_nil]); first | done | rfl | (simp only [List.length_drop, List.length_take]; rfl)) ?_; (with_reducible refine (impl_BothMirrored.calls k a0 a1 t103 t104 _ A6.out).mono ?_); rintro e w10 ⟨rfl, hb⟩; refine ⟨_, rfl, ?_⟩; have n0_ := Aside0.mk (below_step (by repeat (first | (with_reducible first | exact HB.out | apply below_alloc | apply pw_below_drewN | apply below_drew1) | exact HB.out)) hb); clear HB; have HB := n0_; clear n0_; (try clear hb); (try clear hb2); (try clear hk); (try clear hi)))
          go_ret
          exact ⟨by first | rfl | (simp [errW_none, errW_some] <;> rfl) | (simp [*, errW_none, errW_some] <;> rfl), by repeat (first | (with_reducible first | exact HB.out | apply below_alloc | apply pw_below_drewN | apply below_drew1) | exact HB.out)⟩
        · rw [if_neg c8] at H
          have c8b0 : (t104 != t102) = false := by simpa using c8
          (try (have c8b1 : decide (t104 = t102) = true := by simpa using c8))
          (try (have c8b2 : (t104 == t102) = true := by simpa using c8))
          clear c8
          obtain rfl := Option.some.inj H
          go_enter Try.func7, Try.ntmps7
          go_wp2_with (first | ((with_reducible refine gate_callee (f := 19) rfl ?_); refine goesL_ (some 18) rfl rfl Try.func19 (by kernel_rfl) rfl #[.string a0, .string a1] rfl (by (try simp only [List.map_toArray, List.map_cons, List.map_nil]); first | done | rfl | (simp only [List.length_drop, List.length_take]; rfl)) ?_; (with_reducible refine (spec_BothMirrored.calls k a0 a1 t101 t102 _ A5.out).mono ?_); rintro e w11 ⟨rfl, hb⟩; refine ⟨_, rfl, ?_⟩; have n0_ := Aside0.mk (below_step (by repeat (first | (with_reducible first | exact HB.out | apply below_alloc | apply pw_below_drewN | apply below_drew1) | exact HB.out)) hb); clear HB; have HB := n0_; clear n0_; (try clear hb); (try clear hb2); (try clear hk); (try clear hi)) | ((with_reducible refine gate_callee (f := 20) rfl ?_); refine goesL_ (some 24) rfl rfl Try.func20 (by kernel_rfl) rfl #[.string a0, .string a1] rfl (by (try simp only [List.map_toArray, List.map_cons, List.map_nil]); first | done | rfl | (simp only [List.length_drop, List.length_take]; rfl)) ?_; (with_reducible refine (impl_BothMirrored.calls k a0 a1 t103 t104 _ A6.out).mono ?_); rintro e w12 ⟨rfl, hb⟩; refine ⟨_, rfl, ?_⟩; have n0_ := Aside0.mk (below_step (by repeat (first | (with_reducible first | exact HB.out | apply below_alloc | apply pw_below_drewN | apply below_drew1) | exact HB.out)) hb); clear HB; have HB := n0_; clear n0_; (try clear hb); (try clear hb2); (try clear hk); (try clear hi)))
          go_ret
          exact ⟨by first | rfl | (simp [errW_none, errW_some] <;> rfl) | (simp [*, errW_none, errW_some] <;> rfl), by repeat (first | (with_reducible first | exact HB.out | apply below_alloc | apply pw_below_drewN | apply below_drew1) | exact HB.out)⟩
      · rw [if_neg c7] at H
        have c7b0 : (t103 == t101) = false := beq_eq_false_iff_ne.mpr c7
        have c7b1 : (t103 != t101) = true := bne_iff_ne.mpr c7
        obtain rfl := Option.some.inj H
        go_enter Try.func7, Try.ntmps7
        go_wp2_with (first | ((with_reducible refine gate_callee (f := 19) rfl ?_); refine goesL_ (some 18) rfl rfl Try.func19 (by kernel_rfl) rfl #[.string a0, .string a1] rfl (by (try simp only [List.map_toArray, List.map_cons, List.map_nil]); first | done | rfl | (simp only [List.length_drop, List.length_take]; rfl)) ?_; (with_reducible refine (spec_BothMirrored.calls k a0 a1 t101 t102 _ A5.out).mono ?_); rintro e w13 ⟨rfl, hb⟩; refine ⟨_, rfl, ?_⟩; have n0_ := Aside0.mk (below_step (by repeat (first | (with_reducible first | exact HB.out | apply below_alloc | apply pw_below_drewN | apply below_drew1) | exact HB.out)) hb); clear HB; have HB := n0_; clear n0_; (try clear hb); (try clear hb2); (try clear hk); (try clear hi)) | ((with_reducible refine gate_callee (f := 20) rfl ?_); refine goesL_ (some 24) rfl rfl Try.func20 (by kernel_rfl) rfl #[.string a0, .string a1] rfl (by (try simp only [List.map_toArray, List.map_cons, List.map_nil]); first | done | rfl | (simp only [List.length_drop, List.length_take]; rfl)) ?_; (with_reducible refine (impl_BothMirrored.calls k a0 a1 t103 t104 _ A6.out).mono ?_); rintro e w14 ⟨rfl, hb⟩; refine ⟨_, rfl, ?_⟩; have n0_ := Aside0.mk (below_step (by repeat (first | (with_reducible first | exact HB.out | apply below_alloc | apply pw_below_drewN | apply below_drew1) | exact HB.out)) hb); clear HB; have HB := n0_; clear n0_; (try clear hb); (try clear hb2); (try clear hk); (try clear hi)))
        go_ret
        exact ⟨by first | rfl | (simp [errW_none, errW_some] <;> rfl) | (simp [*, errW_none, errW_some] <;> rfl), by repeat (first | (with_reducible first | exact HB.out | apply below_alloc | apply pw_below_drewN | apply below_drew1) | exact HB.out)⟩

/-- THE ONE PURE STATEMENT of laws_FnExactBothMirrored: yours. -/
def laws_FnExactBothMirrored.Pure : Prop := ∀ (a0 : ByteArray) (a1 : ByteArray), a0.size ≤ 140737488351232 → a1.size ≤ 140737488351232 → ∃ k, laws_FnExactBothMirrored.f k a0 a1 = some true
theorem laws_FnExactBothMirrored.walk (P : laws_FnExactBothMirrored.Pure) (a0 : ByteArray) (a1 : ByteArray) (w : World) (w0 : a0.size ≤ 140737488351232) (w1 : a1.size ≤ 140737488351232) :
    Calls Try.prog 7 #[.string a0, .string a1] w fun e w' => e = .returned (.bool true) ∧ Below w.heap.size w w' := by
  obtain ⟨k, h⟩ := P a0 a1 w0 w1
  refine (laws_FnExactBothMirrored.calls k a0 a1 true w h).mono ?_
  rintro e w' ⟨rfl, hd⟩
  exact ⟨rfl, hd⟩

end Go.Proofs.Ytpdcjkiejglaiaa.Q

/-
  The library contract of strings.IndexByte at this program: it returns the first place of the byte, or -1.
-/
namespace Go.Proofs
open Go.Shelf
def Try.lays137_ren : Go.Shelf.Ren := ⟨fun | 137 => 68 | 217 => 79 | 266 => 96 | n => n, fun | 9 => 9 | 5 => 5 | 3 => 3 | n => n, fun | n => n⟩
theorem Try.lays137 : Go.Proofs.Lays.n137 Try.prog Try.lays137_ren := {
  mixed := by kernel_rfl
  f137 := Try.func68.trans (congrArg some (by kernel_rfl))
  f217 := Try.func79.trans (congrArg some (by kernel_rfl))
  f266 := Try.func96.trans (congrArg some (by kernel_rfl))
  t3 := Try.underlying3
  a3 := Try.isAgg3
  z3 := Try.sizeOf3
  v3 := Try.zeroValue3
  t5 := Try.underlying5
  a5 := Try.isAgg5
  z5 := Try.sizeOf5
  v5 := Try.zeroValue5
  t9 := Try.underlying9
  a9 := Try.isAgg9
  z9 := Try.sizeOf9
  v9 := Try.zeroValue9 }
open Go.RowKit in
theorem Try.strings_IndexByte (s : ByteArray) (c : Int) (w : World) :
    Calls Try.prog 68 #[.string s, .int .u8 c] w fun e w' => e = .returned (.int .i64 (Lib.indexByte s.data.toList c.toNat.toUInt8)) ∧ w' = w := Any.strings_IndexByte Try.lays137 s c w
end Go.Proofs

/-
  'strings.IndexByte' in the form of the other contracts: it returns the first place of the byte in the text, or -1.
-/
namespace Go.Proofs.Ytpdcjkiejglaiaa.Q
open Go.RowKit Go.Proofs.YtpdcjkiejglaiaaW.PrintWords Go.Proofs.YtpdcjkiejglaiaaW.PrintLast Go.Proofs.YtpdcjkiejglaiaaW.PrintMore

def strings_IndexByte.f (a0 : ByteArray) (a1 : Int) : Option Int := some (Lib.indexByte a0.data.toList a1.toNat.toUInt8)
theorem strings_IndexByte.calls (a0 : ByteArray) (a1 : Int) (r : Int) (w : World) (h : strings_IndexByte.f a0 a1 = some r) :
    Calls Try.prog 68 #[.string a0, .int .u8 a1] w fun e w' => e = .returned (.int .i64 r) ∧ Drawn0 w w' := by
  obtain rfl := Option.some.inj h
  refine (Try.strings_IndexByte a0 a1 w).mono ?_
  rintro e w' ⟨rfl, rfl⟩
  exact ⟨rfl, Drawn0.refl _⟩

end Go.Proofs.Ytpdcjkiejglaiaa.Q

/- Laid by a program of this session (wip/tools/own_print.py) over the translation of this seat: contracts of the functions that the statement reaches. -/
namespace Go.Proofs.Ytpdcjkiejglaiaa.Q
open Go.RowKit Go.Proofs.YtpdcjkiejglaiaaW.PrintWords Go.Proofs.YtpdcjkiejglaiaaW.PrintLast Go.Proofs.YtpdcjkiejglaiaaW.PrintMore
attribute [local go_sem] max2_int min2_int max_two min_two max_three min_three max_four min_four   -- for this text's walks alone
set_option linter.unusedVariables false
set_option linter.unusedSimpArgs false

/-! ### impl_upside: function 67 -/
def impl_upside.j0 : Nat → Int → Int → Bool → Option (Int)
  | 0, _, _, _ => none
  | k + 1, x0, x3, x4 => if x4 = true then (some x0) else (if x3 = 54 then (some 57) else (if x3 = 57 then (some 54) else (some 0)))
def impl_upside.f (k : Nat) (a0 : Int) : Option (Int) := if a0 = 48 then (impl_upside.j0 k a0 a0 (a0 == 48)) else (if a0 = 49 then (impl_upside.j0 k a0 a0 (a0 == 49)) else (impl_upside.j0 k a0 a0 (a0 == 56)))
theorem impl_upside.mono_l : ∀ k, (∀ y0 y1 y2, LeO (impl_upside.j0 k y0 y1 y2) (impl_upside.j0 (k + 1) y0 y1 y2))
  | 0 => fun _ _ _ r h => by simp [impl_upside.j0] at h
  | k + 1 => by
    have ih0 := impl_upside.mono_l k
    · intro y0 y1 y2
      unfold impl_upside.j0
      repeat' first
      | (with_reducible exact ih0 _ _ _)
      | (with_reducible exact LeO.refl _)
      | (with_reducible exact LeO.none _)
      | (with_reducible refine LeO.ite ?_ ?_)
      | (with_reducible refine LeO.bind ?_ (fun _ => ?_))
      | exact ih0 _ _ _
      | exact LeO.none _
      | refine LeO.ite ?_ ?_
      | refine LeO.bind ?_ (fun _ => ?_)
theorem impl_upside.mono : ∀ a0 k, LeO (impl_upside.f k a0) (impl_upside.f (k + 1) a0) := by
  intro a0 k
  have ih0 := impl_upside.mono_l k
  unfold impl_upside.f
  repeat' first
      | (with_reducible exact ih0 _ _ _)
      | (with_reducible exact LeO.refl _)
      | (with_reducible exact LeO.none _)
      | (with_reducible refine LeO.ite ?_ ?_)
      | (with_reducible refine LeO.bind ?_ (fun _ => ?_))
      | exact ih0 _ _ _
      | exact LeO.none _
      | refine LeO.ite ?_ ?_
      | refine LeO.bind ?_ (fun _ => ?_)
set_option maxHeartbeats 8000000 in
set_option maxRecDepth 100000 in
theorem impl_upside.calls (k : Nat) (a0 : Int) (r : Int) (w : World) (h : impl_upside.f k a0 = some r) :
    Calls Try.prog 67 #[.int .u8 a0] w fun e w' => e = .returned (.int .u8 r) ∧ Drawn0 w w' := by
  have H : (if a0 = 48 then (impl_upside.j0 k a0 a0 (a0 == 48)) else (if a0 = 49 then (impl_upside.j0 k a0 a0 (a0 == 49)) else (impl_upside.j0 k a0 a0 (a0 == 56)))) = some r := h
  clear h
  have HC2 := Aside0.mk H
  clear H
  go_enter Try.func67, Try.ntmps67
  go_upto_if 4 with (fail)
  go_cut [4] (fun v4 wc => ∃ (kq : Nat) (x4_1 : Bool), v4 = .bool x4_1 ∧ Aside0 (impl_upside.j0 kq a0 a0 x4_1 = some r) ∧ Aside0 (kq ≤ k) ∧ Drawn0 w wc)
  case first =>
    have H := HC2.out
    clear HC2
    by_cases c3 : a0 = 48
    · rw [if_pos c3] at H
      have c3b0 : (a0 == 48) = true := beq_iff_eq.mpr c3
      have c3b1 : (a0 != 48) = false := bne_eq_false_iff_eq.mpr c3
      clear c3
      (first | rw [c3b0] | (simp only [i64_w, i32_w]; rw [c3b0]) | skip)
      have H' := Aside0.mk H
      clear H
      go_wp2
      go_meet
      case rel => exact ⟨_, ((a0 == 48)), (by first | rfl | (simp; done) | (simp [*]; done)), H', ⟨by first | omega | exact Nat.le_refl _⟩, by repeat (first | exact Drawn0.refl _ | apply Drawn0.step)⟩
    · rw [if_neg c3] at H
      have c3b0 : (a0 == 48) = false := beq_eq_false_iff_ne.mpr c3
      have c3b1 : (a0 != 48) = true := bne_iff_ne.mpr c3
      (first | rw [c3b0] | (simp only [i64_w, i32_w]; rw [c3b0]) | skip)
      by_cases c4 : a0 = 49
      · rw [if_pos c4] at H
        have c4b0 : (a0 == 49) = true := beq_iff_eq.mpr c4
        have c4b1 : (a0 != 49) = false := bne_eq_false_iff_eq.mpr c4
        clear c4
        have H' := Aside0.mk H
        clear H
        go_wp2
        go_meet
        case rel => exact ⟨_, ((a0 == 49)), (by first | rfl | (simp; done) | (simp [*]; done)), H', ⟨by first | omega | exact Nat.le_refl _⟩, by repeat (first | exact Drawn0.refl _ | apply Drawn0.step)⟩
      · rw [if_neg c4] at H
        have c4b0 : (a0 == 49) = false := beq_eq_false_iff_ne.mpr c4
        have c4b1 : (a0 != 49) = true := bne_iff_ne.mpr c4
        have H' := Aside0.mk H
        clear H
        go_wp2
        go_meet
        case rel => exact ⟨_, ((a0 == 56)), (by first | rfl | (simp; done) | (simp [*]; done)), H', ⟨by first | omega | exact Nat.le_refl _⟩, by repeat (first | exact Drawn0.refl _ | apply Drawn0.step)⟩
  case rest =>
    clear HC2
    try clear p2
    try clear c3
    try clear c3b0
    try clear c3b1
    try clear c4
    try clear c4b0
    try clear c4b1
    obtain ⟨kq, x4_1, rfl, HA, HJ1, ⟨mc1, rfl⟩⟩ := hcut
    cases kq with
    | zero => exact absurd HA.out (by simp [impl_upside.j0])
    | succ kj1 =>
      have H := HA.out
      clear HA
      simp only [impl_upside.j0] at H
      by_cases c5 : x4_1 = true
      · subst c5
        have H1 : (some a0) = some r := by rw [if_pos rfl] at H; exact H
        clear H
        have H := H1
        clear H1
        obtain rfl := Option.some.inj H
        go_wp2
        go_ret
        exact ⟨by first | rfl | (simp; done) | (simp [*]; done), by repeat (first | exact Drawn0.refl _ | apply Drawn0.step)⟩
      · replace c5 := Bool.eq_false_iff.mpr c5
        subst c5
        have H1 : (if a0 = 54 then (some 57) else (if a0 = 57 then (some 54) else (some 0))) = some r := by rw [if_neg (show ¬ (false = true) by decide)] at H; exact H
        clear H
        have H := H1
        clear H1
        by_cases c6 : a0 = 54
        · rw [if_pos c6] at H
          have c6b0 : (a0 == 54) = true := beq_iff_eq.mpr c6
          have c6b1 : (a0 != 54) = false := bne_eq_false_iff_eq.mpr c6
          clear c6
          obtain rfl := Option.some.inj H
          go_wp2
          go_ret
          exact ⟨by first | rfl | (simp; done) | (simp [*]; done), by repeat (first | exact Drawn0.refl _ | apply Drawn0.step)⟩
        · rw [if_neg c6] at H
          have c6b0 : (a0 == 54) = false := beq_eq_false_iff_ne.mpr c6
          have c6b1 : (a0 != 54) = true := bne_iff_ne.mpr c6
          by_cases c7 : a0 = 57
          · rw [if_pos c7] at H
            have c7b0 : (a0 == 57) = true := beq_iff_eq.mpr c7
            have c7b1 : (a0 != 57) = false := bne_eq_false_iff_eq.mpr c7
            clear c7
            obtain rfl := Option.some.inj H
            go_wp2
            go_ret
            exact ⟨by first | rfl | (simp; done) | (simp [*]; done), by repeat (first | exact Drawn0.refl _ | apply Drawn0.step)⟩
          · rw [if_neg c7] at H
            have c7b0 : (a0 == 57) = false := beq_eq_false_iff_ne.mpr c7
            have c7b1 : (a0 != 57) = true := bne_iff_ne.mpr c7
            obtain rfl := Option.some.inj H
            go_wp2
            go_ret
            exact ⟨by first | rfl | (simp; done) | (simp [*]; done), by repeat (first | exact Drawn0.refl _ | apply Drawn0.step)⟩

end Go.Proofs.Ytpdcjkiejglaiaa.Q

/-
  'may' (can a text begin a reading of a kind with so many digits): what it returns, kind by kind. Laid by a program of this session; one arm (upside down, two calls in one statement) written by hand.
-/
namespace Go.Proofs.Ytpdcjkiejglaiaa.Q
open Go.RowKit Go.Proofs.YtpdcjkiejglaiaaW.PrintWords Go.Proofs.YtpdcjkiejglaiaaW.PrintLast Go.Proofs.YtpdcjkiejglaiaaW.PrintMore
attribute [local go_sem] max2_int min2_int max_two min_two max_three min_three max_four min_four   -- for this text's walks alone
set_option linter.unusedVariables false
set_option linter.unusedSimpArgs false

/-! ### impl_may: function 61 -/
def impl_may.f (k : Nat) (a0 : Int) (a1 : ByteArray) (a2 : Int) : Option (Bool) := if 0 ≤ (wrap64 ((a1.size : Int) - 1)) then (if (wrap64 ((a1.size : Int) - 1)) < (a1.size : Int) then (if a0 = 97 then (if 0 < (a1.size : Int) then (some ((bt a1 (wrap64 ((a1.size : Int) - 1))) == (bt a1 0))) else (none)) else (if a0 = 109 then (if (wrap64 ((wrap64 (a2 - 1)) - (wrap64 ((a1.size : Int) - 1)))) > (wrap64 ((a1.size : Int) - 1)) then (some true) else (if 0 ≤ (wrap64 ((wrap64 (a2 - 1)) - (wrap64 ((a1.size : Int) - 1)))) then (if (wrap64 ((wrap64 (a2 - 1)) - (wrap64 ((a1.size : Int) - 1)))) < (a1.size : Int) then (some ((bt a1 (wrap64 ((wrap64 (a2 - 1)) - (wrap64 ((a1.size : Int) - 1))))) == (bt a1 (wrap64 ((a1.size : Int) - 1))))) else (none)) else (none))) else (if a0 = 117 then ((impl_upside.f k (bt a1 (wrap64 ((a1.size : Int) - 1)))).bind fun t179 => (if t179 = 0 then (some false) else (if (wrap64 ((wrap64 (a2 - 1)) - (wrap64 ((a1.size : Int) - 1)))) > (wrap64 ((a1.size : Int) - 1)) then (some true) else (if 0 ≤ (wrap64 ((wrap64 (a2 - 1)) - (wrap64 ((a1.size : Int) - 1)))) then (if (wrap64 ((wrap64 (a2 - 1)) - (wrap64 ((a1.size : Int) - 1)))) < (a1.size : Int) then ((impl_upside.f k (bt a1 (wrap64 ((a1.size : Int) - 1)))).bind fun t180 => (some ((bt a1 (wrap64 ((wrap64 (a2 - 1)) - (wrap64 ((a1.size : Int) - 1))))) == t180))) else (none)) else (none))))) else (if a0 = 114 then (if (wrap64 ((a1.size : Int) - 1)) = 0 then (some (decide ((wrap64 ((((bt a1 (wrap64 ((a1.size : Int) - 1))) - 48) % 256) + (wrap64 (a2 - (a1.size : Int))))) ≤ 9))) else (if 0 ≤ (wrap64 ((wrap64 ((a1.size : Int) - 1)) - 1)) then (if (wrap64 ((wrap64 ((a1.size : Int) - 1)) - 1)) < (a1.size : Int) then (if (bt a1 (wrap64 ((wrap64 ((a1.size : Int) - 1)) - 1))) < (bt a1 (wrap64 ((a1.size : Int) - 1))) then (some (decide ((wrap64 ((((bt a1 (wrap64 ((a1.size : Int) - 1))) - 48) % 256) + (wrap64 (a2 - (a1.size : Int))))) ≤ 9))) else (some false)) else (none)) else (none))) else (if a0 = 102 then (if (wrap64 ((a1.size : Int) - 1)) = 0 then (some (decide ((((bt a1 (wrap64 ((a1.size : Int) - 1))) - 48) % 256) ≥ (wrap64 (a2 - (a1.size : Int)))))) else (if 0 ≤ (wrap64 ((wrap64 ((a1.size : Int) - 1)) - 1)) then (if (wrap64 ((wrap64 ((a1.size : Int) - 1)) - 1)) < (a1.size : Int) then (if (bt a1 (wrap64 ((wrap64 ((a1.size : Int) - 1)) - 1))) > (bt a1 (wrap64 ((a1.size : Int) - 1))) then (some (decide ((((bt a1 (wrap64 ((a1.size : Int) - 1))) - 48) % 256) ≥ (wrap64 (a2 - (a1.size : Int)))))) else (some false)) else (none)) else (none))) else (if (wrap64 ((a1.size : Int) - 1)) ≤ (a1.size : Int) then ((strings_IndexByte.f (a1.extract 0 ((wrap64 ((a1.size : Int) - 1)) : Int).toNat) (bt a1 (wrap64 ((a1.size : Int) - 1)))).bind fun t181 => (some (decide (t181 < 0)))) else (none))))))) else (none)) else (none)
theorem impl_may.mono : ∀ a0 a1 a2 k, LeO (impl_may.f k a0 a1 a2) (impl_may.f (k + 1) a0 a1 a2) := by
  intro a0 a1 a2 k
  unfold impl_may.f
  repeat' first
      | (with_reducible exact impl_upside.mono _ _)
      | (with_reducible exact LeO.refl _)
      | (with_reducible exact LeO.none _)
      | (with_reducible refine LeO.ite ?_ ?_)
      | (with_reducible refine LeO.bind ?_ (fun _ => ?_))
      | exact impl_upside.mono _ _
      | exact LeO.none _
      | refine LeO.ite ?_ ?_
      | refine LeO.bind ?_ (fun _ => ?_)
set_option maxHeartbeats 8000000 in
set_option maxRecDepth 100000 in
theorem impl_may.calls (k : Nat) (a0 : Int) (a1 : ByteArray) (a2 : Int) (r : Bool) (w : World) (h : impl_may.f k a0 a1 a2 = some r) :
    Calls Try.prog 61 #[.int .u8 a0, .string a1, .int .i64 a2] w fun e w' => e = .returned (.bool r) ∧ Drawn0 w w' := by
  have H : (if 0 ≤ (wrap64 ((a1.size : Int) - 1)) then (if (wrap64 ((a1.size : Int) - 1)) < (a1.size : Int) then (if a0 = 97 then (if 0 < (a1.size : Int) then (some ((bt a1 (wrap64 ((a1.size : Int) - 1))) == (bt a1 0))) else (none)) else (if a0 = 109 then (if (wrap64 ((wrap64 (a2 - 1)) - (wrap64 ((a1.size : Int) - 1)))) > (wrap64 ((a1.size : Int) - 1)) then (some true) else (if 0 ≤ (wrap64 ((wrap64 (a2 - 1)) - (wrap64 ((a1.size : Int) - 1)))) then (if (wrap64 ((wrap64 (a2 - 1)) - (wrap64 ((a1.size : Int) - 1)))) < (a1.size : Int) then (some ((bt a1 (wrap64 ((wrap64 (a2 - 1)) - (wrap64 ((a1.size : Int) - 1))))) == (bt a1 (wrap64 ((a1.size : Int) - 1))))) else (none)) else (none))) else (if a0 = 117 then ((impl_upside.f k (bt a1 (wrap64 ((a1.size : Int) - 1)))).bind fun t179 => (if t179 = 0 then (some false) else (if (wrap64 ((wrap64 (a2 - 1)) - (wrap64 ((a1.size : Int) - 1)))) > (wrap64 ((a1.size : Int) - 1)) then (some true) else (if 0 ≤ (wrap64 ((wrap64 (a2 - 1)) - (wrap64 ((a1.size : Int) - 1)))) then (if (wrap64 ((wrap64 (a2 - 1)) - (wrap64 ((a1.size : Int) - 1)))) < (a1.size : Int) then ((impl_upside.f k (bt a1 (wrap64 ((a1.size : Int) - 1)))).bind fun t180 => (some ((bt a1 (wrap64 ((wrap64 (a2 - 1)) - (wrap64 ((a1.size : Int) - 1))))) == t180))) else (none)) else (none))))) else (if a0 = 114 then (if (wrap64 ((a1.size : Int) - 1)) = 0 then (some (decide ((wrap64 ((((bt a1 (wrap64 ((a1.size : Int) - 1))) - 48) % 256) + (wrap64 (a2 - (a1.size : Int))))) ≤ 9))) else (if 0 ≤ (wrap64 ((wrap64 ((a1.size : Int) - 1)) - 1)) then (if (wrap64 ((wrap64 ((a1.size : Int) - 1)) - 1)) < (a1.size : Int) then (if (bt a1 (wrap64 ((wrap64 ((a1.size : Int) - 1)) - 1))) < (bt a1 (wrap64 ((a1.size : Int) - 1))) then (some (decide ((wrap64 ((((bt a1 (wrap64 ((a1.size : Int) - 1))) - 48) % 256) + (wrap64 (a2 - (a1.size : Int))))) ≤ 9))) else (some false)) else (none)) else (none))) else (if a0 = 102 then (if (wrap64 ((a1.size : Int) - 1)) = 0 then (some (decide ((((bt a1 (wrap64 ((a1.size : Int) - 1))) - 48) % 256) ≥ (wrap64 (a2 - (a1.size : Int)))))) else (if 0 ≤ (wrap64 ((wrap64 ((a1.size : Int) - 1)) - 1)) then (if (wrap64 ((wrap64 ((a1.size : Int) - 1)) - 1)) < (a1.size : Int) then (if (bt a1 (wrap64 ((wrap64 ((a1.size : Int) - 1)) - 1))) > (bt a1 (wrap64 ((a1.size : Int) - 1))) then (some (decide ((((bt a1 (wrap64 ((a1.size : Int) - 1))) - 48) % 256) ≥ (wrap64 (a2 - (a1.size : Int)))))) else (some false)) else (none)) else (none))) else (if (wrap64 ((a1.size : Int) - 1)) ≤ (a1.size : Int) then ((strings_IndexByte.f (a1.extract 0 ((wrap64 ((a1.size : Int) - 1)) : Int).toNat) (bt a1 (wrap64 ((a1.size : Int) - 1)))).bind fun t181 => (some (decide (t181 < 0)))) else (none))))))) else (none)) else (none)) = some r := h
  clear h
  obtain ⟨ji4, hji4⟩ : ∃ j_ : Int, (wrap64 ((a1.size : Int) - 1)) = j_ := ⟨_, rfl⟩
  replace H : (if 0 ≤ (ji4) then (if (ji4) < (a1.size : Int) then (if a0 = 97 then (if 0 < (a1.size : Int) then (some ((bt a1 (ji4)) == (bt a1 0))) else (none)) else (if a0 = 109 then (if (wrap64 ((wrap64 (a2 - 1)) - (ji4))) > (ji4) then (some true) else (if 0 ≤ (wrap64 ((wrap64 (a2 - 1)) - (ji4))) then (if (wrap64 ((wrap64 (a2 - 1)) - (ji4))) < (a1.size : Int) then (some ((bt a1 (wrap64 ((wrap64 (a2 - 1)) - (ji4)))) == (bt a1 (ji4)))) else (none)) else (none))) else (if a0 = 117 then ((impl_upside.f k (bt a1 (ji4))).bind fun t179 => (if t179 = 0 then (some false) else (if (wrap64 ((wrap64 (a2 - 1)) - (ji4))) > (ji4) then (some true) else (if 0 ≤ (wrap64 ((wrap64 (a2 - 1)) - (ji4))) then (if (wrap64 ((wrap64 (a2 - 1)) - (ji4))) < (a1.size : Int) then ((impl_upside.f k (bt a1 (ji4))).bind fun t180 => (some ((bt a1 (wrap64 ((wrap64 (a2 - 1)) - (ji4)))) == t180))) else (none)) else (none))))) else (if a0 = 114 then (if (ji4) = 0 then (some (decide ((wrap64 ((((bt a1 (ji4)) - 48) % 256) + (wrap64 (a2 - (a1.size : Int))))) ≤ 9))) else (if 0 ≤ (wrap64 ((ji4) - 1)) then (if (wrap64 ((ji4) - 1)) < (a1.size : Int) then (if (bt a1 (wrap64 ((ji4) - 1))) < (bt a1 (ji4)) then (some (decide ((wrap64 ((((bt a1 (ji4)) - 48) % 256) + (wrap64 (a2 - (a1.size : Int))))) ≤ 9))) else (some false)) else (none)) else (none))) else (if a0 = 102 then (if (ji4) = 0 then (some (decide ((((bt a1 (ji4)) - 48) % 256) ≥ (wrap64 (a2 - (a1.size : Int)))))) else (if 0 ≤ (wrap64 ((ji4) - 1)) then (if (wrap64 ((ji4) - 1)) < (a1.size : Int) then (if (bt a1 (wrap64 ((ji4) - 1))) > (bt a1 (ji4)) then (some (decide ((((bt a1 (ji4)) - 48) % 256) ≥ (wrap64 (a2 - (a1.size : Int)))))) else (some false)) else (none)) else (none))) else (if (ji4) ≤ (a1.size : Int) then ((strings_IndexByte.f (a1.extract 0 ((ji4) : Int).toNat) (bt a1 (ji4))).bind fun t181 => (some (decide (t181 < 0)))) else (none))))))) else (none)) else (none)) = some r := by first | (rw [hji4] at H; exact H) | (simp only [hji4] at H ⊢; exact H)
  have hji4w : (IntKind.i64.wrap ((a1.size : Int) - 1)) = ji4 := (i64_w _).trans hji4
  by_cases c5 : 0 ≤ (ji4)
  · rw [if_pos c5] at H
    have c5b0 : decide (0 ≤ (ji4)) = true := decide_eq_true c5
    clear c5
    by_cases c6 : (ji4) < (a1.size : Int)
    · rw [if_pos c6] at H
      have c6b0 : decide ((ji4) < (a1.size : Int)) = true := decide_eq_true c6
      clear c6
      by_cases c8 : a0 = 97
      · rw [if_pos c8] at H
        have c8b0 : (a0 == 97) = true := beq_iff_eq.mpr c8
        have c8b1 : (a0 != 97) = false := bne_eq_false_iff_eq.mpr c8
        clear c8
        by_cases c10 : 0 < (a1.size : Int)
        · rw [if_pos c10] at H
          have c10b0 : decide (0 < (a1.size : Int)) = true := decide_eq_true c10
          have c10b1 : decide (0 < a1.size) = true := decide_eq_true (by omega)
          clear c10
          obtain rfl := Option.some.inj H
          have p7 : 0 ≤ ((ji4) : Int) := of_decide_eq_true (by first | (with_reducible assumption) | assumption)
          have q7 : (ji4) < (a1.size : Int) := of_decide_eq_true (by first | (with_reducible assumption) | assumption)
          have hx7 := bt_at a1 (ji4)
          replace p7 := eq_true p7
          replace q7 := eq_true q7
          have p9 : 0 ≤ ((ji4) : Int) := of_decide_eq_true (by first | (with_reducible assumption) | assumption)
          have q9 : (ji4) < (a1.size : Int) := of_decide_eq_true (by first | (with_reducible assumption) | assumption)
          have hx9 := bt_at a1 (ji4)
          replace p9 := eq_true p9
          replace q9 := eq_true q9
          have p11 : 0 ≤ (0 : Int) := (by omega)
          have q11 : 0 < a1.size := (by have : (0 : Int) < (a1.size : Int) := of_decide_eq_true (by first | (with_reducible assumption) | assumption); omega)
          have hx11 : ∀ h : 0 < a1.size, ((a1[0]'h).toNat : Int) = bt a1 0 := bt_at a1 0
          clear p11
          have qi11 : (0 < (a1.size : Int)) = True := eq_true (of_decide_eq_true (by first | (with_reducible assumption) | assumption))
          replace q11 := eq_true q11
          go_enter Try.func61, Try.ntmps61
          go_wp2
          repeat (go_quiet (fail); try go_wp2)
          go_ret
          exact ⟨by first | rfl | (simp; done) | (simp only [← hji4] <;> (first | rfl | simp)) | (simp [*]; done), by repeat (first | exact Drawn0.refl _ | apply Drawn0.step)⟩
        · rw [if_neg c10] at H
          exact absurd H (by simp)
      · rw [if_neg c8] at H
        have c8b0 : (a0 == 97) = false := beq_eq_false_iff_ne.mpr c8
        have c8b1 : (a0 != 97) = true := bne_iff_ne.mpr c8
        by_cases c12 : a0 = 109
        · rw [if_pos c12] at H
          have c12b0 : (a0 == 109) = true := beq_iff_eq.mpr c12
          have c12b1 : (a0 != 109) = false := bne_eq_false_iff_eq.mpr c12
          clear c12
          by_cases c13 : (wrap64 ((wrap64 (a2 - 1)) - (ji4))) > (ji4)
          · rw [if_pos c13] at H
            have c13b0 : decide ((ji4) < (wrap64 ((wrap64 (a2 - 1)) - (ji4)))) = true := decide_eq_true c13
            clear c13
            obtain rfl := Option.some.inj H
            have p7 : 0 ≤ ((ji4) : Int) := of_decide_eq_true (by first | (with_reducible assumption) | assumption)
            have q7 : (ji4) < (a1.size : Int) := of_decide_eq_true (by first | (with_reducible assumption) | assumption)
            have hx7 := bt_at a1 (ji4)
            replace p7 := eq_true p7
            replace q7 := eq_true q7
            go_enter Try.func61, Try.ntmps61
            go_wp2
            repeat (go_quiet (fail); try go_wp2)
            go_ret
            exact ⟨by first | rfl | (simp; done) | (simp only [← hji4] <;> (first | rfl | simp)) | (simp [*]; done), by repeat (first | exact Drawn0.refl _ | apply Drawn0.step)⟩
          · rw [if_neg c13] at H
            have c13b0 : decide ((ji4) < (wrap64 ((wrap64 (a2 - 1)) - (ji4)))) = false := decide_eq_false c13
            clear c13
            obtain ⟨ji14, hji14⟩ : ∃ j_ : Int, (wrap64 ((wrap64 (a2 - 1)) - (ji4))) = j_ := ⟨_, rfl⟩
            replace H : (if 0 ≤ (ji14) then (if (ji14) < (a1.size : Int) then (some ((bt a1 (ji14)) == (bt a1 (ji4)))) else (none)) else (none)) = some r := by first | (rw [hji14] at H; exact H) | (simp only [hji14] at H ⊢; exact H)
            (try rw [hji14] at c13b0)
            have hji14w : (IntKind.i64.wrap ((wrap64 (a2 - 1)) - (ji4))) = ji14 := (i64_w _).trans hji14
            by_cases c15 : 0 ≤ (ji14)
            · rw [if_pos c15] at H
              have c15b0 : decide (0 ≤ (ji14)) = true := decide_eq_true c15
              clear c15
              by_cases c16 : (ji14) < (a1.size : Int)
              · rw [if_pos c16] at H
                have c16b0 : decide ((ji14) < (a1.size : Int)) = true := decide_eq_true c16
                clear c16
                obtain rfl := Option.some.inj H
                have p7 : 0 ≤ ((ji4) : Int) := of_decide_eq_true (by first | (with_reducible assumption) | assumption)
                have q7 : (ji4) < (a1.size : Int) := of_decide_eq_true (by first | (with_reducible assumption) | assumption)
                have hx7 := bt_at a1 (ji4)
                replace p7 := eq_true p7
                replace q7 := eq_true q7
                have p17 : 0 ≤ ((ji14) : Int) := of_decide_eq_true (by first | (with_reducible assumption) | assumption)
                have q17 : (ji14) < (a1.size : Int) := of_decide_eq_true (by first | (with_reducible assumption) | assumption)
                have hx17 := bt_at a1 (ji14)
                replace p17 := eq_true p17
                replace q17 := eq_true q17
                have p18 : 0 ≤ ((ji4) : Int) := of_decide_eq_true (by first | (with_reducible assumption) | assumption)
                have q18 : (ji4) < (a1.size : Int) := of_decide_eq_true (by first | (with_reducible assumption) | assumption)
                have hx18 := bt_at a1 (ji4)
                replace p18 := eq_true p18
                replace q18 := eq_true q18
                go_enter Try.func61, Try.ntmps61
                go_wp2
                repeat (go_quiet (fail); try go_wp2)
                go_ret
                exact ⟨by first | rfl | (simp; done) | (simp only [← hji4, ← hji14] <;> (first | rfl | simp)) | (simp [*]; done), by repeat (first | exact Drawn0.refl _ | apply Drawn0.step)⟩
              · rw [if_neg c16] at H
                exact absurd H (by simp)
            · rw [if_neg c15] at H
              exact absurd H (by simp)
        · rw [if_neg c12] at H
          have c12b0 : (a0 == 109) = false := beq_eq_false_iff_ne.mpr c12
          have c12b1 : (a0 != 109) = true := bne_iff_ne.mpr c12
          by_cases c19 : a0 = 117
          · rw [if_pos c19] at H
            have c19b0 : (a0 == 117) = true := beq_iff_eq.mpr c19
            have c19b1 : (a0 != 117) = false := bne_eq_false_iff_eq.mpr c19
            clear c19
            replace H := Option.bind_eq_some_iff.mp H
            obtain ⟨t179, A210, H⟩ := H
            replace H : (if t179 = 0 then (some false) else (if (wrap64 ((wrap64 (a2 - 1)) - (ji4))) > (ji4) then (some true) else (if 0 ≤ (wrap64 ((wrap64 (a2 - 1)) - (ji4))) then (if (wrap64 ((wrap64 (a2 - 1)) - (ji4))) < (a1.size : Int) then ((impl_upside.f k (bt a1 (ji4))).bind fun t180 => (some ((bt a1 (wrap64 ((wrap64 (a2 - 1)) - (ji4)))) == t180))) else (none)) else (none)))) = some r := H
            have A21 := Aside0.mk A210
            clear A210
            by_cases c22 : t179 = 0
            · rw [if_pos c22] at H
              have c22b0 : (t179 == 0) = true := beq_iff_eq.mpr c22
              have c22b1 : (t179 != 0) = false := bne_eq_false_iff_eq.mpr c22
              clear c22
              obtain rfl := Option.some.inj H
              have p7 : 0 ≤ ((ji4) : Int) := of_decide_eq_true (by first | (with_reducible assumption) | assumption)
              have q7 : (ji4) < (a1.size : Int) := of_decide_eq_true (by first | (with_reducible assumption) | assumption)
              have hx7 := bt_at a1 (ji4)
              replace p7 := eq_true p7
              replace q7 := eq_true q7
              have p20 : 0 ≤ ((ji4) : Int) := of_decide_eq_true (by first | (with_reducible assumption) | assumption)
              have q20 : (ji4) < (a1.size : Int) := of_decide_eq_true (by first | (with_reducible assumption) | assumption)
              have hx20 := bt_at a1 (ji4)
              replace p20 := eq_true p20
              replace q20 := eq_true q20
              go_enter Try.func61, Try.ntmps61
              go_wp2_with (first | (go_at_call 67; (with_reducible refine (impl_upside.calls k (bt a1 (ji4)) t179 _ A21.out).mono ?_); rintro e w' ⟨rfl, ⟨nd, rfl⟩⟩; (try first | exact ⟨rfl, _, World.drewN_drewN _ _ _⟩ | exact ⟨rfl, _, Eq.trans (World.drewN_drewN _ _ _) (congrArg (World.drewN _) (Nat.add_assoc _ _ _))⟩)))
              repeat (go_quiet (first | (go_at_call 67; (with_reducible refine (impl_upside.calls k (bt a1 (ji4)) t179 _ A21.out).mono ?_); rintro e w' ⟨rfl, ⟨nd, rfl⟩⟩; (try first | exact ⟨rfl, _, World.drewN_drewN _ _ _⟩ | exact ⟨rfl, _, Eq.trans (World.drewN_drewN _ _ _) (congrArg (World.drewN _) (Nat.add_assoc _ _ _))⟩))); try go_wp2_with (first | (go_at_call 67; (with_reducible refine (impl_upside.calls k (bt a1 (ji4)) t179 _ A21.out).mono ?_); rintro e w' ⟨rfl, ⟨nd, rfl⟩⟩; (try first | exact ⟨rfl, _, World.drewN_drewN _ _ _⟩ | exact ⟨rfl, _, Eq.trans (World.drewN_drewN _ _ _) (congrArg (World.drewN _) (Nat.add_assoc _ _ _))⟩))))
              go_ret
              exact ⟨by first | rfl | (simp; done) | (simp only [← hji4] <;> (first | rfl | simp)) | (simp [*]; done), by repeat (first | exact Drawn0.refl _ | apply Drawn0.step)⟩
            · rw [if_neg c22] at H
              have c22b0 : (t179 == 0) = false := beq_eq_false_iff_ne.mpr c22
              have c22b1 : (t179 != 0) = true := bne_iff_ne.mpr c22
              by_cases c23 : (wrap64 ((wrap64 (a2 - 1)) - (ji4))) > (ji4)
              · rw [if_pos c23] at H
                have c23b0 : decide ((ji4) < (wrap64 ((wrap64 (a2 - 1)) - (ji4)))) = true := decide_eq_true c23
                clear c23
                obtain rfl := Option.some.inj H
                have p7 : 0 ≤ ((ji4) : Int) := of_decide_eq_true (by first | (with_reducible assumption) | assumption)
                have q7 : (ji4) < (a1.size : Int) := of_decide_eq_true (by first | (with_reducible assumption) | assumption)
                have hx7 := bt_at a1 (ji4)
                replace p7 := eq_true p7
                replace q7 := eq_true q7
                have p20 : 0 ≤ ((ji4) : Int) := of_decide_eq_true (by first | (with_reducible assumption) | assumption)
                have q20 : (ji4) < (a1.size : Int) := of_decide_eq_true (by first | (with_reducible assumption) | assumption)
                have hx20 := bt_at a1 (ji4)
                replace p20 := eq_true p20
                replace q20 := eq_true q20
                go_enter Try.func61, Try.ntmps61
                go_wp2_with (first | (go_at_call 67; (with_reducible refine (impl_upside.calls k (bt a1 (ji4)) t179 _ A21.out).mono ?_); rintro e w' ⟨rfl, ⟨nd, rfl⟩⟩; (try first | exact ⟨rfl, _, World.drewN_drewN _ _ _⟩ | exact ⟨rfl, _, Eq.trans (World.drewN_drewN _ _ _) (congrArg (World.drewN _) (Nat.add_assoc _ _ _))⟩)))
                repeat (go_quiet (first | (go_at_call 67; (with_reducible refine (impl_upside.calls k (bt a1 (ji4)) t179 _ A21.out).mono ?_); rintro e w' ⟨rfl, ⟨nd, rfl⟩⟩; (try first | exact ⟨rfl, _, World.drewN_drewN _ _ _⟩ | exact ⟨rfl, _, Eq.trans (World.drewN_drewN _ _ _) (congrArg (World.drewN _) (Nat.add_assoc _ _ _))⟩))); try go_wp2_with (first | (go_at_call 67; (with_reducible refine (impl_upside.calls k (bt a1 (ji4)) t179 _ A21.out).mono ?_); rintro e w' ⟨rfl, ⟨nd, rfl⟩⟩; (try first | exact ⟨rfl, _, World.drewN_drewN _ _ _⟩ | exact ⟨rfl, _, Eq.trans (World.drewN_drewN _ _ _) (congrArg (World.drewN _) (Nat.add_assoc _ _ _))⟩))))
                go_ret
                exact ⟨by first | rfl | (simp; done) | (simp only [← hji4] <;> (first | rfl | simp)) | (simp [*]; done), by repeat (first | exact Drawn0.refl _ | apply Drawn0.step)⟩
              · rw [if_neg c23] at H
                have c23b0 : decide ((ji4) < (wrap64 ((wrap64 (a2 - 1)) - (ji4)))) = false := decide_eq_false c23
                clear c23
                obtain ⟨ji24, hji24⟩ : ∃ j_ : Int, (wrap64 ((wrap64 (a2 - 1)) - (ji4))) = j_ := ⟨_, rfl⟩
                replace H : (if 0 ≤ (ji24) then (if (ji24) < (a1.size : Int) then ((impl_upside.f k (bt a1 (ji4))).bind fun t180 => (some ((bt a1 (ji24)) == t180))) else (none)) else (none)) = some r := by first | (rw [hji24] at H; exact H) | (simp only [hji24] at H ⊢; exact H)
                (try rw [hji24] at c23b0)
                (try rw [hji24] at A21)
                have hji24w : (IntKind.i64.wrap ((wrap64 (a2 - 1)) - (ji4))) = ji24 := (i64_w _).trans hji24
                by_cases c25 : 0 ≤ (ji24)
                · rw [if_pos c25] at H
                  have c25b0 : decide (0 ≤ (ji24)) = true := decide_eq_true c25
                  clear c25
                  by_cases c26 : (ji24) < (a1.size : Int)
                  · rw [if_pos c26] at H
                    have c26b0 : decide ((ji24) < (a1.size : Int)) = true := decide_eq_true c26
                    clear c26
                    replace H := Option.bind_eq_some_iff.mp H
                    obtain ⟨t180, A290, H⟩ := H
                    replace H : (some ((bt a1 (ji24)) == t180)) = some r := H
                    have A29 := Aside0.mk A290
                    clear A290
                    obtain rfl := Option.some.inj H
                    have p7 : 0 ≤ ((ji4) : Int) := of_decide_eq_true (by first | (with_reducible assumption) | assumption)
                    have q7 : (ji4) < (a1.size : Int) := of_decide_eq_true (by first | (with_reducible assumption) | assumption)
                    have hx7 := bt_at a1 (ji4)
                    replace p7 := eq_true p7
                    replace q7 := eq_true q7
                    have p20 : 0 ≤ ((ji4) : Int) := of_decide_eq_true (by first | (with_reducible assumption) | assumption)
                    have q20 : (ji4) < (a1.size : Int) := of_decide_eq_true (by first | (with_reducible assumption) | assumption)
                    have hx20 := bt_at a1 (ji4)
                    replace p20 := eq_true p20
                    replace q20 := eq_true q20
                    obtain rfl : t180 = t179 := Option.some.inj (A29.out.symm.trans A21.out)
                    have hx27 := bt_at a1 (ji24)
                    have p27 : 0 ≤ ((ji24) : Int) := of_decide_eq_true (by first | (with_reducible assumption) | assumption)
                    have q27 : (ji24) < (a1.size : Int) := of_decide_eq_true (by first | (with_reducible assumption) | assumption)
                    replace p27 := eq_true p27
                    replace q27 := eq_true q27
                    go_enter Try.func61, Try.ntmps61
                    go_wp2_with (fail)
                    go_quiet ((go_at_call 67; (with_reducible refine (impl_upside.calls k (bt a1 (ji4)) t180 _ A21.out).mono ?_); rintro e w' ⟨rfl, ⟨nd, rfl⟩⟩; first | exact ⟨rfl, _, World.drewN_drewN _ _ _⟩ | exact ⟨rfl, _, Eq.trans (World.drewN_drewN _ _ _) (congrArg (World.drewN _) (Nat.add_assoc _ _ _))⟩))
                    go_wp2
                    go_ret
                    exact ⟨by first | rfl | (simp; done) | (simp only [← hji4, ← hji24] <;> (first | rfl | simp)) | (simp [*]; done), by repeat (first | exact Drawn0.refl _ | apply Drawn0.step)⟩
                  · rw [if_neg c26] at H
                    exact absurd H (by simp)
                · rw [if_neg c25] at H
                  exact absurd H (by simp)
          · rw [if_neg c19] at H
            have c19b0 : (a0 == 117) = false := beq_eq_false_iff_ne.mpr c19
            have c19b1 : (a0 != 117) = true := bne_iff_ne.mpr c19
            by_cases c30 : a0 = 114
            · rw [if_pos c30] at H
              have c30b0 : (a0 == 114) = true := beq_iff_eq.mpr c30
              have c30b1 : (a0 != 114) = false := bne_eq_false_iff_eq.mpr c30
              clear c30
              by_cases c31 : (ji4) = 0
              · rw [if_pos c31] at H
                have c31b0 : ((ji4) == 0) = true := beq_iff_eq.mpr c31
                have c31b1 : ((ji4) != 0) = false := bne_eq_false_iff_eq.mpr c31
                clear c31
                obtain rfl := Option.some.inj H
                have p7 : 0 ≤ ((ji4) : Int) := of_decide_eq_true (by first | (with_reducible assumption) | assumption)
                have q7 : (ji4) < (a1.size : Int) := of_decide_eq_true (by first | (with_reducible assumption) | assumption)
                have hx7 := bt_at a1 (ji4)
                replace p7 := eq_true p7
                replace q7 := eq_true q7
                go_enter Try.func61, Try.ntmps61
                go_wp2
                repeat (go_quiet (fail); try go_wp2)
                go_ret
                exact ⟨by first | rfl | (simp; done) | (simp only [← hji4] <;> (first | rfl | simp)) | (simp [*]; done), by repeat (first | exact Drawn0.refl _ | apply Drawn0.step)⟩
              · rw [if_neg c31] at H
                have c31b0 : ((ji4) == 0) = false := beq_eq_false_iff_ne.mpr c31
                have c31b1 : ((ji4) != 0) = true := bne_iff_ne.mpr c31
                obtain ⟨ji32, hji32⟩ : ∃ j_ : Int, (wrap64 ((ji4) - 1)) = j_ := ⟨_, rfl⟩
                replace H : (if 0 ≤ (ji32) then (if (ji32) < (a1.size : Int) then (if (bt a1 (ji32)) < (bt a1 (ji4)) then (some (decide ((wrap64 ((((bt a1 (ji4)) - 48) % 256) + (wrap64 (a2 - (a1.size : Int))))) ≤ 9))) else (some false)) else (none)) else (none)) = some r := by first | (rw [hji32] at H; exact H) | (simp only [hji32] at H ⊢; exact H)
                have hji32w : (IntKind.i64.wrap ((ji4) - 1)) = ji32 := (i64_w _).trans hji32
                by_cases c33 : 0 ≤ (ji32)
                · rw [if_pos c33] at H
                  have c33b0 : decide (0 ≤ (ji32)) = true := decide_eq_true c33
                  clear c33
                  by_cases c34 : (ji32) < (a1.size : Int)
                  · rw [if_pos c34] at H
                    have c34b0 : decide ((ji32) < (a1.size : Int)) = true := decide_eq_true c34
                    clear c34
                    by_cases c37 : (bt a1 (ji32)) < (bt a1 (ji4))
                    · rw [if_pos c37] at H
                      have c37b0 : decide ((bt a1 (ji32)) < (bt a1 (ji4))) = true := decide_eq_true c37
                      clear c37
                      obtain rfl := Option.some.inj H
                      have p7 : 0 ≤ ((ji4) : Int) := of_decide_eq_true (by first | (with_reducible assumption) | assumption)
                      have q7 : (ji4) < (a1.size : Int) := of_decide_eq_true (by first | (with_reducible assumption) | assumption)
                      have hx7 := bt_at a1 (ji4)
                      replace p7 := eq_true p7
                      replace q7 := eq_true q7
                      have p35 : 0 ≤ ((ji32) : Int) := of_decide_eq_true (by first | (with_reducible assumption) | assumption)
                      have q35 : (ji32) < (a1.size : Int) := of_decide_eq_true (by first | (with_reducible assumption) | assumption)
                      have hx35 := bt_at a1 (ji32)
                      replace p35 := eq_true p35
                      replace q35 := eq_true q35
                      have p36 : 0 ≤ ((ji4) : Int) := of_decide_eq_true (by first | (with_reducible assumption) | assumption)
                      have q36 : (ji4) < (a1.size : Int) := of_decide_eq_true (by first | (with_reducible assumption) | assumption)
                      have hx36 := bt_at a1 (ji4)
                      replace p36 := eq_true p36
                      replace q36 := eq_true q36
                      go_enter Try.func61, Try.ntmps61
                      go_wp2
                      repeat (go_quiet (fail); try go_wp2)
                      go_ret
                      exact ⟨by first | rfl | (simp; done) | (simp only [← hji4, ← hji32] <;> (first | rfl | simp)) | (simp [*]; done), by repeat (first | exact Drawn0.refl _ | apply Drawn0.step)⟩
                    · rw [if_neg c37] at H
                      have c37b0 : decide ((bt a1 (ji32)) < (bt a1 (ji4))) = false := decide_eq_false c37
                      clear c37
                      obtain rfl := Option.some.inj H
                      have p7 : 0 ≤ ((ji4) : Int) := of_decide_eq_true (by first | (with_reducible assumption) | assumption)
                      have q7 : (ji4) < (a1.size : Int) := of_decide_eq_true (by first | (with_reducible assumption) | assumption)
                      have hx7 := bt_at a1 (ji4)
                      replace p7 := eq_true p7
                      replace q7 := eq_true q7
                      have p35 : 0 ≤ ((ji32) : Int) := of_decide_eq_true (by first | (with_reducible assumption) | assumption)
                      have q35 : (ji32) < (a1.size : Int) := of_decide_eq_true (by first | (with_reducible assumption) | assumption)
                      have hx35 := bt_at a1 (ji32)
                      replace p35 := eq_true p35
                      replace q35 := eq_true q35
                      have p36 : 0 ≤ ((ji4) : Int) := of_decide_eq_true (by first | (with_reducible assumption) | assumption)
                      have q36 : (ji4) < (a1.size : Int) := of_decide_eq_true (by first | (with_reducible assumption) | assumption)
                      have hx36 := bt_at a1 (ji4)
                      replace p36 := eq_true p36
                      replace q36 := eq_true q36
                      go_enter Try.func61, Try.ntmps61
                      go_wp2
                      repeat (go_quiet (fail); try go_wp2)
                      go_ret
                      exact ⟨by first | rfl | (simp; done) | (simp only [← hji4, ← hji32] <;> (first | rfl | simp)) | (simp [*]; done), by repeat (first | exact Drawn0.refl _ | apply Drawn0.step)⟩
                  · rw [if_neg c34] at H
                    exact absurd H (by simp)
                · rw [if_neg c33] at H
                  exact absurd H (by simp)
            · rw [if_neg c30] at H
              have c30b0 : (a0 == 114) = false := beq_eq_false_iff_ne.mpr c30
              have c30b1 : (a0 != 114) = true := bne_iff_ne.mpr c30
              by_cases c38 : a0 = 102
              · rw [if_pos c38] at H
                have c38b0 : (a0 == 102) = true := beq_iff_eq.mpr c38
                have c38b1 : (a0 != 102) = false := bne_eq_false_iff_eq.mpr c38
                clear c38
                by_cases c39 : (ji4) = 0
                · rw [if_pos c39] at H
                  have c39b0 : ((ji4) == 0) = true := beq_iff_eq.mpr c39
                  have c39b1 : ((ji4) != 0) = false := bne_eq_false_iff_eq.mpr c39
                  clear c39
                  obtain rfl := Option.some.inj H
                  have p7 : 0 ≤ ((ji4) : Int) := of_decide_eq_true (by first | (with_reducible assumption) | assumption)
                  have q7 : (ji4) < (a1.size : Int) := of_decide_eq_true (by first | (with_reducible assumption) | assumption)
                  have hx7 := bt_at a1 (ji4)
                  replace p7 := eq_true p7
                  replace q7 := eq_true q7
                  go_enter Try.func61, Try.ntmps61
                  go_wp2
                  repeat (go_quiet (fail); try go_wp2)
                  go_ret
                  exact ⟨by first | rfl | (simp; done) | (simp only [← hji4] <;> (first | rfl | simp)) | (simp [*]; done), by repeat (first | exact Drawn0.refl _ | apply Drawn0.step)⟩
                · rw [if_neg c39] at H
                  have c39b0 : ((ji4) == 0) = false := beq_eq_false_iff_ne.mpr c39
                  have c39b1 : ((ji4) != 0) = true := bne_iff_ne.mpr c39
                  obtain ⟨ji40, hji40⟩ : ∃ j_ : Int, (wrap64 ((ji4) - 1)) = j_ := ⟨_, rfl⟩
                  replace H : (if 0 ≤ (ji40) then (if (ji40) < (a1.size : Int) then (if (bt a1 (ji40)) > (bt a1 (ji4)) then (some (decide ((((bt a1 (ji4)) - 48) % 256) ≥ (wrap64 (a2 - (a1.size : Int)))))) else (some false)) else (none)) else (none)) = some r := by first | (rw [hji40] at H; exact H) | (simp only [hji40] at H ⊢; exact H)
                  have hji40w : (IntKind.i64.wrap ((ji4) - 1)) = ji40 := (i64_w _).trans hji40
                  by_cases c41 : 0 ≤ (ji40)
                  · rw [if_pos c41] at H
                    have c41b0 : decide (0 ≤ (ji40)) = true := decide_eq_true c41
                    clear c41
                    by_cases c42 : (ji40) < (a1.size : Int)
                    · rw [if_pos c42] at H
                      have c42b0 : decide ((ji40) < (a1.size : Int)) = true := decide_eq_true c42
                      clear c42
                      by_cases c45 : (bt a1 (ji40)) > (bt a1 (ji4))
                      · rw [if_pos c45] at H
                        have c45b0 : decide ((bt a1 (ji4)) < (bt a1 (ji40))) = true := decide_eq_true c45
                        clear c45
                        obtain rfl := Option.some.inj H
                        have p7 : 0 ≤ ((ji4) : Int) := of_decide_eq_true (by first | (with_reducible assumption) | assumption)
                        have q7 : (ji4) < (a1.size : Int) := of_decide_eq_true (by first | (with_reducible assumption) | assumption)
                        have hx7 := bt_at a1 (ji4)
                        replace p7 := eq_true p7
                        replace q7 := eq_true q7
                        have p43 : 0 ≤ ((ji40) : Int) := of_decide_eq_true (by first | (with_reducible assumption) | assumption)
                        have q43 : (ji40) < (a1.size : Int) := of_decide_eq_true (by first | (with_reducible assumption) | assumption)
                        have hx43 := bt_at a1 (ji40)
                        replace p43 := eq_true p43
                        replace q43 := eq_true q43
                        have p44 : 0 ≤ ((ji4) : Int) := of_decide_eq_true (by first | (with_reducible assumption) | assumption)
                        have q44 : (ji4) < (a1.size : Int) := of_decide_eq_true (by first | (with_reducible assumption) | assumption)
                        have hx44 := bt_at a1 (ji4)
                        replace p44 := eq_true p44
                        replace q44 := eq_true q44
                        go_enter Try.func61, Try.ntmps61
                        go_wp2
                        repeat (go_quiet (fail); try go_wp2)
                        go_ret
                        exact ⟨by first | rfl | (simp; done) | (simp only [← hji4, ← hji40] <;> (first | rfl | simp)) | (simp [*]; done), by repeat (first | exact Drawn0.refl _ | apply Drawn0.step)⟩
                      · rw [if_neg c45] at H
                        have c45b0 : decide ((bt a1 (ji4)) < (bt a1 (ji40))) = false := decide_eq_false c45
                        clear c45
                        obtain rfl := Option.some.inj H
                        have p7 : 0 ≤ ((ji4) : Int) := of_decide_eq_true (by first | (with_reducible assumption) | assumption)
                        have q7 : (ji4) < (a1.size : Int) := of_decide_eq_true (by first | (with_reducible assumption) | assumption)
                        have hx7 := bt_at a1 (ji4)
                        replace p7 := eq_true p7
                        replace q7 := eq_true q7
                        have p43 : 0 ≤ ((ji40) : Int) := of_decide_eq_true (by first | (with_reducible assumption) | assumption)
                        have q43 : (ji40) < (a1.size : Int) := of_decide_eq_true (by first | (with_reducible assumption) | assumption)
                        have hx43 := bt_at a1 (ji40)
                        replace p43 := eq_true p43
                        replace q43 := eq_true q43
                        have p44 : 0 ≤ ((ji4) : Int) := of_decide_eq_true (by first | (with_reducible assumption) | assumption)
                        have q44 : (ji4) < (a1.size : Int) := of_decide_eq_true (by first | (with_reducible assumption) | assumption)
                        have hx44 := bt_at a1 (ji4)
                        replace p44 := eq_true p44
                        replace q44 := eq_true q44
                        go_enter Try.func61, Try.ntmps61
                        go_wp2
                        repeat (go_quiet (fail); try go_wp2)
                        go_ret
                        exact ⟨by first | rfl | (simp; done) | (simp only [← hji4, ← hji40] <;> (first | rfl | simp)) | (simp [*]; done), by repeat (first | exact Drawn0.refl _ | apply Drawn0.step)⟩
                    · rw [if_neg c42] at H
                      exact absurd H (by simp)
                  · rw [if_neg c41] at H
                    exact absurd H (by simp)
              · rw [if_neg c38] at H
                have c38b0 : (a0 == 102) = false := beq_eq_false_iff_ne.mpr c38
                have c38b1 : (a0 != 102) = true := bne_iff_ne.mpr c38
                have c46b0 := eq_true (of_decide_eq_true (by first | (with_reducible assumption) | assumption) : 0 ≤ (ji4))
                by_cases c47 : (ji4) ≤ (a1.size : Int)
                · rw [if_pos c47] at H
                  have c47b0 := eq_true c47
                  have c47b1 : decide ((ji4) ≤ (a1.size : Int)) = true := decide_eq_true c47
                  clear c47
                  replace H := Option.bind_eq_some_iff.mp H
                  obtain ⟨t181, A490, H⟩ := H
                  replace H : (some (decide (t181 < 0))) = some r := H
                  have A49 := Aside0.mk A490
                  clear A490
                  obtain rfl := Option.some.inj H
                  have p7 : 0 ≤ ((ji4) : Int) := of_decide_eq_true (by first | (with_reducible assumption) | assumption)
                  have q7 : (ji4) < (a1.size : Int) := of_decide_eq_true (by first | (with_reducible assumption) | assumption)
                  have hx7 := bt_at a1 (ji4)
                  replace p7 := eq_true p7
                  replace q7 := eq_true q7
                  have p48 : 0 ≤ ((ji4) : Int) := of_decide_eq_true (by first | (with_reducible assumption) | assumption)
                  have q48 : (ji4) < (a1.size : Int) := of_decide_eq_true (by first | (with_reducible assumption) | assumption)
                  have hx48 := bt_at a1 (ji4)
                  replace p48 := eq_true p48
                  replace q48 := eq_true q48
                  go_enter Try.func61, Try.ntmps61
                  go_wp2_with (first | (go_at_call 68; (with_reducible refine (strings_IndexByte.calls (a1.extract 0 ((ji4) : Int).toNat) (bt a1 (ji4)) t181 _ A49.out).mono ?_); rintro e w' ⟨rfl, ⟨nd, rfl⟩⟩; (try first | exact ⟨rfl, _, World.drewN_drewN _ _ _⟩ | exact ⟨rfl, _, Eq.trans (World.drewN_drewN _ _ _) (congrArg (World.drewN _) (Nat.add_assoc _ _ _))⟩)))
                  repeat (go_quiet (first | (go_at_call 68; (with_reducible refine (strings_IndexByte.calls (a1.extract 0 ((ji4) : Int).toNat) (bt a1 (ji4)) t181 _ A49.out).mono ?_); rintro e w' ⟨rfl, ⟨nd, rfl⟩⟩; (try first | exact ⟨rfl, _, World.drewN_drewN _ _ _⟩ | exact ⟨rfl, _, Eq.trans (World.drewN_drewN _ _ _) (congrArg (World.drewN _) (Nat.add_assoc _ _ _))⟩))); try go_wp2_with (first | (go_at_call 68; (with_reducible refine (strings_IndexByte.calls (a1.extract 0 ((ji4) : Int).toNat) (bt a1 (ji4)) t181 _ A49.out).mono ?_); rintro e w' ⟨rfl, ⟨nd, rfl⟩⟩; (try first | exact ⟨rfl, _, World.drewN_drewN _ _ _⟩ | exact ⟨rfl, _, Eq.trans (World.drewN_drewN _ _ _) (congrArg (World.drewN _) (Nat.add_assoc _ _ _))⟩))))
                  go_ret
                  exact ⟨by first | rfl | (simp; done) | (simp only [← hji4] <;> (first | rfl | simp)) | (simp [*]; done), by repeat (first | exact Drawn0.refl _ | apply Drawn0.step)⟩
                · rw [if_neg c47] at H
                  exact absurd H (by simp)
    · rw [if_neg c6] at H
      exact absurd H (by simp)
  · rw [if_neg c5] at H
    exact absurd H (by simp)

end Go.Proofs.Ytpdcjkiejglaiaa.Q

/- Laid by a program of this session (wip/tools/own_print.py) over the translation of this seat: contracts of the functions that the statement reaches. -/
namespace Go.Proofs.Ytpdcjkiejglaiaa.Q
open Go.RowKit Go.Proofs.YtpdcjkiejglaiaaW.PrintWords Go.Proofs.YtpdcjkiejglaiaaW.PrintLast Go.Proofs.YtpdcjkiejglaiaaW.PrintMore
attribute [local go_sem] max2_int min2_int max_two min_two max_three min_three max_four min_four   -- for this text's walks alone
set_option linter.unusedVariables false
set_option linter.unusedSimpArgs false

/-! ### impl_isOf: function 37 -/
def impl_isOf.l0 : Nat → Int → ByteArray → Int → Int → Option (Bool)
  | 0, _, _, _, _ => none
  | k + 1, x0, x1, x7, x8 => if x8 < x7 then (if 0 ≤ (wrap64 (x8 + 1)) then (if (wrap64 (x8 + 1)) ≤ (x1.size : Int) then ((impl_may.f k x0 (x1.extract 0 ((wrap64 (x8 + 1)) : Int).toNat) (x1.size : Int)).bind fun t101 => (if t101 = true then (impl_isOf.l0 k x0 x1 x7 (wrap64 (x8 + 1))) else (some false))) else (none)) else (none)) else (some true)
def impl_isOf.f (k : Nat) (a0 : Int) (a1 : ByteArray) : Option (Bool) := impl_isOf.l0 k a0 a1 (a1.size : Int) 0
theorem impl_isOf.mono_l : ∀ k, (∀ y0 y1 y2 y3, LeO (impl_isOf.l0 k y0 y1 y2 y3) (impl_isOf.l0 (k + 1) y0 y1 y2 y3))
  | 0 => fun _ _ _ _ r h => by simp [impl_isOf.l0] at h
  | k + 1 => by
    have ih0 := impl_isOf.mono_l k
    · intro y0 y1 y2 y3
      unfold impl_isOf.l0
      repeat' first
      | (with_reducible exact ih0 _ _ _ _)
      | (with_reducible exact impl_may.mono _ _ _ _)
      | (with_reducible exact LeO.refl _)
      | (with_reducible exact LeO.none _)
      | (with_reducible refine LeO.ite ?_ ?_)
      | (with_reducible refine LeO.bind ?_ (fun _ => ?_))
      | exact ih0 _ _ _ _
      | exact impl_may.mono _ _ _ _
      | exact LeO.none _
      | refine LeO.ite ?_ ?_
      | refine LeO.bind ?_ (fun _ => ?_)
theorem impl_isOf.mono : ∀ a0 a1 k, LeO (impl_isOf.f k a0 a1) (impl_isOf.f (k + 1) a0 a1) := by
  intro a0 a1 k
  have ih0 := impl_isOf.mono_l k
  unfold impl_isOf.f
  repeat' first
      | (with_reducible exact ih0 _ _ _ _)
      | (with_reducible exact impl_may.mono _ _ _ _)
      | (with_reducible exact LeO.refl _)
      | (with_reducible exact LeO.none _)
      | (with_reducible refine LeO.ite ?_ ?_)
      | (with_reducible refine LeO.bind ?_ (fun _ => ?_))
      | exact ih0 _ _ _ _
      | exact impl_may.mono _ _ _ _
      | exact LeO.none _
      | refine LeO.ite ?_ ?_
      | refine LeO.bind ?_ (fun _ => ?_)
set_option maxHeartbeats 8000000 in
set_option maxRecDepth 100000 in
theorem impl_isOf.calls (k : Nat) (a0 : Int) (a1 : ByteArray) (r : Bool) (w : World) (h : impl_isOf.f k a0 a1 = some r) :
    Calls Try.prog 37 #[.int .u8 a0, .string a1] w fun e w' => e = .returned (.bool r) ∧ Drawn0 w w' := by
  have H : (impl_isOf.l0 k a0 a1 (a1.size : Int) 0) = some r := h
  clear h
  have H' := Aside0.mk H
  clear H
  go_enter Try.func37, Try.ntmps37
  go_wp2
  go_loopg [8] k (fun kq v8 w' => ∃ (x8_1 : Int), v8 = .int .i64 x8_1 ∧ Aside0 (impl_isOf.l0 kq a0 a1 (a1.size : Int) x8_1 = some r) ∧ Aside0 (kq ≤ k) ∧ Drawn0 w w')
  case atStart => exact ⟨(0), (by first | rfl | (simp; done) | (simp [*]; done)), H', ⟨Nat.le_refl _⟩, by repeat (first | exact Drawn0.refl _ | apply Drawn0.step)⟩
  case round =>
    clear H'
    try clear p2
    obtain ⟨x8_1, rfl, HA, HK1, ⟨m1, rfl⟩⟩ := hrel
    cases gk with
    | zero => exact absurd HA.out (by simp [impl_isOf.l0])
    | succ k1 =>
      have H := HA.out
      clear HA
      simp only [impl_isOf.l0] at H
      by_cases c3 : x8_1 < (a1.size : Int)
      · rw [if_pos c3] at H
        have c3b0 : decide (x8_1 < (a1.size : Int)) = true := decide_eq_true c3
        clear c3
        obtain ⟨ji4, hji4⟩ : ∃ j_ : Int, (wrap64 (x8_1 + 1)) = j_ := ⟨_, rfl⟩
        replace H : (if 0 ≤ (ji4) then (if (ji4) ≤ (a1.size : Int) then ((impl_may.f k1 a0 (a1.extract 0 ((ji4) : Int).toNat) (a1.size : Int)).bind fun t101 => (if t101 = true then (impl_isOf.l0 k1 a0 a1 (a1.size : Int) ji4) else (some false))) else (none)) else (none)) = some r := by first | (rw [hji4] at H; exact H) | (simp only [hji4] at H ⊢; exact H)
        have hji4w : (IntKind.i64.wrap (x8_1 + 1)) = ji4 := (i64_w _).trans hji4
        by_cases c5 : 0 ≤ (ji4)
        · rw [if_pos c5] at H
          have c5b0 := eq_true c5
          have c5b1 : decide (0 ≤ (ji4)) = true := decide_eq_true c5
          clear c5
          by_cases c6 : (ji4) ≤ (a1.size : Int)
          · rw [if_pos c6] at H
            have c6b0 := eq_true c6
            have c6b1 : decide ((ji4) ≤ (a1.size : Int)) = true := decide_eq_true c6
            clear c6
            replace H := Option.bind_eq_some_iff.mp H
            obtain ⟨t101, A70, H⟩ := H
            replace H : (if t101 = true then (impl_isOf.l0 k1 a0 a1 (a1.size : Int) ji4) else (some false)) = some r := H
            have A7 := Aside0.mk A70
            clear A70
            by_cases c8 : t101 = true
            · subst c8
              have H1 : (impl_isOf.l0 k1 a0 a1 (a1.size : Int) ji4) = some r := by rw [if_pos rfl] at H; exact H
              clear H
              have H := H1
              clear H1
              have H' := Aside0.mk H
              clear H
              go_wp2_with (first | ((with_reducible refine gate_callee (f := 61) rfl ?_); refine goesL_ (some 18) rfl rfl Try.func61 (by kernel_rfl) rfl #[.int .u8 a0, .string (a1.extract 0 ((ji4) : Int).toNat), .int .i64 (a1.size : Int)] rfl (by (try simp only [List.map_toArray, List.map_cons, List.map_nil]); first | done | (simp only [hji4]; rfl) | rfl | (simp only [List.length_drop, List.length_take]; rfl)) ?_; (with_reducible refine (impl_may.calls k1 a0 (a1.extract 0 ((ji4) : Int).toNat) (a1.size : Int) true _ A7.out).mono ?_); rintro e w' ⟨rfl, ⟨nd, rfl⟩⟩; refine ⟨_, rfl, ?_⟩))
              go_roundg k1
              case measure => have := HK1.out; omega
              case rel => exact ⟨(ji4), (by first | rfl | (simp; done) | (simp only [← hji4] <;> (first | rfl | simp)) | (simp [*]; done)), H', ⟨by have := HK1.out; omega⟩, by repeat (first | exact Drawn0.refl _ | apply Drawn0.step)⟩
            · replace c8 := Bool.eq_false_iff.mpr c8
              subst c8
              have H1 : (some false) = some r := by rw [if_neg (show ¬ (false = true) by decide)] at H; exact H
              clear H
              have H := H1
              clear H1
              obtain rfl := Option.some.inj H
              go_wp2_with (first | ((with_reducible refine gate_callee (f := 61) rfl ?_); refine goesL_ (some 18) rfl rfl Try.func61 (by kernel_rfl) rfl #[.int .u8 a0, .string (a1.extract 0 ((ji4) : Int).toNat), .int .i64 (a1.size : Int)] rfl (by (try simp only [List.map_toArray, List.map_cons, List.map_nil]); first | done | (simp only [hji4]; rfl) | rfl | (simp only [List.length_drop, List.length_take]; rfl)) ?_; (with_reducible refine (impl_may.calls k1 a0 (a1.extract 0 ((ji4) : Int).toNat) (a1.size : Int) false _ A7.out).mono ?_); rintro e w' ⟨rfl, ⟨nd, rfl⟩⟩; refine ⟨_, rfl, ?_⟩))
              go_ret
              exact ⟨by first | rfl | (simp; done) | (simp only [← hji4] <;> (first | rfl | simp)) | (simp [*]; done), by repeat (first | exact Drawn0.refl _ | apply Drawn0.step)⟩
          · rw [if_neg c6] at H
            exact absurd H (by simp)
        · rw [if_neg c5] at H
          exact absurd H (by simp)
      · rw [if_neg c3] at H
        have c3b0 : decide (x8_1 < (a1.size : Int)) = false := decide_eq_false c3
        clear c3
        obtain rfl := Option.some.inj H
        go_wp2
        go_ret
        exact ⟨by first | rfl | (simp; done) | (simp [*]; done), by repeat (first | exact Drawn0.refl _ | apply Drawn0.step)⟩

end Go.Proofs.Ytpdcjkiejglaiaa.Q

/-
  What 'may' and 'isOf' of the program return, in plain words.
-/
namespace Go.Proofs.Ytpdcjkiejglaiaa.Q
open Go.RowKit Go.Proofs.YtpdcjkiejglaiaaW.PrintWords Go.Proofs.YtpdcjkiejglaiaaW.PrintLast Go.Proofs.YtpdcjkiejglaiaaW.PrintMore
set_option linter.unusedVariables false
set_option linter.unusedSimpArgs false

theorem newTo_iff (s : ByteArray) (i : Nat) : ∀ k, newTo s i k = true ↔ ∀ j : Nat, j < k → bt s j ≠ bt s i
  | 0 => by simp [newTo]
  | k + 1 => by
    simp only [newTo, Bool.and_eq_true, newTo_iff s i k, bne_iff_ne]
    constructor
    · rintro ⟨h1, h2⟩ j hj
      by_cases e : j = k
      · rw [e]; exact h2
      · exact h1 j (by omega)
    · intro h
      exact ⟨fun j hj => h j (by omega), h k (by omega)⟩
theorem idx_neg : ∀ (l : List UInt8) (c : UInt8), Lib.indexByte l c < 0 ↔ c ∉ l
  | [], c => by simp [Lib.indexByte]
  | b :: l, c => by
    have ih := idx_neg l c
    have hg := Lib.indexByte_ge l c
    unfold Lib.indexByte
    by_cases hb : b = c
    · subst hb; simp
    · have hb' : (b == c) = false := by simpa using hb
      rw [hb']
      simp only [Bool.false_eq_true, if_false]
      by_cases h1 : Lib.indexByte l c = -1
      · rw [h1]
        simp only [beq_self_eq_true, if_true]
        rw [h1] at ih
        simp only [List.mem_cons, not_or]
        constructor
        · intro _; exact ⟨fun e => hb e.symm, ih.1 (by decide)⟩
        · intro _; decide
      · rw [if_neg (by simpa using h1)]
        simp only [List.mem_cons, not_or]
        constructor
        · intro h; omega
        · rintro ⟨_, h⟩; have := ih.2 h; omega
theorem idx_new (p : ByteArray) (i : Nat) (hi : i < p.size) : decide (Lib.indexByte (p.extract 0 i).data.toList (bt p i).toNat.toUInt8 < 0) = newTo p i i := by
  rw [Bool.eq_iff_iff, decide_eq_true_eq, idx_neg, newTo_iff, Lib.extract_data]
  have hb : ∀ j : Nat, j < p.size → ∃ h : j < p.data.toList.length, ((p.data.toList[j]'h).toNat : Int) = bt p j := by
    intro j hj
    have h' : j < p.data.toList.length := by rw [Array.length_toList]; exact hj
    exact ⟨h', bt_at p (j : Int) hj⟩
  have hc : ((bt p i).toNat.toUInt8.toNat : Int) = bt p i := by
    have := bt_range p i
    simp [Nat.toUInt8]
    omega
  constructor
  · intro h j hj e
    apply h
    obtain ⟨h1, h2⟩ := hb j (by omega)
    have : p.data.toList[j]'h1 = (bt p i).toNat.toUInt8 := toNat_inj (by rw [h2, e, hc])
    rw [← this]
    rw [List.drop_zero, Nat.sub_zero, List.mem_iff_getElem]
    exact ⟨j, by rw [List.length_take]; omega, by simp⟩
  · intro h hm
    rw [List.drop_zero, Nat.sub_zero, List.mem_iff_getElem] at hm
    obtain ⟨j, hj, e⟩ := hm
    rw [List.length_take] at hj
    rw [List.getElem_take] at e
    obtain ⟨h1, h2⟩ := hb j (by omega)
    exact h j (by omega) (by rw [← h2, e, hc])

/-- a digit upside down -/
def up (x : Int) : Int := if x = 48 ∨ x = 49 ∨ x = 56 then x else if x = 54 then 57 else if x = 57 then 54 else 0
theorem upside_ev (x : Int) : Ev (fun k => impl_upside.f k x) (up x) := by
  refine Ev.step (f := fun _ => some (up x)) (fun k => ?_) (Ev.now _)
  unfold impl_upside.f up
  simp only [impl_upside.j0]
  by_cases h1 : x = 48
  · simp [h1]
  · by_cases h2 : x = 49
    · simp [h2]
    · by_cases h3 : x = 56
      · simp [h3]
      · by_cases h4 : x = 54
        · subst h4; decide
        · by_cases h5 : x = 57
          · subst h5; decide
          · simp [h1, h2, h3, h4, h5]

/-- may the digit at place i of a text stand there, in a reading of a kind with n digits? -/
def mayAt (c : Int) (p : ByteArray) (n i : Nat) : Bool :=
  if c = 97 then bt p i == bt p 0
  else if c = 109 then decide (i < n - 1 - i) || (bt p ((n - 1 - i : Nat) : Int) == bt p i)
  else if c = 117 then up (bt p i) != 0 && (decide (i < n - 1 - i) || (bt p ((n - 1 - i : Nat) : Int) == up (bt p i)))
  else if c = 114 then (decide (i = 0) || decide (bt p ((i - 1 : Nat) : Int) < bt p i)) && decide (bt p i - 48 + ((n - 1 - i : Nat) : Int) ≤ 9)
  else if c = 102 then (decide (i = 0) || decide (bt p i < bt p ((i - 1 : Nat) : Int))) && decide (((n - 1 - i : Nat) : Int) ≤ bt p i - 48)
  else newTo p i i

theorem may_ev (c : Int) (p : ByteArray) (n i : Nat) (hi : p.size = i + 1) (hn : i + 1 ≤ n) (hn9 : n ≤ 9) (hd : ∀ j : Nat, j < p.size → 48 ≤ bt p j ∧ bt p j ≤ 57) :
    Ev (fun k => impl_may.f k c p (n : Int)) (mayAt c p n i) := by
  unfold impl_may.f mayAt
  have e1 : wrap64 ((p.size : Int) - 1) = (i : Int) := by rw [wrap_id (by omega) (by omega)]; omega
  have e2 : wrap64 (wrap64 ((n : Int) - 1) - (i : Int)) = ((n - 1 - i : Nat) : Int) := by rw [wrap_id (i := (n : Int) - 1) (by omega) (by omega), wrap_id (by omega) (by omega)]; omega
  have e3 : wrap64 ((n : Int) - (p.size : Int)) = ((n - 1 - i : Nat) : Int) := by rw [wrap_id (by omega) (by omega)]; omega
  have hdi := hd i (by omega)
  have e4 : (bt p i - 48) % 256 = bt p i - 48 := by omega
  simp only [e1, e2, e3, e4]
  refine Ev.pos (by omega) (Ev.pos (by omega) ?_)
  by_cases h1 : c = 97
  · refine Ev.pos h1 ?_
    rw [if_pos h1]
    exact Ev.pos (by omega) (Ev.now _)
  refine Ev.neg h1 ?_
  rw [if_neg h1]
  by_cases h2 : c = 109
  · refine Ev.pos h2 ?_
    rw [if_pos h2]
    by_cases h : i < n - 1 - i
    · exact Ev.pos (by omega) (Ev.eq (Ev.now _) (by simp [h]))
    · exact Ev.neg (by omega) (Ev.pos (by omega) (Ev.pos (by omega) (Ev.eq (Ev.now _) (by simp [h]))))
  refine Ev.neg h2 ?_
  rw [if_neg h2]
  by_cases h3 : c = 117
  · refine Ev.pos h3 (Ev.bind' (upside_ev _) ?_)
    rw [if_pos h3]
    by_cases hu : up (bt p i) = 0
    · exact Ev.pos hu (Ev.eq (Ev.now _) (by simp [hu]))
    · refine Ev.neg hu ?_
      have hu' : (up (bt p i) != 0) = true := by simpa using hu
      rw [hu', Bool.true_and]
      by_cases h : i < n - 1 - i
      · exact Ev.pos (by omega) (Ev.eq (Ev.now _) (by simp [h]))
      · exact Ev.neg (by omega) (Ev.pos (by omega) (Ev.pos (by omega) (Ev.bind' (upside_ev _) (Ev.eq (Ev.now _) (by simp [h])))))
  refine Ev.neg h3 ?_
  rw [if_neg h3]
  by_cases h4 : c = 114
  · refine Ev.pos h4 ?_
    rw [if_pos h4]
    by_cases h : i = 0
    · refine Ev.pos (by omega) (Ev.eq (Ev.now _) ?_)
      rw [wrap_id (by omega) (by omega)]; simp [h]
    · refine Ev.neg (by omega) ?_
      have e5 : wrap64 ((i : Int) - 1) = ((i - 1 : Nat) : Int) := by rw [wrap_id (by omega) (by omega)]; omega
      simp only [e5]
      refine Ev.pos (by omega) (Ev.pos (by omega) ?_)
      by_cases hl : bt p ((i - 1 : Nat) : Int) < bt p i
      · refine Ev.pos hl (Ev.eq (Ev.now _) ?_)
        rw [wrap_id (by omega) (by omega)]; simp [h, hl]
      · exact Ev.neg hl (Ev.eq (Ev.now _) (by simp [h, hl]))
  refine Ev.neg h4 ?_
  rw [if_neg h4]
  by_cases h5 : c = 102
  · refine Ev.pos h5 ?_
    rw [if_pos h5]
    by_cases h : i = 0
    · refine Ev.pos (by omega) (Ev.eq (Ev.now _) ?_)
      simp [h]
    · refine Ev.neg (by omega) ?_
      have e5 : wrap64 ((i : Int) - 1) = ((i - 1 : Nat) : Int) := by rw [wrap_id (by omega) (by omega)]; omega
      simp only [e5]
      refine Ev.pos (by omega) (Ev.pos (by omega) ?_)
      by_cases hl : bt p i < bt p ((i - 1 : Nat) : Int)
      · refine Ev.pos hl (Ev.eq (Ev.now _) ?_)
        simp [h, hl]
      · exact Ev.neg hl (Ev.eq (Ev.now _) (by simp [h, hl]))
  refine Ev.neg h5 (Ev.pos (by omega) ?_)
  rw [if_neg h5]
  unfold strings_IndexByte.f
  simp only [Option.bind_some]
  refine Ev.eq (Ev.now _) ?_
  rw [show ((i : Int)).toNat = i by omega]
  exact idx_new p i (by omega)

/-- what 'may' asks of a text's first digits it asks of the text -/
theorem newTo_extract (s : ByteArray) (m : Nat) (hm : m ≤ s.size) (i : Nat) (hi : i < m) : ∀ k, k ≤ i → newTo (s.extract 0 m) i k = newTo s i k
  | 0, _ => rfl
  | k + 1, h => by
    simp only [newTo]
    rw [newTo_extract s m hm i hi k (by omega), bt_extract0 s m hm k (by omega), bt_extract0 s m hm i hi]
theorem mayAt_extract (c : Int) (s : ByteArray) (n i : Nat) (hi : i < s.size) (hn : i + 1 ≤ n) : mayAt c (s.extract 0 (i + 1)) n i = mayAt c s n i := by
  unfold mayAt
  have b := fun (j : Nat) (hj : j < i + 1) => bt_extract0 s (i + 1) (by omega) j hj
  have b0 := b 0 (by omega)
  rw [b i (by omega), b (i - 1) (by omega), newTo_extract s (i + 1) (by omega) i (by omega) i (by omega)]
  rw [show ((0 : Nat) : Int) = 0 from rfl] at b0
  rw [b0]
  by_cases h : i < n - 1 - i
  · simp [h]
  · rw [b (n - 1 - i) (by omega)]

theorem isOf_ev (c : Int) (s : ByteArray) (h9 : s.size ≤ 9) (hd : ∀ j : Nat, j < s.size → 48 ≤ bt s j ∧ bt s j ≤ 57) :
    Ev (fun k => impl_isOf.f k c s) (allF (mayAt c s s.size) s.size 0) := by
  unfold impl_isOf.f
  have stop : Ev (fun k => impl_isOf.l0 k c s (s.size : Int) ((s.size : Nat) : Int)) true := by
    refine Ev.step (f := fun _ => some true) (fun k => ?_) (Ev.now _)
    simp only [impl_isOf.l0]
    rw [if_neg (by omega)]
  have m : ∀ i, i < s.size → Ev (fun k => impl_may.f k c (s.extract 0 (i + 1)) (s.size : Int)) (mayAt c s s.size i) := by
    intro i hi
    have := may_ev c (s.extract 0 (i + 1)) s.size i (size_extract0 _ _ (by omega)) (by omega) h9 (fun j hj => by
      rw [size_extract0 _ _ (by omega)] at hj
      rw [bt_extract0 _ _ (by omega) _ hj]
      exact hd j (by omega))
    rwa [mayAt_extract c s s.size i hi (by omega)] at this
  have round : ∀ i, i < s.size → ∀ (q : Bool), (if mayAt c s s.size i = true then Ev (fun k => impl_isOf.l0 k c s (s.size : Int) ((i + 1 : Nat) : Int)) q else q = false) → Ev (fun k => impl_isOf.l0 k c s (s.size : Int) (i : Int)) q := by
    intro i hi q hq
    have e1 : wrap64 ((i : Int) + 1) = ((i + 1 : Nat) : Int) := by rw [wrap_id (by omega) (by omega)]; rfl
    refine Ev.step (f := fun k => (impl_may.f k c (s.extract 0 (i + 1)) (s.size : Int)).bind fun t => if t = true then impl_isOf.l0 k c s (s.size : Int) ((i + 1 : Nat) : Int) else some false) (fun k => ?_) ?_
    · simp only [impl_isOf.l0]
      rw [if_pos (by omega), e1, if_pos (by omega), if_pos (by omega)]
      rfl
    · refine Ev.bind' (m i hi) ?_
      by_cases h : mayAt c s s.size i = true
      · rw [if_pos h] at hq
        exact Ev.pos h hq
      · rw [if_neg h] at hq
        exact Ev.neg h (hq ▸ Ev.now _)
  refine Ev.eq (Ev_all (l := fun k i => impl_isOf.l0 k c s (s.size : Int) (i : Int)) (p := mayAt c s s.size) stop ?_ ?_ s.size 0 (by omega)) (by simp)
  · intro i hi hp q hq
    exact round i hi q (by rw [if_pos hp]; exact hq)
  · intro i hi hp
    exact round i hi false (by rw [if_neg (by simp [hp])])

end Go.Proofs.Ytpdcjkiejglaiaa.Q

/-
  The reference's readings turned, upside down, and its test of a kind, in plain words: a reading is of a kind just if each of its digits may stand where it stands.
-/
namespace Go.Proofs.Ytpdcjkiejglaiaa.Q
open Go.RowKit Go.Proofs.YtpdcjkiejglaiaaW.PrintWords Go.Proofs.YtpdcjkiejglaiaaW.PrintLast Go.Proofs.YtpdcjkiejglaiaaW.PrintMore
set_option linter.unusedVariables false
set_option linter.unusedSimpArgs false

theorem li_one (s : ByteArray) (i : Nat) (hi : i < s.size) : li (s.extract i (i + 1)) = [bt s i] := by
  have h : i < (li s).length := by rw [li_length]; exact hi
  rw [li_extract, bt_li, show i + 1 - i = 1 by omega]
  have e : (li s).getD ((i : Int)).toNat 0 = (li s)[i] := by simp [List.getD_eq_getElem?_getD, h]
  rw [e, List.drop_eq_getElem_cons h]
  rfl
theorem li_take_succ (s : ByteArray) (i : Nat) (hi : i < s.size) : (li s).take (i + 1) = (li s).take i ++ [bt s i] := by
  have h : i < (li s).length := by rw [li_length]; exact hi
  rw [List.take_succ_eq_append_getElem h, bt_li]
  simp [List.getD_eq_getElem?_getD, h]
theorem getD_reverse (l : List Int) (i : Nat) (hi : i < l.length) : l.reverse.getD i 0 = l.getD (l.length - 1 - i) 0 := by
  have h2 : l.length - 1 - i < l.length := by omega
  simp [List.getD_eq_getElem?_getD, List.getElem?_reverse, hi, h2]

theorem turn_loop (s : ByteArray) (hs : s.size ≤ 140737488351232) : ∀ (i : Nat) (acc : ByteArray), i ≤ s.size → acc.size + i ≤ 281474976710656 →
    ∃ t, Ev (fun k => spec_miTurn.l0 k s acc ((i : Int) - 1)) t ∧ li t = li acc ++ ((li s).take i).reverse
  | 0, acc, _, _ => by
    refine ⟨acc, Ev.step (f := fun _ => some acc) (fun k => ?_) (Ev.now _), by simp⟩
    simp only [spec_miTurn.l0]
    rw [if_neg (by omega)]
  | i + 1, acc, hi, ha => by
    have hz : (s.extract i (i + 1)).size = 1 := by rw [ByteArray.size_extract]; omega
    obtain ⟨t, ht, hl⟩ := turn_loop s hs i (acc ++ s.extract i (i + 1)) (by omega) (by rw [ByteArray.size_append, hz]; omega)
    refine ⟨t, Ev.step (fun k => ?_) ht, ?_⟩
    · simp only [spec_miTurn.l0]
      have e0 : ((i + 1 : Nat) : Int) - 1 = (i : Int) := by omega
      rw [e0]
      have e1 : wrap64 ((i : Int) + 1) = ((i + 1 : Nat) : Int) := by rw [wrap_id (by omega) (by omega)]; rfl
      rw [e1, show ((i : Int)).toNat = i from rfl, show (((i + 1 : Nat) : Int)).toNat = i + 1 from rfl, hz]
      rw [if_pos (by omega), if_pos (by omega), if_pos (by omega), if_pos (by omega), if_pos (by omega), wrap_id (by omega) (by omega)]
    · rw [hl, li_append, li_one s i (by omega), li_take_succ s i (by omega)]
      simp
theorem miTurn_ev (s : ByteArray) (hs : s.size ≤ 140737488351232) : ∃ t, Ev (fun k => spec_miTurn.f k s) t ∧ li t = (li s).reverse := by
  obtain ⟨t, ht, hl⟩ := turn_loop s hs s.size ⟨#[]⟩ (Nat.le_refl _) (by show 0 + s.size ≤ _; omega)
  refine ⟨t, ?_, ?_⟩
  · unfold spec_miTurn.f
    rw [wrap_id (by omega) (by omega)]
    exact ht
  · rw [hl, List.take_of_length_le (by rw [li_length]; omega)]
    rfl

theorem li_lit1 (c : UInt8) : li ⟨#[c]⟩ = [(c.toNat : Int)] := rfl
theorem up_cases (x : Int) : (x = 48 ∨ x = 49 ∨ x = 56) ∧ up x = x ∨ x = 54 ∧ up x = 57 ∨ x = 57 ∧ up x = 54 ∨ x ≠ 48 ∧ x ≠ 49 ∧ x ≠ 56 ∧ x ≠ 54 ∧ x ≠ 57 ∧ up x = 0 := by
  unfold up
  by_cases h : x = 48 ∨ x = 49 ∨ x = 56
  · exact .inl ⟨h, by rw [if_pos h]⟩
  · rw [if_neg h]
    by_cases h4 : x = 54
    · subst h4; exact .inr (.inl ⟨rfl, by decide⟩)
    · by_cases h5 : x = 57
      · subst h5; exact .inr (.inr (.inl ⟨rfl, by decide⟩))
      · rw [if_neg h4, if_neg h5]
        exact .inr (.inr (.inr ⟨by omega, by omega, by omega, h4, h5, rfl⟩))
def upOk (s : ByteArray) (i : Nat) : Bool := up (bt s i) != 0
theorem up_loop (s : ByteArray) (hs : s.size ≤ 140737488351232) : ∀ (i : Nat) (acc : ByteArray), i ≤ s.size → acc.size + i ≤ 281474976710656 →
    ∃ t b, Ev (fun k => spec_miUpside.l0 k s acc ((i : Int) - 1)) (t, b) ∧ (b = true ↔ ∀ j : Nat, j < i → up (bt s j) ≠ 0) ∧ (b = true → li t = li acc ++ (((li s).take i).map up).reverse) ∧ (b = false → t = ⟨#[]⟩)
  | 0, acc, _, _ => by
    refine ⟨acc, true, Ev.step (f := fun _ => some (acc, true)) (fun k => ?_) (Ev.now _), by simp, by simp, by simp⟩
    simp only [spec_miUpside.l0]
    rw [if_neg (by omega)]
  | i + 1, acc, hi, ha => by
    have e0 : ((i + 1 : Nat) : Int) - 1 = (i : Int) := by omega
    have e1 : wrap64 ((i : Int) + 1) = ((i + 1 : Nat) : Int) := by rw [wrap_id (by omega) (by omega)]; rfl
    have hz : (s.extract i (i + 1)).size = 1 := by rw [ByteArray.size_extract]; omega
    have fin : ∀ (acc' : ByteArray), acc'.size = acc.size + 1 → li acc' = li acc ++ [up (bt s i)] → up (bt s i) ≠ 0 →
        (∀ q, Ev (fun k => spec_miUpside.l0 k s acc' ((i : Int) - 1)) q → Ev (fun k => spec_miUpside.l0 k s acc (i : Int)) q) →
        ∃ t b, Ev (fun k => spec_miUpside.l0 k s acc (i : Int)) (t, b) ∧ (b = true ↔ ∀ j : Nat, j < i + 1 → up (bt s j) ≠ 0) ∧ (b = true → li t = li acc ++ (((li s).take (i + 1)).map up).reverse) ∧ (b = false → t = ⟨#[]⟩) := by
      intro acc' hsz hl hu go
      obtain ⟨t, b, ht, h1, h2, h3⟩ := up_loop s hs i acc' (by omega) (by omega)
      refine ⟨t, b, go _ ht, ?_, ?_, h3⟩
      · rw [h1]
        constructor
        · intro h j hj
          by_cases e : j = i
          · rw [e]; exact hu
          · exact h j (by omega)
        · intro h j hj
          exact h j (by omega)
      · intro hb
        rw [h2 hb, hl, li_take_succ s i (by omega)]
        simp
    rw [e0]
    rcases up_cases (bt s i) with ⟨h, hu⟩ | ⟨h, hu⟩ | ⟨h, hu⟩ | ⟨h1, h2, h3, h4, h5, hu⟩
    · refine fin (acc ++ s.extract i (i + 1)) (by rw [ByteArray.size_append, hz]) (by rw [li_append, li_one s i (by omega), hu]) (by rw [hu]; omega) fun q hq => ?_
      have step : ∀ k, spec_miUpside.j1 (k + 1) s acc (i : Int) (bt s i) true = spec_miUpside.l0 k s (acc ++ s.extract i (i + 1)) ((i : Int) - 1) := by
        intro k
        simp only [spec_miUpside.j1]
        rw [if_true, e1, show ((i : Int)).toNat = i from rfl, show (((i + 1 : Nat) : Int)).toNat = i + 1 from rfl, hz]
        rw [if_pos (by omega), if_pos (by omega), if_pos (by omega), if_pos (by omega), wrap_id (by omega) (by omega)]
      refine Ev.step (f := fun k => spec_miUpside.j1 k s acc (i : Int) (bt s i) true) (fun k => ?_) (Ev.step step hq)
      simp only [spec_miUpside.l0]
      rw [if_pos (by omega), if_pos (by omega), if_pos (by omega)]
      by_cases h48 : bt s i = 48
      · rw [if_pos h48]; simp [h48]
      · rw [if_neg h48]
        by_cases h49 : bt s i = 49
        · rw [if_pos h49]; simp [h49]
        · rw [if_neg h49]
          have h56 : bt s i = 56 := by omega
          simp [h56]
    all_goals
      have j : ∀ k, spec_miUpside.l0 (k + 1) s acc (i : Int) = spec_miUpside.j1 k s acc (i : Int) (bt s i) false := by
        intro k
        simp only [spec_miUpside.l0]
        rw [if_pos (by omega), if_pos (by omega), if_pos (by omega), if_neg (by omega), if_neg (by omega)]
        have h56 : (bt s (i : Int) == 56) = false := by rw [beq_eq_false_iff_ne]; omega
        rw [h56]
    · refine fin (acc ++ ⟨#[57]⟩) (by rw [ByteArray.size_append]; rfl) (by rw [li_append, hu]; rfl) (by rw [hu]; decide) fun q hq => ?_
      refine Ev.step j (Ev.step (fun k => ?_) hq)
      simp only [spec_miUpside.j1]
      rw [if_neg (by decide), if_pos h, if_pos (by omega), wrap_id (by omega) (by omega)]
    · refine fin (acc ++ ⟨#[54]⟩) (by rw [ByteArray.size_append]; rfl) (by rw [li_append, hu]; rfl) (by rw [hu]; decide) fun q hq => ?_
      refine Ev.step j (Ev.step (fun k => ?_) hq)
      simp only [spec_miUpside.j1]
      rw [if_neg (by decide), if_neg (by omega), if_pos h, if_pos (by omega), wrap_id (by omega) (by omega)]
    · refine ⟨⟨#[]⟩, false, Ev.step j (Ev.step (f := fun _ => some (⟨#[]⟩, false)) (fun k => ?_) (Ev.now _)), ?_, by simp, by simp⟩
      · simp only [spec_miUpside.j1]
        rw [if_neg (by decide), if_neg h4, if_neg h5]
      · simp only [Bool.false_eq_true, false_iff]
        intro h
        exact h i (by omega) hu
theorem miUpside_ev (s : ByteArray) (hs : s.size ≤ 140737488351232) : ∃ t b, Ev (fun k => spec_miUpside.f k s) (t, b) ∧ (b = true ↔ ∀ j : Nat, j < s.size → up (bt s j) ≠ 0) ∧ (b = true → li t = ((li s).map up).reverse) ∧ (b = false → t = ⟨#[]⟩) := by
  obtain ⟨t, b, ht, h1, h2, h3⟩ := up_loop s hs s.size ⟨#[]⟩ (Nat.le_refl _) (by show 0 + s.size ≤ _; omega)
  refine ⟨t, b, ?_, h1, ?_, h3⟩
  · unfold spec_miUpside.f
    rw [wrap_id (by omega) (by omega)]
    exact ht
  · intro hb
    rw [h2 hb, List.take_of_length_le (by rw [li_length]; omega)]
    rfl

end Go.Proofs.Ytpdcjkiejglaiaa.Q

/-
  The reference's test of a kind is that of the program: a reading is of a kind just if each of its digits may stand where it stands.
-/
namespace Go.Proofs.Ytpdcjkiejglaiaa.Q
open Go.RowKit Go.Proofs.YtpdcjkiejglaiaaW.PrintWords Go.Proofs.YtpdcjkiejglaiaaW.PrintLast Go.Proofs.YtpdcjkiejglaiaaW.PrintMore
set_option linter.unusedVariables false
set_option linter.unusedSimpArgs false

theorem cntNew_pos (s : ByteArray) : ∀ n : Nat, 1 ≤ n → 1 ≤ cntNew s n
  | 0, h => by omega
  | 1, _ => by simp [cntNew, newTo]
  | n + 2, _ => by
    have h1 := cntNew_pos s (n + 1) (by omega)
    have e : cntNew s (n + 2) = cntNew s (n + 1) + (if newTo s (n + 1) (n + 1) = true then 1 else 0) := rfl
    rw [e]
    split <;> omega
theorem cntNew_one (s : ByteArray) : ∀ n : Nat, 1 ≤ n → (cntNew s n = 1 ↔ ∀ i, 1 ≤ i → i < n → newTo s i i = false)
  | 0, h => by omega
  | 1, _ => by
    simp only [cntNew, newTo, if_true]
    constructor
    · intro _ i h1 h2; omega
    · intro _; rfl
  | n + 2, _ => by
    have ih := cntNew_one s (n + 1) (by omega)
    have hp := cntNew_pos s (n + 1) (by omega)
    have e : cntNew s (n + 2) = cntNew s (n + 1) + (if newTo s (n + 1) (n + 1) = true then 1 else 0) := rfl
    rw [e]
    constructor
    · intro h i h1 h2
      by_cases hn : newTo s (n + 1) (n + 1) = true
      · rw [if_pos hn] at h; omega
      · rw [if_neg hn] at h
        by_cases hi : i = n + 1
        · rw [hi]; simpa using hn
        · exact ih.1 (by omega) i h1 (by omega)
    · intro h
      rw [if_neg (by rw [h (n + 1) (by omega) (by omega)]; decide), ih.2 (fun i h1 h2 => h i h1 (by omega))]
      rfl
theorem cntNew_all (s : ByteArray) : ∀ n : Nat, (cntNew s n = n ↔ ∀ i, i < n → newTo s i i = true)
  | 0 => by simp [cntNew]
  | n + 1 => by
    have ih := cntNew_all s n
    have hl := cntNew_le s n
    have e : cntNew s (n + 1) = cntNew s n + (if newTo s n n = true then 1 else 0) := rfl
    rw [e]
    constructor
    · intro h i hi
      by_cases hn : newTo s n n = true
      · rw [if_pos hn] at h
        by_cases he : i = n
        · rw [he]; exact hn
        · exact ih.1 (by omega) i (by omega)
      · rw [if_neg hn] at h; omega
    · intro h
      rw [if_pos (h n (by omega)), ih.2 (fun i hi => h i (by omega))]
      rfl

/-- a kind's letter as a text -/
def kt (c : UInt8) : ByteArray := ⟨#[c]⟩
theorem kt_toList (c : UInt8) : (kt c).toList = [c] := by rw [ByteArray.toList_eq]; rfl

theorem low_dig {s : ByteArray} (hd : ∀ j : Nat, j < s.size → 48 ≤ bt s j ∧ bt s j ≤ 57) : lowB s = true := by
  unfold lowB
  rw [List.all_eq_true]
  intro c hc
  obtain ⟨j, hj, rfl⟩ := List.mem_iff_getElem.1 hc
  have hj' : j < s.size := by rw [Array.length_toList] at hj; exact hj
  have h1 := hd j hj'
  have h2 : ((s.data.toList[j].toNat : Nat) : Int) = bt s j := bt_at s (j : Int) hj'
  simp only [decide_eq_true_eq]
  omega
theorem miDigits_dig {s : ByteArray} (h9 : s.size ≤ 9) (hd : ∀ j : Nat, j < s.size → 48 ≤ bt s j ∧ bt s j ≤ 57) : spec_miDigits.f s = some (cntNew s s.size) := by
  unfold spec_miDigits.f
  rw [if_pos (low_dig hd), if_pos (by omega)]

theorem kind_a (s : ByteArray) (h1 : 1 ≤ s.size) : (cntNew s s.size == 1) = allF (mayAt 97 s s.size) s.size 0 := by
  rw [Bool.eq_iff_iff, allF_iff, beq_iff_eq, cntNew_one s _ h1]
  have e : ∀ j, (mayAt 97 s s.size j = true ↔ bt s j = bt s 0) := fun j => by simp [mayAt]
  constructor
  · intro h
    have : ∀ j, j < s.size → bt s j = bt s 0 := by
      intro j
      induction j using Nat.strongRecOn with
      | _ j ih =>
        intro hj
        by_cases h0 : j = 0
        · rw [h0]; rfl
        · have := h j (by omega) hj
          have hn : ¬ ∀ i : Nat, i < j → bt s i ≠ bt s j := fun hh => by rw [(newTo_iff s j j).2 hh] at this; cases this
          have : ∃ i : Nat, i < j ∧ bt s i = bt s j := by
            apply Classical.byContradiction
            intro hx
            exact hn fun i hi he => hx ⟨i, hi, he⟩
          obtain ⟨i, hi, he⟩ := this
          rw [← he, ih i hi (by omega)]
    intro j _ hj
    exact (e j).2 (this j (by omega))
  · intro h i hi1 hi2
    cases hn : newTo s i i with
    | false => rfl
    | true =>
      have := (newTo_iff s i i).1 hn 0 (by omega)
      exact absurd ((e i).1 (h i (by omega) (by omega))).symm this
theorem kind_d (s : ByteArray) : (cntNew s s.size == (s.size : Int)) = allF (mayAt 100 s s.size) s.size 0 := by
  rw [Bool.eq_iff_iff, allF_iff, beq_iff_eq, cntNew_all s]
  have e : ∀ j, mayAt 100 s s.size j = newTo s j j := fun j => by simp [mayAt]
  constructor
  · intro h j _ hj
    rw [e]; exact h j (by omega)
  · intro h i hi
    rw [← e]; exact h i (by omega) (by omega)
theorem bt_of_li {s t : ByteArray} {l : List Int} (h : li t = l) (i : Nat) : bt t i = l.getD i 0 := by rw [bt_li, h]; rfl
theorem kind_m (s t : ByteArray) (ht : li t = (li s).reverse) : (t.toList == s.toList) = allF (mayAt 109 s s.size) s.size 0 := by
  rw [beq_li, Bool.eq_iff_iff, allF_iff, decide_eq_true_eq]
  have hz : t.size = s.size := by rw [size_li ht, List.length_reverse, li_length]
  have hb : ∀ i : Nat, i < s.size → bt t i = bt s ((s.size - 1 - i : Nat) : Int) := by
    intro i hi
    rw [bt_of_li (s := s) ht, getD_reverse _ _ (by rw [li_length]; exact hi), li_length, bt_li]
    rfl
  have e : ∀ j, (mayAt 109 s s.size j = true ↔ j < s.size - 1 - j ∨ bt s ((s.size - 1 - j : Nat) : Int) = bt s j) := fun j => by simp [mayAt]
  constructor
  · intro h j _ hj
    refine (e j).2 (.inr ?_)
    rw [← hb j (by omega), bt_li, bt_li, h]
  · intro h
    refine li_ext hz fun i hi => ?_
    rw [hz] at hi
    rw [hb i hi]
    by_cases hlt : i < s.size - 1 - i
    · have := (e (s.size - 1 - i)).1 (h _ (by omega) (by omega))
      rw [show s.size - 1 - (s.size - 1 - i) = i by omega] at this
      rcases this with h1 | h1
      · omega
      · exact h1.symm
    · rcases (e i).1 (h i (by omega) (by omega)) with h1 | h1
      · omega
      · exact h1
theorem up_up {x : Int} (h : up x ≠ 0) : up (up x) = x := by
  rcases up_cases x with ⟨h1, h2⟩ | ⟨h1, h2⟩ | ⟨h1, h2⟩ | ⟨_, _, _, _, _, h2⟩
  · rw [h2, h2]
  · rw [h2, h1]; decide
  · rw [h2, h1]; decide
  · exact absurd h2 h
theorem kind_u (s t : ByteArray) (b : Bool) (h1 : b = true ↔ ∀ j : Nat, j < s.size → up (bt s j) ≠ 0) (h2 : b = true → li t = ((li s).map up).reverse) :
    (if b = true then (t.toList == s.toList) else false) = allF (mayAt 117 s s.size) s.size 0 := by
  have e : ∀ j, (mayAt 117 s s.size j = true ↔ up (bt s j) ≠ 0 ∧ (j < s.size - 1 - j ∨ bt s ((s.size - 1 - j : Nat) : Int) = up (bt s j))) := fun j => by simp [mayAt]
  by_cases hb : b = true
  · rw [if_pos hb, beq_li, Bool.eq_iff_iff, allF_iff, decide_eq_true_eq]
    have ht := h2 hb
    have hu := h1.1 hb
    have hz : t.size = s.size := by rw [size_li ht, List.length_reverse, List.length_map, li_length]
    have hbt : ∀ i : Nat, i < s.size → bt t i = up (bt s ((s.size - 1 - i : Nat) : Int)) := by
      intro i hi
      rw [bt_of_li (s := s) ht, getD_reverse _ _ (by rw [List.length_map, li_length]; exact hi), List.length_map, li_length, bt_li]
      have hlt : s.size - 1 - i < (li s).length := by rw [li_length]; omega
      simp [List.getD_eq_getElem?_getD, hlt]
    constructor
    · intro h j _ hj
      refine (e j).2 ⟨hu j (by omega), .inr ?_⟩
      have h3 := hbt (s.size - 1 - j) (by omega)
      rw [show s.size - 1 - (s.size - 1 - j) = j by omega] at h3
      rw [← h3, bt_li, bt_li, h]
    · intro h
      refine li_ext hz fun i hi => ?_
      rw [hz] at hi
      rw [hbt i hi]
      by_cases hlt : i < s.size - 1 - i
      · have := ((e (s.size - 1 - i)).1 (h _ (by omega) (by omega))).2
        rw [show s.size - 1 - (s.size - 1 - i) = i by omega] at this
        rcases this with h3 | h3
        · omega
        · exact h3.symm
      · rcases ((e i).1 (h i (by omega) (by omega))).2 with h3 | h3
        · omega
        · rw [h3, up_up (hu i hi)]
  · rw [if_neg hb]
    symm
    cases ha : allF (mayAt 117 s s.size) s.size 0 with
    | false => rfl
    | true =>
      exfalso
      apply hb
      rw [h1]
      intro j hj
      exact ((e j).1 ((allF_iff _ _ _).1 ha j (by omega) (by omega))).1
theorem rise_le (s : ByteArray) (hd : ∀ j : Nat, j < s.size → 48 ≤ bt s j ∧ bt s j ≤ 57) (h : ∀ j : Nat, 1 ≤ j → j < s.size → bt s ((j - 1 : Nat) : Int) < bt s j) :
    ∀ d i : Nat, i + d + 1 = s.size → bt s i + d ≤ 57
  | 0, i, hi => by have := hd i (by omega); omega
  | d + 1, i, hi => by
    have h1 := rise_le s hd h d (i + 1) (by omega)
    have h2 := h (i + 1) (by omega) (by omega)
    rw [show i + 1 - 1 = i by omega] at h2
    omega
theorem fall_ge (s : ByteArray) (hd : ∀ j : Nat, j < s.size → 48 ≤ bt s j ∧ bt s j ≤ 57) (h : ∀ j : Nat, 1 ≤ j → j < s.size → bt s j < bt s ((j - 1 : Nat) : Int)) :
    ∀ d i : Nat, i + d + 1 = s.size → 48 + (d : Int) ≤ bt s i
  | 0, i, hi => by have := hd i (by omega); omega
  | d + 1, i, hi => by
    have h1 := fall_ge s hd h d (i + 1) (by omega)
    have h2 := h (i + 1) (by omega) (by omega)
    rw [show i + 1 - 1 = i by omega] at h2
    omega
def riseAt (s : ByteArray) (i : Nat) : Bool := decide (bt s ((i - 1 : Nat) : Int) < bt s i)
def fallAt (s : ByteArray) (i : Nat) : Bool := decide (bt s i < bt s ((i - 1 : Nat) : Int))
theorem kind_r (s : ByteArray) (h1 : 1 ≤ s.size) (hd : ∀ j : Nat, j < s.size → 48 ≤ bt s j ∧ bt s j ≤ 57) : allF (riseAt s) (s.size - 1) 1 = allF (mayAt 114 s s.size) s.size 0 := by
  have e : ∀ j, (mayAt 114 s s.size j = true ↔ (j = 0 ∨ bt s ((j - 1 : Nat) : Int) < bt s j) ∧ bt s j - 48 + ((s.size - 1 - j : Nat) : Int) ≤ 9) := fun j => by simp [mayAt]
  rw [Bool.eq_iff_iff, allF_iff, allF_iff]
  constructor
  · intro h j _ hj
    have hr : ∀ j : Nat, 1 ≤ j → j < s.size → bt s ((j - 1 : Nat) : Int) < bt s j := fun j a b => by simpa [riseAt] using h j a (by omega)
    refine (e j).2 ⟨?_, ?_⟩
    · by_cases h0 : j = 0
      · exact .inl h0
      · exact .inr (hr j (by omega) (by omega))
    · have := rise_le s hd hr (s.size - 1 - j) j (by omega)
      omega
  · intro h j a b
    rcases ((e j).1 (h j (by omega) (by omega))).1 with h0 | h0
    · omega
    · simpa [riseAt] using h0
theorem kind_f (s : ByteArray) (h1 : 1 ≤ s.size) (hd : ∀ j : Nat, j < s.size → 48 ≤ bt s j ∧ bt s j ≤ 57) : allF (fallAt s) (s.size - 1) 1 = allF (mayAt 102 s s.size) s.size 0 := by
  have e : ∀ j, (mayAt 102 s s.size j = true ↔ (j = 0 ∨ bt s j < bt s ((j - 1 : Nat) : Int)) ∧ ((s.size - 1 - j : Nat) : Int) ≤ bt s j - 48) := fun j => by simp [mayAt]
  rw [Bool.eq_iff_iff, allF_iff, allF_iff]
  constructor
  · intro h j _ hj
    have hr : ∀ j : Nat, 1 ≤ j → j < s.size → bt s j < bt s ((j - 1 : Nat) : Int) := fun j a b => by simpa [fallAt] using h j a (by omega)
    refine (e j).2 ⟨?_, ?_⟩
    · by_cases h0 : j = 0
      · exact .inl h0
      · exact .inr (hr j (by omega) (by omega))
    · have := fall_ge s hd hr (s.size - 1 - j) j (by omega)
      omega
  · intro h j a b
    rcases ((e j).1 (h j (by omega) (by omega))).1 with h0 | h0
    · omega
    · simpa [fallAt] using h0

/-- the letters of the kinds -/
def isLetter (c : UInt8) : Prop := c = 97 ∨ c = 109 ∨ c = 117 ∨ c = 114 ∨ c = 102 ∨ c = 100

theorem miIs_rise (s : ByteArray) (h9 : s.size ≤ 9) (h1 : 1 ≤ s.size) : Ev (fun k => spec_miIs.l0 k s (kt 114) 1) (allF (riseAt s) (s.size - 1) 1) := by
  have stop : Ev (fun k => spec_miIs.l0 k s (kt 114) ((s.size : Nat) : Int)) true := by
    refine Ev.step (f := fun _ => some true) (fun k => ?_) (Ev.now _)
    simp only [spec_miIs.l0]
    rw [if_neg (by omega)]
  have body : ∀ i : Nat, 1 ≤ i → i < s.size → ∀ k, spec_miIs.l0 (k + 1) s (kt 114) (i : Int) = if bt s i ≤ bt s ((i - 1 : Nat) : Int) then some false else spec_miIs.l0 k s (kt 114) ((i + 1 : Nat) : Int) := by
    intro i hi1 hi k
    have e1 : wrap64 ((i : Int) - 1) = ((i - 1 : Nat) : Int) := by rw [wrap_id (by omega) (by omega)]; omega
    have e2 : wrap64 ((i : Int) + 1) = ((i + 1 : Nat) : Int) := by rw [wrap_id (by omega) (by omega)]; rfl
    simp only [spec_miIs.l0, kt_toList, e1, e2]
    rw [if_pos (by omega), if_true, if_pos (by omega), if_pos (by omega), if_pos (by omega)]
    have hne : ¬ ([114] : List UInt8) = [102] := by decide
    simp only [hne, if_false]
  refine Ev.eq (Ev_all_from (l := fun k i => spec_miIs.l0 k s (kt 114) (i : Int)) (p := riseAt s) (n := s.size) (m := 1) stop ?_ ?_ (s.size - 1) 1 (by omega) (by omega)) (by simp)
  · intro i hm hi hp q hq
    simp only [riseAt, decide_eq_true_eq] at hp
    exact Ev.step (fun k => by rw [body i hm hi k, if_neg (by omega)]) hq
  · intro i hm hi hp
    simp only [riseAt, decide_eq_false_iff_not] at hp
    exact Ev.step (f := fun _ => some false) (fun k => by rw [body i hm hi k, if_pos (by omega)]) (Ev.now _)
theorem miIs_fall (s : ByteArray) (h9 : s.size ≤ 9) (h1 : 1 ≤ s.size) : Ev (fun k => spec_miIs.l0 k s (kt 102) 1) (allF (fallAt s) (s.size - 1) 1) := by
  have stop : Ev (fun k => spec_miIs.l0 k s (kt 102) ((s.size : Nat) : Int)) true := by
    refine Ev.step (f := fun _ => some true) (fun k => ?_) (Ev.now _)
    simp only [spec_miIs.l0]
    rw [if_neg (by omega)]
  have body : ∀ i : Nat, 1 ≤ i → i < s.size → ∀ k, spec_miIs.l0 (k + 1) s (kt 102) (i : Int) = if bt s i ≥ bt s ((i - 1 : Nat) : Int) then some false else spec_miIs.l0 k s (kt 102) ((i + 1 : Nat) : Int) := by
    intro i hi1 hi k
    have e1 : wrap64 ((i : Int) - 1) = ((i - 1 : Nat) : Int) := by rw [wrap_id (by omega) (by omega)]; omega
    have e2 : wrap64 ((i : Int) + 1) = ((i + 1 : Nat) : Int) := by rw [wrap_id (by omega) (by omega)]; rfl
    have hne : ¬ ([102] : List UInt8) = [114] := by decide
    simp only [spec_miIs.l0, kt_toList, e1, e2]
    rw [if_pos (by omega), if_neg hne, if_true, if_pos (by omega), if_pos (by omega), if_pos (by omega)]
  refine Ev.eq (Ev_all_from (l := fun k i => spec_miIs.l0 k s (kt 102) (i : Int)) (p := fallAt s) (n := s.size) (m := 1) stop ?_ ?_ (s.size - 1) 1 (by omega) (by omega)) (by simp)
  · intro i hm hi hp q hq
    simp only [fallAt, decide_eq_true_eq] at hp
    exact Ev.step (fun k => by rw [body i hm hi k, if_neg (by omega)]) hq
  · intro i hm hi hp
    simp only [fallAt, decide_eq_false_iff_not] at hp
    exact Ev.step (f := fun _ => some false) (fun k => by rw [body i hm hi k, if_pos (by omega)]) (Ev.now _)

/-- THE TWO TESTS OF A KIND ARE ONE. -/
theorem miIs_ev (c : UInt8) (hc : isLetter c) (s : ByteArray) (h1 : 1 ≤ s.size) (h9 : s.size ≤ 9) (hd : ∀ j : Nat, j < s.size → 48 ≤ bt s j ∧ bt s j ≤ 57) :
    Ev (fun k => spec_miIs.f k s (kt c)) (allF (mayAt (c.toNat : Int) s s.size) s.size 0) := by
  unfold spec_miIs.f
  simp only [kt_toList]
  have ne : ∀ {a b : UInt8}, a ≠ b → ¬ ([a] : List UInt8) = [b] := fun h e => h (by simpa using e)
  rcases hc with rfl | rfl | rfl | rfl | rfl | rfl
  · refine Ev.pos rfl ?_
    simp only [miDigits_dig h9 hd, Option.bind_some]
    exact Ev.eq (Ev.now _) (kind_a s h1)
  · refine Ev.neg (ne (by decide)) (Ev.pos rfl ?_)
    obtain ⟨t, ht, hl⟩ := miTurn_ev s (by omega)
    exact Ev.bind' ht (Ev.eq (Ev.now _) (kind_m s t hl))
  · refine Ev.neg (ne (by decide)) (Ev.neg (ne (by decide)) (Ev.pos rfl ?_))
    obtain ⟨t, b, ht, h2, h3, _⟩ := miUpside_ev s (by omega)
    refine Ev.bind' ht ?_
    have hk := kind_u s t b h2 h3
    by_cases hb : b = true
    · refine Ev.pos hb (Ev.eq (Ev.now _) ?_)
      rw [if_pos hb] at hk; exact hk
    · refine Ev.neg hb (Ev.eq (Ev.now _) ?_)
      rw [if_neg hb] at hk; exact hk
  · refine Ev.neg (ne (by decide)) (Ev.neg (ne (by decide)) (Ev.neg (ne (by decide)) (Ev.neg (ne (by decide)) ?_)))
    exact Ev.eq (miIs_rise s h9 h1) (kind_r s h1 hd)
  · refine Ev.neg (ne (by decide)) (Ev.neg (ne (by decide)) (Ev.neg (ne (by decide)) (Ev.neg (ne (by decide)) ?_)))
    exact Ev.eq (miIs_fall s h9 h1) (kind_f s h1 hd)
  · refine Ev.neg (ne (by decide)) (Ev.neg (ne (by decide)) (Ev.neg (ne (by decide)) (Ev.pos rfl ?_)))
    simp only [miDigits_dig h9 hd, Option.bind_some]
    exact Ev.eq (Ev.now _) (kind_d s)

end Go.Proofs.Ytpdcjkiejglaiaa.Q

/-
  Readings and their numbers: a text of so many digits tells a number, and each number below a power of ten has one such text.
-/
namespace Go.Proofs.Ytpdcjkiejglaiaa.Q
open Go.RowKit Go.Proofs.YtpdcjkiejglaiaaW.PrintWords Go.Proofs.YtpdcjkiejglaiaaW.PrintLast Go.Proofs.YtpdcjkiejglaiaaW.PrintMore
set_option linter.unusedVariables false
set_option linter.unusedSimpArgs false

theorem li_nums (l : List Int) (h : ∀ x ∈ l, 0 ≤ x ∧ x < 256) : li (strOfNums l) = l := by
  unfold li strOfNums
  simp only [List.map_map]
  rw [List.map_congr_left (g := id)]
  · simp
  · intro x hx
    have := h x hx
    simp [Nat.toUInt8]
    omega

/-- so many digits of a number -/
def dl : Nat → Nat → List Int
  | 0, _ => []
  | i + 1, v => dl i (v / 10) ++ [48 + ((v % 10 : Nat) : Int)]
def tx (i v : Nat) : ByteArray := strOfNums (dl i v)
theorem dl_length : ∀ i v, (dl i v).length = i
  | 0, _ => rfl
  | i + 1, v => by simp [dl, dl_length i]
theorem dl_dig : ∀ i v, ∀ x ∈ dl i v, 48 ≤ x ∧ x ≤ 57
  | 0, _, x, h => by simp [dl] at h
  | i + 1, v, x, h => by
    simp only [dl, List.mem_append, List.mem_singleton] at h
    rcases h with h | h
    · exact dl_dig i _ x h
    · omega
theorem li_tx (i v : Nat) : li (tx i v) = dl i v := li_nums _ (fun x hx => by have := dl_dig i v x hx; omega)
theorem tx_size (i v : Nat) : (tx i v).size = i := by rw [← li_length, li_tx, dl_length]
theorem dl_get : ∀ (i v j : Nat), j < i → (dl i v).getD j 0 = 48 + ((v / 10 ^ (i - 1 - j) % 10 : Nat) : Int)
  | 0, _, _, h => by omega
  | i + 1, v, j, h => by
    simp only [dl, List.getD_eq_getElem?_getD]
    by_cases e : j = i
    · subst e
      rw [List.getElem?_append_right (by rw [dl_length]; exact Nat.le_refl _)]
      simp [dl_length]
    · rw [List.getElem?_append_left (by rw [dl_length]; omega), ← List.getD_eq_getElem?_getD, dl_get i (v / 10) j (by omega), Nat.div_div_eq_div_mul, show i + 1 - 1 - j = (i - 1 - j) + 1 by omega, Nat.pow_succ, Nat.mul_comm 10]
theorem bt_tx (i v j : Nat) (h : j < i) : bt (tx i v) j = 48 + ((v / 10 ^ (i - 1 - j) % 10 : Nat) : Int) := by
  rw [bt_li, li_tx]
  exact dl_get i v j h
theorem tx_dig (i v : Nat) : ∀ j : Nat, j < (tx i v).size → 48 ≤ bt (tx i v) j ∧ bt (tx i v) j ≤ 57 := by
  intro j hj
  rw [tx_size] at hj
  rw [bt_tx i v j hj]
  omega
theorem tx_succ (i v d : Nat) (hd : d < 10) : tx (i + 1) (10 * v + d) = tx i v ++ strOfNums [48 + (d : Int)] := by
  apply li_inj
  rw [li_append, li_tx, li_tx, li_nums _ (by simp; omega)]
  simp only [dl]
  rw [show (10 * v + d) / 10 = v by omega, show (10 * v + d) % 10 = d by omega]
theorem tx_zero (v : Nat) : tx 0 v = ⟨#[]⟩ := rfl

/-- the number that digits tell -/
def val : List Int → Nat := List.foldl (fun a d => 10 * a + (d - 48).toNat) 0
theorem val_snoc (l : List Int) (d : Int) : val (l ++ [d]) = 10 * val l + (d - 48).toNat := by simp [val, List.foldl_append]
theorem val_lt (l : List Int) (h : ∀ x ∈ l, 48 ≤ x ∧ x ≤ 57) : val l < 10 ^ l.length := by
  have key : ∀ (n : Nat) (l : List Int), l.length = n → (∀ x ∈ l, 48 ≤ x ∧ x ≤ 57) → val l < 10 ^ n := by
    intro n
    induction n with
    | zero =>
      intro l hl _
      obtain rfl := List.eq_nil_of_length_eq_zero hl
      decide
    | succ n ih =>
      intro l hl h
      have hne : l ≠ [] := by intro e; rw [e] at hl; simp at hl
      obtain ⟨l', d, rfl⟩ : ∃ l' d, l = l' ++ [d] := ⟨l.dropLast, l.getLast hne, (List.dropLast_concat_getLast hne).symm⟩
      have h1 := ih l' (by simpa using hl) (fun x hx => h x (List.mem_append_left _ hx))
      have h2 := h d (by simp)
      rw [val_snoc, Nat.pow_succ]
      omega
  exact key _ l rfl h
theorem dl_val (l : List Int) (h : ∀ x ∈ l, 48 ≤ x ∧ x ≤ 57) : dl l.length (val l) = l := by
  have key : ∀ (n : Nat) (l : List Int), l.length = n → (∀ x ∈ l, 48 ≤ x ∧ x ≤ 57) → dl n (val l) = l := by
    intro n
    induction n with
    | zero =>
      intro l hl _
      obtain rfl := List.eq_nil_of_length_eq_zero hl
      rfl
    | succ n ih =>
      intro l hl h
      have hne : l ≠ [] := by intro e; rw [e] at hl; simp at hl
      obtain ⟨l', d, rfl⟩ : ∃ l' d, l = l' ++ [d] := ⟨l.dropLast, l.getLast hne, (List.dropLast_concat_getLast hne).symm⟩
      have h1 := ih l' (by simpa using hl) (fun x hx => h x (List.mem_append_left _ hx))
      have h2 := h d (by simp)
      simp only [dl]
      rw [val_snoc, show (10 * val l' + (d - 48).toNat) / 10 = val l' by omega, show (10 * val l' + (d - 48).toNat) % 10 = (d - 48).toNat by omega, h1]
      congr 2
      omega
  exact key _ l rfl h
theorem val_dl : ∀ (i v : Nat), val (dl i v) = v % 10 ^ i
  | 0, v => by rw [Nat.pow_zero, Nat.mod_one]; rfl
  | i + 1, v => by
    simp only [dl]
    rw [val_snoc, val_dl i (v / 10), Nat.pow_succ]
    have : (48 + ((v % 10 : Nat) : Int) - 48).toNat = v % 10 := by omega
    rw [this]
    have h1 := Nat.mod_mul (x := v) (a := 10) (b := 10 ^ i)
    rw [Nat.mul_comm (10 ^ i) 10, h1]
    omega
theorem good_tx {s : ByteArray} (h : good s = true) : ∃ v, v < 10 ^ s.size ∧ s = tx s.size v ∧ val (li s) = v := by
  obtain ⟨h1, h9, hd⟩ := good_at h
  have hds : ∀ x ∈ li s, 48 ≤ x ∧ x ≤ 57 := by
    intro x hx
    obtain ⟨j, hj, rfl⟩ := List.mem_iff_getElem.1 hx
    have := hd j (by rw [li_length] at hj; exact hj)
    rw [bt_li] at this
    simpa [List.getD_eq_getElem?_getD, hj] using this
  refine ⟨val (li s), by have := val_lt _ hds; rwa [li_length] at this, li_inj ?_, rfl⟩
  rw [li_tx]
  have := dl_val _ hds
  rw [li_length] at this
  exact this.symm
theorem pow_le {i : Nat} (h : i ≤ 9) : 10 ^ i ≤ 1000000000 := by
  have : 10 ^ i ≤ 10 ^ 9 := Nat.pow_le_pow_right (by decide) h
  simpa using this

theorem pow_step (p : Nat) (h : p ≤ 1000000000) : wrap64 ((p : Int) * 10) = ((p * 10 : Nat) : Int) := by rw [wrap_id (by omega) (by omega)]; omega

/-- a text's number, read by either text -/
theorem tk_ev (i v : Nat) (h9 : i ≤ 9) (hv : v < 10 ^ i) : Ev (fun k => spec_tkNumber.f k (tx i v)) (v : Int) := by
  have loop : ∀ (d j : Nat), j + d = i → Ev (fun k => spec_tkNumber.l0 k (tx i v) ((v / 10 ^ (i - j) : Nat) : Int) (j : Int)) (v : Int) := by
    intro d
    induction d with
    | zero =>
      intro j hj
      obtain rfl : j = i := by omega
      refine Ev.step (f := fun _ => some ((v : Nat) : Int)) (fun k => ?_) (Ev.now _)
      have c : ¬ (j : Int) < ((tx j v).size : Int) := by rw [tx_size]; omega
      simp only [spec_tkNumber.l0]
      rw [if_neg c]
      simp
    | succ d ih =>
      intro j hj
      refine Ev.step (fun k => ?_) (ih (j + 1) (by omega))
      have c : (j : Int) < ((tx i v).size : Int) := by rw [tx_size]; omega
      have c2 : 0 ≤ (j : Int) := by omega
      have hp := pow_le h9
      have hle : v / 10 ^ (i - j) ≤ v := Nat.div_le_self _ _
      have hb := bt_tx i v j (by omega)
      have e : 10 * (v / 10 ^ (i - j)) + v / 10 ^ (i - 1 - j) % 10 = v / 10 ^ (i - (j + 1)) := by
        rw [show i - j = (i - 1 - j) + 1 by omega, Nat.pow_succ, ← Nat.div_div_eq_div_mul, show i - (j + 1) = i - 1 - j by omega]
        omega
      have e2 : wrap64 (wrap64 (((v / 10 ^ (i - j) : Nat) : Int) * 10) + (bt (tx i v) (j : Int) - 48) % 256) = ((v / 10 ^ (i - (j + 1)) : Nat) : Int) := by
        rw [hb, wrap_id (i := ((v / 10 ^ (i - j) : Nat) : Int) * 10) (by omega) (by omega), wrap_id (by omega) (by omega)]
        omega
      have e1 : wrap64 ((j : Int) + 1) = ((j + 1 : Nat) : Int) := by rw [wrap_id (by omega) (by omega)]; rfl
      simp only [spec_tkNumber.l0]
      rw [if_pos c, if_pos c2, e2, e1]
  have := loop i 0 (by omega)
  rw [Nat.sub_zero, Nat.div_eq_of_lt hv] at this
  exact this
theorem number_ev (i v : Nat) (h9 : i ≤ 9) (hv : v < 10 ^ i) : Ev (fun k => impl_numberOf.f k (tx i v)) (v : Int) := by
  have loop : ∀ (d j : Nat), j + d = i → Ev (fun k => impl_numberOf.l0 k (tx i v) ((v / 10 ^ (i - j) : Nat) : Int) (i : Int) (j : Int)) (v : Int) := by
    intro d
    induction d with
    | zero =>
      intro j hj
      obtain rfl : j = i := by omega
      refine Ev.step (f := fun _ => some ((v : Nat) : Int)) (fun k => ?_) (Ev.now _)
      have c : ¬ (j : Int) < (j : Int) := by omega
      simp only [impl_numberOf.l0]
      rw [if_neg c]
      simp
    | succ d ih =>
      intro j hj
      refine Ev.step (fun k => ?_) (ih (j + 1) (by omega))
      have c : (j : Int) < ((tx i v).size : Int) := by rw [tx_size]; omega
      have c0 : (j : Int) < (i : Int) := by omega
      have c2 : 0 ≤ (j : Int) := by omega
      have hp := pow_le h9
      have hle : v / 10 ^ (i - j) ≤ v := Nat.div_le_self _ _
      have hb := bt_tx i v j (by omega)
      have e : 10 * (v / 10 ^ (i - j)) + v / 10 ^ (i - 1 - j) % 10 = v / 10 ^ (i - (j + 1)) := by
        rw [show i - j = (i - 1 - j) + 1 by omega, Nat.pow_succ, ← Nat.div_div_eq_div_mul, show i - (j + 1) = i - 1 - j by omega]
        omega
      have e2 : wrap64 (wrap64 (10 * ((v / 10 ^ (i - j) : Nat) : Int)) + (bt (tx i v) (j : Int) - 48) % 256) = ((v / 10 ^ (i - (j + 1)) : Nat) : Int) := by
        rw [hb, wrap_id (i := 10 * ((v / 10 ^ (i - j) : Nat) : Int)) (by omega) (by omega), wrap_id (by omega) (by omega)]
        omega
      have e1 : wrap64 ((j : Int) + 1) = ((j + 1 : Nat) : Int) := by rw [wrap_id (by omega) (by omega)]; rfl
      simp only [impl_numberOf.l0]
      rw [if_pos c0, if_pos c2, if_pos c, e2, e1]
  have := loop i 0 (by omega)
  rw [Nat.sub_zero, Nat.div_eq_of_lt hv] at this
  unfold impl_numberOf.f
  rw [tx_size]
  exact this
theorem miAll_ev (i : Nat) (h9 : i ≤ 9) : Ev (fun k => spec_miAll.f k (i : Int)) ((10 ^ i : Nat) : Int) := by
  have loop : ∀ (d j : Nat), j + d = i → Ev (fun k => spec_miAll.l0 k (d : Int) ((10 ^ j : Nat) : Int)) ((10 ^ i : Nat) : Int) := by
    intro d
    induction d with
    | zero =>
      intro j hj
      obtain rfl : j = i := by omega
      refine Ev.step (f := fun _ => some ((10 ^ j : Nat) : Int)) (fun k => ?_) (Ev.now _)
      simp only [spec_miAll.l0]
      rw [if_neg (by omega)]
    | succ d ih =>
      intro j hj
      refine Ev.step (fun k => ?_) (ih (j + 1) (by omega))
      have hp := pow_le (show j ≤ 9 by omega)
      have c : ((d + 1 : Nat) : Int) > 0 := by omega
      have e1 : wrap64 (((d + 1 : Nat) : Int) - 1) = (d : Int) := by rw [wrap_id (by omega) (by omega)]; omega
      have e2 := pow_step (10 ^ j) hp
      rw [← Nat.pow_succ] at e2
      simp only [spec_miAll.l0]
      rw [if_pos c, e1, e2]
  unfold spec_miAll.f
  have := loop i 0 (by omega)
  rw [Nat.pow_zero] at this
  exact this
theorem round_ev (i : Nat) (h9 : i ≤ 9) : Ev (fun k => impl_round.f k (i : Int)) ((10 ^ i : Nat) : Int) := by
  have loop : ∀ (d j : Nat), j + d = i → Ev (fun k => impl_round.l0 k ((10 ^ j : Nat) : Int) (i : Int) (j : Int)) ((10 ^ i : Nat) : Int) := by
    intro d
    induction d with
    | zero =>
      intro j hj
      obtain rfl : j = i := by omega
      refine Ev.step (f := fun _ => some ((10 ^ j : Nat) : Int)) (fun k => ?_) (Ev.now _)
      simp only [impl_round.l0]
      rw [if_neg (by omega)]
    | succ d ih =>
      intro j hj
      refine Ev.step (fun k => ?_) (ih (j + 1) (by omega))
      have hp := pow_le (show j ≤ 9 by omega)
      have c : (j : Int) < (i : Int) := by omega
      have e1 : wrap64 ((j : Int) + 1) = ((j + 1 : Nat) : Int) := by rw [wrap_id (by omega) (by omega)]; rfl
      have e2 := pow_step (10 ^ j) hp
      rw [← Nat.pow_succ] at e2
      simp only [impl_round.l0]
      rw [if_pos c, e1, e2]
  unfold impl_round.f
  have := loop i 0 (by omega)
  rw [Nat.pow_zero] at this
  exact this
theorem l1Num_ev (a : Nat) (h : a < 10) : Ev (fun k => spec_l1Num.f k (a : Int)) (strOfNums [48 + (a : Int)]) := by
  refine Ev.step (f := fun _ => some (strOfNums [48 + (a : Int)])) (fun k => ?_) (Ev.now _)
  have c : (a : Int) < 10 := by omega
  have e : wrap64 (48 + (a : Int)) % 256 = 48 + (a : Int) := by rw [wrap_id (by omega) (by omega)]; omega
  simp only [spec_l1Num.f]
  rw [if_pos c, e]
theorem miText_ev (i m : Nat) (h9 : i ≤ 9) (hm : m < 10000000000) : Ev (fun k => spec_miText.f k (i : Int) (m : Int)) (tx i m) := by
  have loop : ∀ (d j : Nat) (v : Nat) (acc : ByteArray), j + d = i → v < 10000000000 → acc.size = j → Ev (fun k => spec_miText.l0 k (i : Int) (v : Int) acc (j : Int)) (tx d v ++ acc) := by
    intro d
    induction d with
    | zero =>
      intro j v acc hj hv ha
      refine Ev.step (f := fun _ => some acc) (fun k => ?_) (Ev.eq (Ev.now _) (li_inj (by rw [li_append, li_tx]; rfl)))
      have c : ¬ (j : Int) < (i : Int) := by omega
      simp only [spec_miText.l0]
      rw [if_neg c]
    | succ d ih =>
      intro j v acc hj hv ha
      have hz : (strOfNums [48 + ((v % 10 : Nat) : Int)]).size = 1 := by rw [← li_length, li_nums _ (by simp; omega)]; rfl
      have hi := ih (j + 1) (v / 10) (strOfNums [48 + ((v % 10 : Nat) : Int)] ++ acc) (by omega) (by omega) (by rw [ByteArray.size_append, hz]; omega)
      have c : (j : Int) < (i : Int) := by omega
      have e1 : wrap64 ((j : Int) + 1) = ((j + 1 : Nat) : Int) := by rw [wrap_id (by omega) (by omega)]; rfl
      have e3 : Int.tmod (v : Int) 10 = ((v % 10 : Nat) : Int) := by rw [Int.tmod_eq_emod_of_nonneg (by omega)]; omega
      have e4 : wrap64 (Int.tdiv (v : Int) 10) = ((v / 10 : Nat) : Int) := by rw [Int.tdiv_eq_ediv_of_nonneg (by omega), wrap_id (by omega) (by omega)]; omega
      have body : ∀ k, spec_miText.l0 (k + 1) (i : Int) (v : Int) acc (j : Int) = (spec_l1Num.f k ((v % 10 : Nat) : Int)).bind fun t101 => (if t101.size + acc.size ≤ 9223372036854775807 then (spec_miText.l0 k (i : Int) ((v / 10 : Nat) : Int) (t101 ++ acc) ((j + 1 : Nat) : Int)) else (none)) := by
        intro k
        simp only [spec_miText.l0]
        rw [if_pos c, e3, e4, e1]
      clear e1 e3 e4
      have cz : (strOfNums [48 + ((v % 10 : Nat) : Int)]).size + acc.size ≤ 9223372036854775807 := by rw [hz, ha]; omega
      refine Ev.step body (Ev.bind' (l1Num_ev (v % 10) (by omega)) (Ev.pos cz (Ev.eq hi ?_)))
      apply li_inj
      rw [li_append, li_append, li_append, li_tx, li_tx, li_nums _ (by simp; omega)]
      simp only [dl, List.append_assoc]
  unfold spec_miText.f
  have := loop i 0 m ⟨#[]⟩ (by omega) hm rfl
  refine Ev.eq this (li_inj ?_)
  rw [li_append]
  show li (tx i m) ++ [] = _
  rw [List.append_nil]

end Go.Proofs.Ytpdcjkiejglaiaa.Q

/-
  Readings and their numbers: what a text of fewer digits is to a longer one, which of two texts is the lesser, and when a reading's number is of a kind.
-/
namespace Go.Proofs.Ytpdcjkiejglaiaa.Q
open Go.RowKit Go.Proofs.YtpdcjkiejglaiaaW.PrintWords Go.Proofs.YtpdcjkiejglaiaaW.PrintLast Go.Proofs.YtpdcjkiejglaiaaW.PrintMore
set_option linter.unusedVariables false
set_option linter.unusedSimpArgs false

/-- is a number, written with so many digits, of a kind? -/
def K (c : Int) (n m : Nat) : Bool := allF (mayAt c (tx n m) n) n 0
theorem K_iff (c : Int) (n m : Nat) : K c n m = true ↔ ∀ j, j < n → mayAt c (tx n m) n j = true := by
  unfold K
  rw [allF_iff]
  exact ⟨fun h j hj => h j (by omega) (by omega), fun h j _ hj => h j (by omega)⟩
theorem pre_bt (n i m j : Nat) (hi : i ≤ n) (hj : j < i) : bt (tx n m) j = bt (tx i (m / 10 ^ (n - i))) j := by
  rw [bt_tx n m j (by omega), bt_tx i _ j hj, Nat.div_div_eq_div_mul, ← Nat.pow_add, show n - i + (i - 1 - j) = n - 1 - j by omega]
theorem pre_txt (n i m : Nat) (hi : i ≤ n) : (tx n m).extract 0 i = tx i (m / 10 ^ (n - i)) := by
  apply li_inj
  refine li_ext ?_ fun j hj => ?_
  · rw [size_extract0 _ _ (by rw [tx_size]; exact hi), tx_size]
  · rw [size_extract0 _ _ (by rw [tx_size]; exact hi)] at hj
    rw [bt_extract0 _ _ (by rw [tx_size]; exact hi) j hj, pre_bt n i m j hi hj]

/-! the order of texts -/
theorem less_snoc : ∀ (a b : List UInt8) (x y : UInt8), a.length = b.length → Op.bytesLess (a ++ [x]) (b ++ [y]) = (Op.bytesLess a b || (a == b && decide (x < y)))
  | [], [], x, y, _ => by simp [Op.bytesLess]
  | [], _ :: _, _, _, h => by simp at h
  | _ :: _, [], _, _, h => by simp at h
  | p :: a, q :: b, x, y, h => by
    have ih := less_snoc a b x y (by simpa using h)
    simp only [List.cons_append, Op.bytesLess, ih, List.cons_beq_cons]
    cases p == q <;> cases (decide (p < q)) <;> simp
def u8 (l : List Int) : List UInt8 := l.map fun x => x.toNat.toUInt8
theorem tx_list (i v : Nat) : (tx i v).toList = u8 (dl i v) := by rw [ByteArray.toList_eq]; simp [tx, strOfNums, u8]
theorem last_u8 (d : Nat) : (48 + (d : Int)).toNat.toUInt8 = (48 + d).toUInt8 := by rw [show (48 + (d : Int)).toNat = 48 + d by omega]
theorem snoc_inj {a b : List UInt8} {x y : UInt8} : a ++ [x] = b ++ [y] ↔ a = b ∧ x = y := by
  constructor
  · intro h
    have := List.append_inj' h rfl
    exact ⟨this.1, by simpa using this.2⟩
  · rintro ⟨rfl, rfl⟩; rfl
theorem less_tx : ∀ i v u : Nat, v < 10 ^ i → u < 10 ^ i → Op.bytesLess (tx i v).toList (tx i u).toList = decide (v < u) ∧ ((tx i v).toList == (tx i u).toList) = decide (v = u)
  | 0, v, u, hv, hu => by
    rw [Nat.pow_zero] at hv hu
    obtain rfl : v = 0 := by omega
    obtain rfl : u = 0 := by omega
    rw [tx_list]
    simp [dl, u8, Op.bytesLess]
  | i + 1, v, u, hv, hu => by
    rw [Nat.pow_succ] at hv hu
    have ih := less_tx i (v / 10) (u / 10) (by omega) (by omega)
    rw [tx_list, tx_list] at ih
    have ev : (tx (i + 1) v).toList = u8 (dl i (v / 10)) ++ [(48 + v % 10).toUInt8] := by rw [tx_list]; simp only [dl, u8, List.map_append, List.map_cons, List.map_nil, last_u8]
    have eu : (tx (i + 1) u).toList = u8 (dl i (u / 10)) ++ [(48 + u % 10).toUInt8] := by rw [tx_list]; simp only [dl, u8, List.map_append, List.map_cons, List.map_nil, last_u8]
    have hx : (48 + v % 10).toUInt8 < (48 + u % 10).toUInt8 ↔ v % 10 < u % 10 := by
      rw [UInt8.lt_iff_toNat_lt]
      simp [Nat.toUInt8]
      omega
    have he : (48 + v % 10).toUInt8 = (48 + u % 10).toUInt8 ↔ v % 10 = u % 10 := by
      rw [← UInt8.toNat_inj]
      simp [Nat.toUInt8]
      omega
    rw [ev, eu]
    constructor
    · rw [less_snoc _ _ _ _ (by simp [u8, dl_length]), ih.1, ih.2, Bool.eq_iff_iff]
      simp only [Bool.or_eq_true, Bool.and_eq_true, decide_eq_true_eq, hx]
      omega
    · rw [Bool.eq_iff_iff, beq_iff_eq, decide_eq_true_eq]
      have h2 := ih.2
      rw [Bool.eq_iff_iff, beq_iff_eq, decide_eq_true_eq] at h2
      rw [snoc_inj, h2, he]
      omega

end Go.Proofs.Ytpdcjkiejglaiaa.Q

/-
  The reference's test of a beginning: it never turns away the beginning of a reading of the kind, and a whole reading passes just if it is of the kind.
-/
namespace Go.Proofs.Ytpdcjkiejglaiaa.Q
open Go.RowKit Go.Proofs.YtpdcjkiejglaiaaW.PrintWords Go.Proofs.YtpdcjkiejglaiaaW.PrintLast Go.Proofs.YtpdcjkiejglaiaaW.PrintMore
set_option linter.unusedVariables false
set_option linter.unusedSimpArgs false

theorem one_eq (s : ByteArray) (i j : Nat) (hi : i < s.size) (hj : j < s.size) : (s.extract i (i + 1)).toList = (s.extract j (j + 1)).toList ↔ bt s i = bt s j := by
  rw [toList_li, li_one s i hi, li_one s j hj]
  simp
def canM (n : Nat) (p : ByteArray) (j : Nat) : Bool := decide (¬ n - 1 - j < p.size) || (bt p ((n - 1 - j : Nat) : Int) == bt p j)
def canU (n : Nat) (p : ByteArray) (j : Nat) : Bool := up (bt p j) != 0 && (decide (¬ 2 * j + 1 = n) || (up (bt p j) == bt p j)) && (decide (¬ n - 1 - j < p.size) || (bt p ((n - 1 - j : Nat) : Int) == up (bt p j)))
theorem ne117 : ¬ ([109] : List UInt8) = [117] := by decide

theorem can_m (n : Nat) (p : ByteArray) (h9 : n ≤ 9) (hp : p.size < n) : Ev (fun k => spec_miCan.l0 k (n : Int) p (kt 109) (p.size : Int) 0) (allF (canM n p) p.size 0) := by
  have stop : Ev (fun k => spec_miCan.l0 k (n : Int) p (kt 109) (p.size : Int) ((p.size : Nat) : Int)) true := by
    refine Ev.step (f := fun _ => some true) (fun k => ?_) (Ev.now _)
    simp only [spec_miCan.l0]
    rw [if_neg (by omega)]
  have body : ∀ j : Nat, j < p.size → ∀ k, spec_miCan.l0 (k + 1) (n : Int) p (kt 109) (p.size : Int) (j : Int) = if n - 1 - j < p.size then (if bt p ((n - 1 - j : Nat) : Int) = bt p j then spec_miCan.l0 k (n : Int) p (kt 109) (p.size : Int) ((j + 1 : Nat) : Int) else some false) else spec_miCan.l0 k (n : Int) p (kt 109) (p.size : Int) ((j + 1 : Nat) : Int) := by
    intro j hj k
    have e1 : wrap64 ((j : Int) + 1) = ((j + 1 : Nat) : Int) := by rw [wrap_id (by omega) (by omega)]; rfl
    have e2 : wrap64 (wrap64 ((n : Int) - 1) - (j : Int)) = ((n - 1 - j : Nat) : Int) := by rw [wrap_id (i := (n : Int) - 1) (by omega) (by omega), wrap_id (by omega) (by omega)]; omega
    have e3 : wrap64 (((n - 1 - j : Nat) : Int) + 1) = ((n - 1 - j + 1 : Nat) : Int) := by rw [wrap_id (by omega) (by omega)]; rfl
    simp only [spec_miCan.l0, kt_toList, e1, e2, e3, ne117, if_false, Int.toNat_natCast]
    clear e1 e2 e3
    rw [if_pos (by omega), if_pos (by omega), if_pos (by omega), if_pos (by omega)]
    by_cases c : n - 1 - j < p.size
    · rw [if_pos c, if_pos (by omega), if_pos (by omega), if_pos (by omega), if_pos (by omega)]
      by_cases d : bt p ((n - 1 - j : Nat) : Int) = bt p j
      · rw [if_pos d, if_pos ((one_eq p _ _ c hj).2 d)]
      · rw [if_neg d, if_neg (fun h => d ((one_eq p _ _ c hj).1 h))]
    · rw [if_neg c, if_neg (by omega)]
  refine Ev.eq (Ev_all (l := fun k j => spec_miCan.l0 k (n : Int) p (kt 109) (p.size : Int) (j : Int)) (p := canM n p) (n := p.size) stop ?_ ?_ p.size 0 (by omega)) (by simp)
  · intro i hi hq q hh
    simp only [canM, Bool.or_eq_true, decide_eq_true_eq, beq_iff_eq] at hq
    refine Ev.step (fun k => ?_) hh
    rw [body i hi k]
    by_cases c : n - 1 - i < p.size
    · rw [if_pos c, if_pos (hq.resolve_left (fun h => h c))]
    · rw [if_neg c]
  · intro i hi hq
    simp only [canM, Bool.or_eq_false_iff, decide_eq_false_iff_not, beq_eq_false_iff_ne] at hq
    refine Ev.step (f := fun _ => some false) (fun k => ?_) (Ev.now _)
    rw [body i hi k, if_pos (Classical.not_not.1 hq.1), if_neg hq.2]

theorem can_u (n : Nat) (p : ByteArray) (h9 : n ≤ 9) (hp : p.size < n) : Ev (fun k => spec_miCan.l0 k (n : Int) p (kt 117) (p.size : Int) 0) (allF (canU n p) p.size 0) := by
  have stop : Ev (fun k => spec_miCan.l0 k (n : Int) p (kt 117) (p.size : Int) ((p.size : Nat) : Int)) true := by
    refine Ev.step (f := fun _ => some true) (fun k => ?_) (Ev.now _)
    simp only [spec_miCan.l0]
    rw [if_neg (by omega)]
  have jbody : ∀ j : Nat, j < p.size → ∀ (t : ByteArray), li t = [up (bt p j)] → ∀ k, spec_miCan.j1 (k + 1) (n : Int) p (kt 117) (p.size : Int) (j : Int) t false = if n - 1 - j < p.size then (if bt p ((n - 1 - j : Nat) : Int) = up (bt p j) then spec_miCan.l0 k (n : Int) p (kt 117) (p.size : Int) ((j + 1 : Nat) : Int) else some false) else spec_miCan.l0 k (n : Int) p (kt 117) (p.size : Int) ((j + 1 : Nat) : Int) := by
    intro j hj t ht k
    have e1 : wrap64 ((j : Int) + 1) = ((j + 1 : Nat) : Int) := by rw [wrap_id (by omega) (by omega)]; rfl
    have e2 : wrap64 (wrap64 ((n : Int) - 1) - (j : Int)) = ((n - 1 - j : Nat) : Int) := by rw [wrap_id (i := (n : Int) - 1) (by omega) (by omega), wrap_id (by omega) (by omega)]; omega
    have e3 : wrap64 (((n - 1 - j : Nat) : Int) + 1) = ((n - 1 - j + 1 : Nat) : Int) := by rw [wrap_id (by omega) (by omega)]; rfl
    simp only [spec_miCan.j1, e1, e2, e3, Int.toNat_natCast, Bool.false_eq_true, if_false]
    clear e1 e2 e3
    by_cases c : n - 1 - j < p.size
    · rw [if_pos c, if_pos (by omega), if_pos (by omega), if_pos (by omega), if_pos (by omega)]
      have he : (p.extract (n - 1 - j) (n - 1 - j + 1)).toList = t.toList ↔ bt p ((n - 1 - j : Nat) : Int) = up (bt p j) := by
        rw [toList_li, li_one p _ c, ht]
        simp
      by_cases d : bt p ((n - 1 - j : Nat) : Int) = up (bt p j)
      · rw [if_pos d, if_pos (he.2 d)]
      · rw [if_neg d, if_neg (fun h => d (he.1 h))]
    · rw [if_neg c, if_neg (by omega)]
  have body : ∀ j : Nat, j < p.size → ∀ k, spec_miCan.l0 (k + 1) (n : Int) p (kt 117) (p.size : Int) (j : Int) = ((spec_miUpside.f k (p.extract j (j + 1))).bind fun bt106 => (if bt106.2 = true then (if 2 * j + 1 = n then (spec_miCan.j1 k (n : Int) p (kt 117) (p.size : Int) (j : Int) bt106.1 (bt106.1.toList != (p.extract j (j + 1)).toList)) else (spec_miCan.j1 k (n : Int) p (kt 117) (p.size : Int) (j : Int) bt106.1 false)) else (spec_miCan.j1 k (n : Int) p (kt 117) (p.size : Int) (j : Int) bt106.1 true))) := by
    intro j hj k
    have e1 : wrap64 ((j : Int) + 1) = ((j + 1 : Nat) : Int) := by rw [wrap_id (by omega) (by omega)]; rfl
    have e2 : (wrap64 (wrap64 (2 * (j : Int)) + 1) = (n : Int)) ↔ 2 * j + 1 = n := by rw [wrap_id (i := 2 * (j : Int)) (by omega) (by omega), wrap_id (by omega) (by omega)]; omega
    simp only [spec_miCan.l0, kt_toList, e1, e2, if_true, Int.toNat_natCast]
    clear e1 e2
    rw [if_pos (by omega), if_pos (by omega), if_pos (by omega), if_pos (by omega)]
  have ups : ∀ j : Nat, j < p.size → ∃ t b, Ev (fun k => spec_miUpside.f k (p.extract j (j + 1))) (t, b) ∧ (b = true ↔ up (bt p j) ≠ 0) ∧ (b = true → li t = [up (bt p j)]) := by
    intro j hj
    obtain ⟨t, b, ht, h2, h3, _⟩ := miUpside_ev (p.extract j (j + 1)) (by rw [ByteArray.size_extract]; omega)
    have hl := li_one p j hj
    have hz : (p.extract j (j + 1)).size = 1 := by rw [ByteArray.size_extract]; omega
    have hb : bt (p.extract j (j + 1)) ((0 : Nat) : Int) = bt p j := by rw [bt_li, hl]; rfl
    refine ⟨t, b, ht, ?_, fun hh => by rw [h3 hh, hl]; rfl⟩
    rw [h2, hz]
    constructor
    · intro h; have := h 0 (by omega); rwa [hb] at this
    · intro h i hi
      obtain rfl : i = 0 := by omega
      rwa [hb]
  have refuse : ∀ (j : Nat) (t : ByteArray), Ev (fun k => spec_miCan.j1 k (n : Int) p (kt 117) (p.size : Int) (j : Int) t true) false := fun j t => Ev.step (f := fun _ => some false) (fun k => by simp only [spec_miCan.j1]; rw [if_true]) (Ev.now _)
  refine Ev.eq (Ev_all (l := fun k j => spec_miCan.l0 k (n : Int) p (kt 117) (p.size : Int) (j : Int)) (p := canU n p) (n := p.size) stop ?_ ?_ p.size 0 (by omega)) (by simp)
  · intro i hi hq q hh
    simp only [canU, Bool.and_eq_true, Bool.or_eq_true, decide_eq_true_eq, beq_iff_eq, bne_iff_ne] at hq
    obtain ⟨⟨h1, h2⟩, h3⟩ := hq
    obtain ⟨t, b, ht, hb, hl⟩ := ups i hi
    have hbt := hb.2 h1
    have go : Ev (fun k => spec_miCan.j1 k (n : Int) p (kt 117) (p.size : Int) (i : Int) t false) q := by
      refine Ev.step (fun k => ?_) hh
      rw [jbody i hi t (hl hbt) k]
      by_cases c : n - 1 - i < p.size
      · rw [if_pos c, if_pos (h3.resolve_left (fun h => h c))]
      · rw [if_neg c]
    refine Ev.step (body i hi) (Ev.bind' ht (Ev.pos hbt ?_))
    by_cases d : 2 * i + 1 = n
    · refine Ev.pos d ?_
      have : (t.toList != (p.extract i (i + 1)).toList) = false := by
        rw [bne_eq_false_iff_eq, toList_li, hl hbt, li_one p i hi]
        rcases h2 with h | h
        · exact absurd d h
        · rw [h]
      rw [this]
      exact go
    · exact Ev.neg d go
  · intro i hi hq
    obtain ⟨t, b, ht, hb, hl⟩ := ups i hi
    refine Ev.step (body i hi) (Ev.bind' ht ?_)
    by_cases hbt : b = true
    · refine Ev.pos hbt ?_
      have h1 := hb.1 hbt
      have stay : (n - 1 - i < p.size ∧ ¬ bt p ((n - 1 - i : Nat) : Int) = up (bt p i)) → Ev (fun k => spec_miCan.j1 k (n : Int) p (kt 117) (p.size : Int) (i : Int) t false) false := by
        intro h
        refine Ev.step (f := fun _ => some false) (fun k => ?_) (Ev.now _)
        rw [jbody i hi t (hl hbt) k, if_pos h.1, if_neg h.2]
      have hq' : (2 * i + 1 = n ∧ ¬ up (bt p i) = bt p i) ∨ (n - 1 - i < p.size ∧ ¬ bt p ((n - 1 - i : Nat) : Int) = up (bt p i)) := by
        apply Classical.byContradiction
        intro hx
        have : canU n p i = true := by
          simp only [canU, Bool.and_eq_true, Bool.or_eq_true, decide_eq_true_eq, beq_iff_eq, bne_iff_ne]
          refine ⟨⟨h1, ?_⟩, ?_⟩
          · by_cases c : 2 * i + 1 = n
            · right; exact Classical.byContradiction fun h => hx (.inl ⟨c, h⟩)
            · exact .inl c
          · by_cases c : n - 1 - i < p.size
            · right; exact Classical.byContradiction fun h => hx (.inr ⟨c, h⟩)
            · exact .inl c
        rw [this] at hq; cases hq
      by_cases d : 2 * i + 1 = n
      · refine Ev.pos d ?_
        by_cases e : up (bt p i) = bt p i
        · have : (t.toList != (p.extract i (i + 1)).toList) = false := by rw [bne_eq_false_iff_eq, toList_li, hl hbt, li_one p i hi, e]
          rw [this]
          rcases hq' with h | h
          · exact absurd e h.2
          · exact stay h
        · have : (t.toList != (p.extract i (i + 1)).toList) = true := by
            rw [bne_iff_ne]
            intro h
            rw [toList_li, hl hbt, li_one p i hi] at h
            exact e (by simpa using h)
          rw [this]
          exact refuse i t
      · refine Ev.neg d ?_
        rcases hq' with h | h
        · exact absurd h.1 d
        · exact stay h
    · exact Ev.neg hbt (refuse i t)

end Go.Proofs.Ytpdcjkiejglaiaa.Q

/-
  The reference's test of a beginning, all six kinds.
-/
namespace Go.Proofs.Ytpdcjkiejglaiaa.Q
open Go.RowKit Go.Proofs.YtpdcjkiejglaiaaW.PrintWords Go.Proofs.YtpdcjkiejglaiaaW.PrintLast Go.Proofs.YtpdcjkiejglaiaaW.PrintMore
set_option linter.unusedVariables false
set_option linter.unusedSimpArgs false

theorem can_ev (c : UInt8) (hc : isLetter c) (n i v : Nat) (h1 : 1 ≤ n) (h9 : n ≤ 9) (hi : i ≤ n) (hv : v < 10 ^ i) :
    ∃ b, Ev (fun k => spec_miCan.f k (n : Int) (tx i v) (kt c)) b ∧ (i = n → b = K (c.toNat : Int) n v) ∧
      ((∃ m, m / 10 ^ (n - i) = v ∧ K (c.toNat : Int) n m = true) → b = true) := by
  have hz := tx_size i v
  have hd := tx_dig i v
  have ne : ∀ {a b : UInt8}, a ≠ b → ¬ ([a] : List UInt8) = [b] := fun h e => h (by simpa using e)
  unfold spec_miCan.f
  simp only [kt_toList]
  by_cases hin : i = n
  · subst hin
    refine ⟨K (c.toNat : Int) i v, Ev.pos (by rw [hz]) (Ev.bind' (miIs_ev c hc _ (by omega) (by omega) hd) (Ev.eq (Ev.now _) (by unfold K; rw [hz]))), fun _ => rfl, ?_⟩
    rintro ⟨m, hm, hk⟩
    rw [Nat.sub_self, Nat.pow_zero, Nat.div_one] at hm
    rw [← hm]; exact hk
  · have hlt : i < n := by omega
    have hs : ¬ ((tx i v).size : Int) = (n : Int) := by rw [hz]; omega
    have pb : ∀ m j, m / 10 ^ (n - i) = v → j < i → bt (tx n m) j = bt (tx i v) j := fun m j hm hj => by rw [pre_bt n i m j hi hj, hm]
    -- what it is to be of the kind
    have cl : ∀ (g : Bool) , (∃ b, Ev (fun k => if ([c] : List UInt8) = ([97] : List UInt8) then ((spec_miDigits.f (tx i v)).bind fun t102 => (some (decide (t102 ≤ 1)))) else (if ([c] : List UInt8) = ([100] : List UInt8) then ((spec_miDigits.f (tx i v)).bind fun t103 => (some (t103 == ((tx i v).size : Int)))) else (if ([c] : List UInt8) = ([114] : List UInt8) then ((spec_miIs.f k (tx i v) (⟨#[114]⟩ : ByteArray)).bind fun t104 => (if t104 = true then (if ((tx i v).size : Int) = 0 then (some true) else (if 0 ≤ (wrap64 (((tx i v).size : Int) - 1)) then (if (wrap64 (((tx i v).size : Int) - 1)) < ((tx i v).size : Int) then (some (decide (((57 - (bt (tx i v) (wrap64 (((tx i v).size : Int) - 1)))) % 256) ≥ (wrap64 ((n : Int) - ((tx i v).size : Int)))))) else (none)) else (none))) else (some false))) else (if ([c] : List UInt8) = ([102] : List UInt8) then ((spec_miIs.f k (tx i v) (⟨#[102]⟩ : ByteArray)).bind fun t105 => (if t105 = true then (if ((tx i v).size : Int) = 0 then (some true) else (if 0 ≤ (wrap64 (((tx i v).size : Int) - 1)) then (if (wrap64 (((tx i v).size : Int) - 1)) < ((tx i v).size : Int) then (some (decide ((((bt (tx i v) (wrap64 (((tx i v).size : Int) - 1))) - 48) % 256) ≥ (wrap64 ((n : Int) - ((tx i v).size : Int)))))) else (none)) else (none))) else (some false))) else (spec_miCan.l0 k (n : Int) (tx i v) (kt c) ((tx i v).size : Int) 0))))) b ∧ ((∃ m, m / 10 ^ (n - i) = v ∧ K (c.toNat : Int) n m = true) → b = true)) →
        ∃ b, Ev (fun k => if ((tx i v).size : Int) = (n : Int) then ((spec_miIs.f k (tx i v) (kt c)).bind fun t101 => (some t101)) else (if ([c] : List UInt8) = ([97] : List UInt8) then ((spec_miDigits.f (tx i v)).bind fun t102 => (some (decide (t102 ≤ 1)))) else (if ([c] : List UInt8) = ([100] : List UInt8) then ((spec_miDigits.f (tx i v)).bind fun t103 => (some (t103 == ((tx i v).size : Int)))) else (if ([c] : List UInt8) = ([114] : List UInt8) then ((spec_miIs.f k (tx i v) (⟨#[114]⟩ : ByteArray)).bind fun t104 => (if t104 = true then (if ((tx i v).size : Int) = 0 then (some true) else (if 0 ≤ (wrap64 (((tx i v).size : Int) - 1)) then (if (wrap64 (((tx i v).size : Int) - 1)) < ((tx i v).size : Int) then (some (decide (((57 - (bt (tx i v) (wrap64 (((tx i v).size : Int) - 1)))) % 256) ≥ (wrap64 ((n : Int) - ((tx i v).size : Int)))))) else (none)) else (none))) else (some false))) else (if ([c] : List UInt8) = ([102] : List UInt8) then ((spec_miIs.f k (tx i v) (⟨#[102]⟩ : ByteArray)).bind fun t105 => (if t105 = true then (if ((tx i v).size : Int) = 0 then (some true) else (if 0 ≤ (wrap64 (((tx i v).size : Int) - 1)) then (if (wrap64 (((tx i v).size : Int) - 1)) < ((tx i v).size : Int) then (some (decide ((((bt (tx i v) (wrap64 (((tx i v).size : Int) - 1))) - 48) % 256) ≥ (wrap64 ((n : Int) - ((tx i v).size : Int)))))) else (none)) else (none))) else (some false))) else (spec_miCan.l0 k (n : Int) (tx i v) (kt c) ((tx i v).size : Int) 0)))))) b ∧ (i = n → b = K (c.toNat : Int) n v) ∧ ((∃ m, m / 10 ^ (n - i) = v ∧ K (c.toNat : Int) n m = true) → b = true) := by
      rintro g ⟨b, hb, hk⟩
      exact ⟨b, Ev.neg hs hb, fun h => absurd h hin, hk⟩
    refine cl true ?_
    clear cl
    rcases hc with rfl | rfl | rfl | rfl | rfl | rfl
    · -- all alike
      have hmd := miDigits_dig (s := tx i v) (by omega) hd
      refine ⟨_, Ev.pos rfl (Ev.some_of fun k => by rw [hmd]; rfl), ?_⟩
      rintro ⟨m, hm, hk⟩
      rw [decide_eq_true_eq, hz]
      by_cases h0 : i = 0
      · subst h0; show (0 : Int) ≤ 1; omega
      · have hka := kind_a (tx i v) (by omega)
        rw [hz] at hka
        have : allF (mayAt 97 (tx i v) i) i 0 = true := by
          rw [allF_iff]
          intro j _ hj
          have := (K_iff _ _ _).1 hk j (by omega)
          have e : ∀ (s : ByteArray) (q : Nat), (mayAt 97 s q j = true ↔ bt s j = bt s ((0 : Nat) : Int)) := fun s q => by simp [mayAt]
          rw [show (((97 : UInt8).toNat : Nat) : Int) = 97 from rfl] at this
          rw [e] at this ⊢
          rw [← pb m j hm (by omega), ← pb m 0 hm (by omega)]
          exact this
        rw [this, beq_iff_eq] at hka
        omega
    · -- mirrored
      refine ⟨_, Ev.neg (ne (by decide)) (Ev.neg (ne (by decide)) (Ev.neg (ne (by decide)) (Ev.neg (ne (by decide)) (can_m n (tx i v) h9 (by omega))))), ?_⟩
      rintro ⟨m, hm, hk⟩
      rw [hz, allF_iff]
      intro j _ hj
      have e : ∀ j, (mayAt 109 (tx n m) n j = true ↔ j < n - 1 - j ∨ bt (tx n m) ((n - 1 - j : Nat) : Int) = bt (tx n m) j) := fun j => by simp [mayAt]
      simp only [canM, Bool.or_eq_true, decide_eq_true_eq, beq_iff_eq, hz]
      by_cases c : n - 1 - j < i
      · right
        rw [← pb m j hm (by omega), ← pb m _ hm c]
        by_cases d : j < n - 1 - j
        · have := (e (n - 1 - j)).1 ((K_iff _ _ _).1 hk _ (by omega))
          rw [show n - 1 - (n - 1 - j) = j by omega] at this
          rcases this with h | h
          · omega
          · exact h.symm
        · rcases (e j).1 ((K_iff _ _ _).1 hk j (by omega)) with h | h
          · exact absurd h d
          · exact h
      · exact .inl c
    · -- upside down
      refine ⟨_, Ev.neg (ne (by decide)) (Ev.neg (ne (by decide)) (Ev.neg (ne (by decide)) (Ev.neg (ne (by decide)) (can_u n (tx i v) h9 (by omega))))), ?_⟩
      rintro ⟨m, hm, hk⟩
      rw [hz, allF_iff]
      intro j _ hj
      have e : ∀ j, (mayAt 117 (tx n m) n j = true ↔ up (bt (tx n m) j) ≠ 0 ∧ (j < n - 1 - j ∨ bt (tx n m) ((n - 1 - j : Nat) : Int) = up (bt (tx n m) j))) := fun j => by simp [mayAt]
      have hj' := (e j).1 ((K_iff _ _ _).1 hk j (by omega))
      simp only [canU, Bool.and_eq_true, Bool.or_eq_true, decide_eq_true_eq, beq_iff_eq, bne_iff_ne, hz]
      rw [← pb m j hm (by omega)]
      refine ⟨⟨hj'.1, ?_⟩, ?_⟩
      · by_cases c : 2 * j + 1 = n
        · right
          rcases hj'.2 with h | h
          · omega
          · rw [show n - 1 - j = j by omega] at h; exact h.symm
        · exact .inl c
      · by_cases c : n - 1 - j < i
        · right
          rw [← pb m _ hm c]
          by_cases d : j < n - 1 - j
          · have := ((e (n - 1 - j)).1 ((K_iff _ _ _).1 hk _ (by omega)))
            rw [show n - 1 - (n - 1 - j) = j by omega] at this
            rcases this.2 with h | h
            · omega
            · rw [h, up_up this.1]
          · rcases hj'.2 with h | h
            · exact absurd h d
            · exact h
        · exact .inl c
    · -- rising
      have e : ∀ (m j : Nat), (mayAt 114 (tx n m) n j = true ↔ (j = 0 ∨ bt (tx n m) ((j - 1 : Nat) : Int) < bt (tx n m) j) ∧ bt (tx n m) j - 48 + ((n - 1 - j : Nat) : Int) ≤ 9) := fun m j => by simp [mayAt]
      refine ⟨if i = 0 then true else allF (riseAt (tx i v)) (i - 1) 1 && decide ((57 - (bt (tx i v) ((i - 1 : Nat) : Int))) % 256 ≥ ((n - i : Nat) : Int)), Ev.neg (ne (by decide)) (Ev.neg (ne (by decide)) (Ev.pos rfl ?_)), ?_⟩
      · by_cases h0 : i = 0
        · subst h0
          have : Ev (fun k => spec_miIs.f k (tx 0 v) (⟨#[114]⟩ : ByteArray)) true := by
            unfold spec_miIs.f
            have e0 : (⟨#[114]⟩ : ByteArray).toList = [114] := kt_toList 114
            simp only [e0]
            refine Ev.neg (ne (by decide)) (Ev.neg (ne (by decide)) (Ev.neg (ne (by decide)) (Ev.neg (ne (by decide)) ?_)))
            refine Ev.step (f := fun _ => some true) (fun k => ?_) (Ev.now _)
            simp only [spec_miIs.l0]
            rw [if_neg (by rw [hz]; omega)]
          exact Ev.bind' this (Ev.pos rfl (Ev.pos (by rw [hz]; rfl) (Ev.now _)))
        · rw [if_neg h0]
          have h2 := miIs_ev 114 (by simp [isLetter]) (tx i v) (by omega) (by omega) hd
          rw [show ((UInt8.toNat 114 : Nat) : Int) = 114 from rfl, ← kind_r _ (by omega) hd, hz] at h2
          refine Ev.bind' h2 ?_
          have w1 : wrap64 (((tx i v).size : Int) - 1) = ((i - 1 : Nat) : Int) := by rw [hz, wrap_id (by omega) (by omega)]; omega
          have w2 : wrap64 ((n : Int) - ((tx i v).size : Int)) = ((n - i : Nat) : Int) := by rw [hz, wrap_id (by omega) (by omega)]; omega
          rw [w1, w2, hz]
          by_cases hr : allF (riseAt (tx i v)) (i - 1) 1 = true
          · exact Ev.pos hr (Ev.neg (by omega) (Ev.pos (by omega) (Ev.pos (by omega) (Ev.eq (Ev.now _) (by rw [hr, Bool.true_and])))))
          · refine Ev.neg hr (Ev.eq (Ev.now _) ?_)
            rw [Bool.not_eq_true] at hr
            rw [hr, Bool.false_and]
      · rintro ⟨m, hm, hk⟩
        by_cases h0 : i = 0
        · rw [if_pos h0]
        · rw [if_neg h0, Bool.and_eq_true, allF_iff, decide_eq_true_eq]
          constructor
          · intro j hj1 hj2
            rcases ((e m j).1 ((K_iff _ _ _).1 hk j (by omega))).1 with h | h
            · omega
            · rw [riseAt, decide_eq_true_eq, ← pb m j hm (by omega), ← pb m _ hm (by omega)]
              exact h
          · have := ((e m (i - 1)).1 ((K_iff _ _ _).1 hk (i - 1) (by omega))).2
            rw [pb m _ hm (by omega)] at this
            have := hd (i - 1) (by omega)
            omega
    · -- falling
      have e : ∀ (m j : Nat), (mayAt 102 (tx n m) n j = true ↔ (j = 0 ∨ bt (tx n m) j < bt (tx n m) ((j - 1 : Nat) : Int)) ∧ ((n - 1 - j : Nat) : Int) ≤ bt (tx n m) j - 48) := fun m j => by simp [mayAt]
      refine ⟨if i = 0 then true else allF (fallAt (tx i v)) (i - 1) 1 && decide ((bt (tx i v) ((i - 1 : Nat) : Int) - 48) % 256 ≥ ((n - i : Nat) : Int)), Ev.neg (ne (by decide)) (Ev.neg (ne (by decide)) (Ev.neg (ne (by decide)) (Ev.pos rfl ?_))), ?_⟩
      · by_cases h0 : i = 0
        · subst h0
          have : Ev (fun k => spec_miIs.f k (tx 0 v) (⟨#[102]⟩ : ByteArray)) true := by
            unfold spec_miIs.f
            have e0 : (⟨#[102]⟩ : ByteArray).toList = [102] := kt_toList 102
            simp only [e0]
            refine Ev.neg (ne (by decide)) (Ev.neg (ne (by decide)) (Ev.neg (ne (by decide)) (Ev.neg (ne (by decide)) ?_)))
            refine Ev.step (f := fun _ => some true) (fun k => ?_) (Ev.now _)
            simp only [spec_miIs.l0]
            rw [if_neg (by rw [hz]; omega)]
          exact Ev.bind' this (Ev.pos rfl (Ev.pos (by rw [hz]; rfl) (Ev.now _)))
        · rw [if_neg h0]
          have h2 := miIs_ev 102 (by simp [isLetter]) (tx i v) (by omega) (by omega) hd
          rw [show ((UInt8.toNat 102 : Nat) : Int) = 102 from rfl, ← kind_f _ (by omega) hd, hz] at h2
          refine Ev.bind' h2 ?_
          have w1 : wrap64 (((tx i v).size : Int) - 1) = ((i - 1 : Nat) : Int) := by rw [hz, wrap_id (by omega) (by omega)]; omega
          have w2 : wrap64 ((n : Int) - ((tx i v).size : Int)) = ((n - i : Nat) : Int) := by rw [hz, wrap_id (by omega) (by omega)]; omega
          rw [w1, w2, hz]
          by_cases hr : allF (fallAt (tx i v)) (i - 1) 1 = true
          · exact Ev.pos hr (Ev.neg (by omega) (Ev.pos (by omega) (Ev.pos (by omega) (Ev.eq (Ev.now _) (by rw [hr, Bool.true_and])))))
          · refine Ev.neg hr (Ev.eq (Ev.now _) ?_)
            rw [Bool.not_eq_true] at hr
            rw [hr, Bool.false_and]
      · rintro ⟨m, hm, hk⟩
        by_cases h0 : i = 0
        · rw [if_pos h0]
        · rw [if_neg h0, Bool.and_eq_true, allF_iff, decide_eq_true_eq]
          constructor
          · intro j hj1 hj2
            rcases ((e m j).1 ((K_iff _ _ _).1 hk j (by omega))).1 with h | h
            · omega
            · rw [fallAt, decide_eq_true_eq, ← pb m j hm (by omega), ← pb m _ hm (by omega)]
              exact h
          · have := ((e m (i - 1)).1 ((K_iff _ _ _).1 hk (i - 1) (by omega))).2
            rw [pb m _ hm (by omega)] at this
            have := hd (i - 1) (by omega)
            omega
    · -- all different
      have hmd := miDigits_dig (s := tx i v) (by omega) hd
      refine ⟨_, Ev.neg (ne (by decide)) (Ev.pos rfl (Ev.some_of fun k => by rw [hmd]; rfl)), ?_⟩
      rintro ⟨m, hm, hk⟩
      have e : ∀ (s : ByteArray) (q j : Nat), mayAt 100 s q j = newTo s j j := fun s q j => by simp [mayAt]
      rw [kind_d, allF_iff]
      intro j _ hj
      rw [hz] at hj
      have := (K_iff _ _ _).1 hk j (by omega)
      rw [show (((100 : UInt8).toNat : Nat) : Int) = 100 from rfl] at this
      rw [e, newTo_iff] at this ⊢
      intro q hq
      rw [← pb m j hm (by omega), ← pb m q hm (by omega)]
      exact this q hq

end Go.Proofs.Ytpdcjkiejglaiaa.Q

/-
  The reference's search of the first reading of a kind behind another: it finds the least number.
-/
namespace Go.Proofs.Ytpdcjkiejglaiaa.Q
open Go.RowKit Go.Proofs.YtpdcjkiejglaiaaW.PrintWords Go.Proofs.YtpdcjkiejglaiaaW.PrintLast Go.Proofs.YtpdcjkiejglaiaaW.PrintMore
set_option linter.unusedVariables false
set_option linter.unusedSimpArgs false

theorem toList_nil (s : ByteArray) : s.toList = ([] : List UInt8) ↔ s.size = 0 := by
  rw [ByteArray.toList_eq, ← li_length]
  unfold li
  rw [List.length_map, List.length_eq_zero_iff]
/-- the text behind which a search goes: none, or a reading -/
def btx (n : Nat) : Option Nat → ByteArray
  | none => ⟨#[]⟩
  | some b => tx n b
def okB (c : Int) (n : Nat) (bh : Option Nat) (m : Nat) : Bool := K c n m && (match bh with | none => true | some b => decide (b < m))
def Least (c : Int) (n : Nat) (bh : Option Nat) (S : Nat → Prop) (t : ByteArray) : Prop :=
  (∃ m, S m ∧ okB c n bh m = true ∧ (∀ m', S m' → m' < m → okB c n bh m' = false) ∧ t = tx n m) ∨ (t = ⟨#[]⟩ ∧ ∀ m', S m' → okB c n bh m' = false)
theorem Least.iff {c : Int} {n : Nat} {bh : Option Nat} {S T : Nat → Prop} {t : ByteArray} (h : Least c n bh S t) (e : ∀ m, S m ↔ T m) : Least c n bh T t := by
  rcases h with ⟨m, h1, h2, h3, h4⟩ | ⟨h1, h2⟩
  · exact .inl ⟨m, (e m).1 h1, h2, fun m' hm => h3 m' ((e m').2 hm), h4⟩
  · exact .inr ⟨h1, fun m' hm => h2 m' ((e m').2 hm)⟩
theorem div_lt_of {a b P : Nat} (h : a / P < b / P) : a < b := by
  apply Classical.byContradiction
  intro hx
  have := Nat.div_le_div_right (c := P) (Nat.le_of_not_lt hx)
  omega

theorem first_f (x0 : Int) (x1 x2 x3 : ByteArray) (k : Nat) : spec_miFirst.f (k + 1) x0 x1 x2 x3 = (spec_miCan.f k x0 x1 x2).bind fun t101 => (if t101 = true then (if x3.toList = ([] : List UInt8) then (spec_miFirst.j0 k x0 x1 x2 x3 false) else (if 0 ≤ (x1.size : Int) then (if (x1.size : Int) ≤ (x3.size : Int) then (spec_miFirst.j0 k x0 x1 x2 x3 (Op.bytesLess x1.toList ((x3.extract 0 ((x1.size : Int) : Int).toNat).toList))) else (none)) else (none))) else (spec_miFirst.j0 k x0 x1 x2 x3 true)) := by simp only [spec_miFirst.f]
theorem first_l (x0 : Int) (x1 x2 x3 : ByteArray) (x9 : Int) (k : Nat) : spec_miFirst.l0 (k + 1) x0 x1 x2 x3 x9 = if x9 < 10 then ((spec_l1Num.f k x9).bind fun t102 => (if x1.size + t102.size ≤ 9223372036854775807 then ((spec_miFirst.f k x0 (x1 ++ t102) x2 x3).bind fun t103 => (if t103.toList = ([] : List UInt8) then (spec_miFirst.l0 k x0 x1 x2 x3 (wrap64 (x9 + 1))) else (some t103))) else (none))) else (some (⟨#[]⟩ : ByteArray)) := by simp only [spec_miFirst.l0]

theorem wrap_next (x : Nat) (h : x < 10) : wrap64 ((x : Int) + 1) = ((x + 1 : Nat) : Int) := by rw [wrap_id (by omega) (by omega)]; rfl

set_option maxHeartbeats 1000000 in
theorem first_ev (c : UInt8) (hc : isLetter c) (n : Nat) (h1 : 1 ≤ n) (h9 : n ≤ 9) (bh : Option Nat) (hbh : ∀ b, bh = some b → b < 10 ^ n) :
    ∀ d i v, i + d = n → v < 10 ^ i → ∃ t, Ev (fun k => spec_miFirst.f k (n : Int) (tx i v) (kt c) (btx n bh)) t ∧ Least (c.toNat : Int) n bh (fun m => m / 10 ^ d = v) t := by
  intro d
  induction d with
  | zero =>
    intro i v hd hv
    obtain rfl : i = n := by omega
    obtain ⟨b, hb, he, _⟩ := can_ev c hc i i v h1 h9 (Nat.le_refl _) hv
    have he := he rfl
    have no : okB (c.toNat : Int) i bh v = false → Least (c.toNat : Int) i bh (fun m => m / 10 ^ 0 = v) ⟨#[]⟩ := fun h => .inr ⟨rfl, fun m hm => by rw [Nat.pow_zero, Nat.div_one] at hm; rw [hm]; exact h⟩
    have yes : okB (c.toNat : Int) i bh v = true → Least (c.toNat : Int) i bh (fun m => m / 10 ^ 0 = v) (tx i v) := fun h => .inl ⟨v, by show v / 10 ^ 0 = v; rw [Nat.pow_zero, Nat.div_one], h, fun m' hm hlt => by rw [Nat.pow_zero, Nat.div_one] at hm; omega, rfl⟩
    have jt : Ev (fun k => spec_miFirst.j0 k (i : Int) (tx i v) (kt c) (btx i bh) true) ⟨#[]⟩ := Ev.step (f := fun _ => some ⟨#[]⟩) (fun k => by simp only [spec_miFirst.j0]; rw [if_true]) (Ev.now _)
    have hz := tx_size i v
    by_cases hk : b = true
    · subst hk
      cases bh with
      | none =>
        have e0 : (btx i none).toList = [] := (toList_nil _).2 rfl
        refine ⟨tx i v, ?_, yes (by simp [okB, ← he])⟩
        refine Ev.step (first_f _ _ _ _) (Ev.bind' hb (Ev.pos rfl (Ev.pos e0 ?_)))
        refine Ev.step (f := fun _ => some (tx i v)) (fun k => ?_) (Ev.now _)
        simp only [spec_miFirst.j0]
        rw [if_neg (by decide), if_pos (by rw [hz]), if_pos e0]
      | some q =>
        have hq := hbh q rfl
        have hzq := tx_size i q
        have e0 : ¬ (btx i (some q)).toList = [] := fun h => by have := (toList_nil _).1 h; simp only [btx] at this; omega
        have ex : (btx i (some q)).extract 0 (((tx i v).size : Int)).toNat = tx i q := by
          rw [hz, Int.toNat_natCast]
          show (tx i q).extract 0 i = _
          rw [pre_txt i i q (Nat.le_refl _), Nat.sub_self, Nat.pow_zero, Nat.div_one]
        have l1 := (less_tx i v q hv hq).1
        have l2 := (less_tx i q v hq hv).1
        have start : ∀ t, Ev (fun k => spec_miFirst.j0 k (i : Int) (tx i v) (kt c) (btx i (some q)) (decide (v < q))) t → Ev (fun k => spec_miFirst.f k (i : Int) (tx i v) (kt c) (btx i (some q))) t := by
          intro t ht
          refine Ev.step (first_f _ _ _ _) (Ev.bind' hb (Ev.pos rfl (Ev.neg e0 (Ev.pos (by omega) (Ev.pos (show ((tx i v).size : Int) ≤ ((tx i q).size : Int) by omega) ?_)))))
          rw [ex, l1]
          exact ht
        by_cases hlt : q < v
        · refine ⟨tx i v, start _ ?_, yes (by simp [okB, ← he, hlt])⟩
          refine Ev.step (f := fun _ => some (tx i v)) (fun k => ?_) (Ev.now _)
          simp only [spec_miFirst.j0]
          rw [if_neg (by simp; omega), if_pos (by rw [hz]), if_neg e0, if_pos (by show Op.bytesLess (tx i q).toList _ = true; rw [l2]; simp [hlt])]
        · refine ⟨⟨#[]⟩, start _ ?_, no (by simp [okB, hlt])⟩
          by_cases hlt2 : v < q
          · rw [decide_eq_true hlt2]; exact jt
          · refine Ev.step (f := fun _ => some ⟨#[]⟩) (fun k => ?_) (Ev.now _)
            simp only [spec_miFirst.j0]
            rw [if_neg (by simp; omega), if_pos (by rw [hz]), if_neg e0, if_neg (by show ¬ Op.bytesLess (tx i q).toList _ = true; rw [l2]; simp [hlt])]
    · refine ⟨⟨#[]⟩, Ev.step (first_f _ _ _ _) (Ev.bind' hb (Ev.neg hk jt)), no ?_⟩
      rw [Bool.not_eq_true] at hk
      simp [okB, ← he, hk]
  | succ d ih =>
    intro i v hd hv
    have hi : i ≤ n := by omega
    have hni : n - i = d + 1 := by omega
    obtain ⟨b, hb, _, he⟩ := can_ev c hc n i v h1 h9 hi hv
    rw [hni] at he
    have hz := tx_size i v
    have jt : Ev (fun k => spec_miFirst.j0 k (n : Int) (tx i v) (kt c) (btx n bh) true) ⟨#[]⟩ := Ev.step (f := fun _ => some ⟨#[]⟩) (fun k => by simp only [spec_miFirst.j0]; rw [if_true]) (Ev.now _)
    have dv : ∀ m, m / 10 ^ (d + 1) = m / 10 ^ d / 10 := fun m => by rw [Nat.pow_succ, Nat.div_div_eq_div_mul]
    -- the ten digits
    have loop : ∀ (r x : Nat), x + r = 10 → ∃ t, Ev (fun k => spec_miFirst.l0 k (n : Int) (tx i v) (kt c) (btx n bh) (x : Int)) t ∧ Least (c.toNat : Int) n bh (fun m => m / 10 ^ d / 10 = v ∧ 10 * v + x ≤ m / 10 ^ d) t := by
      intro r
      induction r with
      | zero =>
        intro x hx
        refine ⟨⟨#[]⟩, Ev.step (f := fun _ => some ⟨#[]⟩) (fun k => ?_) (Ev.now _), .inr ⟨rfl, fun m hm => by omega⟩⟩
        simp only [spec_miFirst.l0]
        rw [if_neg (by omega)]
      | succ r ihr =>
        intro x hx
        have hx10 : x < 10 := by omega
        obtain ⟨t, ht, hl⟩ := ihr (x + 1) (by omega)
        obtain ⟨s, hs, hsl⟩ := ih (i + 1) (10 * v + x) (by omega) (by rw [Nat.pow_succ]; omega)
        have hone : (strOfNums [48 + (x : Int)]).size = 1 := by rw [← li_length, li_nums _ (by simp; omega)]; rfl
        have c10 : (x : Int) < 10 := by omega
        have cz : (tx i v).size + (strOfNums [48 + (x : Int)]).size ≤ 9223372036854775807 := by rw [hz, hone]; omega
        have go : ∀ q, (if s.toList = ([] : List UInt8) then q = t else q = s) → Ev (fun k => spec_miFirst.l0 k (n : Int) (tx i v) (kt c) (btx n bh) (x : Int)) q := by
          intro q hq
          refine Ev.step (first_l _ _ _ _ _) (Ev.pos c10 (Ev.bind' (l1Num_ev x hx10) (Ev.pos cz ?_)))
          rw [← tx_succ i v x hx10]
          refine Ev.bind' hs ?_
          by_cases he : s.toList = ([] : List UInt8)
          · rw [if_pos he] at hq; subst hq; rw [← wrap_next x hx10] at ht; exact Ev.pos he ht
          · rw [if_neg he] at hq; subst hq; exact Ev.neg he (Ev.now _)
        rcases hsl with ⟨m, h1', h2, h3, rfl⟩ | ⟨rfl, h2⟩
        · refine ⟨tx n m, go _ ?_, .inl ⟨m, ⟨by omega, by omega⟩, h2, ?_, rfl⟩⟩
          · rw [if_neg (fun h => by have := (toList_nil _).1 h; rw [tx_size] at this; omega)]
          · intro m' hm' hlt
            refine h3 m' ?_ hlt
            have := Nat.div_le_div_right (c := 10 ^ d) (Nat.le_of_lt hlt)
            omega
        · refine ⟨t, go _ (by rw [if_pos ((toList_nil _).2 rfl)]), ?_⟩
          rcases hl with ⟨m, h1', h2', h3, rfl⟩ | ⟨rfl, h3⟩
          · refine .inl ⟨m, ⟨h1'.1, by omega⟩, h2', ?_, rfl⟩
            intro m' hm' hlt
            by_cases e : m' / 10 ^ d = 10 * v + x
            · exact h2 m' e
            · exact h3 m' ⟨hm'.1, by omega⟩ hlt
          · refine .inr ⟨rfl, fun m' hm' => ?_⟩
            by_cases e : m' / 10 ^ d = 10 * v + x
            · exact h2 m' e
            · exact h3 m' ⟨hm'.1, by omega⟩
    obtain ⟨t, ht, hl⟩ := loop 10 0 rfl
    have hl := Least.iff (T := fun m => m / 10 ^ (d + 1) = v) hl (fun m => by rw [dv]; omega)
    have jf : Ev (fun k => spec_miFirst.j0 k (n : Int) (tx i v) (kt c) (btx n bh) false) t := by
      refine Ev.step (fun k => ?_) ht
      simp only [spec_miFirst.j0]
      rw [if_neg (by decide), if_neg (by rw [hz]; omega)]
      first | done | rfl
    by_cases hk : b = true
    · subst hk
      cases bh with
      | none =>
        have e0 : (btx n none).toList = [] := (toList_nil _).2 rfl
        exact ⟨t, Ev.step (first_f _ _ _ _) (Ev.bind' hb (Ev.pos rfl (Ev.pos e0 jf))), hl⟩
      | some q =>
        have hq := hbh q rfl
        have hzq := tx_size n q
        have e0 : ¬ (btx n (some q)).toList = [] := fun h => by have := (toList_nil _).1 h; simp only [btx] at this; omega
        have ex : (btx n (some q)).extract 0 (((tx i v).size : Int)).toNat = tx i (q / 10 ^ (d + 1)) := by
          rw [hz, Int.toNat_natCast]
          show (tx n q).extract 0 i = _
          rw [pre_txt n i q hi, hni]
        have hq2 : q / 10 ^ (d + 1) < 10 ^ i := by
          rw [Nat.div_lt_iff_lt_mul (Nat.pow_pos (by decide)), ← Nat.pow_add, hd]
          exact hq
        have l1 := (less_tx i v _ hv hq2).1
        have start : ∀ t, Ev (fun k => spec_miFirst.j0 k (n : Int) (tx i v) (kt c) (btx n (some q)) (decide (v < q / 10 ^ (d + 1)))) t → Ev (fun k => spec_miFirst.f k (n : Int) (tx i v) (kt c) (btx n (some q))) t := by
          intro t ht
          refine Ev.step (first_f _ _ _ _) (Ev.bind' hb (Ev.pos rfl (Ev.neg e0 (Ev.pos (by omega) (Ev.pos (show ((tx i v).size : Int) ≤ ((tx n q).size : Int) by omega) ?_)))))
          rw [ex, l1]
          exact ht
        by_cases hlt : v < q / 10 ^ (d + 1)
        · refine ⟨⟨#[]⟩, start _ (by rw [decide_eq_true hlt]; exact jt), .inr ⟨rfl, fun m hm => ?_⟩⟩
          have : m < q := div_lt_of (P := 10 ^ (d + 1)) (by rw [hm]; exact hlt)
          simp only [okB, Bool.and_eq_false_iff, decide_eq_false_iff_not]
          right; omega
        · exact ⟨t, start _ (by rw [decide_eq_false hlt]; exact jf), hl⟩
    · refine ⟨⟨#[]⟩, Ev.step (first_f _ _ _ _) (Ev.bind' hb (Ev.neg hk jt)), .inr ⟨rfl, fun m hm => ?_⟩⟩
      simp only [okB, Bool.and_eq_false_iff]
      left
      cases hkk : K (c.toNat : Int) n m with
      | false => rfl
      | true => exact absurd (he ⟨m, hm, hkk⟩) hk

/-- the next reading of a kind, going round -/
theorem next_ev (c : UInt8) (hc : isLetter c) (n v : Nat) (h1 : 1 ≤ n) (h9 : n ≤ 9) (hv : v < 10 ^ n) :
    ∃ t, Ev (fun k => spec_miNext.f k (tx n v) (kt c)) t ∧
      ((∃ st, 1 ≤ st ∧ st ≤ 10 ^ n ∧ K (c.toNat : Int) n ((v + st) % 10 ^ n) = true ∧ (∀ j, 1 ≤ j → j < st → K (c.toNat : Int) n ((v + j) % 10 ^ n) = false) ∧ t = tx n ((v + st) % 10 ^ n)) ∨
       (t = ⟨#[]⟩ ∧ ∀ m, m < 10 ^ n → K (c.toNat : Int) n m = false)) := by
  have hz := tx_size n v
  obtain ⟨t1, e1, l1⟩ := first_ev c hc n h1 h9 (some v) (fun b hb => by cases hb; exact hv) n 0 0 (by omega) (by simp)
  obtain ⟨t2, e2, l2⟩ := first_ev c hc n h1 h9 none (fun b hb => by cases hb) n 0 0 (by omega) (by simp)
  have dl0 : ∀ m, m / 10 ^ n = 0 ↔ m < 10 ^ n := fun m => by rw [Nat.div_eq_zero_iff]; have := Nat.pow_pos (n := n) (show 0 < 10 by decide); omega
  have l1 := l1.iff dl0
  have l2 := l2.iff dl0
  generalize 10 ^ n = P at *
  unfold spec_miNext.f
  rw [hz]
  rcases l1 with ⟨m, h2, h3, h4, rfl⟩ | ⟨rfl, h3⟩
  · have hne : ¬ (tx n m).toList = ([] : List UInt8) := fun h => by have := (toList_nil _).1 h; rw [tx_size] at this; omega
    refine ⟨tx n m, Ev.bind' e1 (Ev.neg hne (Ev.now _)), .inl ⟨m - v, ?_⟩⟩
    simp only [okB, Bool.and_eq_true, decide_eq_true_eq] at h3
    have e : (v + (m - v)) % P = m := by rw [show v + (m - v) = m by omega]; exact Nat.mod_eq_of_lt h2
    refine ⟨by omega, by omega, by rw [e]; exact h3.1, fun j hj1 hj2 => ?_, by rw [e]⟩
    have e' : (v + j) % P = v + j := Nat.mod_eq_of_lt (by omega)
    rw [e']
    have := h4 (v + j) (by omega) (by omega)
    simp only [okB, Bool.and_eq_false_iff, decide_eq_false_iff_not] at this
    rcases this with h | h
    · exact h
    · omega
  · have hn : ((⟨#[]⟩ : ByteArray).toList) = ([] : List UInt8) := (toList_nil _).2 rfl
    refine ⟨t2, Ev.bind' e1 (Ev.pos hn (Ev.bind' e2 (Ev.now _))), ?_⟩
    have up : ∀ m, v < m → m < P → K (c.toNat : Int) n m = false := by
      intro m a b
      have := h3 m b
      simp only [okB, Bool.and_eq_false_iff, decide_eq_false_iff_not] at this
      rcases this with h | h
      · exact h
      · omega
    rcases l2 with ⟨m, h2, h3', h4, rfl⟩ | ⟨rfl, h4⟩
    · simp only [okB, Bool.and_true] at h3' h4
      have hmv : m ≤ v := by
        apply Classical.byContradiction
        intro hx
        rw [up m (by omega) h2] at h3'
        cases h3'
      have e : (v + (m + P - v)) % P = m := by rw [show v + (m + P - v) = m + P by omega, Nat.add_mod_right]; exact Nat.mod_eq_of_lt h2
      refine .inl ⟨m + P - v, by omega, by omega, by rw [e]; exact h3', fun j hj1 hj2 => ?_, by rw [e]⟩
      by_cases c : v + j < P
      · rw [Nat.mod_eq_of_lt c]; exact up _ (by omega) c
      · rw [show v + j = (v + j - P) + P by omega, Nat.add_mod_right, Nat.mod_eq_of_lt (by omega)]
        exact h4 _ (by omega) (by omega)
    · refine .inr ⟨rfl, fun m hm => ?_⟩
      have := h4 m hm
      simpa [okB] using this

end Go.Proofs.Ytpdcjkiejglaiaa.Q

/-
  Both counters mirrored: the reference goes from one mirrored reading of the first to the next, the program mile by mile.
-/
namespace Go.Proofs.Ytpdcjkiejglaiaa.Q
open Go.RowKit Go.Proofs.YtpdcjkiejglaiaaW.PrintWords Go.Proofs.YtpdcjkiejglaiaaW.PrintLast Go.Proofs.YtpdcjkiejglaiaaW.PrintMore
set_option linter.unusedVariables false
set_option linter.unusedSimpArgs false

theorem tmod_nat (a b : Nat) : Int.tmod (a : Int) (b : Int) = ((a % b : Nat) : Int) := rfl
theorem bt_dgt (n m j : Nat) (hj : j < n) : bt (tx n m) j = 48 + dgt m (n - 1 - j) := bt_tx n m j hj
theorem mirB_K (n m : Nat) : mirB m n = K 109 n m := by
  have e : ∀ j, (mayAt 109 (tx n m) n j = true ↔ j < n - 1 - j ∨ bt (tx n m) ((n - 1 - j : Nat) : Int) = bt (tx n m) j) := fun j => by simp [mayAt]
  rw [Bool.eq_iff_iff, K_iff]
  unfold mirB
  rw [allF_iff]
  constructor
  · intro h j hj
    rw [e]
    by_cases c : j < n - 1 - j
    · exact .inl c
    · right
      rw [bt_dgt n m j hj, bt_dgt n m _ (by omega), show n - 1 - (n - 1 - j) = j by omega]
      by_cases d : n - 1 - j < n / 2
      · have := h (n - 1 - j) (by omega) (by omega)
        rw [beq_iff_eq, show n - 1 - (n - 1 - j) = j by omega] at this
        rw [this]
      · rw [show n - 1 - j = j by omega]
  · intro h j _ hj
    rw [beq_iff_eq]
    have := (e (n - 1 - j)).1 (h (n - 1 - j) (by omega))
    rw [show n - 1 - (n - 1 - j) = j by omega] at this
    have h1 := bt_dgt n m j (by omega)
    have h2 := bt_dgt n m (n - 1 - j) (by omega)
    rw [show n - 1 - (n - 1 - j) = j by omega] at h2
    rcases this with h | h
    · omega
    · omega
theorem K_zero (n : Nat) : K 109 n 0 = true := by
  rw [K_iff]
  intro j hj
  have e : (mayAt 109 (tx n 0) n j = true ↔ j < n - 1 - j ∨ bt (tx n 0) ((n - 1 - j : Nat) : Int) = bt (tx n 0) j) := by simp [mayAt]
  rw [e]
  right
  rw [bt_tx n 0 j hj, bt_tx n 0 _ (by omega)]
  simp

theorem miTo_arith (P m v : Nat) (hP : 0 < P) (hP9 : P ≤ 1000000000) (hm : m < P) (hv : v < P) : Int.tmod (wrap64 (wrap64 ((m : Int) - (v : Int)) + (P : Int))) (P : Int) = (((m + P - v) % P : Nat) : Int) := by
  rw [wrap_id (i := (m : Int) - v) (by omega) (by omega), wrap_id (by omega) (by omega), show (m : Int) - v + P = ((m + P - v : Nat) : Int) by omega]
  rfl
theorem miTo_ev (n v m : Nat) (h9 : n ≤ 9) (hv : v < 10 ^ n) (hm : m < 10 ^ n) : Ev (fun k => spec_miTo.f k (tx n v) (tx n m)) (((m + 10 ^ n - v) % 10 ^ n : Nat) : Int) := by
  unfold spec_miTo.f
  have hp := pow_le h9
  have hp0 : 0 < 10 ^ n := Nat.pow_pos (by decide)
  have hA := miAll_ev n h9
  rw [← tx_size n v] at hA
  rw [tx_size n v] at hA
  rw [tx_size n v]
  refine Ev.bind' hA (Ev.bind' (tk_ev n m h9 hm) (Ev.bind' (tk_ev n v h9 hv) (Ev.neg (by omega) (Ev.eq (Ev.now _) ?_))))
  exact miTo_arith _ _ _ hp0 hp hm hv
theorem step_arith (P v st : Nat) (hP : 0 < P) (hv : v < P) (h1 : 1 ≤ st) (h2 : st ≤ P) : ((v + st) % P + P - v) % P = st % P := by
  by_cases c : v + st < P
  · rw [Nat.mod_eq_of_lt c, show v + st + P - v = st + P by omega, Nat.add_mod_right]
  · have : (v + st) % P = v + st - P := by
      have h := Nat.add_mod_right (v + st - P) P
      rw [show v + st - P + P = v + st by omega, Nat.mod_eq_of_lt (a := v + st - P) (by omega)] at h
      exact h
    rw [this, show v + st - P + P - v = st by omega]

/-- mile by mile -/
def scan (A B : Nat → Bool) : Nat → Nat → Int × Bool
  | 0, _ => (0, false)
  | d + 1, M => if A M && B M then ((M : Int), true) else scan A B d (M + 1)
theorem scan_none (A B : Nat → Bool) : ∀ d M, (∀ j, M ≤ j → j < M + d → A j = false) → scan A B d M = (0, false)
  | 0, _, _ => rfl
  | d + 1, M, h => by
    have := h M (by omega) (by omega)
    simp only [scan, this, Bool.false_and, Bool.false_eq_true, if_false]
    exact scan_none A B d (M + 1) (fun j a b => h j (by omega) (by omega))
theorem scan_skip (A B : Nat → Bool) : ∀ e d M, (∀ j, M ≤ j → j < M + e → A j = false) → scan A B (d + e) M = scan A B d (M + e)
  | 0, _, _, _ => rfl
  | e + 1, d, M, h => by
    have := h M (by omega) (by omega)
    rw [← Nat.add_assoc]
    simp only [scan, this, Bool.false_and, Bool.false_eq_true, if_false]
    rw [scan_skip A B e d (M + 1) (fun j a b => h j (by omega) (by omega)), show M + 1 + e = M + (e + 1) by omega]

theorem tm_step (P v M : Nat) (hP : 0 < P) (hP9 : P ≤ 1000000000) (hv : v < P) (hM : M ≤ 1000000) : Int.tmod (wrap64 ((v : Int) + (M : Int))) (P : Int) = (((v + M) % P : Nat) : Int) := by
  rw [wrap_id (by omega) (by omega), show (v : Int) + M = ((v + M : Nat) : Int) by omega]
  rfl
theorem isM_ev (n m : Nat) (h9 : n ≤ 9) (hm : m < 10 ^ n) : impl_isMirrored.f (m : Int) (n : Int) = some (K 109 n m) := by
  have hp := pow_le h9
  unfold impl_isMirrored.f
  rw [if_pos ⟨by omega, by omega, by omega, by omega⟩, Int.toNat_natCast, Int.toNat_natCast, mirB_K]
theorem mile_next (M : Nat) (h : M ≤ 1000000) : wrap64 ((M : Int) + 1) = ((M + 1 : Nat) : Int) := by rw [wrap_id (by omega) (by omega)]; rfl

theorem implBoth_ev (n n' v v' : Nat) (h9 : n ≤ 9) (h9' : n' ≤ 9) (hv : v < 10 ^ n) (hv' : v' < 10 ^ n') :
    ∀ (d M : Nat), M + d = 1000001 → Ev (fun k => impl_BothMirrored.l0 k (tx n v) (tx n' v') (v : Int) (v' : Int) (M : Int)) (scan (fun M => K 109 n ((v + M) % 10 ^ n)) (fun M => K 109 n' ((v' + M) % 10 ^ n')) d M) := by
  have hp := pow_le h9
  have hp' := pow_le h9'
  have hp0 : 0 < 10 ^ n := Nat.pow_pos (by decide)
  have hp0' : 0 < 10 ^ n' := Nat.pow_pos (by decide)
  have R := round_ev n h9
  have R' := round_ev n' h9'
  intro d
  induction d with
  | zero =>
    intro M hM
    refine Ev.step (f := fun _ => some (0, false)) (fun k => ?_) (Ev.now _)
    simp only [impl_BothMirrored.l0]
    rw [if_neg (by omega)]
  | succ d ih =>
    intro M hM
    have hi := ih (M + 1) (by omega)
    rw [← mile_next M (by omega)] at hi
    have body : ∀ k, impl_BothMirrored.l0 (k + 1) (tx n v) (tx n' v') (v : Int) (v' : Int) (M : Int) = ((impl_round.f k (n : Int)).bind fun t105 => (if t105 = 0 then (none) else ((impl_isMirrored.f (Int.tmod (wrap64 ((v : Int) + (M : Int))) t105) (n : Int)).bind fun t106 => (if t106 = true then ((impl_round.f k (n' : Int)).bind fun t107 => (if t107 = 0 then (none) else ((impl_isMirrored.f (Int.tmod (wrap64 ((v' : Int) + (M : Int))) t107) (n' : Int)).bind fun t108 => (if t108 = true then (some ((M : Int), true)) else (impl_BothMirrored.l0 k (tx n v) (tx n' v') (v : Int) (v' : Int) (wrap64 ((M : Int) + 1))))))) else (impl_BothMirrored.l0 k (tx n v) (tx n' v') (v : Int) (v' : Int) (wrap64 ((M : Int) + 1))))))) := by
      intro k
      simp only [impl_BothMirrored.l0, tx_size]
      rw [if_pos (by omega)]
    refine Ev.step body (Ev.bind' R (Ev.neg (by omega) ?_))
    have i1 := isM_ev n ((v + M) % 10 ^ n) h9 (Nat.mod_lt _ hp0)
    have i2 := isM_ev n' ((v' + M) % 10 ^ n') h9' (Nat.mod_lt _ hp0')
    simp only [scan]
    rw [tm_step _ v M hp0 hp hv (by omega), i1]
    refine Ev.bind' (Ev.now _) ?_
    by_cases c : K 109 n ((v + M) % 10 ^ n) = true
    · refine Ev.pos c (Ev.bind' R' (Ev.neg (by omega) ?_))
      rw [tm_step _ v' M hp0' hp' hv' (by omega), i2]
      refine Ev.bind' (Ev.now _) ?_
      by_cases c' : K 109 n' ((v' + M) % 10 ^ n') = true
      · exact Ev.pos c' (Ev.eq (Ev.now _) (by simp [c, c']))
      · refine Ev.neg c' (Ev.eq hi ?_)
        rw [if_neg (by simp [c'])]
    · refine Ev.neg c (Ev.eq hi ?_)
      rw [if_neg (by simp [c])]

theorem wrap_sum (a b : Nat) (ha : a ≤ 1000000) (hb : b ≤ 1000000000) : wrap64 ((a : Int) + (b : Int)) = ((a + b : Nat) : Int) := by rw [wrap_id (by omega) (by omega)]; rfl
theorem specBoth_ev (n n' v v' : Nat) (h1 : 1 ≤ n) (h1' : 1 ≤ n') (h9 : n ≤ 9) (h9' : n' ≤ 9) (hv : v < 10 ^ n) (hv' : v' < 10 ^ n') :
    ∀ (d M : Nat), M + 1 + d = 1000001 → Ev (fun k => spec_BothMirrored.l0 k (tx n' v') (M : Int) (tx n ((v + M) % 10 ^ n))) (scan (fun M => K 109 n ((v + M) % 10 ^ n)) (fun M => K 109 n' ((v' + M) % 10 ^ n')) d (M + 1)) := by
  have hp := pow_le h9
  have hp' := pow_le h9'
  have hp0 : 0 < 10 ^ n := Nat.pow_pos (by decide)
  have hp0' : 0 < 10 ^ n' := Nat.pow_pos (by decide)
  have letter : isLetter 109 := by simp [isLetter]
  intro d
  induction d using Nat.strongRecOn with
  | _ d ih =>
  intro M hM
  obtain ⟨t, ht, hh⟩ := next_ev 109 letter n ((v + M) % 10 ^ n) h1 h9 (Nat.mod_lt _ hp0)
  obtain ⟨st, s1, s2, s3, s4, rfl⟩ := hh.resolve_right (fun hx => by
    have := hx.2 0 hp0
    rw [show (((109 : UInt8).toNat : Nat) : Int) = 109 from rfl, K_zero] at this
    cases this)
  rw [show (((109 : UInt8).toNat : Nat) : Int) = 109 from rfl] at s3 s4
  have sh : ∀ j, ((v + M) % 10 ^ n + j) % 10 ^ n = (v + (M + j)) % 10 ^ n := fun j => by rw [Nat.mod_add_mod, Nat.add_assoc]
  rw [sh] at s3 ht
  have hto := miTo_ev n ((v + M) % 10 ^ n) ((v + (M + st)) % 10 ^ n) h9 (Nat.mod_lt _ hp0) (Nat.mod_lt _ hp0)
  rw [← sh st, step_arith _ _ st hp0 (Nat.mod_lt _ hp0) s1 s2, sh st] at hto
  have hA := miAll_ev n h9
  obtain ⟨R, hR⟩ : ∃ R, R = scan (fun M => K 109 n ((v + M) % 10 ^ n)) (fun M => K 109 n' ((v' + M) % 10 ^ n')) d (M + 1) := ⟨_, rfl⟩
  rw [← hR]
  -- the rest, at the step
  have rest : Ev (fun k => spec_BothMirrored.j2 k (tx n' v') (M : Int) (tx n ((v + (M + st)) % 10 ^ n)) (st : Int)) R := by
    have hws := wrap_sum M st (by omega) (by omega)
    have body : ∀ k, spec_BothMirrored.j2 (k + 1) (tx n' v') (M : Int) (tx n ((v + (M + st)) % 10 ^ n)) (st : Int) = if ((M + st : Nat) : Int) > 1000000 then (some (0, false)) else ((spec_tkNumber.f k (tx n' v')).bind fun t106 => ((spec_miAll.f k (n' : Int)).bind fun t107 => (if t107 = 0 then (none) else ((spec_miText.f k (n' : Int) (Int.tmod (wrap64 (t106 + ((M + st : Nat) : Int))) t107)).bind fun t108 => ((spec_miIs.f k t108 (⟨#[109]⟩ : ByteArray)).bind fun t109 => (if t109 = true then (some (((M + st : Nat) : Int), true)) else (spec_BothMirrored.l0 k (tx n' v') ((M + st : Nat) : Int) (tx n ((v + (M + st)) % 10 ^ n))))))))) := by
      intro k
      simp only [spec_BothMirrored.j2, tx_size, hws]
    clear hws
    refine Ev.step body ?_
    by_cases c : M + st > 1000000
    · refine Ev.pos (by omega) (Ev.eq (Ev.now _) ?_)
      rw [hR, scan_none]
      intro j j1 j2
      have := s4 (j - M) (by omega) (by omega)
      rw [sh, show M + (j - M) = j by omega] at this
      exact this
    · have hsk : scan (fun M => K 109 n ((v + M) % 10 ^ n)) (fun M => K 109 n' ((v' + M) % 10 ^ n')) d (M + 1) = scan (fun M => K 109 n ((v + M) % 10 ^ n)) (fun M => K 109 n' ((v' + M) % 10 ^ n')) (d - st + 1) (M + st) := by
        have := scan_skip (fun M => K 109 n ((v + M) % 10 ^ n)) (fun M => K 109 n' ((v' + M) % 10 ^ n')) (st - 1) (d - st + 1) (M + 1) ?_
        · rw [show d - st + 1 + (st - 1) = d by omega, show M + 1 + (st - 1) = M + st by omega] at this
          exact this
        · intro j j1 j2
          have := s4 (j - M) (by omega) (by omega)
          rw [sh, show M + (j - M) = j by omega] at this
          exact this
      have hi := ih (d - st) (by omega) (M + st) (by omega)
      have htx := miText_ev n' ((v' + (M + st)) % 10 ^ n') h9' (by have := Nat.mod_lt (v' + (M + st)) hp0'; omega)
      refine Ev.neg (by omega) (Ev.bind' (tk_ev n' v' h9' hv') (Ev.bind' (miAll_ev n' h9') (Ev.neg (by omega) ?_)))
      rw [tm_step _ v' (M + st) hp0' hp' hv' (by omega)]
      refine Ev.bind' htx ?_
      have hz' := tx_size n' ((v' + (M + st)) % 10 ^ n')
      have his := miIs_ev 109 letter (tx n' ((v' + (M + st)) % 10 ^ n')) (by omega) (by omega) (tx_dig _ _)
      rw [show (((109 : UInt8).toNat : Nat) : Int) = 109 from rfl, hz'] at his
      refine Ev.bind' his ?_
      rw [hR, hsk]
      simp only [scan]
      change Ev _ (if (K 109 n ((v + (M + st)) % 10 ^ n) && K 109 n' ((v' + (M + st)) % 10 ^ n')) = true then _ else _)
      rw [s3, Bool.true_and]
      by_cases c' : K 109 n' ((v' + (M + st)) % 10 ^ n') = true
      · exact Ev.pos c' (Ev.eq (Ev.now _) (by rw [if_pos c']))
      · exact Ev.neg c' (Ev.eq hi (by rw [if_neg c']))
  have body : ∀ k, spec_BothMirrored.l0 (k + 1) (tx n' v') (M : Int) (tx n ((v + M) % 10 ^ n)) = (spec_miNext.f k (tx n ((v + M) % 10 ^ n)) (kt 109)).bind fun t103 => ((spec_miTo.f k (tx n ((v + M) % 10 ^ n)) t103).bind fun t104 => (if t104 = 0 then ((spec_miAll.f k (n : Int)).bind fun t105 => (spec_BothMirrored.j2 k (tx n' v') (M : Int) t103 t105)) else (spec_BothMirrored.j2 k (tx n' v') (M : Int) t103 t104))) := by
    intro k
    simp only [spec_BothMirrored.l0, tx_size]
    rfl
  refine Ev.step body (Ev.bind' ht (Ev.bind' hto ?_))
  by_cases c : st = 10 ^ n
  · refine Ev.pos (by rw [c, Nat.mod_self]; rfl) (Ev.bind' hA ?_)
    rw [← c]
    rw [← c] at rest
    exact rest
  · rw [Nat.mod_eq_of_lt (by omega)]
    exact Ev.neg (by omega) rest

end Go.Proofs.Ytpdcjkiejglaiaa.Q

namespace Go.Proofs.Ytpdcjkiejglaiaa.Pure
open Go.RowKit Go.Proofs.Ytpdcjkiejglaiaa.Q Go.Proofs.YtpdcjkiejglaiaaW.PrintWords Go.Proofs.YtpdcjkiejglaiaaW.PrintLast
set_option linter.unusedVariables false

theorem FnExactBothMirrored : laws_FnExactBothMirrored.Pure := by
  intro a0 a1 h0 h1
  apply Ev.rounds
  unfold laws_FnExactBothMirrored.f
  by_cases c0 : (a0.size : Int) > 1048576
  · exact Ev.pos c0 (Ev.now _)
  refine Ev.neg c0 ?_
  by_cases c1 : (a1.size : Int) > 1048576
  · exact Ev.pos c1 (Ev.now _)
  refine Ev.neg c1 ?_
  obtain ⟨r, hs, hi⟩ : ∃ r, Ev (fun k => spec_BothMirrored.f k a0 a1) r ∧ Ev (fun k => impl_BothMirrored.f k a0 a1) r := by
    have js : Ev (fun k => spec_BothMirrored.j0 k a0 a1 true) (0, false) := Ev.step (f := fun _ => some (0, false)) (fun k => by simp only [spec_BothMirrored.j0]; rw [if_true]) (Ev.now _)
    have ji : Ev (fun k => impl_BothMirrored.j0 k a0 a1 true) (0, false) := Ev.step (f := fun _ => some (0, false)) (fun k => by simp only [impl_BothMirrored.j0]; rw [if_true]) (Ev.now _)
    unfold spec_BothMirrored.f impl_BothMirrored.f
    by_cases g0 : good a0 = true
    · by_cases g1 : good a1 = true
      · obtain ⟨v, hv, e0, _⟩ := good_tx g0
        obtain ⟨v', hv', e1, _⟩ := good_tx g1
        obtain ⟨n1, n9, _⟩ := good_at g0
        obtain ⟨n1', n9', _⟩ := good_at g1
        have S := specBoth_ev a0.size a1.size v v' n1 n1' n9 n9' hv hv' 1000000 0 (by omega)
        have I := implBoth_ev a0.size a1.size v v' n9 n9' hv hv' 1000000 1 (by omega)
        have T0 := number_ev a0.size v n9 hv
        have T1 := number_ev a1.size v' n9' hv'
        rw [Nat.add_zero, Nat.mod_eq_of_lt hv] at S
        rw [← e0] at S I T0
        rw [← e1] at S I T1
        obtain ⟨R, hR⟩ : ∃ R, R = scan (fun M => K 109 a0.size ((v + M) % 10 ^ a0.size)) (fun M => K 109 a1.size ((v' + M) % 10 ^ a1.size)) 1000000 1 := ⟨_, rfl⟩
        rw [← hR] at I
        rw [show (0 + 1 : Nat) = 1 from rfl, ← hR] at S
        refine ⟨R, Ev.bind' (miGood_ev a0 h0) (Ev.pos g0 (Ev.bind' (miGood_ev a1 h1) ?_)), Ev.bind' (IsReading_ev a0 h0) (Ev.pos g0 (Ev.bind' (IsReading_ev a1 h1) ?_))⟩
        · rw [g1]
          refine Ev.step (fun k => ?_) S
          simp only [spec_BothMirrored.j0]
          rw [if_neg (by decide)]
          rfl
        · rw [g1]
          refine Ev.step (f := fun k => (impl_numberOf.f k a0).bind fun t103 => ((impl_numberOf.f k a1).bind fun t104 => (impl_BothMirrored.l0 k a0 a1 t103 t104 1))) (fun k => ?_) (Ev.bind' T0 (Ev.bind' T1 I))
          simp only [impl_BothMirrored.j0]
          rw [if_neg (by decide)]
      · refine ⟨(0, false), Ev.bind' (miGood_ev a0 h0) (Ev.pos g0 (Ev.bind' (miGood_ev a1 h1) ?_)), Ev.bind' (IsReading_ev a0 h0) (Ev.pos g0 (Ev.bind' (IsReading_ev a1 h1) ?_))⟩
        · rw [Bool.not_eq_true] at g1
          rw [g1]; exact js
        · rw [Bool.not_eq_true] at g1
          rw [g1]; exact ji
    · exact ⟨(0, false), Ev.bind' (miGood_ev a0 h0) (Ev.neg g0 js), Ev.bind' (IsReading_ev a0 h0) (Ev.neg g0 ji)⟩
  refine Ev.bind' hs (Ev.bind' hi (Ev.pos rfl (Ev.neg ?_ (Ev.now _))))
  simp

end Go.Proofs.Ytpdcjkiejglaiaa.Pure
