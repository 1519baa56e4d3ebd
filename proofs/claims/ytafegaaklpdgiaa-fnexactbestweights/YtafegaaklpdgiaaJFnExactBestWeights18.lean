/-
  Texts of this claim, joined in their build order: the contracts of the functions that the statement reaches, and plain lemmas.
-/
import Derived.Test.YtafegaaklpdgiaaJFnExactBestWeights16
import Derived.Test.YtafegaaklpdgiaaJFnExactBestWeights17
import Derived.OneCell
import Derived.Laws.EntriesVeiled

namespace Go.Proofs.Ytafegaaklpdgiaa.Q
open Go.RowKit Go.Proofs.YtafegaaklpdgiaaW.PrintWords Go.Proofs.YtafegaaklpdgiaaW.PrintLast Go.Proofs.YtafegaaklpdgiaaW.PrintMore
attribute [local go_sem] max2_int min2_int max_two min_two max_three min_three max_four min_four   -- for this text's walks alone
set_option linter.unusedVariables false
set_option linter.unusedSimpArgs false
mutual
def spec_slUntold.j0 : Nat → Int → Bool → Int → List Int → Int → Option (List Int × Bool)
 | 0, _, _, _, _, _ => none
 | k + 1, x1, x2, x8, x102000, x102001 => (spec_slPair.f k x102000 x102001 x8).bind fun bt105 => (if bt105.2 = true then ((spec_slMade.f k x102000 x102001 x1 bt105.1 x2).bind fun t109 => (spec_slUntold.j1 k x1 x2 x8 bt105.1 bt105.2 t109 x102000 x102001)) else (spec_slUntold.j1 k x1 x2 x8 bt105.1 bt105.2 true x102000 x102001))
def spec_slUntold.j1 : Nat → Int → Bool → Int → List Int → Bool → Bool → List Int → Int → Option (List Int × Bool)
 | 0, _, _, _, _, _, _, _, _ => none
 | k + 1, x1, x2, x8, x9, x10, x42, x102000, x102001 => if x42 = true then (some (x9, x10)) else (spec_slUntold.l0 k x1 x2 x8 0 x102000 x102001)
def spec_slUntold.l0 : Nat → Int → Bool → Int → Int → List Int → Int → Option (List Int × Bool)
 | 0, _, _, _, _, _, _ => none
 | k + 1, x1, x2, x8, x11, x102000, x102001 => if x11 < 10 then (spec_slUntold.l1 k x1 x2 x8 x11 (wrap64 (x11 + 1)) x102000 x102001) else (some (([] : List Int),false))
def spec_slUntold.l1 : Nat → Int → Bool → Int → Int → Int → List Int → Int → Option (List Int × Bool)
 | 0, _, _, _, _, _, _, _ => none
 | k + 1, x1, x2, x8, x11, x12, x102000, x102001 => if x12 < 10 then (if x102001 = 0 then (none) else (if (Int.tmod (wrap64 (x8 * (wrap64 (x12 - x11)))) x102001) = 0 then ((spec_slMade.f k x102000 x102001 x1 (([x11, x12] : List Int)) x2).bind fun t113 => (if t113 = true then (some ((([x11, x12] : List Int)),true)) else (spec_slUntold.l1 k x1 x2 x8 x11 (wrap64 (x12 + 1)) x102000 x102001))) else (spec_slUntold.l1 k x1 x2 x8 x11 (wrap64 (x12 + 1)) x102000 x102001))) else (spec_slUntold.l0 k x1 x2 x8 (wrap64 (x11 + 1)) x102000 x102001)
end
def spec_slUntold.f (k : Nat) (l0_0 : List Int) (a0_1 : Int) (a1 : Int) (a2 : Bool) : Option (List Int × Bool) := if 0 ≤ a1 then (if a1 < (l0_0.length : Int) then (if a2 = true then (if 0 ≤ (wrap64 (a1 + 1)) then (if (wrap64 (a1 + 1)) < (l0_0.length : Int) then ((spec_l1Abs.f (wrap64 ((rd l0_0 a1) - (rd l0_0 (wrap64 (a1 + 1)))))).bind fun t104 => (spec_slUntold.j0 k a1 a2 t104 l0_0 a0_1)) else (none)) else (none)) else (spec_slUntold.j0 k a1 a2 (rd l0_0 a1) l0_0 a0_1)) else (none)) else (none)
theorem spec_slUntold.mono_l : ∀ k, (∀ y0 y1 y2 y3 y4, LeO (spec_slUntold.j0 k y0 y1 y2 y3 y4) (spec_slUntold.j0 (k + 1) y0 y1 y2 y3 y4)) ∧ (∀ y0 y1 y2 y3 y4 y5 y6 y7, LeO (spec_slUntold.j1 k y0 y1 y2 y3 y4 y5 y6 y7) (spec_slUntold.j1 (k + 1) y0 y1 y2 y3 y4 y5 y6 y7)) ∧ (∀ y0 y1 y2 y3 y4 y5, LeO (spec_slUntold.l0 k y0 y1 y2 y3 y4 y5) (spec_slUntold.l0 (k + 1) y0 y1 y2 y3 y4 y5)) ∧ (∀ y0 y1 y2 y3 y4 y5 y6, LeO (spec_slUntold.l1 k y0 y1 y2 y3 y4 y5 y6) (spec_slUntold.l1 (k + 1) y0 y1 y2 y3 y4 y5 y6))
 | 0 => ⟨fun _ _ _ _ _ r h => by simp [spec_slUntold.j0] at h, fun _ _ _ _ _ _ _ _ r h => by simp [spec_slUntold.j1] at h, fun _ _ _ _ _ _ r h => by simp [spec_slUntold.l0] at h, fun _ _ _ _ _ _ _ r h => by simp [spec_slUntold.l1] at h⟩
 | k + 1 => by
  obtain ⟨ih0, ih1, ih2, ih3⟩ := spec_slUntold.mono_l k
  refine ⟨?_, ?_, ?_, ?_⟩
  ·intro y0 y1 y2 y3 y4
   unfold spec_slUntold.j0
   repeat' first
   | (with_reducible exact ih0 _ _ _ _ _)
   | (with_reducible exact ih1 _ _ _ _ _ _ _ _)
   | (with_reducible exact ih2 _ _ _ _ _ _)
   | (with_reducible exact ih3 _ _ _ _ _ _ _)
   | (with_reducible exact spec_slMade.mono _ _ _ _ _ _)
   | (with_reducible exact spec_slPair.mono _ _ _ _)
   | (with_reducible exact LeO.refl _)
   | (with_reducible exact LeO.none _)
   | (with_reducible refine LeO.ite ?_ ?_)
   | (with_reducible refine LeO.bind ?_ (fun _ => ?_))
   | exact ih0 _ _ _ _ _
   | exact ih1 _ _ _ _ _ _ _ _
   | exact ih2 _ _ _ _ _ _
   | exact ih3 _ _ _ _ _ _ _
   | exact spec_slMade.mono _ _ _ _ _ _
   | exact spec_slPair.mono _ _ _ _
   | exact LeO.none _
   | refine LeO.ite ?_ ?_
   | refine LeO.bind ?_ (fun _ => ?_)
  ·intro y0 y1 y2 y3 y4 y5 y6 y7
   unfold spec_slUntold.j1
   repeat' first
   | (with_reducible exact ih0 _ _ _ _ _)
   | (with_reducible exact ih1 _ _ _ _ _ _ _ _)
   | (with_reducible exact ih2 _ _ _ _ _ _)
   | (with_reducible exact ih3 _ _ _ _ _ _ _)
   | (with_reducible exact spec_slMade.mono _ _ _ _ _ _)
   | (with_reducible exact spec_slPair.mono _ _ _ _)
   | (with_reducible exact LeO.refl _)
   | (with_reducible exact LeO.none _)
   | (with_reducible refine LeO.ite ?_ ?_)
   | (with_reducible refine LeO.bind ?_ (fun _ => ?_))
   | exact ih0 _ _ _ _ _
   | exact ih1 _ _ _ _ _ _ _ _
   | exact ih2 _ _ _ _ _ _
   | exact ih3 _ _ _ _ _ _ _
   | exact spec_slMade.mono _ _ _ _ _ _
   | exact spec_slPair.mono _ _ _ _
   | exact LeO.none _
   | refine LeO.ite ?_ ?_
   | refine LeO.bind ?_ (fun _ => ?_)
  ·intro y0 y1 y2 y3 y4 y5
   unfold spec_slUntold.l0
   repeat' first
   | (with_reducible exact ih0 _ _ _ _ _)
   | (with_reducible exact ih1 _ _ _ _ _ _ _ _)
   | (with_reducible exact ih2 _ _ _ _ _ _)
   | (with_reducible exact ih3 _ _ _ _ _ _ _)
   | (with_reducible exact spec_slMade.mono _ _ _ _ _ _)
   | (with_reducible exact spec_slPair.mono _ _ _ _)
   | (with_reducible exact LeO.refl _)
   | (with_reducible exact LeO.none _)
   | (with_reducible refine LeO.ite ?_ ?_)
   | (with_reducible refine LeO.bind ?_ (fun _ => ?_))
   | exact ih0 _ _ _ _ _
   | exact ih1 _ _ _ _ _ _ _ _
   | exact ih2 _ _ _ _ _ _
   | exact ih3 _ _ _ _ _ _ _
   | exact spec_slMade.mono _ _ _ _ _ _
   | exact spec_slPair.mono _ _ _ _
   | exact LeO.none _
   | refine LeO.ite ?_ ?_
   | refine LeO.bind ?_ (fun _ => ?_)
  ·intro y0 y1 y2 y3 y4 y5 y6
   unfold spec_slUntold.l1
   repeat' first
   | (with_reducible exact ih0 _ _ _ _ _)
   | (with_reducible exact ih1 _ _ _ _ _ _ _ _)
   | (with_reducible exact ih2 _ _ _ _ _ _)
   | (with_reducible exact ih3 _ _ _ _ _ _ _)
   | (with_reducible exact spec_slMade.mono _ _ _ _ _ _)
   | (with_reducible exact spec_slPair.mono _ _ _ _)
   | (with_reducible exact LeO.refl _)
   | (with_reducible exact LeO.none _)
   | (with_reducible refine LeO.ite ?_ ?_)
   | (with_reducible refine LeO.bind ?_ (fun _ => ?_))
   | exact ih0 _ _ _ _ _
   | exact ih1 _ _ _ _ _ _ _ _
   | exact ih2 _ _ _ _ _ _
   | exact ih3 _ _ _ _ _ _ _
   | exact spec_slMade.mono _ _ _ _ _ _
   | exact spec_slPair.mono _ _ _ _
   | exact LeO.none _
   | refine LeO.ite ?_ ?_
   | refine LeO.bind ?_ (fun _ => ?_)
theorem spec_slUntold.mono : ∀ a0 a1 a2 a3 k, LeO (spec_slUntold.f k a0 a1 a2 a3) (spec_slUntold.f (k + 1) a0 a1 a2 a3) := by
 intro a0 a1 a2 a3 k
 obtain ⟨ih0, ih1, ih2, ih3⟩ := spec_slUntold.mono_l k
 unfold spec_slUntold.f
 repeat' first
   | (with_reducible exact ih0 _ _ _ _ _)
   | (with_reducible exact ih1 _ _ _ _ _ _ _ _)
   | (with_reducible exact ih2 _ _ _ _ _ _)
   | (with_reducible exact ih3 _ _ _ _ _ _ _)
   | (with_reducible exact spec_slMade.mono _ _ _ _ _ _)
   | (with_reducible exact spec_slPair.mono _ _ _ _)
   | (with_reducible exact LeO.refl _)
   | (with_reducible exact LeO.none _)
   | (with_reducible refine LeO.ite ?_ ?_)
   | (with_reducible refine LeO.bind ?_ (fun _ => ?_))
   | exact ih0 _ _ _ _ _
   | exact ih1 _ _ _ _ _ _ _ _
   | exact ih2 _ _ _ _ _ _
   | exact ih3 _ _ _ _ _ _ _
   | exact spec_slMade.mono _ _ _ _ _ _
   | exact spec_slPair.mono _ _ _ _
   | exact LeO.none _
   | refine LeO.ite ?_ ?_
   | refine LeO.bind ?_ (fun _ => ?_)
set_option maxHeartbeats 8000000 in
set_option maxRecDepth 100000 in
theorem spec_slUntold.calls (k : Nat) (A0_0 : Option Addr) (c0_0 : Nat) (l0_0 : List Int) (a0_1 : Int) (a1 : Int) (a2 : Bool) (r1 : List Int) (r2 : Bool) (w : World) (hr0_0 : Kd.C (Kd.int .i64) w A0_0 l0_0.length l0_0) (hc0_0 : l0_0.length ≤ c0_0) (h : spec_slUntold.f k l0_0 a0_1 a1 a2 = some (r1, r2)) :
  Calls Try.prog 38 #[.agg #[.slice A0_0 l0_0.length c0_0, .int .i64 a0_1], .int .i64 a1, .bool a2] w fun e w' => ∃ v0_ : Value, e = .returned (.tuple #[v0_, .bool r2]) ∧ Kd.R (Kd.int .i64) 3 w' w.heap.size (fun _ => True) v0_ r1 ∧ Below w.heap.size w w' := by
 have hu34 := Try.underlying34
 have HR0_0 := Aside0.mk hr0_0
 have HC0_0 := Aside0.mk hc0_0
 clear hr0_0 hc0_0
 have HB := Aside0.mk (Below.refl w.heap.size w)
 have H : (if 0 ≤ a1 then (if a1 < (l0_0.length : Int) then (if a2 = true then (if 0 ≤ (wrap64 (a1 + 1)) then (if (wrap64 (a1 + 1)) < (l0_0.length : Int) then ((spec_l1Abs.f (wrap64 ((rd l0_0 a1) - (rd l0_0 (wrap64 (a1 + 1)))))).bind fun t104 => (spec_slUntold.j0 k a1 a2 t104 l0_0 a0_1)) else (none)) else (none)) else (spec_slUntold.j0 k a1 a2 (rd l0_0 a1) l0_0 a0_1)) else (none)) else (none)) = some (r1, r2) := h
 clear h
 by_cases c4 : 0 ≤ a1
 ·rw [if_pos c4] at H
  have c4b0 : decide (0 ≤ a1) = true := decide_eq_true c4
  clear c4
  by_cases c5 : a1 < (l0_0.length : Int)
  ·rw [if_pos c5] at H
   have c5b0 : decide (a1 < (l0_0.length : Int)) = true := decide_eq_true c5
   clear c5
   have HC6 := Aside0.mk H
   clear H
   go_enter Try.func38, Try.ntmps38
   go_upto_if 18 with (first | ((with_reducible refine gate_dst (N := 3) rfl ?_); (try (refine gate_guard (by rfl) ?_; dsimp only)); refine box_event ?hg (N := 3) ?hd (cs := #[.slice A0_0 l0_0.length c0_0, .int .i64 a0_1]) (t := 34) ?hr ?_; (case hd => rfl); (case hg => rfl); (case hr => first | (go_simp; done) | (go_simp; rfl)); intro gb101 hg w7 hbox hb; have n0_ := Aside0.mk (below_step (by repeat (first | (with_reducible first | exact HB.out | apply below_alloc | apply pw_below_drewN | apply below_drew1) | exact HB.out)) hb); have n1_ := Aside0.mk (hbox); have n2_ := Aside0.mk ((by rw [hg]; exact (below_size (by repeat (first | (with_reducible first | exact HB.out | apply below_alloc | apply pw_below_drewN | apply below_drew1) | exact HB.out))) : w.heap.size ≤ gb101)); have n3_ := Aside0.mk ((by rw [hg]; exact (below_size (by repeat (first | (with_reducible first | exact HB.out | apply below_alloc | apply pw_below_drewN | apply below_drew1) | exact HB.out))) : w.heap.size ≤ gb101)); clear HB; have HB := n0_; have BK101 := n1_; have GW101 := n2_; have GE101 := n3_; clear n0_ n1_ n2_ n3_; clear hb hbox hg; have hcz8_0 : w7.cell? ⟨gb101, 0, none⟩ = some (.slice A0_0 l0_0.length c0_0) := (blk_cell BK101.out 0).trans rfl; have hcz8_1 : w7.cell? ⟨gb101, 1, none⟩ = some (.int .i64 a0_1) := (blk_cell BK101.out 1).trans rfl; have hfz8_0 := blk_frozen BK101.out 0; have hfz8_1 := blk_frozen BK101.out 1; have p102 : 0 ≤ (a1 : Int) := of_decide_eq_true (by first | (with_reducible assumption) | assumption); have q102 : a1 < (l0_0.length : Int) := of_decide_eq_true (by first | (with_reducible assumption) | assumption); obtain ⟨ad102, e102, hx102_0⟩ := Kd.at_int HR0_0.out a1 p102 q102; cases e102; replace hx102_0 := (HB.out.cell (World.block_lt_of_cell? w _ hx102_0)).trans hx102_0; replace p102 := eq_true p102; replace q102 := eq_true q102))
   (try simp only [Act.put, List.setIfInBounds_toArray, List.set_cons_zero, List.set_cons_succ])
   go_cut [8] (fun v8 wc => ∃ (kq : Nat) (x8_5 : Int), v8 = .int .i64 x8_5 ∧ Aside0 (spec_slUntold.j0 kq a1 a2 x8_5 l0_0 a0_1 = some (r1, r2)) ∧ Aside0 (kq ≤ k) ∧ Aside0 (wc.heap[gb101]? = some (.cells #[(.slice (some ad102) l0_0.length c0_0), .int .i64 a0_1] 34 (0, 0))) ∧ Aside0 (Below w.heap.size w wc))
   case first =>
    have H := HC6.out
    clear HC6
    by_cases c9 : a2 = true
    ·subst c9
     have H1 : (if 0 ≤ (wrap64 (a1 + 1)) then (if (wrap64 (a1 + 1)) < (l0_0.length : Int) then ((spec_l1Abs.f (wrap64 ((rd l0_0 a1) - (rd l0_0 (wrap64 (a1 + 1)))))).bind fun t104 => (spec_slUntold.j0 k a1 true t104 l0_0 a0_1)) else (none)) else (none)) = some (r1, r2) := by rw [if_pos rfl] at H; exact H
     clear H
     have H := H1
     clear H1
     obtain ⟨ji10, hji10⟩ : ∃ j_ : Int, (wrap64 (a1 + 1)) = j_ := ⟨_, rfl⟩
     replace H : (if 0 ≤ (ji10) then (if (ji10) < (l0_0.length : Int) then ((spec_l1Abs.f (wrap64 ((rd l0_0 a1) - (rd l0_0 (ji10))))).bind fun t104 => (spec_slUntold.j0 k a1 true t104 l0_0 a0_1)) else (none)) else (none)) = some (r1, r2) := by first | (rw [hji10] at H; exact H) | (simp only [hji10] at H ⊢; exact H)
     have hji10w : (IntKind.i64.wrap (a1 + 1)) = ji10 := (i64_w _).trans hji10
     by_cases c11 : 0 ≤ (ji10)
     ·rw [if_pos c11] at H
      have c11b0 : decide (0 ≤ (ji10)) = true := decide_eq_true c11
      clear c11
      (first | rw [c11b0] | (simp only [i64_w, i32_w]; rw [c11b0]) | skip)
      by_cases c12 : (ji10) < (l0_0.length : Int)
      ·rw [if_pos c12] at H
       have c12b0 : decide ((ji10) < (l0_0.length : Int)) = true := decide_eq_true c12
       clear c12
       replace H := Option.bind_eq_some_iff.mp H
       obtain ⟨t104, A130, H⟩ := H
       replace H : (spec_slUntold.j0 k a1 true t104 l0_0 a0_1) = some (r1, r2) := H
       have A13 := Aside0.mk A130
       clear A130
       have H' := Aside0.mk H
       clear H
       have hcz14_0 : w7.cell? ⟨gb101, 0, none⟩ = some (.slice (some ad102) l0_0.length c0_0) := (blk_cell BK101.out 0).trans rfl
       have hcz14_1 : w7.cell? ⟨gb101, 1, none⟩ = some (.int .i64 a0_1) := (blk_cell BK101.out 1).trans rfl
       have hfz14_0 := blk_frozen BK101.out 0
       have hfz14_1 := blk_frozen BK101.out 1
       have p103 : 0 ≤ ((ji10) : Int) := of_decide_eq_true (by first | (with_reducible assumption) | assumption)
       have q103 : (ji10) < (l0_0.length : Int) := of_decide_eq_true (by first | (with_reducible assumption) | assumption)
       obtain ⟨ad103, e103, hx103_0⟩ := Kd.at_int HR0_0.out (ji10) p103 q103
       obtain rfl : ad102 = ad103 := (by injection e103)
       replace hx103_0 := (HB.out.cell (World.block_lt_of_cell? w _ hx103_0)).trans hx103_0
       replace p103 := eq_true p103
       replace q103 := eq_true q103
       go_wp2_with (first | ((with_reducible refine gate_callee (f := 42) rfl ?_); refine goesL_ (some 27) rfl rfl Try.func42 (by kernel_rfl) rfl #[.int .i64 (wrap64 ((rd l0_0 a1) - (rd l0_0 (ji10))))] rfl (by (try simp only [List.map_toArray, List.map_cons, List.map_nil]); first | done | (simp only [hji10]; rfl) | rfl | (simp only [List.length_drop, List.length_take]; rfl)) ?_; (with_reducible refine (spec_l1Abs.calls (wrap64 ((rd l0_0 a1) - (rd l0_0 (ji10)))) t104 _ A13.out).mono ?_); rintro e w' ⟨rfl, ⟨nd, rfl⟩⟩; refine ⟨_, rfl, ?_⟩))
       go_meet
       case rel => exact ⟨_, (t104), (by first | rfl | (simp; done) | (simp [*]; done)), H', ⟨by first | omega | exact Nat.le_refl _⟩, ⟨by (with_reducible repeat (first | refine blk_drewN ?_ _ | refine blk_drew ?_ | refine blk_alloc ?_ _)); exact BK101.out⟩, ⟨by repeat (first | (with_reducible first | exact HB.out | apply below_alloc | apply pw_below_drewN | apply below_drew1 | refine below_set ?_ GE101.out) | exact HB.out)⟩⟩
      ·rw [if_neg c12] at H
       exact absurd H (by simp)
     ·rw [if_neg c11] at H
      exact absurd H (by simp)
    ·replace c9 := Bool.eq_false_iff.mpr c9
     subst c9
     have H1 : (spec_slUntold.j0 k a1 false (rd l0_0 a1) l0_0 a0_1) = some (r1, r2) := by rw [if_neg (show ¬ (false = true) by decide)] at H; exact H
     clear H
     have H := H1
     clear H1
     have H' := Aside0.mk H
     clear H
     go_wp2
     go_meet
     case rel => exact ⟨_, (rd l0_0 a1), (by first | rfl | (simp; done) | (simp [*]; done)), H', ⟨by first | omega | exact Nat.le_refl _⟩, ⟨by (with_reducible repeat (first | refine blk_drewN ?_ _ | refine blk_drew ?_ | refine blk_alloc ?_ _)); exact BK101.out⟩, ⟨by repeat (first | (with_reducible first | exact HB.out | apply below_alloc | apply pw_below_drewN | apply below_drew1 | refine below_set ?_ GE101.out) | exact HB.out)⟩⟩
   case rest =>
    clear HC6
    try clear c1
    try clear p1
    try clear q1
    try clear hx1
    try clear p2
    try clear c3
    try clear c4
    try clear c4b0
    try clear c5
    try clear c5b0
    try clear p6
    try clear c9
    try clear p10
    try clear q10
    try clear hx10
    try clear c11
    try clear c11b0
    try clear c12
    try clear c12b0
    try clear hcz14_0
    try clear hcz14_1
    try clear hcz8_0
    try clear hcz8_1
    try clear hfz14_0
    try clear hfz14_1
    try clear hfz8_0
    try clear hfz8_1
    try clear hx102_0
    try clear hx103_0
    try clear p102
    try clear p103
    try clear q102
    try clear q103
    obtain ⟨kq, x8_5, rfl, HA, HJ5, BK101, HB⟩ := hcut
    cases kq with
    | zero => exact absurd HA.out (by simp [spec_slUntold.j0])
    | succ kj5 =>
     have H := HA.out
     clear HA
     simp only [spec_slUntold.j0] at H
     replace H := Option.bind_eq_some_iff.mp H
     obtain ⟨⟨t105, t108⟩, A150, H⟩ := H
     replace H : (if t108 = true then ((spec_slMade.f kj5 l0_0 a0_1 a1 t105 a2).bind fun t109 => (spec_slUntold.j1 kj5 a1 a2 x8_5 t105 t108 t109 l0_0 a0_1)) else (spec_slUntold.j1 kj5 a1 a2 x8_5 t105 t108 true l0_0 a0_1)) = some (r1, r2) := H
     have A15 := Aside0.mk A150
     clear A150
     have HC16 := Aside0.mk H
     clear H
     have hcz17_0 : wc.cell? ⟨gb101, 0, none⟩ = some (.slice (some ad102) l0_0.length c0_0) := (blk_cell BK101.out 0).trans rfl
     have hcz17_1 : wc.cell? ⟨gb101, 1, none⟩ = some (.int .i64 a0_1) := (blk_cell BK101.out 1).trans rfl
     have hfz17_0 := blk_frozen BK101.out 0
     have hfz17_1 := blk_frozen BK101.out 1
     go_upto_region 5 with (first | ((with_reducible refine gate_callee (f := 33) rfl ?_); refine goesL_ (some 31) rfl rfl Try.func33 (by kernel_rfl) rfl #[.agg #[.slice (some ad102) l0_0.length c0_0, .int .i64 a0_1], .int .i64 x8_5] rfl (by (try simp only [List.map_toArray, List.map_cons, List.map_nil]); first | done | rfl | (simp only [List.length_drop, List.length_take]; rfl)) ?_; (with_reducible refine (spec_slPair.calls kj5 _ _ l0_0 a0_1 x8_5 t105 t108 _ ?side1 ?side2 A15.out).mono ?_); (case side1 => repeat (first | exact (Kd.C_below HR0_0.out HB.out) | (with_reducible refine Kd.C_alloc ?_ _) | (with_reducible refine Kd.C_drewN ?_ _) | (with_reducible refine Kd.C_drew ?_))); (case side2 => exact HC0_0.out); rintro e w18 ⟨v106, rfl, ho0, hb⟩; refine ⟨_, rfl, ?_⟩; have n0_ := Aside0.mk (Kd.R_lower ho0 (below_size (by repeat (first | (with_reducible first | exact HB.out | apply below_alloc | apply pw_below_drewN | apply below_drew1 | refine below_set ?_ GE101.out) | exact HB.out)))); have n1_ := Aside0.mk (blk_below (g := gb101) (o := .cells #[.slice (some ad102) l0_0.length c0_0, .int .i64 a0_1] 34 (0, 0)) (by (with_reducible repeat (first | refine blk_drewN ?_ _ | refine blk_drew ?_ | refine blk_alloc ?_ _)); exact BK101.out) hb); have n2_ := Aside0.mk (below_step (by repeat (first | (with_reducible first | exact HB.out | apply below_alloc | apply pw_below_drewN | apply below_drew1 | refine below_set ?_ GE101.out) | exact HB.out)) hb); clear BK101; clear HB; have HO107 := n0_; have BK101 := n1_; have HB := n2_; clear n0_ n1_ n2_; (try clear hb); (try clear hb2); (try clear hk); (try clear hi); (try clear ho0)))
     (try simp only [Act.put, List.setIfInBounds_toArray, List.set_cons_zero, List.set_cons_succ])
     go_cut [42] (fun v42 wc => ∃ (kq : Nat) (x42_15 : Bool), v42 = .bool x42_15 ∧ Aside0 (spec_slUntold.j1 kq a1 a2 x8_5 t105 t108 x42_15 l0_0 a0_1 = some (r1, r2)) ∧ Aside0 (kq ≤ kj5) ∧ Aside0 (Kd.R (Kd.int .i64) 3 wc w.heap.size (fun _ => True) v106 t105) ∧ Aside0 (wc.heap[gb101]? = some (.cells #[(.slice (some ad102) l0_0.length c0_0), .int .i64 a0_1] 34 (0, 0))) ∧ Aside0 (Below w.heap.size w wc))
     case first =>
      have H := HC16.out
      clear HC16
      by_cases c19 : t108 = true
      ·subst c19
       have H1 : ((spec_slMade.f kj5 l0_0 a0_1 a1 t105 a2).bind fun t109 => (spec_slUntold.j1 kj5 a1 a2 x8_5 t105 true t109 l0_0 a0_1)) = some (r1, r2) := by rw [if_pos rfl] at H; exact H
       clear H
       have H := H1
       clear H1
       replace H := Option.bind_eq_some_iff.mp H
       obtain ⟨t109, A200, H⟩ := H
       replace H : (spec_slUntold.j1 kj5 a1 a2 x8_5 t105 true t109 l0_0 a0_1) = some (r1, r2) := H
       have A20 := Aside0.mk A200
       clear A200
       have H' := Aside0.mk H
       clear H
       have hcz21_0 : w18.cell? ⟨gb101, 0, none⟩ = some (.slice (some ad102) l0_0.length c0_0) := (blk_cell BK101.out 0).trans rfl
       have hcz21_1 : w18.cell? ⟨gb101, 1, none⟩ = some (.int .i64 a0_1) := (blk_cell BK101.out 1).trans rfl
       have hfz21_0 := blk_frozen BK101.out 0
       have hfz21_1 := blk_frozen BK101.out 1
       obtain ⟨Ao22, co22, eo22⟩ := Kd.R_slice HO107.out
       subst eo22
       go_wp2_with (first | (go_at_call 43; (with_reducible refine (spec_slMade.calls kj5 _ _ l0_0 a0_1 a1 _ _ t105 a2 t109 _ ?side1 ?side2 ?side3 ?side4 A20.out).mono ?_); (case side1 => repeat (first | exact (Kd.C_below HR0_0.out HB.out) | (with_reducible refine Kd.C_alloc ?_ _) | (with_reducible refine Kd.C_drewN ?_ _) | (with_reducible refine Kd.C_drew ?_))); (case side2 => exact HC0_0.out); (case side3 => repeat (first | exact (Kd.R_reads' HO107.out).2.2 | (with_reducible refine Kd.C_alloc ?_ _) | (with_reducible refine Kd.C_drewN ?_ _) | (with_reducible refine Kd.C_drew ?_))); (case side4 => exact (Kd.R_reads' HO107.out).2.1); rintro e w23 ⟨rfl, hb⟩; have n0_ := Aside0.mk (Kd.R_below (by (with_reducible repeat (first | apply Kd.R_alloc | apply Kd.R_drewN | apply Kd.R_drew)); exact HO107.out) hb); have n1_ := Aside0.mk (blk_below (g := gb101) (o := .cells #[.slice (some ad102) l0_0.length c0_0, .int .i64 a0_1] 34 (0, 0)) (by (with_reducible repeat (first | refine blk_drewN ?_ _ | refine blk_drew ?_ | refine blk_alloc ?_ _)); exact BK101.out) hb); have n2_ := Aside0.mk (below_step (by repeat (first | (with_reducible first | exact HB.out | apply below_alloc | apply pw_below_drewN | apply below_drew1 | refine below_set ?_ GE101.out) | exact HB.out)) hb); clear HO107; clear BK101; clear HB; have HO107 := n0_; have BK101 := n1_; have HB := n2_; clear n0_ n1_ n2_; (try clear hb); (try clear hb2); (try clear hk); (try clear hi)))
       go_meet
       case rel => exact ⟨_, (t109), (by first | rfl | (simp; done) | (simp [*]; done)), H', ⟨by have := HJ5.out; first | omega | exact Nat.le_refl _⟩, ⟨by (with_reducible repeat (first | apply Kd.R_alloc | apply Kd.R_drewN | apply Kd.R_drew)); exact HO107.out⟩, ⟨by (with_reducible repeat (first | refine blk_drewN ?_ _ | refine blk_drew ?_ | refine blk_alloc ?_ _)); exact BK101.out⟩, ⟨by repeat (first | (with_reducible first | exact HB.out | apply below_alloc | apply pw_below_drewN | apply below_drew1 | refine below_set ?_ GE101.out) | exact HB.out)⟩⟩
      ·replace c19 := Bool.eq_false_iff.mpr c19
       subst c19
       have H1 : (spec_slUntold.j1 kj5 a1 a2 x8_5 t105 false true l0_0 a0_1) = some (r1, r2) := by rw [if_neg (show ¬ (false = true) by decide)] at H; exact H
       clear H
       have H := H1
       clear H1
       have H' := Aside0.mk H
       clear H
       go_wp2
       go_meet
       case rel => exact ⟨_, (true), (by first | rfl | (simp; done) | (simp [*]; done)), H', ⟨by have := HJ5.out; first | omega | exact Nat.le_refl _⟩, ⟨by (with_reducible repeat (first | apply Kd.R_alloc | apply Kd.R_drewN | apply Kd.R_drew)); exact HO107.out⟩, ⟨by (with_reducible repeat (first | refine blk_drewN ?_ _ | refine blk_drew ?_ | refine blk_alloc ?_ _)); exact BK101.out⟩, ⟨by repeat (first | (with_reducible first | exact HB.out | apply below_alloc | apply pw_below_drewN | apply below_drew1 | refine below_set ?_ GE101.out) | exact HB.out)⟩⟩
     case rest =>
      clear HC16
      try clear c1
      try clear p1
      try clear q1
      try clear hx1
      try clear p2
      try clear c3
      try clear c4
      try clear c4b0
      try clear c5
      try clear c5b0
      try clear p6
      try clear c9
      try clear p10
      try clear q10
      try clear hx10
      try clear c11
      try clear c11b0
      try clear c12
      try clear c12b0
      try clear c19
      try clear hcz14_0
      try clear hcz14_1
      try clear hcz17_0
      try clear hcz17_1
      try clear hcz21_0
      try clear hcz21_1
      try clear hcz8_0
      try clear hcz8_1
      try clear hfz14_0
      try clear hfz14_1
      try clear hfz17_0
      try clear hfz17_1
      try clear hfz21_0
      try clear hfz21_1
      try clear hfz8_0
      try clear hfz8_1
      try clear hx102_0
      try clear hx103_0
      try clear p1
      try clear p10
      try clear p102
      try clear p103
      try clear p2
      try clear p6
      try clear q1
      try clear q10
      try clear q102
      try clear q103
      obtain ⟨kq, x42_15, rfl, HA, HJ15, HO_9, BK101, HB⟩ := hcut
      cases kq with
      | zero => exact absurd HA.out (by simp [spec_slUntold.j1])
      | succ kj15 =>
       have H := HA.out
       clear HA
       simp only [spec_slUntold.j1] at H
       by_cases c24 : x42_15 = true
       ·subst c24
        have H1 : (some (t105, t108)) = some (r1, r2) := by rw [if_pos rfl] at H; exact H
        clear H
        have H := H1
        clear H1
        simp only [Option.some.injEq, Prod.mk.injEq] at H
        obtain ⟨rfl, rfl⟩ := H
        go_wp2
        go_ret2
        exact ⟨_, by first | rfl | (simp [errW_none, errW_some] <;> rfl) | (simp [*, errW_none, errW_some] <;> rfl), by (with_reducible repeat (first | apply Kd.R_alloc | apply Kd.R_drewN | apply Kd.R_drew)); exact HO_9.out, by repeat (first | (with_reducible first | exact HB.out | apply below_alloc | apply pw_below_drewN | apply below_drew1 | refine below_set ?_ GE101.out) | exact HB.out)⟩
       ·replace c24 := Bool.eq_false_iff.mpr c24
        subst c24
        have H1 : (spec_slUntold.l0 kj15 a1 a2 x8_5 0 l0_0 a0_1) = some (r1, r2) := by rw [if_neg (show ¬ (false = true) by decide)] at H; exact H
        clear H
        have H := H1
        clear H1
        have H' := Aside0.mk H
        clear H
        go_wp2
        go_loopg [11] kj15 (fun kq v11 w' => ∃ (x11_3 : Int), v11 = .int .i64 x11_3 ∧ Aside0 (spec_slUntold.l0 kq a1 a2 x8_5 x11_3 l0_0 a0_1 = some (r1, r2)) ∧ Aside0 (kq ≤ kj15) ∧ Aside0 (w'.heap[gb101]? = some (.cells #[(.slice (some ad102) l0_0.length c0_0), .int .i64 a0_1] 34 (0, 0))) ∧ Aside0 (Below w.heap.size w w'))
        case atStart => exact ⟨(0), (by first | rfl | (simp; done) | (simp [*]; done)), H', ⟨Nat.le_refl _⟩, ⟨by (with_reducible repeat (first | refine blk_drewN ?_ _ | refine blk_drew ?_ | refine blk_alloc ?_ _)); exact BK101.out⟩, ⟨by repeat (first | (with_reducible first | exact HB.out | apply below_alloc | apply pw_below_drewN | apply below_drew1 | refine below_set ?_ GE101.out) | exact HB.out)⟩⟩
        case round =>
         clear H'
         try clear c1
         try clear p1
         try clear q1
         try clear hx1
         try clear c2
         try clear p2
         try clear c3
         try clear c4
         try clear c4b0
         try clear c5
         try clear c5b0
         try clear p6
         try clear c9
         try clear p10
         try clear q10
         try clear hx10
         try clear c11
         try clear c11b0
         try clear c12
         try clear c12b0
         try clear c19
         try clear c24
         try clear hcz14_0
         try clear hcz14_1
         try clear hcz17_0
         try clear hcz17_1
         try clear hcz21_0
         try clear hcz21_1
         try clear hcz8_0
         try clear hcz8_1
         try clear hfz14_0
         try clear hfz14_1
         try clear hfz17_0
         try clear hfz17_1
         try clear hfz21_0
         try clear hfz21_1
         try clear hfz8_0
         try clear hfz8_1
         try clear hx102_0
         try clear hx103_0
         try clear p1
         try clear p10
         try clear p102
         try clear p103
         try clear p2
         try clear p6
         try clear q1
         try clear q10
         try clear q102
         try clear q103
         obtain ⟨x11_3, rfl, HA, HK3, BK101, HB⟩ := hrel
         cases gk with
         | zero => exact absurd HA.out (by simp [spec_slUntold.l0])
         | succ k3 =>
          have H := HA.out
          clear HA
          simp only [spec_slUntold.l0] at H
          by_cases c25 : x11_3 < 10
          ·rw [if_pos c25] at H
           have c25b0 : decide (x11_3 < 10) = true := decide_eq_true c25
           clear c25
           have H' := Aside0.mk H
           clear H
           go_wp2
           go_loopg [12] k3 (fun kq v12 w' => ∃ (x12_4 : Int), v12 = .int .i64 x12_4 ∧ Aside0 (spec_slUntold.l1 kq a1 a2 x8_5 x11_3 x12_4 l0_0 a0_1 = some (r1, r2)) ∧ Aside0 (kq ≤ k3) ∧ Aside0 (w'.heap[gb101]? = some (.cells #[(.slice (some ad102) l0_0.length c0_0), .int .i64 a0_1] 34 (0, 0))) ∧ Aside0 (Below w.heap.size w w'))
           case atStart => exact ⟨(wrap64 (x11_3 + 1)), (by first | rfl | (simp; done) | (simp [*]; done)), H', ⟨Nat.le_refl _⟩, ⟨by (with_reducible repeat (first | refine blk_drewN ?_ _ | refine blk_drew ?_ | refine blk_alloc ?_ _)); exact BK101.out⟩, ⟨by repeat (first | (with_reducible first | exact HB.out | apply below_alloc | apply pw_below_drewN | apply below_drew1 | refine below_set ?_ GE101.out) | exact HB.out)⟩⟩
           case round =>
            clear H'
            try clear c1
            try clear p1
            try clear q1
            try clear hx1
            try clear c2
            try clear p2
            try clear c3
            try clear c4
            try clear c4b0
            try clear c5
            try clear c5b0
            try clear p6
            try clear c9
            try clear p10
            try clear q10
            try clear hx10
            try clear c11
            try clear c11b0
            try clear c12
            try clear c12b0
            try clear c19
            try clear c24
            try clear c25
            try clear c25b0
            try clear hcz14_0
            try clear hcz14_1
            try clear hcz17_0
            try clear hcz17_1
            try clear hcz21_0
            try clear hcz21_1
            try clear hcz8_0
            try clear hcz8_1
            try clear hfz14_0
            try clear hfz14_1
            try clear hfz17_0
            try clear hfz17_1
            try clear hfz21_0
            try clear hfz21_1
            try clear hfz8_0
            try clear hfz8_1
            try clear hx102_0
            try clear hx103_0
            try clear p1
            try clear p10
            try clear p102
            try clear p103
            try clear p2
            try clear p6
            try clear q1
            try clear q10
            try clear q102
            try clear q103
            obtain ⟨x12_4, rfl, HA, HK4, BK101, HB⟩ := hrel
            cases gk with
            | zero => exact absurd HA.out (by simp [spec_slUntold.l1])
            | succ k4 =>
             have H := HA.out
             clear HA
             simp only [spec_slUntold.l1] at H
             by_cases c26 : x12_4 < 10
             ·rw [if_pos c26] at H
              have c26b0 : decide (x12_4 < 10) = true := decide_eq_true c26
              clear c26
              by_cases c27 : a0_1 = 0
              ·rw [if_pos c27] at H
               exact absurd H (by simp)
              ·rw [if_neg c27] at H
               have c27b0 : (a0_1 == 0) = false := beq_eq_false_iff_ne.mpr c27
               have c27b1 : (a0_1 != 0) = true := bne_iff_ne.mpr c27
               by_cases c28 : (Int.tmod (wrap64 (x8_5 * (wrap64 (x12_4 - x11_3)))) a0_1) = 0
               ·rw [if_pos c28] at H
                have c28b0 : ((Int.tmod (wrap64 (x8_5 * (wrap64 (x12_4 - x11_3)))) a0_1) == 0) = true := beq_iff_eq.mpr c28
                have c28b1 : ((Int.tmod (wrap64 (x8_5 * (wrap64 (x12_4 - x11_3)))) a0_1) != 0) = false := bne_eq_false_iff_eq.mpr c28
                clear c28
                obtain ⟨y110, hy110⟩ : ∃ y_ : List Int, y_ = (([x11_3, x12_4] : List Int)) := ⟨_, rfl⟩
                replace H : ((spec_slMade.f k4 l0_0 a0_1 a1 y110 a2).bind fun t113 => (if t113 = true then (some ((([x11_3, x12_4] : List Int)),true)) else (spec_slUntold.l1 k4 a1 a2 x8_5 x11_3 (wrap64 (x12_4 + 1)) l0_0 a0_1))) = some (r1, r2) := by first | (rw [hy110]; with_reducible exact H) | (have H2_ := (Option.bind_some _ _).symm.trans H; rw [hy110]; with_reducible exact H2_) | (have H2_ := (Option.bind_some _ _).symm.trans H; with_reducible exact H2_) | with_reducible exact H | (rw [hy110]; exact H) | exact H
                have Ny110 := Aside0.mk hy110
                clear hy110
                replace H := Option.bind_eq_some_iff.mp H
                obtain ⟨t113, A290, H⟩ := H
                replace H : (if t113 = true then (some ((([x11_3, x12_4] : List Int)),true)) else (spec_slUntold.l1 k4 a1 a2 x8_5 x11_3 (wrap64 (x12_4 + 1)) l0_0 a0_1)) = some (r1, r2) := H
                have A29 := Aside0.mk A290
                clear A290
                by_cases c30 : t113 = true
                ·subst c30
                 have H1 : (some ((([x11_3, x12_4] : List Int)),true)) = some (r1, r2) := by rw [if_pos rfl] at H; exact H
                 clear H
                 have H := H1
                 clear H1
                 obtain ⟨y114, hy114⟩ : ∃ y_ : List Int, y_ = (([x11_3, x12_4] : List Int)) := ⟨_, rfl⟩
                 replace H : (some (y114,true)) = some (r1, r2) := by first | (rw [hy114]; with_reducible exact H) | (have H2_ := (Option.bind_some _ _).symm.trans H; rw [hy114]; with_reducible exact H2_) | (have H2_ := (Option.bind_some _ _).symm.trans H; with_reducible exact H2_) | with_reducible exact H | (rw [hy114]; exact H) | exact H
                 have Ny114 := Aside0.mk hy114
                 clear hy114
                 simp only [Option.some.injEq, Prod.mk.injEq] at H
                 obtain ⟨rfl, rfl⟩ := H
                 have hcz31_0 : wr.cell? ⟨gb101, 0, none⟩ = some (.slice (some ad102) l0_0.length c0_0) := (blk_cell BK101.out 0).trans rfl
                 have hcz31_1 : wr.cell? ⟨gb101, 1, none⟩ = some (.int .i64 a0_1) := (blk_cell BK101.out 1).trans rfl
                 have hfz31_0 := blk_frozen BK101.out 0
                 have hfz31_1 := blk_frozen BK101.out 1
                 go_wp2_with (first | ((with_reducible refine gate_dst (N := 69) rfl ?_); (try (refine gate_guard (by rfl) ?_; dsimp only)); refine Kd.R_lit (Kd.int .i64) _ 3 ?hg (N := 69) ?hd (xs := ([x11_3, x12_4] : List Int)) (inner := [.int .i64 x11_3, .int .i64 x12_4]) (ok := fun _ => True) (okp := fun _ => True) ?hr ?hp (fun _ hk => hk) trivial (Below.refl _ _) (Nat.le_refl _) (by simp) ?_; (case hd => rfl); (case hg => rfl); (case hr => first | (go_simp; done) | (go_simp; rfl)); (case hp => exact (Reps.one (show Kd.M (Kd.int .i64) _ _ _ x11_3 [.int .i64 x11_3] from rfl) (Reps.one (show Kd.M (Kd.int .i64) _ _ _ x12_4 [.int .i64 x12_4] from rfl) (Reps.none _ _)))); intro v111 w32 ho33 hb hg_ hnew_; clear hg_ hnew_; (first | rw [← Ny110.out] at ho33 | (simp only [Int.reduceToNat] at ho33; rw [← Ny110.out] at ho33)); have n0_ := Aside0.mk (Kd.R_lower ho33 (below_size (by repeat (first | (with_reducible first | exact HB.out | apply below_alloc | apply pw_below_drewN | apply below_drew1 | refine below_set ?_ GE101.out) | exact HB.out)))); have n1_ := Aside0.mk (blk_below (g := gb101) (o := .cells #[.slice (some ad102) l0_0.length c0_0, .int .i64 a0_1] 34 (0, 0)) (by (with_reducible repeat (first | refine blk_drewN ?_ _ | refine blk_drew ?_ | refine blk_alloc ?_ _)); exact BK101.out) hb); have n2_ := Aside0.mk (below_step (by repeat (first | (with_reducible first | exact HB.out | apply below_alloc | apply pw_below_drewN | apply below_drew1 | refine below_set ?_ GE101.out) | exact HB.out)) hb); clear BK101; clear HB; have HO112 := n0_; have BK101 := n1_; have HB := n2_; clear n0_ n1_ n2_; clear hb ho33; obtain ⟨Ao34, co34, eo34⟩ := Kd.R_slice HO112.out; subst eo34) | (go_at_call 43; (with_reducible refine (spec_slMade.calls k4 _ _ l0_0 a0_1 a1 _ _ y110 a2 true _ ?side1 ?side2 ?side3 ?side4 A29.out).mono ?_); (case side1 => repeat (first | exact (Kd.C_below HR0_0.out HB.out) | (with_reducible refine Kd.C_alloc ?_ _) | (with_reducible refine Kd.C_drewN ?_ _) | (with_reducible refine Kd.C_drew ?_))); (case side2 => exact HC0_0.out); (case side3 => repeat (first | exact (Kd.R_reads' HO112.out).2.2 | (with_reducible refine Kd.C_alloc ?_ _) | (with_reducible refine Kd.C_drewN ?_ _) | (with_reducible refine Kd.C_drew ?_))); (case side4 => exact (Kd.R_reads' HO112.out).2.1); rintro e w35 ⟨rfl, hb⟩; have n0_ := Aside0.mk (Kd.R_below (by (with_reducible repeat (first | apply Kd.R_alloc | apply Kd.R_drewN | apply Kd.R_drew)); exact HO112.out) hb); have n1_ := Aside0.mk (blk_below (g := gb101) (o := .cells #[.slice (some ad102) l0_0.length c0_0, .int .i64 a0_1] 34 (0, 0)) (by (with_reducible repeat (first | refine blk_drewN ?_ _ | refine blk_drew ?_ | refine blk_alloc ?_ _)); exact BK101.out) hb); have n2_ := Aside0.mk (below_step (by repeat (first | (with_reducible first | exact HB.out | apply below_alloc | apply pw_below_drewN | apply below_drew1 | refine below_set ?_ GE101.out) | exact HB.out)) hb); clear HO112; clear BK101; clear HB; have HO112 := n0_; have BK101 := n1_; have HB := n2_; clear n0_ n1_ n2_; (try clear hb); (try clear hb2); (try clear hk); (try clear hi)) | ((with_reducible refine gate_dst (N := 75) rfl ?_); (try (refine gate_guard (by rfl) ?_; dsimp only)); refine Kd.R_lit (Kd.int .i64) _ 3 ?hg (N := 75) ?hd (xs := ([x11_3, x12_4] : List Int)) (inner := [.int .i64 x11_3, .int .i64 x12_4]) (ok := fun _ => True) (okp := fun _ => True) ?hr ?hp (fun _ hk => hk) trivial (Below.refl _ _) (Nat.le_refl _) (by simp) ?_; (case hd => rfl); (case hg => rfl); (case hr => first | (go_simp; done) | (go_simp; rfl)); (case hp => exact (Reps.one (show Kd.M (Kd.int .i64) _ _ _ x11_3 [.int .i64 x11_3] from rfl) (Reps.one (show Kd.M (Kd.int .i64) _ _ _ x12_4 [.int .i64 x12_4] from rfl) (Reps.none _ _)))); intro v115 w36 ho37 hb hg_ hnew_; clear hg_ hnew_; (first | rw [← Ny114.out] at ho37 | (simp only [Int.reduceToNat] at ho37; rw [← Ny114.out] at ho37)); have n0_ := Aside0.mk (Kd.R_elder' (by (with_reducible repeat (first | apply Kd.R_alloc | apply Kd.R_drewN | apply Kd.R_drew)); exact HO112.out) (Kd.R_base ho37) hb); have n1_ := Aside0.mk (Kd.R_lower (Kd.R_new' ho37 (Kd.R_lt (by (with_reducible repeat (first | apply Kd.R_alloc | apply Kd.R_drewN | apply Kd.R_drew)); exact HO112.out))) (below_size (by repeat (first | (with_reducible first | exact HB.out | apply below_alloc | apply pw_below_drewN | apply below_drew1 | refine below_set ?_ GE101.out) | exact HB.out)))); have n2_ := Aside0.mk (blk_below (g := gb101) (o := .cells #[.slice (some ad102) l0_0.length c0_0, .int .i64 a0_1] 34 (0, 0)) (by (with_reducible repeat (first | refine blk_drewN ?_ _ | refine blk_drew ?_ | refine blk_alloc ?_ _)); exact BK101.out) hb); have n3_ := Aside0.mk (below_step (by repeat (first | (with_reducible first | exact HB.out | apply below_alloc | apply pw_below_drewN | apply below_drew1 | refine below_set ?_ GE101.out) | exact HB.out)) hb); clear HO112; clear BK101; clear HB; have HO112 := n0_; have HO116 := n1_; have BK101 := n2_; have HB := n3_; clear n0_ n1_ n2_ n3_; clear hb ho37))
                 go_ret2
                 exact ⟨_, by first | rfl | (simp [errW_none, errW_some] <;> rfl) | (simp [*, errW_none, errW_some] <;> rfl), by (with_reducible repeat (first | apply Kd.R_alloc | apply Kd.R_drewN | apply Kd.R_drew)); exact Kd.R_mono HO116.out (fun _ hk => trivial), by repeat (first | (with_reducible first | exact HB.out | apply below_alloc | apply pw_below_drewN | apply below_drew1 | refine below_set ?_ GE101.out) | exact HB.out)⟩
                ·replace c30 := Bool.eq_false_iff.mpr c30
                 subst c30
                 have H1 : (spec_slUntold.l1 k4 a1 a2 x8_5 x11_3 (wrap64 (x12_4 + 1)) l0_0 a0_1) = some (r1, r2) := by rw [if_neg (show ¬ (false = true) by decide)] at H; exact H
                 clear H
                 have H := H1
                 clear H1
                 have H' := Aside0.mk H
                 clear H
                 have hcz38_0 : wr.cell? ⟨gb101, 0, none⟩ = some (.slice (some ad102) l0_0.length c0_0) := (blk_cell BK101.out 0).trans rfl
                 have hcz38_1 : wr.cell? ⟨gb101, 1, none⟩ = some (.int .i64 a0_1) := (blk_cell BK101.out 1).trans rfl
                 have hfz38_0 := blk_frozen BK101.out 0
                 have hfz38_1 := blk_frozen BK101.out 1
                 go_wp2_with (first | ((with_reducible refine gate_dst (N := 69) rfl ?_); (try (refine gate_guard (by rfl) ?_; dsimp only)); refine Kd.R_lit (Kd.int .i64) _ 3 ?hg (N := 69) ?hd (xs := ([x11_3, x12_4] : List Int)) (inner := [.int .i64 x11_3, .int .i64 x12_4]) (ok := fun _ => True) (okp := fun _ => True) ?hr ?hp (fun _ hk => hk) trivial (Below.refl _ _) (Nat.le_refl _) (by simp) ?_; (case hd => rfl); (case hg => rfl); (case hr => first | (go_simp; done) | (go_simp; rfl)); (case hp => exact (Reps.one (show Kd.M (Kd.int .i64) _ _ _ x11_3 [.int .i64 x11_3] from rfl) (Reps.one (show Kd.M (Kd.int .i64) _ _ _ x12_4 [.int .i64 x12_4] from rfl) (Reps.none _ _)))); intro v111 w39 ho40 hb hg_ hnew_; clear hg_ hnew_; (first | rw [← Ny110.out] at ho40 | (simp only [Int.reduceToNat] at ho40; rw [← Ny110.out] at ho40)); have n0_ := Aside0.mk (Kd.R_lower ho40 (below_size (by repeat (first | (with_reducible first | exact HB.out | apply below_alloc | apply pw_below_drewN | apply below_drew1 | refine below_set ?_ GE101.out) | exact HB.out)))); have n1_ := Aside0.mk (blk_below (g := gb101) (o := .cells #[.slice (some ad102) l0_0.length c0_0, .int .i64 a0_1] 34 (0, 0)) (by (with_reducible repeat (first | refine blk_drewN ?_ _ | refine blk_drew ?_ | refine blk_alloc ?_ _)); exact BK101.out) hb); have n2_ := Aside0.mk (below_step (by repeat (first | (with_reducible first | exact HB.out | apply below_alloc | apply pw_below_drewN | apply below_drew1 | refine below_set ?_ GE101.out) | exact HB.out)) hb); clear BK101; clear HB; have HO112 := n0_; have BK101 := n1_; have HB := n2_; clear n0_ n1_ n2_; clear hb ho40; obtain ⟨Ao41, co41, eo41⟩ := Kd.R_slice HO112.out; subst eo41) | (go_at_call 43; (with_reducible refine (spec_slMade.calls k4 _ _ l0_0 a0_1 a1 _ _ y110 a2 false _ ?side1 ?side2 ?side3 ?side4 A29.out).mono ?_); (case side1 => repeat (first | exact (Kd.C_below HR0_0.out HB.out) | (with_reducible refine Kd.C_alloc ?_ _) | (with_reducible refine Kd.C_drewN ?_ _) | (with_reducible refine Kd.C_drew ?_))); (case side2 => exact HC0_0.out); (case side3 => repeat (first | exact (Kd.R_reads' HO112.out).2.2 | (with_reducible refine Kd.C_alloc ?_ _) | (with_reducible refine Kd.C_drewN ?_ _) | (with_reducible refine Kd.C_drew ?_))); (case side4 => exact (Kd.R_reads' HO112.out).2.1); rintro e w42 ⟨rfl, hb⟩; have n0_ := Aside0.mk (Kd.R_below (by (with_reducible repeat (first | apply Kd.R_alloc | apply Kd.R_drewN | apply Kd.R_drew)); exact HO112.out) hb); have n1_ := Aside0.mk (blk_below (g := gb101) (o := .cells #[.slice (some ad102) l0_0.length c0_0, .int .i64 a0_1] 34 (0, 0)) (by (with_reducible repeat (first | refine blk_drewN ?_ _ | refine blk_drew ?_ | refine blk_alloc ?_ _)); exact BK101.out) hb); have n2_ := Aside0.mk (below_step (by repeat (first | (with_reducible first | exact HB.out | apply below_alloc | apply pw_below_drewN | apply below_drew1 | refine below_set ?_ GE101.out) | exact HB.out)) hb); clear HO112; clear BK101; clear HB; have HO112 := n0_; have BK101 := n1_; have HB := n2_; clear n0_ n1_ n2_; (try clear hb); (try clear hb2); (try clear hk); (try clear hi)))
                 go_roundg k4
                 case measure => have := HJ5.out; have := HJ15.out; have := HK3.out; have := HK4.out; omega
                 case rel => exact ⟨(wrap64 (x12_4 + 1)), (by first | rfl | (simp; done) | (simp [*]; done)), H', ⟨by have := HJ5.out; have := HJ15.out; have := HK3.out; have := HK4.out; omega⟩, ⟨by (with_reducible repeat (first | refine blk_drewN ?_ _ | refine blk_drew ?_ | refine blk_alloc ?_ _)); exact BK101.out⟩, ⟨by repeat (first | (with_reducible first | exact HB.out | apply below_alloc | apply pw_below_drewN | apply below_drew1 | refine below_set ?_ GE101.out) | exact HB.out)⟩⟩
               ·rw [if_neg c28] at H
                have c28b0 : ((Int.tmod (wrap64 (x8_5 * (wrap64 (x12_4 - x11_3)))) a0_1) == 0) = false := beq_eq_false_iff_ne.mpr c28
                have c28b1 : ((Int.tmod (wrap64 (x8_5 * (wrap64 (x12_4 - x11_3)))) a0_1) != 0) = true := bne_iff_ne.mpr c28
                have H' := Aside0.mk H
                clear H
                have hcz43_0 : wr.cell? ⟨gb101, 0, none⟩ = some (.slice (some ad102) l0_0.length c0_0) := (blk_cell BK101.out 0).trans rfl
                have hcz43_1 : wr.cell? ⟨gb101, 1, none⟩ = some (.int .i64 a0_1) := (blk_cell BK101.out 1).trans rfl
                have hfz43_0 := blk_frozen BK101.out 0
                have hfz43_1 := blk_frozen BK101.out 1
                go_wp2
                go_roundg k4
                case measure => have := HJ5.out; have := HJ15.out; have := HK3.out; have := HK4.out; omega
                case rel => exact ⟨(wrap64 (x12_4 + 1)), (by first | rfl | (simp; done) | (simp [*]; done)), H', ⟨by have := HJ5.out; have := HJ15.out; have := HK3.out; have := HK4.out; omega⟩, ⟨by (with_reducible repeat (first | refine blk_drewN ?_ _ | refine blk_drew ?_ | refine blk_alloc ?_ _)); exact BK101.out⟩, ⟨by repeat (first | (with_reducible first | exact HB.out | apply below_alloc | apply pw_below_drewN | apply below_drew1 | refine below_set ?_ GE101.out) | exact HB.out)⟩⟩
             ·rw [if_neg c26] at H
              have c26b0 : decide (x12_4 < 10) = false := decide_eq_false c26
              clear c26
              have H' := Aside0.mk H
              clear H
              go_wp2
              go_roundg k4
              case measure => have := HJ5.out; have := HJ15.out; have := HK3.out; have := HK4.out; omega
              case rel => exact ⟨(wrap64 (x11_3 + 1)), (by first | rfl | (simp; done) | (simp [*]; done)), H', ⟨by have := HJ5.out; have := HJ15.out; have := HK3.out; have := HK4.out; omega⟩, ⟨by (with_reducible repeat (first | refine blk_drewN ?_ _ | refine blk_drew ?_ | refine blk_alloc ?_ _)); exact BK101.out⟩, ⟨by repeat (first | (with_reducible first | exact HB.out | apply below_alloc | apply pw_below_drewN | apply below_drew1 | refine below_set ?_ GE101.out) | exact HB.out)⟩⟩
          ·rw [if_neg c25] at H
           have c25b0 : decide (x11_3 < 10) = false := decide_eq_false c25
           clear c25
           simp only [Option.some.injEq, Prod.mk.injEq] at H
           obtain ⟨rfl, rfl⟩ := H
           go_wp2
           go_ret2
           exact ⟨_, by first | rfl | (simp [errW_none, errW_some] <;> rfl) | (simp [*, errW_none, errW_some] <;> rfl), by first | exact Kd.R_nil _ _ _ _ _ | exact Kd.N_nil _ _ _ _ _ | exact Kd.V_nil _ _ _ _ _ | exact Kd.Q_nil _ _ _ _ _ | exact Kd.S_nil _ _ _ _ _, by repeat (first | (with_reducible first | exact HB.out | apply below_alloc | apply pw_below_drewN | apply below_drew1 | refine below_set ?_ GE101.out) | exact HB.out)⟩
  ·rw [if_neg c5] at H
   exact absurd H (by simp)
 ·rw [if_neg c4] at H
  exact absurd H (by simp)
end Go.Proofs.Ytafegaaklpdgiaa.Q

namespace Go.Proofs.Ytafegaaklpdgiaa.Q
open Go.RowKit Go.Proofs.YtafegaaklpdgiaaW.PrintWords Go.Proofs.YtafegaaklpdgiaaW.PrintLast Go.Proofs.YtafegaaklpdgiaaW.PrintMore
set_option linter.unusedVariables false
set_option linter.unusedSimpArgs false
def prow : Nat → Nat → Nat → List (Nat × Nat)
 | 0, _, _ => []
 | e + 1, a, b => (a, b) :: prow e a (b + 1)
def prs : Nat → Nat → List (Nat × Nat)
 | 0, _ => []
 | e + 1, a => prow (9 - a) a (a + 1) ++ prs e (a + 1)
def pairs : List (Nat × Nat) := prs 10 0
def pick {R : Type} (test : Nat × Nat → Bool) (yes : Nat × Nat → R) (no : R) (l : List (Nat × Nat)) : R := (l.find? test).elim no yes
theorem pick_yes {R : Type} (test : Nat × Nat → Bool) (yes : Nat × Nat → R) (no : R) (p : Nat × Nat) (l : List (Nat × Nat)) (h : test p = true) : pick test yes no (p :: l) = yes p := by simp [pick, List.find?_cons, h]
theorem pick_no {R : Type} (test : Nat × Nat → Bool) (yes : Nat × Nat → R) (no : R) (p : Nat × Nat) (l : List (Nat × Nat)) (h : test p = false) : pick test yes no (p :: l) = pick test yes no l := by simp [pick, List.find?_cons, h]
section
variable {R : Type} (f0 : Nat → Int → Option R) (f1 : Nat → Int → Int → Option R) (test : Nat × Nat → Bool) (yes : Nat × Nat → R) (no : R)
 (hyes : ∀ a b : Nat, a < b → b < 10 → test (a, b) = true → Ev (fun k => f1 k (a : Int) (b : Int)) (yes (a, b)))
 (hno : ∀ (a b : Nat) (r : R), a < b → b < 10 → test (a, b) = false → Ev (fun k => f1 k (a : Int) ((b + 1 : Nat) : Int)) r → Ev (fun k => f1 k (a : Int) (b : Int)) r)
 (hend : ∀ (a : Nat) (r : R), a < 10 → Ev (fun k => f0 k ((a + 1 : Nat) : Int)) r → Ev (fun k => f1 k (a : Int) ((10 : Nat) : Int)) r)
 (hin : ∀ (a : Nat) (r : R), a < 10 → Ev (fun k => f1 k (a : Int) ((a + 1 : Nat) : Int)) r → Ev (fun k => f0 k (a : Int)) r)
 (hlast : Ev (fun k => f0 k ((10 : Nat) : Int)) no)
include hyes hno hend
theorem scan1 (rest : List (Nat × Nat)) : ∀ (e a b : Nat), b + e = 10 → a < b → Ev (fun k => f0 k ((a + 1 : Nat) : Int)) (pick test yes no rest) → Ev (fun k => f1 k (a : Int) (b : Int)) (pick test yes no (prow e a b ++ rest))
 | 0, a, b, hb, ha, h => by
  obtain rfl : b = 10 := by omega
  exact hend a _ (by omega) h
 | e + 1, a, b, hb, ha, h => by
  rw [prow, List.cons_append]
  by_cases c : test (a, b) = true
  ·rw [pick_yes _ _ _ _ _ c]
   exact hyes a b ha (by omega) c
  ·have c := Bool.eq_false_iff.2 c
   rw [pick_no _ _ _ _ _ c]
   exact hno a b _ ha (by omega) c (scan1 rest e a (b + 1) (by omega) (by omega) h)
include hin hlast
theorem scan0 : ∀ (e a : Nat), a + e = 10 → Ev (fun k => f0 k (a : Int)) (pick test yes no (prs e a))
 | 0, a, h => by
  obtain rfl : a = 10 := by omega
  exact hlast
 | e + 1, a, h => by
  rw [prs]
  exact hin a _ (by omega) (scan1 f0 f1 test yes no hyes hno hend _ (9 - a) a (a + 1) (by omega) (by omega) (scan0 e (a + 1) (by omega)))
theorem scan : Ev (fun k => f0 k 0) (pick test yes no pairs) := scan0 f0 f1 test yes no hyes hno hend hin hlast 10 0 (by omega)
end
theorem find_and_none {l : List (Nat × Nat)} {p q : Nat × Nat → Bool} (h : l.find? p = none) : l.find? (fun x => p x && q x) = none := by
 rw [List.find?_eq_none] at h ⊢
 intro x hx
 have := h x hx
 simp at this
 simp [this]
theorem find_and_some : ∀ {l : List (Nat × Nat)} {p q : Nat × Nat → Bool} {x : Nat × Nat}, l.find? p = some x → q x = true → l.find? (fun x => p x && q x) = some x
 | [], p, q, x, h, _ => by simp at h
 | y :: l, p, q, x, h, hq => by
  rw [List.find?_cons] at h ⊢
  by_cases c : p y = true
  ·rw [c] at h
   simp only [Option.some.injEq] at h
   subst h
   simp [c, hq]
  ·have c := Bool.eq_false_iff.2 c
   rw [c] at h
   simp only [c, Bool.false_and]
   exact find_and_some h hq
/-- the sums of two digits, with this weight, are alike to the modulus -/
def alike (m w : Nat) (p : Nat × Nat) : Bool := decide ((w * (p.2 - p.1)) % m = 0)
def absd (w v : Nat) : Nat := if w > v then w - v else v - w
theorem alike_swap (m w v : Nat) (hw : w < m) (hv : v < m) (p : Nat × Nat) : alike m (w + m - v) p = alike m (absd w v) p := by
 unfold alike absd
 congr 1
 generalize p.2 - p.1 = e
 apply propext
 rw [← Nat.dvd_iff_mod_eq_zero, ← Nat.dvd_iff_mod_eq_zero]
 split
 ·rw [show w + m - v = (w - v) + m by omega, Nat.add_mul]
  exact (Nat.dvd_add_iff_left (Nat.dvd_mul_right m e)).symm
 ·have h2 : (w + m - v) * e + (v - w) * e = m * e := by rw [← Nat.add_mul]; congr 1; omega
  constructor
  ·intro h
   exact (Nat.dvd_add_iff_right h).2 (by rw [h2]; exact Nat.dvd_mul_right m e)
  ·intro h
   exact (Nat.dvd_add_iff_left h).2 (by rw [h2]; exact Nat.dvd_mul_right m e)
theorem alike_int {m w a b : Nat} (hw : w ≤ 22) (ha : a < b) (hb : b ≤ 10) : Int.tmod (wrap64 ((w : Int) * wrap64 ((b : Int) - (a : Int)))) (m : Int) = (((w * (b - a)) % m : Nat) : Int) := by
 have e1 : wrap64 ((b : Int) - (a : Int)) = ((b - a : Nat) : Int) := by rw [wr (by omega) (by omega)]; omega
 have hp : w * (b - a) ≤ 22 * 10 := Nat.mul_le_mul hw (by omega)
 have e2 : (w : Int) * ((b - a : Nat) : Int) = ((w * (b - a) : Nat) : Int) := by push_cast; rfl
 rw [e1, e2]
 generalize w * (b - a) = p at hp
 rw [wr (by omega) (by omega)]
 rfl
theorem alike_if {α : Type} {m w a b : Nat} (hw : w ≤ 22) (ha : a < b) (hb : b ≤ 10) (x y : α) : (if Int.tmod (wrap64 ((w : Int) * wrap64 ((b : Int) - (a : Int)))) (m : Int) = 0 then x else y) = if alike m w (a, b) = true then x else y := by
 rw [alike_int hw ha hb]
 unfold alike
 by_cases c : (w * (b - a)) % m = 0
 ·rw [if_pos (by omega), if_pos (by simpa using c)]
 ·rw [if_neg (by omega), if_neg (by simpa using c)]
/-- the two digits: none, or the first pair -/
noncomputable def un1 (m : Nat) (ot : List Nat) (w : Nat) : Option (Nat × Nat) := pairs.find? fun p => alike m w p && sdB m ot (w * p.1)
noncomputable def un2 (m : Nat) (ot : List Nat) (w v : Nat) : Option (Nat × Nat) := pairs.find? fun p => alike m (absd w v) p && sdB m ot (w * p.1 + v * p.2)
def out3 (u : Option (Nat × Nat)) : Int × Int × Bool := u.elim (0, 0,false) fun p => ((p.1 : Int), (p.2 : Int),true)
def out2 (u : Option (Nat × Nat)) : List Int × Bool := u.elim ([],false) fun p => ([(p.1 : Int), (p.2 : Int)],true)
section
variable {m : Nat} (hm : 2 ≤ m) (hm2 : m ≤ 11)
include hm hm2
/-- the program's, of a slip -/
theorem untold_single (a c : List Nat) (w : Nat) (hw : ∀ v ∈ a ++ w :: c, v < m) (hl : (a ++ w :: c).length ≤ 12) :
  Ev (fun k => impl_Check_untold.f k (ints (a ++ w :: c)) (m : Int) (a.length : Int) false) (out3 (un1 m (a ++ c) w)) := by
 have hwm := hw w (by simp)
 have hw2 : ∀ v ∈ a ++ c, v < m := fun v hv => hw v (by simp only [List.mem_append, List.mem_cons] at hv ⊢; rcases hv with h | h <;> simp [h])
 have hs : ∀ x y : Nat, y < 10 → x < y → Ev (fun k => impl_Check_hasSound.f k (ints (a ++ w :: c)) (m : Int) (a.length : Int) 1 (wrap64 ((w : Int) * (x : Int)))) (sdB m (a ++ c) (w * x)) := fun x y hy hx => by
  rw [mulw (by omega) (by omega)]
  have := hasSound_ev hm hm2 a [w] c (w * x) hw2 (by simpa using hl)
  simpa using this
 have HP : out3 (un1 m (a ++ c) w) = pick (fun p => alike m w p && sdB m (a ++ c) (w * p.1)) (fun p => ((p.1 : Int), (p.2 : Int),true)) (0, 0,false) pairs := rfl
 rw [HP]
 refine Ev.congr (fun k => ?_) (Ev.step (g := fun k => impl_Check_untold.j0 k (a.length : Int) false (w : Int) (w : Int) (ints (a ++ w :: c)) (m : Int)) (fun k => ?_) (scan (fun k x => impl_Check_untold.l0 k (a.length : Int) false (w : Int) (w : Int) x (ints (a ++ w :: c)) (m : Int)) (fun k x y => impl_Check_untold.l1 k (a.length : Int) false (w : Int) (w : Int) x y x (ints (a ++ w :: c)) (m : Int))
  (fun p => alike m w p && sdB m (a ++ c) (w * p.1)) (fun p => ((p.1 : Int), (p.2 : Int),true)) (0, 0,false) ?_ ?_ ?_ ?_ ?_))
 ·simp only [impl_Check_untold.f]
  rw [if_pos (by omega), if_pos (by rw [ints_length]; exact app_lt _ _ _), if_neg (by decide), rd_ints]
 ·simp only [impl_Check_untold.j0]
 ·intro x y hx hy ht
  rw [Bool.and_eq_true] at ht
  refine Ev.step (f := fun k => (impl_Check_hasSound.f k (ints (a ++ w :: c)) (m : Int) (a.length : Int) 1 (wrap64 ((w : Int) * (x : Int)))).bind fun t => if t = true then some ((x : Int), (y : Int),true) else impl_Check_untold.l1 k (a.length : Int) false (w : Int) (w : Int) (x : Int) (wrap64 ((y : Int) + 1)) (x : Int) (ints (a ++ w :: c)) (m : Int)) (fun k => ?_) ?_
  ·simp only [impl_Check_untold.l1]
   rw [if_pos (by omega), if_neg (by omega), alike_if (by omega) hx (by omega), if_pos ht.1, if_neg (by decide)]
  ·refine Ev.bind (f := fun k t => if t = true then some ((x : Int), (y : Int),true) else impl_Check_untold.l1 k (a.length : Int) false (w : Int) (w : Int) (x : Int) (wrap64 ((y : Int) + 1)) (x : Int) (ints (a ++ w :: c)) (m : Int)) (hs x y hy hx) ?_
   exact Ev.congr (fun k => if_pos ht.2) (Ev.now _)
 ·intro x y r hx hy ht h
  refine Ev.step (f := fun k => if alike m w (x, y) = true then ((impl_Check_hasSound.f k (ints (a ++ w :: c)) (m : Int) (a.length : Int) 1 (wrap64 ((w : Int) * (x : Int)))).bind fun t => if t = true then some ((x : Int), (y : Int),true) else impl_Check_untold.l1 k (a.length : Int) false (w : Int) (w : Int) (x : Int) (wrap64 ((y : Int) + 1)) (x : Int) (ints (a ++ w :: c)) (m : Int)) else impl_Check_untold.l1 k (a.length : Int) false (w : Int) (w : Int) (x : Int) (wrap64 ((y : Int) + 1)) (x : Int) (ints (a ++ w :: c)) (m : Int)) (fun k => ?_) ?_
  ·simp only [impl_Check_untold.l1]
   rw [if_pos (by omega), if_neg (by omega), alike_if (by omega) hx (by omega), if_neg (show ¬ (false = true) by decide)]
  ·rw [wsucc y (by omega)]
   by_cases ca : alike m w (x, y) = true
   ·rw [ca, Bool.true_and] at ht
    refine Ev.congr (fun k => if_pos ca) (Ev.bind (f := fun k t => if t = true then some ((x : Int), (y : Int),true) else impl_Check_untold.l1 k (a.length : Int) false (w : Int) (w : Int) (x : Int) ((y + 1 : Nat) : Int) (x : Int) (ints (a ++ w :: c)) (m : Int)) (hs x y hy hx) ?_)
    exact Ev.congr (fun k => if_neg (by rw [ht]; decide)) h
   ·exact Ev.congr (fun k => if_neg ca) h
 ·intro x r hx h
  refine Ev.step (fun k => ?_) h
  simp only [impl_Check_untold.l1]
  rw [if_neg (by omega), wsucc x (by omega)]
 ·intro x r hx h
  refine Ev.step (fun k => ?_) h
  simp only [impl_Check_untold.l0]
  rw [if_pos (by omega), wsucc x (by omega)]
 ·refine Ev.step (f := fun _ => some (0, 0,false)) (fun k => ?_) (Ev.now _)
  simp only [impl_Check_untold.l0]
  rw [if_neg (by omega)]
end
end Go.Proofs.Ytafegaaklpdgiaa.Q

namespace Go.Proofs.Ytafegaaklpdgiaa.Q
open Go.RowKit Go.Proofs.YtafegaaklpdgiaaW.PrintWords Go.Proofs.YtafegaaklpdgiaaW.PrintLast Go.Proofs.YtafegaaklpdgiaaW.PrintMore
set_option linter.unusedVariables false
set_option linter.unusedSimpArgs false
theorem pairs_ok : ∀ p ∈ pairs, p.1 < p.2 ∧ p.2 < 10 := by decide
theorem rd_next (a : List Nat) (w v : Nat) (c : List Nat) : rd (ints (a ++ w :: v :: c)) ((a.length + 1 : Nat) : Int) = (v : Int) := by
 have := rd_ints (a ++ [w]) v c
 rw [List.append_assoc, List.singleton_append, List.length_append] at this
 exact this
theorem next_lt (a : List Nat) (w v : Nat) (c : List Nat) : ((a.length + 1 : Nat) : Int) < ((ints (a ++ w :: v :: c)).length : Int) := by
 rw [ints_length]; simp only [List.length_append, List.length_cons]; omega
theorem own2 {w v x y : Nat} (hw : w ≤ 11) (hv : v ≤ 11) (hx : x ≤ 10) (hy : y ≤ 10) : wrap64 (wrap64 ((w : Int) * (x : Int)) + wrap64 ((v : Int) * (y : Int))) = ((w * x + v * y : Nat) : Int) := by
 have hp : w * x ≤ 11 * 10 := Nat.mul_le_mul hw hx
 have hq : v * y ≤ 11 * 10 := Nat.mul_le_mul hv hy
 rw [mulw hw hx, mulw hv hy]
 generalize w * x = p at hp
 generalize v * y = q at hq
 rw [wr (by omega) (by omega)]
 push_cast
 rfl
section
variable {m : Nat} (hm : 2 ≤ m) (hm2 : m ≤ 11)
include hm hm2
/-- the program's, of a swap -/
theorem untold_swap (a c : List Nat) (w v : Nat) (hw : ∀ u ∈ a ++ w :: v :: c, u < m) (hl : (a ++ w :: v :: c).length ≤ 12) :
  Ev (fun k => impl_Check_untold.f k (ints (a ++ w :: v :: c)) (m : Int) (a.length : Int) true) (out3 (un2 m (a ++ c) w v)) := by
 have hwm := hw w (by simp)
 have hvm := hw v (by simp)
 have hal : a.length ≤ 12 := by simp at hl; omega
 have hw2 : ∀ u ∈ a ++ c, u < m := fun u hu => hw u (by simp only [List.mem_append, List.mem_cons] at hu ⊢; rcases hu with h | h <;> simp [h])
 have hs : ∀ x y : Nat, y < 10 → x < y → Ev (fun k => impl_Check_hasSound.f k (ints (a ++ w :: v :: c)) (m : Int) (a.length : Int) 2 ((w * x + v * y : Nat) : Int)) (sdB m (a ++ c) (w * x + v * y)) := fun x y hy hx => by
  have := hasSound_ev hm hm2 a [w, v] c (w * x + v * y) hw2 (by simpa using hl)
  simpa using this
 have HP : out3 (un2 m (a ++ c) w v) = pick (fun p => alike m (w + m - v) p && sdB m (a ++ c) (w * p.1 + v * p.2)) (fun p => ((p.1 : Int), (p.2 : Int),true)) (0, 0,false) pairs := by
  unfold out3 un2 pick
  simp only [alike_swap m w v hwm hvm]
 rw [HP]
 obtain ⟨ap, hap⟩ : ∃ ap, ap = w + m - v := ⟨_, rfl⟩
 rw [← hap]
 have hap2 : ap ≤ 22 := by omega
 refine Ev.congr (fun k => ?_) (Ev.step (g := fun k => impl_Check_untold.j0 k (a.length : Int) true (w : Int) (ap : Int) (ints (a ++ w :: v :: c)) (m : Int)) (fun k => ?_) (scan (fun k x => impl_Check_untold.l0 k (a.length : Int) true (w : Int) (ap : Int) x (ints (a ++ w :: v :: c)) (m : Int)) (fun k x y => impl_Check_untold.l1 k (a.length : Int) true (w : Int) (ap : Int) x y x (ints (a ++ w :: v :: c)) (m : Int))
  (fun p => alike m ap p && sdB m (a ++ c) (w * p.1 + v * p.2)) (fun p => ((p.1 : Int), (p.2 : Int),true)) (0, 0,false) ?_ ?_ ?_ ?_ ?_))
 ·simp only [impl_Check_untold.f]
  rw [if_pos (by omega), if_pos (by rw [ints_length]; exact app_lt _ _ _), if_pos trivial, wsucc _ (by omega), if_pos (by omega), if_pos (next_lt a w v c), rd_ints, rd_next, wr (i := (w : Int) - (v : Int)) (by omega) (by omega), wr (by omega) (by omega), show (w : Int) - (v : Int) + (m : Int) = (ap : Int) by omega]
 ·simp only [impl_Check_untold.j0]
 ·intro x y hx hy ht
  rw [Bool.and_eq_true] at ht
  refine Ev.step (f := fun k => (impl_Check_hasSound.f k (ints (a ++ w :: v :: c)) (m : Int) (a.length : Int) 2 ((w * x + v * y : Nat) : Int)).bind fun t => if t = true then some ((x : Int), (y : Int),true) else impl_Check_untold.l1 k (a.length : Int) true (w : Int) (ap : Int) (x : Int) (wrap64 ((y : Int) + 1)) (x : Int) (ints (a ++ w :: v :: c)) (m : Int)) (fun k => ?_) ?_
  ·simp only [impl_Check_untold.l1]
   rw [if_pos (by omega), if_neg (by omega), alike_if hap2 hx (by omega), if_pos ht.1, if_pos trivial, wsucc _ (by omega), if_pos (by omega), if_pos (next_lt a w v c), rd_next, own2 (by omega) (by omega) (by omega) (by omega)]
  ·refine Ev.bind (f := fun k t => if t = true then some ((x : Int), (y : Int),true) else impl_Check_untold.l1 k (a.length : Int) true (w : Int) (ap : Int) (x : Int) (wrap64 ((y : Int) + 1)) (x : Int) (ints (a ++ w :: v :: c)) (m : Int)) (hs x y hy hx) ?_
   exact Ev.congr (fun k => if_pos ht.2) (Ev.now _)
 ·intro x y r hx hy ht h
  refine Ev.step (f := fun k => if alike m ap (x, y) = true then ((impl_Check_hasSound.f k (ints (a ++ w :: v :: c)) (m : Int) (a.length : Int) 2 ((w * x + v * y : Nat) : Int)).bind fun t => if t = true then some ((x : Int), (y : Int),true) else impl_Check_untold.l1 k (a.length : Int) true (w : Int) (ap : Int) (x : Int) (wrap64 ((y : Int) + 1)) (x : Int) (ints (a ++ w :: v :: c)) (m : Int)) else impl_Check_untold.l1 k (a.length : Int) true (w : Int) (ap : Int) (x : Int) (wrap64 ((y : Int) + 1)) (x : Int) (ints (a ++ w :: v :: c)) (m : Int)) (fun k => ?_) ?_
  ·simp only [impl_Check_untold.l1]
   rw [if_pos (by omega), if_neg (by omega), alike_if hap2 hx (by omega), if_pos (show True from trivial), wsucc a.length (by omega), if_pos (show (0 : Int) ≤ ((a.length + 1 : Nat) : Int) by omega), if_pos (next_lt a w v c), rd_next, own2 (by omega) (by omega) (by omega) (by omega)]
  ·rw [wsucc y (by omega)]
   by_cases ca : alike m ap (x, y) = true
   ·rw [ca, Bool.true_and] at ht
    refine Ev.congr (fun k => if_pos ca) (Ev.bind (f := fun k t => if t = true then some ((x : Int), (y : Int),true) else impl_Check_untold.l1 k (a.length : Int) true (w : Int) (ap : Int) (x : Int) ((y + 1 : Nat) : Int) (x : Int) (ints (a ++ w :: v :: c)) (m : Int)) (hs x y hy hx) ?_)
    exact Ev.congr (fun k => if_neg (by rw [ht]; decide)) h
   ·exact Ev.congr (fun k => if_neg ca) h
 ·intro x r hx h
  refine Ev.step (fun k => ?_) h
  simp only [impl_Check_untold.l1]
  rw [if_neg (by omega), wsucc x (by omega)]
 ·intro x r hx h
  refine Ev.step (fun k => ?_) h
  simp only [impl_Check_untold.l0]
  rw [if_pos (by omega), wsucc x (by omega)]
 ·refine Ev.step (f := fun _ => some (0, 0,false)) (fun k => ?_) (Ev.now _)
  simp only [impl_Check_untold.l0]
  rw [if_neg (by omega)]
/-- the reference's pair -/
theorem pair_ev (l : List Int) (w : Nat) (hw : w ≤ 22) : Ev (fun k => spec_slPair.f k l (m : Int) (w : Int)) (out2 (pairs.find? (alike m w))) := by
 have HP : out2 (pairs.find? (alike m w)) = pick (alike m w) (fun p => ([(p.1 : Int), (p.2 : Int)],true)) ([],false) pairs := rfl
 rw [HP]
 refine scan (fun k x => spec_slPair.l0 k (w : Int) x l (m : Int)) (fun k x y => spec_slPair.l1 k (w : Int) x y l (m : Int)) (alike m w) _ _ ?_ ?_ ?_ ?_ ?_
 ·intro x y hx hy ht
  refine Ev.step (f := fun _ => some ([(x : Int), (y : Int)],true)) (fun k => ?_) (Ev.now _)
  simp only [spec_slPair.l1]
  rw [if_pos (by omega), if_neg (by omega), alike_if hw hx (by omega), if_pos ht]
 ·intro x y r hx hy ht h
  refine Ev.step (fun k => ?_) h
  simp only [spec_slPair.l1]
  rw [if_pos (by omega), if_neg (by omega), alike_if hw hx (by omega), if_neg (by rw [ht]; decide), wsucc y (by omega)]
 ·intro x r hx h
  refine Ev.step (fun k => ?_) h
  simp only [spec_slPair.l1]
  rw [if_neg (by omega), wsucc x (by omega)]
 ·intro x r hx h
  refine Ev.step (fun k => ?_) h
  simp only [spec_slPair.l0]
  rw [if_pos (by omega), wsucc x (by omega)]
 ·refine Ev.step (f := fun _ => some ([],false)) (fun k => ?_) (Ev.now _)
  simp only [spec_slPair.l0]
  rw [if_neg (by omega)]
/-- the reference's search -/
theorem refer_j0 (l : List Int) (place : Int) (swap : Bool) (w : Nat) (hw : w ≤ 22) (s : Nat × Nat → Bool) (hs : ∀ x y : Nat, x < y → y < 10 → Ev (fun k => spec_slMade.f k l (m : Int) place [(x : Int), (y : Int)] swap) (s (x, y))) :
  Ev (fun k => spec_slUntold.j0 k place swap (w : Int) l (m : Int)) (out2 (pairs.find? fun p => alike m w p && s p)) := by
 have hl0 : Ev (fun k => spec_slUntold.l0 k place swap (w : Int) 0 l (m : Int)) (out2 (pairs.find? fun p => alike m w p && s p)) := by
  have HP : out2 (pairs.find? fun p => alike m w p && s p) = pick (fun p => alike m w p && s p) (fun p => ([(p.1 : Int), (p.2 : Int)],true)) ([],false) pairs := rfl
  rw [HP]
  refine scan (fun k x => spec_slUntold.l0 k place swap (w : Int) x l (m : Int)) (fun k x y => spec_slUntold.l1 k place swap (w : Int) x y l (m : Int)) (fun p => alike m w p && s p) _ _ ?_ ?_ ?_ ?_ ?_
  ·intro x y hx hy ht
   rw [Bool.and_eq_true] at ht
   refine Ev.step (f := fun k => (spec_slMade.f k l (m : Int) place [(x : Int), (y : Int)] swap).bind fun t => if t = true then some ([(x : Int), (y : Int)],true) else spec_slUntold.l1 k place swap (w : Int) (x : Int) (wrap64 ((y : Int) + 1)) l (m : Int)) (fun k => ?_) (Ev.bind (f := fun k t => if t = true then some ([(x : Int), (y : Int)],true) else spec_slUntold.l1 k place swap (w : Int) (x : Int) (wrap64 ((y : Int) + 1)) l (m : Int)) (hs x y hx hy) (Ev.congr (fun k => if_pos ht.2) (Ev.now _)))
   simp only [spec_slUntold.l1]
   rw [if_pos (by omega), if_neg (by omega), alike_if hw hx (by omega), if_pos ht.1]
  ·intro x y r hx hy ht h
   refine Ev.step (f := fun k => if alike m w (x, y) = true then ((spec_slMade.f k l (m : Int) place [(x : Int), (y : Int)] swap).bind fun t => if t = true then some ([(x : Int), (y : Int)],true) else spec_slUntold.l1 k place swap (w : Int) (x : Int) (wrap64 ((y : Int) + 1)) l (m : Int)) else spec_slUntold.l1 k place swap (w : Int) (x : Int) (wrap64 ((y : Int) + 1)) l (m : Int)) (fun k => ?_) ?_
   ·simp only [spec_slUntold.l1]
    rw [if_pos (by omega), if_neg (by omega), alike_if hw hx (by omega)]
   ·rw [wsucc y (by omega)]
    by_cases ca : alike m w (x, y) = true
    ·rw [ca, Bool.true_and] at ht
     refine Ev.congr (fun k => if_pos ca) (Ev.bind (f := fun k t => if t = true then some ([(x : Int), (y : Int)],true) else spec_slUntold.l1 k place swap (w : Int) (x : Int) ((y + 1 : Nat) : Int) l (m : Int)) (hs x y hx hy) ?_)
     exact Ev.congr (fun k => if_neg (by rw [ht]; decide)) h
    ·exact Ev.congr (fun k => if_neg ca) h
  ·intro x r hx h
   refine Ev.step (fun k => ?_) h
   simp only [spec_slUntold.l1]
   rw [if_neg (by omega), wsucc x (by omega)]
  ·intro x r hx h
   refine Ev.step (fun k => ?_) h
   simp only [spec_slUntold.l0]
   rw [if_pos (by omega), wsucc x (by omega)]
  ·refine Ev.step (f := fun _ => some ([],false)) (fun k => ?_) (Ev.now _)
   simp only [spec_slUntold.l0]
   rw [if_neg (by omega)]
 refine Ev.step (f := fun k => (spec_slPair.f k l (m : Int) (w : Int)).bind fun bt => if bt.2 = true then ((spec_slMade.f k l (m : Int) place bt.1 swap).bind fun t => spec_slUntold.j1 k place swap (w : Int) bt.1 bt.2 t l (m : Int)) else spec_slUntold.j1 k place swap (w : Int) bt.1 bt.2 true l (m : Int)) (fun k => by simp only [spec_slUntold.j0]) ?_
 refine Ev.bind (f := fun k (bt : List Int × Bool) => if bt.2 = true then ((spec_slMade.f k l (m : Int) place bt.1 swap).bind fun t => spec_slUntold.j1 k place swap (w : Int) bt.1 bt.2 t l (m : Int)) else spec_slUntold.j1 k place swap (w : Int) bt.1 bt.2 true l (m : Int)) (pair_ev hm hm2 l w hw) ?_
 cases hf : pairs.find? (alike m w) with
 | none =>
  rw [find_and_none hf]
  refine Ev.congr (fun k => if_neg (by show ¬ (false = true); decide)) (Ev.step (f := fun _ => some ([],false)) (fun k => ?_) (Ev.now _))
  simp only [spec_slUntold.j1, out2, Option.elim]
  rw [if_pos trivial]
 | some p =>
  have hp := pairs_ok p (List.mem_of_find?_eq_some hf)
  have hb := hs p.1 p.2 hp.1 hp.2
  refine Ev.congr (fun k => if_pos rfl) (Ev.bind (f := fun k t => spec_slUntold.j1 k place swap (w : Int) (out2 (some p)).1 (out2 (some p)).2 t l (m : Int)) hb ?_)
  cases hsp : s p with
  | true =>
   rw [find_and_some hf hsp]
   refine Ev.step (f := fun _ => some (out2 (some p))) (fun k => ?_) (Ev.now _)
   simp only [spec_slUntold.j1]
   rw [if_pos trivial]
  | false =>
   refine Ev.step (fun k => ?_) hl0
   simp only [spec_slUntold.j1]
   rw [if_neg (by decide)]
omit hm hm2 in
theorem abs_ev (w v : Nat) (hw : w ≤ 11) (hv : v ≤ 11) : spec_l1Abs.f (wrap64 ((w : Int) - (v : Int))) = some ((absd w v : Nat) : Int) := by
 rw [wr (by omega) (by omega)]
 unfold spec_l1Abs.f spec_l1Most.f absd
 rw [wr (i := -((w : Int) - (v : Int))) (by omega) (by omega)]
 by_cases c : w > v
 ·rw [if_pos (by omega), if_pos c, Option.bind_some]
  congr 1
  omega
 ·rw [if_neg (by omega), if_neg c, Option.bind_some]
  congr 1
  omega
/-- the reference's, of a slip -/
theorem refer_single (a c : List Nat) (w : Nat) (hw : ∀ v ∈ a ++ w :: c, v < m) (hl : (a ++ w :: c).length ≤ 12) :
  Ev (fun k => spec_slUntold.f k (ints (a ++ w :: c)) (m : Int) (a.length : Int) false) (out2 (un1 m (a ++ c) w)) := by
 have hwm := hw w (by simp)
 refine Ev.congr (fun k => ?_) (refer_j0 hm hm2 (ints (a ++ w :: c)) (a.length : Int) false w (by omega) (fun p => sdB m (a ++ c) (w * p.1)) (fun x y hx hy => made_single hm hm2 a c w x y hw hl (by omega)))
 simp only [spec_slUntold.f]
 rw [if_pos (by omega), if_pos (by rw [ints_length]; exact app_lt _ _ _), if_neg (by decide), rd_ints]
/-- the reference's, of a swap -/
theorem refer_swap (a c : List Nat) (w v : Nat) (hw : ∀ u ∈ a ++ w :: v :: c, u < m) (hl : (a ++ w :: v :: c).length ≤ 12) :
  Ev (fun k => spec_slUntold.f k (ints (a ++ w :: v :: c)) (m : Int) (a.length : Int) true) (out2 (un2 m (a ++ c) w v)) := by
 have hwm := hw w (by simp)
 have hvm := hw v (by simp)
 have hal : a.length ≤ 12 := by simp at hl; omega
 refine Ev.congr (fun k => ?_) (refer_j0 hm hm2 (ints (a ++ w :: v :: c)) (a.length : Int) true (absd w v) (by unfold absd; split <;> omega) (fun p => sdB m (a ++ c) (w * p.1 + v * p.2)) (fun x y hx hy => made_swap hm hm2 a c w v x y hw hl (by omega) (by omega)))
 simp only [spec_slUntold.f]
 rw [if_pos (by omega), if_pos (by rw [ints_length]; exact app_lt _ _ _), if_pos trivial, wsucc _ (by omega), if_pos (by omega), if_pos (next_lt a w v c), rd_ints, rd_next, abs_ev w v (by omega) (by omega)]
 rfl
end
end Go.Proofs.Ytafegaaklpdgiaa.Q

namespace Go.Proofs.Ytafegaaklpdgiaa.Q
open Go.RowKit Go.Proofs.YtafegaaklpdgiaaW.PrintWords Go.Proofs.YtafegaaklpdgiaaW.PrintLast Go.Proofs.YtafegaaklpdgiaaW.PrintMore
attribute [local go_sem] max2_int min2_int max_two min_two max_three min_three max_four min_four   -- for this text's walks alone
set_option linter.unusedVariables false
set_option linter.unusedSimpArgs false
def spec_l1In.f (a0 : Int) (a1 : Int) (a2 : Int) : Option (Bool) := if a0 ≥ a1 then (some (decide (a0 ≤ a2))) else (some false)
set_option maxHeartbeats 8000000 in
set_option maxRecDepth 100000 in
theorem spec_l1In.calls (a0 : Int) (a1 : Int) (a2 : Int) (r : Bool) (w : World) (h : spec_l1In.f a0 a1 a2 = some r) :
  Calls Try.prog 22 #[.int .i64 a0, .int .i64 a1, .int .i64 a2] w fun e w' => e = .returned (.bool r) ∧ Drawn0 w w' := by
 have H : (if a0 ≥ a1 then (some (decide (a0 ≤ a2))) else (some false)) = some r := h
 clear h
 by_cases c4 : a0 ≥ a1
 ·rw [if_pos c4] at H
  have c4b0 : decide (a1 ≤ a0) = true := decide_eq_true c4
  clear c4
  obtain rfl := Option.some.inj H
  go_enter Try.func22, Try.ntmps22
  go_wp2
  go_ret
  exact ⟨by first | rfl | (simp; done) | (simp [*]; done), by repeat (first | exact Drawn0.refl _ | apply Drawn0.step)⟩
 ·rw [if_neg c4] at H
  have c4b0 : decide (a1 ≤ a0) = false := decide_eq_false c4
  clear c4
  obtain rfl := Option.some.inj H
  go_enter Try.func22, Try.ntmps22
  go_wp2
  go_ret
  exact ⟨by first | rfl | (simp; done) | (simp [*]; done), by repeat (first | exact Drawn0.refl _ | apply Drawn0.step)⟩
end Go.Proofs.Ytafegaaklpdgiaa.Q

namespace Go.Proofs.Ytafegaaklpdgiaa.Q
open Go.RowKit Go.Proofs.YtafegaaklpdgiaaW.PrintWords Go.Proofs.YtafegaaklpdgiaaW.PrintLast Go.Proofs.YtafegaaklpdgiaaW.PrintMore
attribute [local go_sem] max2_int min2_int max_two min_two max_three min_three max_four min_four   -- for this text's walks alone
set_option linter.unusedVariables false
set_option linter.unusedSimpArgs false
def spec_l1All.l0 : Nat → Int → Int → List Int → Int → Int → Option (Bool)
 | 0, _, _, _, _, _ => none
 | k + 1, x1, x2, x9, x10, x11 => if x11 < x10 then (if 0 ≤ x11 then (if x11 < (x9.length : Int) then ((spec_l1In.f (rd x9 x11) x1 x2).bind fun t102 => (if t102 = true then (spec_l1All.l0 k x1 x2 x9 x10 (wrap64 (x11 + 1))) else (some false))) else (none)) else (none)) else (some true)
def spec_l1All.f (k : Nat) (l0 : List Int) (a1 : Int) (a2 : Int) : Option (Bool) := spec_l1All.l0 k a1 a2 l0 (l0.length : Int) 0
theorem spec_l1All.mono_l : ∀ k, (∀ y0 y1 y2 y3 y4, LeO (spec_l1All.l0 k y0 y1 y2 y3 y4) (spec_l1All.l0 (k + 1) y0 y1 y2 y3 y4))
 | 0 => fun _ _ _ _ _ r h => by simp [spec_l1All.l0] at h
 | k + 1 => by
  have ih0 := spec_l1All.mono_l k
  ·intro y0 y1 y2 y3 y4
   unfold spec_l1All.l0
   repeat' first
   | (with_reducible exact ih0 _ _ _ _ _)
   | (with_reducible exact LeO.refl _)
   | (with_reducible exact LeO.none _)
   | (with_reducible refine LeO.ite ?_ ?_)
   | (with_reducible refine LeO.bind ?_ (fun _ => ?_))
   | exact ih0 _ _ _ _ _
   | exact LeO.none _
   | refine LeO.ite ?_ ?_
   | refine LeO.bind ?_ (fun _ => ?_)
theorem spec_l1All.mono : ∀ a0 a1 a2 k, LeO (spec_l1All.f k a0 a1 a2) (spec_l1All.f (k + 1) a0 a1 a2) := by
 intro a0 a1 a2 k
 have ih0 := spec_l1All.mono_l k
 unfold spec_l1All.f
 repeat' first
   | (with_reducible exact ih0 _ _ _ _ _)
   | (with_reducible exact LeO.refl _)
   | (with_reducible exact LeO.none _)
   | (with_reducible refine LeO.ite ?_ ?_)
   | (with_reducible refine LeO.bind ?_ (fun _ => ?_))
   | exact ih0 _ _ _ _ _
   | exact LeO.none _
   | refine LeO.ite ?_ ?_
   | refine LeO.bind ?_ (fun _ => ?_)
set_option maxHeartbeats 8000000 in
set_option maxRecDepth 100000 in
theorem spec_l1All.calls (k : Nat) (A0 : Option Addr) (c0 : Nat) (l0 : List Int) (a1 : Int) (a2 : Int) (r : Bool) (w : World) (hr0 : Kd.C (Kd.int .i64) w A0 l0.length l0) (hc0 : l0.length ≤ c0) (h : spec_l1All.f k l0 a1 a2 = some r) :
  Calls Try.prog 37 #[.slice A0 l0.length c0, .int .i64 a1, .int .i64 a2] w fun e w' => e = .returned (.bool r) ∧ Drawn0 w w' := by
 have HR0 := Aside0.mk hr0
 have HC0 := Aside0.mk hc0
 clear hr0 hc0
 have H : (spec_l1All.l0 k a1 a2 l0 (l0.length : Int) 0) = some r := h
 clear h
 have H' := Aside0.mk H
 clear H
 go_enter Try.func37, Try.ntmps37
 go_wp2
 go_loopg [11] k (fun kq v11 w' => ∃ (x11_1 : Int), v11 = .int .i64 x11_1 ∧ Aside0 (spec_l1All.l0 kq a1 a2 l0 (l0.length : Int) x11_1 = some r) ∧ Aside0 (kq ≤ k) ∧ Drawn0 w w')
 case atStart => exact ⟨(0), (by first | rfl | (simp; done) | (simp [*]; done)), H', ⟨Nat.le_refl _⟩, by repeat (first | exact Drawn0.refl _ | apply Drawn0.step)⟩
 case round =>
  clear H'
  try clear p2
  try clear c3
  obtain ⟨x11_1, rfl, HA, HK1, ⟨m1, rfl⟩⟩ := hrel
  cases gk with
  | zero => exact absurd HA.out (by simp [spec_l1All.l0])
  | succ k1 =>
   have H := HA.out
   clear HA
   simp only [spec_l1All.l0] at H
   by_cases c4 : x11_1 < (l0.length : Int)
   ·rw [if_pos c4] at H
    have c4b0 : decide (x11_1 < (l0.length : Int)) = true := decide_eq_true c4
    clear c4
    by_cases c5 : 0 ≤ x11_1
    ·rw [if_pos c5] at H
     have c5b0 : decide (0 ≤ x11_1) = true := decide_eq_true c5
     clear c5
     by_cases c6 : x11_1 < (l0.length : Int)
     ·rw [if_pos c6] at H
      have c6b0 : decide (x11_1 < (l0.length : Int)) = true := decide_eq_true c6
      clear c6
      replace H := Option.bind_eq_some_iff.mp H
      obtain ⟨t102, A70, H⟩ := H
      replace H : (if t102 = true then (spec_l1All.l0 k1 a1 a2 l0 (l0.length : Int) (wrap64 (x11_1 + 1))) else (some false)) = some r := H
      have A7 := Aside0.mk A70
      clear A70
      by_cases c8 : t102 = true
      ·subst c8
       have H1 : (spec_l1All.l0 k1 a1 a2 l0 (l0.length : Int) (wrap64 (x11_1 + 1))) = some r := by rw [if_pos rfl] at H; exact H
       clear H
       have H := H1
       clear H1
       have H' := Aside0.mk H
       clear H
       have p101 : 0 ≤ (x11_1 : Int) := of_decide_eq_true (by first | (with_reducible assumption) | assumption)
       have q101 : x11_1 < (l0.length : Int) := of_decide_eq_true (by first | (with_reducible assumption) | assumption)
       obtain ⟨ad101, e101, hx101_0⟩ := Kd.at_int HR0.out x11_1 p101 q101
       cases e101
       replace p101 := eq_true p101
       replace q101 := eq_true q101
       go_wp2_with (first | ((with_reducible refine gate_callee (f := 22) rfl ?_); refine goesL_ (some 18) rfl rfl Try.func22 (by kernel_rfl) rfl #[.int .i64 (rd l0 x11_1), .int .i64 a1, .int .i64 a2] rfl (by (try simp only [List.map_toArray, List.map_cons, List.map_nil]); first | done | rfl | (simp only [List.length_drop, List.length_take]; rfl)) ?_; (with_reducible refine (spec_l1In.calls (rd l0 x11_1) a1 a2 true _ A7.out).mono ?_); rintro e w' ⟨rfl, ⟨nd, rfl⟩⟩; refine ⟨_, rfl, ?_⟩))
       go_roundg k1
       case measure => have := HK1.out; omega
       case rel => exact ⟨(wrap64 (x11_1 + 1)), (by first | rfl | (simp; done) | (simp [*]; done)), H', ⟨by have := HK1.out; omega⟩, by repeat (first | exact Drawn0.refl _ | apply Drawn0.step)⟩
      ·replace c8 := Bool.eq_false_iff.mpr c8
       subst c8
       have H1 : (some false) = some r := by rw [if_neg (show ¬ (false = true) by decide)] at H; exact H
       clear H
       have H := H1
       clear H1
       obtain rfl := Option.some.inj H
       have p101 : 0 ≤ (x11_1 : Int) := of_decide_eq_true (by first | (with_reducible assumption) | assumption)
       have q101 : x11_1 < (l0.length : Int) := of_decide_eq_true (by first | (with_reducible assumption) | assumption)
       obtain ⟨ad101, e101, hx101_0⟩ := Kd.at_int HR0.out x11_1 p101 q101
       cases e101
       replace p101 := eq_true p101
       replace q101 := eq_true q101
       go_wp2_with (first | ((with_reducible refine gate_callee (f := 22) rfl ?_); refine goesL_ (some 18) rfl rfl Try.func22 (by kernel_rfl) rfl #[.int .i64 (rd l0 x11_1), .int .i64 a1, .int .i64 a2] rfl (by (try simp only [List.map_toArray, List.map_cons, List.map_nil]); first | done | rfl | (simp only [List.length_drop, List.length_take]; rfl)) ?_; (with_reducible refine (spec_l1In.calls (rd l0 x11_1) a1 a2 false _ A7.out).mono ?_); rintro e w' ⟨rfl, ⟨nd, rfl⟩⟩; refine ⟨_, rfl, ?_⟩))
       go_ret
       exact ⟨by first | rfl | (simp; done) | (simp [*]; done), by repeat (first | exact Drawn0.refl _ | apply Drawn0.step)⟩
     ·rw [if_neg c6] at H
      exact absurd H (by simp)
    ·rw [if_neg c5] at H
     exact absurd H (by simp)
   ·rw [if_neg c4] at H
    have c4b0 : decide (x11_1 < (l0.length : Int)) = false := decide_eq_false c4
    clear c4
    obtain rfl := Option.some.inj H
    go_wp2
    go_ret
    exact ⟨by first | rfl | (simp; done) | (simp [*]; done), by repeat (first | exact Drawn0.refl _ | apply Drawn0.step)⟩
end Go.Proofs.Ytafegaaklpdgiaa.Q

namespace Go.Proofs.Ytafegaaklpdgiaa.Q
open Go.RowKit Go.Proofs.YtafegaaklpdgiaaW.PrintWords Go.Proofs.YtafegaaklpdgiaaW.PrintLast Go.Proofs.YtafegaaklpdgiaaW.PrintMore
attribute [local go_sem] max2_int min2_int max_two min_two max_three min_three max_four min_four   -- for this text's walks alone
set_option linter.unusedVariables false
set_option linter.unusedSimpArgs false
def spec_slGood.f (k : Nat) (l0_0 : List Int) (a0_1 : Int) : Option (Bool) := (spec_l1In.f (l0_0.length : Int) 2 12).bind fun t102 => (if t102 = true then ((spec_l1In.f a0_1 2 11).bind fun t103 => (if t103 = true then ((spec_l1All.f k l0_0 0 (wrap64 (a0_1 - 1))).bind fun t104 => (some t104)) else (some false))) else (some false))
theorem spec_slGood.mono : ∀ a0 a1 k, LeO (spec_slGood.f k a0 a1) (spec_slGood.f (k + 1) a0 a1) := by
 intro a0 a1 k
 unfold spec_slGood.f
 repeat' first
   | (with_reducible exact spec_l1All.mono _ _ _ _)
   | (with_reducible exact LeO.refl _)
   | (with_reducible exact LeO.none _)
   | (with_reducible refine LeO.ite ?_ ?_)
   | (with_reducible refine LeO.bind ?_ (fun _ => ?_))
   | exact spec_l1All.mono _ _ _ _
   | exact LeO.none _
   | refine LeO.ite ?_ ?_
   | refine LeO.bind ?_ (fun _ => ?_)
set_option maxHeartbeats 8000000 in
set_option maxRecDepth 100000 in
theorem spec_slGood.calls (k : Nat) (A0_0 : Option Addr) (c0_0 : Nat) (l0_0 : List Int) (a0_1 : Int) (r : Bool) (w : World) (hr0_0 : Kd.C (Kd.int .i64) w A0_0 l0_0.length l0_0) (hc0_0 : l0_0.length ≤ c0_0) (h : spec_slGood.f k l0_0 a0_1 = some r) :
  Calls Try.prog 29 #[.agg #[.slice A0_0 l0_0.length c0_0, .int .i64 a0_1]] w fun e w' => e = .returned (.bool r) ∧ Below w.heap.size w w' := by
 have hu34 := Try.underlying34
 have HR0_0 := Aside0.mk hr0_0
 have HC0_0 := Aside0.mk hc0_0
 clear hr0_0 hc0_0
 have HB := Aside0.mk (Below.refl w.heap.size w)
 have H : ((spec_l1In.f (l0_0.length : Int) 2 12).bind fun t102 => (if t102 = true then ((spec_l1In.f a0_1 2 11).bind fun t103 => (if t103 = true then ((spec_l1All.f k l0_0 0 (wrap64 (a0_1 - 1))).bind fun t104 => (some t104)) else (some false))) else (some false))) = some r := h
 clear h
 replace H := Option.bind_eq_some_iff.mp H
 obtain ⟨t102, A20, H⟩ := H
 replace H : (if t102 = true then ((spec_l1In.f a0_1 2 11).bind fun t103 => (if t103 = true then ((spec_l1All.f k l0_0 0 (wrap64 (a0_1 - 1))).bind fun t104 => (some t104)) else (some false))) else (some false)) = some r := H
 have A2 := Aside0.mk A20
 clear A20
 by_cases c3 : t102 = true
 ·subst c3
  have H1 : ((spec_l1In.f a0_1 2 11).bind fun t103 => (if t103 = true then ((spec_l1All.f k l0_0 0 (wrap64 (a0_1 - 1))).bind fun t104 => (some t104)) else (some false))) = some r := by rw [if_pos rfl] at H; exact H
  clear H
  have H := H1
  clear H1
  replace H := Option.bind_eq_some_iff.mp H
  obtain ⟨t103, A40, H⟩ := H
  replace H : (if t103 = true then ((spec_l1All.f k l0_0 0 (wrap64 (a0_1 - 1))).bind fun t104 => (some t104)) else (some false)) = some r := H
  have A4 := Aside0.mk A40
  clear A40
  by_cases c5 : t103 = true
  ·subst c5
   have H1 : ((spec_l1All.f k l0_0 0 (wrap64 (a0_1 - 1))).bind fun t104 => (some t104)) = some r := by rw [if_pos rfl] at H; exact H
   clear H
   have H := H1
   clear H1
   replace H := Option.bind_eq_some_iff.mp H
   obtain ⟨t104, A60, H⟩ := H
   replace H : (some t104) = some r := H
   have A6 := Aside0.mk A60
   clear A60
   obtain rfl := Option.some.inj H
   go_enter Try.func29, Try.ntmps29
   go_wp2_with (first | ((with_reducible refine gate_dst (N := 1) rfl ?_); refine box_event ?hg (N := 1) ?hd (cs := #[.slice A0_0 l0_0.length c0_0, .int .i64 a0_1]) (t := 34) ?hr ?_; (case hd => rfl); (case hg => rfl); (case hr => first | (go_simp; done) | (go_simp; rfl)); intro gb101 hg w7 hbox hb; have n0_ := Aside0.mk (below_step (by repeat (first | (with_reducible first | exact HB.out | apply below_alloc | apply pw_below_drewN | apply below_drew1) | exact HB.out)) hb); have n1_ := Aside0.mk (hbox); have n2_ := Aside0.mk ((by rw [hg]; exact (below_size (by repeat (first | (with_reducible first | exact HB.out | apply below_alloc | apply pw_below_drewN | apply below_drew1) | exact HB.out))) : w.heap.size ≤ gb101)); have n3_ := Aside0.mk ((by rw [hg]; exact (below_size (by repeat (first | (with_reducible first | exact HB.out | apply below_alloc | apply pw_below_drewN | apply below_drew1) | exact HB.out))) : w.heap.size ≤ gb101)); clear HB; have HB := n0_; have BK101 := n1_; have GW101 := n2_; have GE101 := n3_; clear n0_ n1_ n2_ n3_; clear hb hbox hg; have hcz8_0 : w7.cell? ⟨gb101, 0, none⟩ = some (.slice A0_0 l0_0.length c0_0) := (blk_cell BK101.out 0).trans rfl; have hcz8_1 : w7.cell? ⟨gb101, 1, none⟩ = some (.int .i64 a0_1) := (blk_cell BK101.out 1).trans rfl; have hfz8_0 := blk_frozen BK101.out 0; have hfz8_1 := blk_frozen BK101.out 1) | ((with_reducible refine gate_callee (f := 22) rfl ?_); refine goesL_ (some 6) rfl rfl Try.func22 (by kernel_rfl) rfl #[.int .i64 (l0_0.length : Int), .int .i64 2, .int .i64 12] rfl (by (try simp only [List.map_toArray, List.map_cons, List.map_nil]); first | done | rfl | (simp only [List.length_drop, List.length_take]; rfl)) ?_; (with_reducible refine (spec_l1In.calls (l0_0.length : Int) 2 12 true _ A2.out).mono ?_); rintro e w' ⟨rfl, ⟨nd, rfl⟩⟩; refine ⟨_, rfl, ?_⟩) | (go_at_call 22; (with_reducible refine (spec_l1In.calls a0_1 2 11 true _ A4.out).mono ?_); rintro e w' ⟨rfl, ⟨nd, rfl⟩⟩) | (go_at_call 37; (with_reducible refine (spec_l1All.calls k _ _ l0_0 0 (wrap64 (a0_1 - 1)) t104 _ ?side1 ?side2 A6.out).mono ?_); (case side1 => repeat (first | exact (Kd.C_below HR0_0.out (by repeat (first | (with_reducible first | exact HB.out | apply below_alloc | apply pw_below_drewN | apply below_drew1 | refine below_set ?_ GE101.out) | exact HB.out))) | (with_reducible refine Kd.C_alloc ?_ _) | (with_reducible refine Kd.C_drewN ?_ _) | (with_reducible refine Kd.C_drew ?_))); (case side2 => exact HC0_0.out); rintro e w' ⟨rfl, ⟨nd, rfl⟩⟩))
   go_ret
   exact ⟨by first | rfl | (simp [errW_none, errW_some] <;> rfl) | (simp [*, errW_none, errW_some] <;> rfl), by repeat (first | (with_reducible first | exact HB.out | apply below_alloc | apply pw_below_drewN | apply below_drew1 | refine below_set ?_ GE101.out) | exact HB.out)⟩
  ·replace c5 := Bool.eq_false_iff.mpr c5
   subst c5
   have H1 : (some false) = some r := by rw [if_neg (show ¬ (false = true) by decide)] at H; exact H
   clear H
   have H := H1
   clear H1
   obtain rfl := Option.some.inj H
   go_enter Try.func29, Try.ntmps29
   go_wp2_with (first | ((with_reducible refine gate_dst (N := 1) rfl ?_); refine box_event ?hg (N := 1) ?hd (cs := #[.slice A0_0 l0_0.length c0_0, .int .i64 a0_1]) (t := 34) ?hr ?_; (case hd => rfl); (case hg => rfl); (case hr => first | (go_simp; done) | (go_simp; rfl)); intro gb101 hg w9 hbox hb; have n0_ := Aside0.mk (below_step (by repeat (first | (with_reducible first | exact HB.out | apply below_alloc | apply pw_below_drewN | apply below_drew1) | exact HB.out)) hb); have n1_ := Aside0.mk (hbox); have n2_ := Aside0.mk ((by rw [hg]; exact (below_size (by repeat (first | (with_reducible first | exact HB.out | apply below_alloc | apply pw_below_drewN | apply below_drew1) | exact HB.out))) : w.heap.size ≤ gb101)); have n3_ := Aside0.mk ((by rw [hg]; exact (below_size (by repeat (first | (with_reducible first | exact HB.out | apply below_alloc | apply pw_below_drewN | apply below_drew1) | exact HB.out))) : w.heap.size ≤ gb101)); clear HB; have HB := n0_; have BK101 := n1_; have GW101 := n2_; have GE101 := n3_; clear n0_ n1_ n2_ n3_; clear hb hbox hg; have hcz10_0 : w9.cell? ⟨gb101, 0, none⟩ = some (.slice A0_0 l0_0.length c0_0) := (blk_cell BK101.out 0).trans rfl; have hcz10_1 : w9.cell? ⟨gb101, 1, none⟩ = some (.int .i64 a0_1) := (blk_cell BK101.out 1).trans rfl; have hfz10_0 := blk_frozen BK101.out 0; have hfz10_1 := blk_frozen BK101.out 1) | ((with_reducible refine gate_callee (f := 22) rfl ?_); refine goesL_ (some 6) rfl rfl Try.func22 (by kernel_rfl) rfl #[.int .i64 (l0_0.length : Int), .int .i64 2, .int .i64 12] rfl (by (try simp only [List.map_toArray, List.map_cons, List.map_nil]); first | done | rfl | (simp only [List.length_drop, List.length_take]; rfl)) ?_; (with_reducible refine (spec_l1In.calls (l0_0.length : Int) 2 12 true _ A2.out).mono ?_); rintro e w' ⟨rfl, ⟨nd, rfl⟩⟩; refine ⟨_, rfl, ?_⟩) | (go_at_call 22; (with_reducible refine (spec_l1In.calls a0_1 2 11 false _ A4.out).mono ?_); rintro e w' ⟨rfl, ⟨nd, rfl⟩⟩))
   go_ret
   exact ⟨by first | rfl | (simp [errW_none, errW_some] <;> rfl) | (simp [*, errW_none, errW_some] <;> rfl), by repeat (first | (with_reducible first | exact HB.out | apply below_alloc | apply pw_below_drewN | apply below_drew1 | refine below_set ?_ GE101.out) | exact HB.out)⟩
 ·replace c3 := Bool.eq_false_iff.mpr c3
  subst c3
  have H1 : (some false) = some r := by rw [if_neg (show ¬ (false = true) by decide)] at H; exact H
  clear H
  have H := H1
  clear H1
  obtain rfl := Option.some.inj H
  go_enter Try.func29, Try.ntmps29
  go_wp2_with (first | ((with_reducible refine gate_dst (N := 1) rfl ?_); refine box_event ?hg (N := 1) ?hd (cs := #[.slice A0_0 l0_0.length c0_0, .int .i64 a0_1]) (t := 34) ?hr ?_; (case hd => rfl); (case hg => rfl); (case hr => first | (go_simp; done) | (go_simp; rfl)); intro gb101 hg w11 hbox hb; have n0_ := Aside0.mk (below_step (by repeat (first | (with_reducible first | exact HB.out | apply below_alloc | apply pw_below_drewN | apply below_drew1) | exact HB.out)) hb); have n1_ := Aside0.mk (hbox); have n2_ := Aside0.mk ((by rw [hg]; exact (below_size (by repeat (first | (with_reducible first | exact HB.out | apply below_alloc | apply pw_below_drewN | apply below_drew1) | exact HB.out))) : w.heap.size ≤ gb101)); have n3_ := Aside0.mk ((by rw [hg]; exact (below_size (by repeat (first | (with_reducible first | exact HB.out | apply below_alloc | apply pw_below_drewN | apply below_drew1) | exact HB.out))) : w.heap.size ≤ gb101)); clear HB; have HB := n0_; have BK101 := n1_; have GW101 := n2_; have GE101 := n3_; clear n0_ n1_ n2_ n3_; clear hb hbox hg; have hcz12_0 : w11.cell? ⟨gb101, 0, none⟩ = some (.slice A0_0 l0_0.length c0_0) := (blk_cell BK101.out 0).trans rfl; have hcz12_1 : w11.cell? ⟨gb101, 1, none⟩ = some (.int .i64 a0_1) := (blk_cell BK101.out 1).trans rfl; have hfz12_0 := blk_frozen BK101.out 0; have hfz12_1 := blk_frozen BK101.out 1) | ((with_reducible refine gate_callee (f := 22) rfl ?_); refine goesL_ (some 6) rfl rfl Try.func22 (by kernel_rfl) rfl #[.int .i64 (l0_0.length : Int), .int .i64 2, .int .i64 12] rfl (by (try simp only [List.map_toArray, List.map_cons, List.map_nil]); first | done | rfl | (simp only [List.length_drop, List.length_take]; rfl)) ?_; (with_reducible refine (spec_l1In.calls (l0_0.length : Int) 2 12 false _ A2.out).mono ?_); rintro e w' ⟨rfl, ⟨nd, rfl⟩⟩; refine ⟨_, rfl, ?_⟩))
  go_ret
  exact ⟨by first | rfl | (simp [errW_none, errW_some] <;> rfl) | (simp [*, errW_none, errW_some] <;> rfl), by repeat (first | (with_reducible first | exact HB.out | apply below_alloc | apply pw_below_drewN | apply below_drew1 | refine below_set ?_ GE101.out) | exact HB.out)⟩
end Go.Proofs.Ytafegaaklpdgiaa.Q

namespace Go.Proofs.Ytafegaaklpdgiaa.Q
open Go.RowKit Go.Proofs.YtafegaaklpdgiaaW.PrintWords Go.Proofs.YtafegaaklpdgiaaW.PrintLast Go.Proofs.YtafegaaklpdgiaaW.PrintMore
attribute [local go_sem] max2_int min2_int max_two min_two max_three min_three max_four min_four   -- for this text's walks alone
set_option linter.unusedVariables false
set_option linter.unusedSimpArgs false
mutual
def spec_slList.l0 : Nat → Bool → List (List Int) → Int → Int → List Int → Int → Option ((List (List Int)))
 | 0, _, _, _, _, _, _ => none
 | k + 1, x1, x5, x11, x12, x102000, x102001 => if x12 < x11 then (if x1 = true then (spec_slList.j1 k x1 x5 x12 x11 x12 (x12 == (wrap64 ((x102000.length : Int) - 1))) x102000 x102001) else (spec_slList.j1 k x1 x5 x12 x11 x12 false x102000 x102001)) else (some x5)
def spec_slList.j1 : Nat → Bool → List (List Int) → Int → Int → Int → Bool → List Int → Int → Option ((List (List Int)))
 | 0, _, _, _, _, _, _, _, _ => none
 | k + 1, x1, x5, x6, x11, x12, x23, x102000, x102001 => if x23 = true then (some x5) else ((spec_slUntold.f k x102000 x102001 x6 x1).bind fun bt102 => (if bt102.2 = true then ((some (([x6] : List Int) : List Int)).bind fun y106 => (if y106.length + bt102.1.length < 17592186044416 then (if x5.length < 5864062014805 then (spec_slList.l0 k x1 (x5 ++ [(y106 ++ bt102.1)]) x11 (wrap64 (x12 + 1)) x102000 x102001) else (none)) else (none))) else (spec_slList.l0 k x1 x5 x11 (wrap64 (x12 + 1)) x102000 x102001)))
end
def spec_slList.f (k : Nat) (l0_0 : List Int) (a0_1 : Int) (a1 : Bool) : Option ((List (List Int))) := spec_slList.l0 k a1 ([] : List (List Int)) (l0_0.length : Int) 0 l0_0 a0_1
theorem spec_slList.mono_l : ∀ k, (∀ y0 y1 y2 y3 y4 y5, LeO (spec_slList.l0 k y0 y1 y2 y3 y4 y5) (spec_slList.l0 (k + 1) y0 y1 y2 y3 y4 y5)) ∧ (∀ y0 y1 y2 y3 y4 y5 y6 y7, LeO (spec_slList.j1 k y0 y1 y2 y3 y4 y5 y6 y7) (spec_slList.j1 (k + 1) y0 y1 y2 y3 y4 y5 y6 y7))
 | 0 => ⟨fun _ _ _ _ _ _ r h => by simp [spec_slList.l0] at h, fun _ _ _ _ _ _ _ _ r h => by simp [spec_slList.j1] at h⟩
 | k + 1 => by
  obtain ⟨ih0, ih1⟩ := spec_slList.mono_l k
  refine ⟨?_, ?_⟩
  ·intro y0 y1 y2 y3 y4 y5
   unfold spec_slList.l0
   repeat' first
   | (with_reducible exact ih0 _ _ _ _ _ _)
   | (with_reducible exact ih1 _ _ _ _ _ _ _ _)
   | (with_reducible exact spec_slUntold.mono _ _ _ _ _)
   | (with_reducible exact LeO.refl _)
   | (with_reducible exact LeO.none _)
   | (with_reducible refine LeO.ite ?_ ?_)
   | (with_reducible refine LeO.bind ?_ (fun _ => ?_))
   | exact ih0 _ _ _ _ _ _
   | exact ih1 _ _ _ _ _ _ _ _
   | exact spec_slUntold.mono _ _ _ _ _
   | exact LeO.none _
   | refine LeO.ite ?_ ?_
   | refine LeO.bind ?_ (fun _ => ?_)
  ·intro y0 y1 y2 y3 y4 y5 y6 y7
   unfold spec_slList.j1
   repeat' first
   | (with_reducible exact ih0 _ _ _ _ _ _)
   | (with_reducible exact ih1 _ _ _ _ _ _ _ _)
   | (with_reducible exact spec_slUntold.mono _ _ _ _ _)
   | (with_reducible exact LeO.refl _)
   | (with_reducible exact LeO.none _)
   | (with_reducible refine LeO.ite ?_ ?_)
   | (with_reducible refine LeO.bind ?_ (fun _ => ?_))
   | exact ih0 _ _ _ _ _ _
   | exact ih1 _ _ _ _ _ _ _ _
   | exact spec_slUntold.mono _ _ _ _ _
   | exact LeO.none _
   | refine LeO.ite ?_ ?_
   | refine LeO.bind ?_ (fun _ => ?_)
theorem spec_slList.mono : ∀ a0 a1 a2 k, LeO (spec_slList.f k a0 a1 a2) (spec_slList.f (k + 1) a0 a1 a2) := by
 intro a0 a1 a2 k
 obtain ⟨ih0, ih1⟩ := spec_slList.mono_l k
 unfold spec_slList.f
 repeat' first
   | (with_reducible exact ih0 _ _ _ _ _ _)
   | (with_reducible exact ih1 _ _ _ _ _ _ _ _)
   | (with_reducible exact spec_slUntold.mono _ _ _ _ _)
   | (with_reducible exact LeO.refl _)
   | (with_reducible exact LeO.none _)
   | (with_reducible refine LeO.ite ?_ ?_)
   | (with_reducible refine LeO.bind ?_ (fun _ => ?_))
   | exact ih0 _ _ _ _ _ _
   | exact ih1 _ _ _ _ _ _ _ _
   | exact spec_slUntold.mono _ _ _ _ _
   | exact LeO.none _
   | refine LeO.ite ?_ ?_
   | refine LeO.bind ?_ (fun _ => ?_)
set_option maxHeartbeats 8000000 in
set_option maxRecDepth 100000 in
theorem spec_slList.calls (k : Nat) (A0_0 : Option Addr) (c0_0 : Nat) (l0_0 : List Int) (a0_1 : Int) (a1 : Bool) (r : List (List Int)) (w : World) (hr0_0 : Kd.C (Kd.int .i64) w A0_0 l0_0.length l0_0) (hc0_0 : l0_0.length ≤ c0_0) (h : spec_slList.f k l0_0 a0_1 a1 = some r) :
  Calls Try.prog 30 #[.agg #[.slice A0_0 l0_0.length c0_0, .int .i64 a0_1], .bool a1] w fun e w' => ∃ v0_ : Value, e = .returned (v0_) ∧ Kd.S (Kd.slice 3 (Kd.int .i64)) 22 w' w.heap.size (fun _ => True) v0_ r ∧ Below w.heap.size w w' := by
 have hu34 := Try.underlying34
 have HR0_0 := Aside0.mk hr0_0
 have HC0_0 := Aside0.mk hc0_0
 clear hr0_0 hc0_0
 have HB := Aside0.mk (Below.refl w.heap.size w)
 have H : (spec_slList.l0 k a1 ([] : List (List Int)) (l0_0.length : Int) 0 l0_0 a0_1) = some r := h
 clear h
 have H' := Aside0.mk H
 clear H
 go_enter Try.func30, Try.ntmps30
 go_wp2_with (first | ((with_reducible refine gate_dst (N := 2) rfl ?_); (try (refine gate_guard (by rfl) ?_; dsimp only)); refine box_event ?hg (N := 2) ?hd (cs := #[.slice A0_0 l0_0.length c0_0, .int .i64 a0_1]) (t := 34) ?hr ?_; (case hd => rfl); (case hg => rfl); (case hr => first | (go_simp; done) | (go_simp; rfl)); intro gb101 hg w3 hbox hb; have n0_ := Aside0.mk (below_step (by repeat (first | (with_reducible first | exact HB.out | apply below_alloc | apply pw_below_drewN | apply below_drew1) | exact HB.out)) hb); have n1_ := Aside0.mk (hbox); have n2_ := Aside0.mk ((by rw [hg]; exact (below_size (by repeat (first | (with_reducible first | exact HB.out | apply below_alloc | apply pw_below_drewN | apply below_drew1) | exact HB.out))) : w.heap.size ≤ gb101)); have n3_ := Aside0.mk ((by rw [hg]; exact (below_size (by repeat (first | (with_reducible first | exact HB.out | apply below_alloc | apply pw_below_drewN | apply below_drew1) | exact HB.out))) : w.heap.size ≤ gb101)); clear HB; have HB := n0_; have BK101 := n1_; have GW101 := n2_; have GE101 := n3_; clear n0_ n1_ n2_ n3_; clear hb hbox hg; have hcz4_0 : w3.cell? ⟨gb101, 0, none⟩ = some (.slice A0_0 l0_0.length c0_0) := (blk_cell BK101.out 0).trans rfl; have hcz4_1 : w3.cell? ⟨gb101, 1, none⟩ = some (.int .i64 a0_1) := (blk_cell BK101.out 1).trans rfl; have hfz4_0 := blk_frozen BK101.out 0; have hfz4_1 := blk_frozen BK101.out 1))
 go_loopg [5, 12] k (fun kq v5 v12 w' => ∃ (x5_1 : List (List Int)) (x12_1 : Int), v12 = .int .i64 x12_1 ∧ Aside0 (spec_slList.l0 kq a1 x5_1 (l0_0.length : Int) x12_1 l0_0 a0_1 = some r) ∧ Aside0 (kq ≤ k) ∧ Aside0 (Kd.S (Kd.slice 3 (Kd.int .i64)) 22 w' w.heap.size (fun _ => True) v5 x5_1) ∧ Aside0 (w'.heap[gb101]? = some (.cells #[(.slice A0_0 l0_0.length c0_0), .int .i64 a0_1] 34 (0, 0))) ∧ Aside0 (Below w.heap.size w w'))
 case atStart => exact ⟨(([] : List (List Int))), (0), (by first | rfl | (simp; done) | (simp [*]; done)), H', ⟨Nat.le_refl _⟩, ⟨by first | exact Kd.S_nil _ _ _ _ _ | exact Kd.N_nil _ _ _ _ _ | exact Kd.V_nil _ _ _ _ _ | exact Kd.Q_nil _ _ _ _ _ | exact Kd.R_nil _ _ _ _ _⟩, ⟨by (with_reducible repeat (first | refine blk_drewN ?_ _ | refine blk_drew ?_ | refine blk_alloc ?_ _)); exact BK101.out⟩, ⟨by repeat (first | (with_reducible first | exact HB.out | apply below_alloc | apply pw_below_drewN | apply below_drew1 | refine below_set ?_ GE101.out) | exact HB.out)⟩⟩
 case round =>
  clear H'
  try clear p2
  try clear c3
  try clear hcz4_0
  try clear hcz4_1
  try clear hfz4_0
  try clear hfz4_1
  obtain ⟨x5_1, x12_1, rfl, HA, HK1, HO_5, BK101, HB⟩ := hrel
  cases gk with
  | zero => exact absurd HA.out (by simp [spec_slList.l0])
  | succ k1 =>
   have H := HA.out
   clear HA
   simp only [spec_slList.l0] at H
   by_cases c5 : x12_1 < (l0_0.length : Int)
   ·rw [if_pos c5] at H
    have c5b0 : decide (x12_1 < (l0_0.length : Int)) = true := decide_eq_true c5
    clear c5
    have HC6 := Aside0.mk H
    clear H
    go_upto_region 5 with (fail)
    go_cut [23] (fun v23 wc => ∃ (kq : Nat) (x23_5 : Bool), v23 = .bool x23_5 ∧ Aside0 (spec_slList.j1 kq a1 x5_1 x12_1 (l0_0.length : Int) x12_1 x23_5 l0_0 a0_1 = some r) ∧ Aside0 (kq ≤ k1) ∧ Aside0 (Kd.S (Kd.slice 3 (Kd.int .i64)) 22 wc w.heap.size (fun _ => True) u5 x5_1) ∧ Aside0 (wc.heap[gb101]? = some (.cells #[(.slice A0_0 l0_0.length c0_0), .int .i64 a0_1] 34 (0, 0))) ∧ Aside0 (Below w.heap.size w wc))
    case first =>
     have H := HC6.out
     clear HC6
     by_cases c7 : a1 = true
     ·subst c7
      have H1 : (spec_slList.j1 k1 true x5_1 x12_1 (l0_0.length : Int) x12_1 (x12_1 == (wrap64 ((l0_0.length : Int) - 1))) l0_0 a0_1) = some r := by rw [if_pos rfl] at H; exact H
      clear H
      have H := H1
      clear H1
      have H' := Aside0.mk H
      clear H
      have hcz8_0 : wr.cell? ⟨gb101, 0, none⟩ = some (.slice A0_0 l0_0.length c0_0) := (blk_cell BK101.out 0).trans rfl
      have hcz8_1 : wr.cell? ⟨gb101, 1, none⟩ = some (.int .i64 a0_1) := (blk_cell BK101.out 1).trans rfl
      have hfz8_0 := blk_frozen BK101.out 0
      have hfz8_1 := blk_frozen BK101.out 1
      go_wp2
      go_meet
      case rel => exact ⟨_, ((x12_1 == (wrap64 ((l0_0.length : Int) - 1)))), (by first | rfl | (simp; done) | (simp [*]; done)), H', ⟨by have := HK1.out; first | omega | exact Nat.le_refl _⟩, ⟨by (with_reducible repeat (first | apply Kd.S_alloc | apply Kd.S_drewN | apply Kd.S_drew)); exact HO_5.out⟩, ⟨by (with_reducible repeat (first | refine blk_drewN ?_ _ | refine blk_drew ?_ | refine blk_alloc ?_ _)); exact BK101.out⟩, ⟨by repeat (first | (with_reducible first | exact HB.out | apply below_alloc | apply pw_below_drewN | apply below_drew1 | refine below_set ?_ GE101.out) | exact HB.out)⟩⟩
     ·replace c7 := Bool.eq_false_iff.mpr c7
      subst c7
      have H1 : (spec_slList.j1 k1 false x5_1 x12_1 (l0_0.length : Int) x12_1 false l0_0 a0_1) = some r := by rw [if_neg (show ¬ (false = true) by decide)] at H; exact H
      clear H
      have H := H1
      clear H1
      have H' := Aside0.mk H
      clear H
      go_wp2
      go_meet
      case rel => exact ⟨_, (false), (by first | rfl | (simp; done) | (simp [*]; done)), H', ⟨by have := HK1.out; first | omega | exact Nat.le_refl _⟩, ⟨by (with_reducible repeat (first | apply Kd.S_alloc | apply Kd.S_drewN | apply Kd.S_drew)); exact HO_5.out⟩, ⟨by (with_reducible repeat (first | refine blk_drewN ?_ _ | refine blk_drew ?_ | refine blk_alloc ?_ _)); exact BK101.out⟩, ⟨by repeat (first | (with_reducible first | exact HB.out | apply below_alloc | apply pw_below_drewN | apply below_drew1 | refine below_set ?_ GE101.out) | exact HB.out)⟩⟩
    case rest =>
     clear HC6
     try clear p2
     try clear c3
     try clear c5
     try clear c5b0
     try clear p6
     try clear c7
     try clear hcz4_0
     try clear hcz4_1
     try clear hcz8_0
     try clear hcz8_1
     try clear hfz4_0
     try clear hfz4_1
     try clear hfz8_0
     try clear hfz8_1
     try clear p2
     obtain ⟨kq, x23_5, rfl, HA, HJ5, HO_5, BK101, HB⟩ := hcut
     cases kq with
     | zero => exact absurd HA.out (by simp [spec_slList.j1])
     | succ kj5 =>
      have H := HA.out
      clear HA
      simp only [spec_slList.j1] at H
      by_cases c9 : x23_5 = true
      ·subst c9
       have H1 : (some x5_1) = some r := by rw [if_pos rfl] at H; exact H
       clear H
       have H := H1
       clear H1
       obtain rfl := Option.some.inj H
       go_wp2
       go_ret
       exact ⟨_, by first | rfl | (simp [errW_none, errW_some] <;> rfl) | (simp [*, errW_none, errW_some] <;> rfl), by (with_reducible repeat (first | apply Kd.S_alloc | apply Kd.S_drewN | apply Kd.S_drew)); exact HO_5.out, by repeat (first | (with_reducible first | exact HB.out | apply below_alloc | apply pw_below_drewN | apply below_drew1 | refine below_set ?_ GE101.out) | exact HB.out)⟩
      ·replace c9 := Bool.eq_false_iff.mpr c9
       subst c9
       have H1 : ((spec_slUntold.f kj5 l0_0 a0_1 x12_1 a1).bind fun bt102 => (if bt102.2 = true then ((some (([x12_1] : List Int) : List Int)).bind fun y106 => (if y106.length + bt102.1.length < 17592186044416 then (if x5_1.length < 5864062014805 then (spec_slList.l0 kj5 a1 (x5_1 ++ [(y106 ++ bt102.1)]) (l0_0.length : Int) (wrap64 (x12_1 + 1)) l0_0 a0_1) else (none)) else (none))) else (spec_slList.l0 kj5 a1 x5_1 (l0_0.length : Int) (wrap64 (x12_1 + 1)) l0_0 a0_1))) = some r := by rw [if_neg (show ¬ (false = true) by decide)] at H; exact H
       clear H
       have H := H1
       clear H1
       replace H := Option.bind_eq_some_iff.mp H
       obtain ⟨⟨t102, t105⟩, A100, H⟩ := H
       replace H : (if t105 = true then ((some (([x12_1] : List Int) : List Int)).bind fun y106 => (if y106.length + t102.length < 17592186044416 then (if x5_1.length < 5864062014805 then (spec_slList.l0 kj5 a1 (x5_1 ++ [(y106 ++ t102)]) (l0_0.length : Int) (wrap64 (x12_1 + 1)) l0_0 a0_1) else (none)) else (none))) else (spec_slList.l0 kj5 a1 x5_1 (l0_0.length : Int) (wrap64 (x12_1 + 1)) l0_0 a0_1)) = some r := H
       have A10 := Aside0.mk A100
       clear A100
       by_cases c11 : t105 = true
       ·subst c11
        have H1 : ((some (([x12_1] : List Int) : List Int)).bind fun y106 => (if y106.length + t102.length < 17592186044416 then (if x5_1.length < 5864062014805 then (spec_slList.l0 kj5 a1 (x5_1 ++ [(y106 ++ t102)]) (l0_0.length : Int) (wrap64 (x12_1 + 1)) l0_0 a0_1) else (none)) else (none))) = some r := by rw [if_pos rfl] at H; exact H
        clear H
        have H := H1
        clear H1
        obtain ⟨y106, hy106⟩ : ∃ y_ : List Int, y_ = (([x12_1] : List Int)) := ⟨_, rfl⟩
        replace H : (if y106.length + t102.length < 17592186044416 then (if x5_1.length < 5864062014805 then (spec_slList.l0 kj5 a1 (x5_1 ++ [(y106 ++ t102)]) (l0_0.length : Int) (wrap64 (x12_1 + 1)) l0_0 a0_1) else (none)) else (none)) = some r := by first | (rw [hy106]; with_reducible exact H) | (have H2_ := (Option.bind_some _ _).symm.trans H; rw [hy106]; with_reducible exact H2_) | (have H2_ := (Option.bind_some _ _).symm.trans H; with_reducible exact H2_) | with_reducible exact H | (rw [hy106]; exact H) | exact H
        have Ny106 := Aside0.mk hy106
        clear hy106
        by_cases c12 : y106.length + t102.length < 17592186044416
        ·rw [if_pos c12] at H
         have LMc12 := Aside0.mk c12
         clear c12
         obtain ⟨y109, hy109⟩ : ∃ y_ : List Int, y_ = (y106 ++ t102) := ⟨_, rfl⟩
         replace H : (if x5_1.length < 5864062014805 then (spec_slList.l0 kj5 a1 (x5_1 ++ [y109]) (l0_0.length : Int) (wrap64 (x12_1 + 1)) l0_0 a0_1) else (none)) = some r := by first | (rw [hy109]; with_reducible exact H) | (have H2_ := (Option.bind_some _ _).symm.trans H; rw [hy109]; with_reducible exact H2_) | (have H2_ := (Option.bind_some _ _).symm.trans H; with_reducible exact H2_) | with_reducible exact H | (rw [hy109]; exact H) | exact H
         have Ny109 := Aside0.mk hy109
         clear hy109
         by_cases c13 : x5_1.length < 5864062014805
         ·rw [if_pos c13] at H
          have LMc13 := Aside0.mk c13
          clear c13
          obtain ⟨y112, hy112⟩ : ∃ y_ : List (List Int), y_ = (x5_1 ++ [y109]) := ⟨_, rfl⟩
          replace H : (spec_slList.l0 kj5 a1 y112 (l0_0.length : Int) (wrap64 (x12_1 + 1)) l0_0 a0_1) = some r := by first | (rw [hy112]; with_reducible exact H) | (have H2_ := (Option.bind_some _ _).symm.trans H; rw [hy112]; with_reducible exact H2_) | (have H2_ := (Option.bind_some _ _).symm.trans H; with_reducible exact H2_) | with_reducible exact H | (rw [hy112]; exact H) | exact H
          have Ny112 := Aside0.mk hy112
          clear hy112
          have H' := Aside0.mk H
          clear H
          have hcz14_0 : wc.cell? ⟨gb101, 0, none⟩ = some (.slice A0_0 l0_0.length c0_0) := (blk_cell BK101.out 0).trans rfl
          have hcz14_1 : wc.cell? ⟨gb101, 1, none⟩ = some (.int .i64 a0_1) := (blk_cell BK101.out 1).trans rfl
          have hfz14_0 := blk_frozen BK101.out 0
          have hfz14_1 := blk_frozen BK101.out 1
          go_wp2_with (first | ((with_reducible refine gate_callee (f := 38) rfl ?_); refine goesL_ (some 28) rfl rfl Try.func38 (by kernel_rfl) rfl #[.agg #[.slice A0_0 l0_0.length c0_0, .int .i64 a0_1], .int .i64 x12_1, .bool a1] rfl (by (try simp only [List.map_toArray, List.map_cons, List.map_nil]); first | done | rfl | (simp only [List.length_drop, List.length_take]; rfl)) ?_; (with_reducible refine (spec_slUntold.calls kj5 _ _ l0_0 a0_1 x12_1 a1 t102 true _ ?side1 ?side2 A10.out).mono ?_); (case side1 => repeat (first | exact (Kd.C_below HR0_0.out HB.out) | (with_reducible refine Kd.C_alloc ?_ _) | (with_reducible refine Kd.C_drewN ?_ _) | (with_reducible refine Kd.C_drew ?_))); (case side2 => exact HC0_0.out); rintro e w15 ⟨v103, rfl, ho0, hb⟩; refine ⟨_, rfl, ?_⟩; have n0_ := Aside0.mk (Kd.S_elder' (by (with_reducible repeat (first | apply Kd.S_alloc | apply Kd.S_drewN | apply Kd.S_drew)); exact HO_5.out) (Kd.R_base ho0) hb); have n1_ := Aside0.mk (Kd.R_lower ho0 (below_size (by repeat (first | (with_reducible first | exact HB.out | apply below_alloc | apply pw_below_drewN | apply below_drew1 | refine below_set ?_ GE101.out) | exact HB.out)))); have n2_ := Aside0.mk (blk_below (g := gb101) (o := .cells #[.slice A0_0 l0_0.length c0_0, .int .i64 a0_1] 34 (0, 0)) (by (with_reducible repeat (first | refine blk_drewN ?_ _ | refine blk_drew ?_ | refine blk_alloc ?_ _)); exact BK101.out) hb); have n3_ := Aside0.mk (below_step (by repeat (first | (with_reducible first | exact HB.out | apply below_alloc | apply pw_below_drewN | apply below_drew1 | refine below_set ?_ GE101.out) | exact HB.out)) hb); clear HO_5; clear BK101; clear HB; have HO_5 := n0_; have HO104 := n1_; have BK101 := n2_; have HB := n3_; clear n0_ n1_ n2_ n3_; (try clear hb); (try clear hb2); (try clear hk); (try clear hi); (try clear ho0)) | ((with_reducible refine gate_dst (N := 34) rfl ?_); (try (refine gate_guard (by rfl) ?_; dsimp only)); refine Kd.R_lit (Kd.int .i64) _ 3 ?hg (N := 34) ?hd (xs := ([x12_1] : List Int)) (inner := [.int .i64 x12_1]) (ok := fun _ => True) (okp := fun _ => True) ?hr ?hp (fun _ hk => hk) trivial (Below.refl _ _) (Nat.le_refl _) (by simp) ?_; (case hd => rfl); (case hg => rfl); (case hr => first | (go_simp; done) | (go_simp; rfl)); (case hp => exact (Reps.one (show Kd.M (Kd.int .i64) _ _ _ x12_1 [.int .i64 x12_1] from rfl) (Reps.none _ _))); intro v107 w16 ho17 hb hg_ hnew_; clear hg_ hnew_; (first | rw [← Ny106.out] at ho17 | (simp only [Int.reduceToNat] at ho17; rw [← Ny106.out] at ho17)); have n0_ := Aside0.mk (Kd.S_elder' (by (with_reducible repeat (first | apply Kd.S_alloc | apply Kd.S_drewN | apply Kd.S_drew)); exact HO_5.out) (Kd.R_base ho17) hb); have n1_ := Aside0.mk (Kd.R_elder' (by (with_reducible repeat (first | apply Kd.R_alloc | apply Kd.R_drewN | apply Kd.R_drew)); exact HO104.out) (Kd.R_base ho17) hb); have n2_ := Aside0.mk (Kd.R_lower (Kd.R_new' ho17 (Kd.R_lt (by (with_reducible repeat (first | apply Kd.R_alloc | apply Kd.R_drewN | apply Kd.R_drew)); exact HO104.out))) (below_size (by repeat (first | (with_reducible first | exact HB.out | apply below_alloc | apply pw_below_drewN | apply below_drew1 | refine below_set ?_ GE101.out) | exact HB.out)))); have n3_ := Aside0.mk (blk_below (g := gb101) (o := .cells #[.slice A0_0 l0_0.length c0_0, .int .i64 a0_1] 34 (0, 0)) (by (with_reducible repeat (first | refine blk_drewN ?_ _ | refine blk_drew ?_ | refine blk_alloc ?_ _)); exact BK101.out) hb); have n4_ := Aside0.mk (below_step (by repeat (first | (with_reducible first | exact HB.out | apply below_alloc | apply pw_below_drewN | apply below_drew1 | refine below_set ?_ GE101.out) | exact HB.out)) hb); clear HO_5; clear HO104; clear BK101; clear HB; have HO_5 := n0_; have HO104 := n1_; have HO108 := n2_; have BK101 := n3_; have HB := n4_; clear n0_ n1_ n2_ n3_ n4_; clear hb ho17; obtain ⟨Ao19, co19, eo19⟩ := Kd.R_slice HO104.out; subst eo19) | ((with_reducible refine gate_builtin (b := .append) (xs := #[.tmp 34, .tmp 35]) rfl ?_); (try (refine gate_guard (by rfl) ?_; dsimp only)); at_builtin; refine Kd.R_append_rows (Kd.int .i64) (w0 := w) w.heap.size rfl (.tmp 34) (.tmp 35) 22 3 (.int .i64 0) 8 rfl Try.underlying22 info3 rfl (by decide) (by omega) v107 y106 t102 _ _ _ (fun k_ => some k_ ≠ (.slice Ao19 t102.length co19 : Value).ownBlock) (fun _ => False) rfl rfl ?aO ?aR (fun _ _ h => h) (fun _ h => h.elim) ?aF ?aB ?aS ?aL ?_; (case aR => repeat (first | exact (Kd.R_reads' HO104.out).2.2 | (with_reducible refine Kd.C_alloc ?_ _) | (with_reducible refine Kd.C_drewN ?_ _) | (with_reducible refine Kd.C_drew ?_))); (case aB => exact (by repeat (first | (with_reducible first | exact HB.out | apply below_alloc | apply pw_below_drewN | apply below_drew1 | refine below_set ?_ GE101.out) | exact HB.out))); (case aF => exact (fun k_ hk => Kd.fresh' (Kd.R_lt (by (with_reducible repeat (first | apply Kd.R_alloc | apply Kd.R_drewN | apply Kd.R_drew)); exact HO104.out)) k_ hk)); (case aO => exact (by (with_reducible repeat (first | apply Kd.R_alloc | apply Kd.R_drewN | apply Kd.R_drew)); exact Kd.R_mono HO108.out (fun _ hk => hk.2))); (case aS => exact (below_size (by repeat (first | (with_reducible first | exact HB.out | apply below_alloc | apply pw_below_drewN | apply below_drew1 | refine below_set ?_ GE101.out) | exact HB.out)))); (case aL => have := LMc12.out; omega); intro v110 w18 ho hb hg hat; rw [← Ny109.out] at ho; have n0_ := Aside0.mk (Kd.S_after (ok := (fun k_ => some k_ ≠ (.slice Ao19 t102.length co19 : Value).ownBlock)) (by (with_reducible repeat (first | apply Kd.S_alloc | apply Kd.S_drewN | apply Kd.S_drew)); exact Kd.S_mono HO_5.out (fun _ hk => ⟨hk.1.2, hk.2⟩)) hg hat); have n1_ := Aside0.mk (blk_grown (g := gb101) (o := .cells #[.slice A0_0 l0_0.length c0_0, .int .i64 a0_1] 34 (0, 0)) (by (with_reducible repeat (first | refine blk_drewN ?_ _ | refine blk_drew ?_ | refine blk_alloc ?_ _)); exact BK101.out) hg (Kd.R_ne HO108.out BK101.out (by decide))); have n2_ := Aside0.mk (Kd.R_after (ok := (fun _ => True)) (by (with_reducible repeat (first | apply Kd.R_alloc | apply Kd.R_drewN | apply Kd.R_drew)); exact HO104.out) hg hat); have n3_ := Aside0.mk (hb); have n4_ := Aside0.mk (ho); clear HO_5; clear BK101; clear HO104; clear HB; clear HO108; have HO_5 := n0_; have BK101 := n1_; have HO104 := n2_; have HB := n3_; have HO111 := n4_; clear n0_ n1_ n2_ n3_ n4_; clear ho hb hg hat; obtain ⟨Ao21, co21, eo21⟩ := Kd.R_slice HO111.out; subst eo21) | ((with_reducible refine gate_builtin (b := .append) (xs := #[.tmp 32, .tmp 37]) rfl ?_); (try (refine gate_guard (by rfl) ?_; dsimp only)); at_builtin; refine Kd.S_append (Kd.slice 3 (Kd.int .i64)) (w0 := w) w.heap.size rfl (.tmp 32) (.tmp 37) 31 22 (.slice none 0 0) 24 rfl Try.underlying31 info22 rfl (by decide) (by omega) u5 x5_1 y109 [.slice Ao21 y109.length co21] (fun k_ => some k_ ≠ (.slice Ao19 t102.length co19 : Value).ownBlock) (fun k_ => some k_ = (.slice Ao21 y109.length co21 : Value).ownBlock) rfl rfl ?aP (fun k_ hk_ => ((Kd.R_mono (ok' := fun k_ => ((fun k_ => some k_ ≠ (.slice Ao19 t102.length co19 : Value).ownBlock)) k_ ∧ some k_ ≠ (u5 : Value).ownBlock) (Kd.R_apart' (HO111.out) (Kd.S_typed HO_5.out) (by decide)) (fun k_ hk => ⟨hk.1, hk.2⟩))).1 k_ hk_.symm) ?aF ?aO ?aB ?aS ?aL ?_; (case aP => exact Kd.M_row (Kd.R_mono (Kd.R_tight rfl (Kd.R_mono (ok' := fun k_ => ((fun k_ => some k_ ≠ (.slice Ao19 t102.length co19 : Value).ownBlock)) k_ ∧ some k_ ≠ (u5 : Value).ownBlock) (Kd.R_apart' (HO111.out) (Kd.S_typed HO_5.out) (by decide)) (fun k_ hk => ⟨hk.1, hk.2⟩))) (fun _ h_ => h_))); (case aB => exact (by repeat (first | (with_reducible first | exact HB.out | apply below_alloc | apply pw_below_drewN | apply below_drew1 | refine below_set ?_ GE101.out) | exact HB.out))); (case aF => exact (fun k_ hk => Kd.fresh' (Kd.R_lt (by (with_reducible repeat (first | apply Kd.R_alloc | apply Kd.R_drewN | apply Kd.R_drew)); exact HO104.out)) k_ hk)); (case aO => exact (by (with_reducible repeat (first | apply Kd.S_alloc | apply Kd.S_drewN | apply Kd.S_drew)); exact Kd.S_mono HO_5.out (fun k_ hk => ⟨hk.1, fun e_ => hk.2 e_⟩))); (case aS => exact (below_size (by repeat (first | (with_reducible first | exact HB.out | apply below_alloc | apply pw_below_drewN | apply below_drew1 | refine below_set ?_ GE101.out) | exact HB.out)))); (case aL => have := LMc13.out; omega); intro v113 w20 ho hb hg hat; rw [← Ny112.out] at ho; have n0_ := Aside0.mk (blk_grown (g := gb101) (o := .cells #[.slice A0_0 l0_0.length c0_0, .int .i64 a0_1] 34 (0, 0)) (by (with_reducible repeat (first | refine blk_drewN ?_ _ | refine blk_drew ?_ | refine blk_alloc ?_ _)); exact BK101.out) hg (Kd.S_ne HO_5.out BK101.out (by decide))); have n1_ := Aside0.mk (Kd.R_over' (by (with_reducible repeat (first | apply Kd.R_alloc | apply Kd.R_drewN | apply Kd.R_drew)); exact HO104.out) (Kd.S_typed (by (with_reducible repeat (first | apply Kd.S_alloc | apply Kd.S_drewN | apply Kd.S_drew)); exact HO_5.out)) (by decide) hg); have n2_ := Aside0.mk (hb); have n3_ := Aside0.mk (ho); clear BK101; clear HO104; clear HB; clear HO_5; clear HO111; have BK101 := n0_; have HO104 := n1_; have HB := n2_; have HO114 := n3_; clear n0_ n1_ n2_ n3_; clear ho hb hg hat))
          go_roundg kj5
          case measure => have := HK1.out; have := HJ5.out; omega
          case rel => exact ⟨(y112), (wrap64 (x12_1 + 1)), (by first | rfl | (simp; done) | (simp [*]; done)), H', ⟨by have := HK1.out; have := HJ5.out; omega⟩, ⟨by (with_reducible repeat (first | apply Kd.S_alloc | apply Kd.S_drewN | apply Kd.S_drew)); exact Kd.S_mono HO114.out (fun _ hk => trivial)⟩, ⟨by (with_reducible repeat (first | refine blk_drewN ?_ _ | refine blk_drew ?_ | refine blk_alloc ?_ _)); exact BK101.out⟩, ⟨by repeat (first | (with_reducible first | exact HB.out | apply below_alloc | apply pw_below_drewN | apply below_drew1 | refine below_set ?_ GE101.out) | exact HB.out)⟩⟩
         ·rw [if_neg c13] at H
          exact absurd H (by simp)
        ·rw [if_neg c12] at H
         exact absurd H (by simp)
       ·replace c11 := Bool.eq_false_iff.mpr c11
        subst c11
        have H1 : (spec_slList.l0 kj5 a1 x5_1 (l0_0.length : Int) (wrap64 (x12_1 + 1)) l0_0 a0_1) = some r := by rw [if_neg (show ¬ (false = true) by decide)] at H; exact H
        clear H
        have H := H1
        clear H1
        have H' := Aside0.mk H
        clear H
        have hcz22_0 : wc.cell? ⟨gb101, 0, none⟩ = some (.slice A0_0 l0_0.length c0_0) := (blk_cell BK101.out 0).trans rfl
        have hcz22_1 : wc.cell? ⟨gb101, 1, none⟩ = some (.int .i64 a0_1) := (blk_cell BK101.out 1).trans rfl
        have hfz22_0 := blk_frozen BK101.out 0
        have hfz22_1 := blk_frozen BK101.out 1
        go_wp2_with (first | ((with_reducible refine gate_callee (f := 38) rfl ?_); refine goesL_ (some 28) rfl rfl Try.func38 (by kernel_rfl) rfl #[.agg #[.slice A0_0 l0_0.length c0_0, .int .i64 a0_1], .int .i64 x12_1, .bool a1] rfl (by (try simp only [List.map_toArray, List.map_cons, List.map_nil]); first | done | rfl | (simp only [List.length_drop, List.length_take]; rfl)) ?_; (with_reducible refine (spec_slUntold.calls kj5 _ _ l0_0 a0_1 x12_1 a1 t102 false _ ?side1 ?side2 A10.out).mono ?_); (case side1 => repeat (first | exact (Kd.C_below HR0_0.out HB.out) | (with_reducible refine Kd.C_alloc ?_ _) | (with_reducible refine Kd.C_drewN ?_ _) | (with_reducible refine Kd.C_drew ?_))); (case side2 => exact HC0_0.out); rintro e w23 ⟨v103, rfl, ho0, hb⟩; refine ⟨_, rfl, ?_⟩; have n0_ := Aside0.mk (Kd.S_elder' (by (with_reducible repeat (first | apply Kd.S_alloc | apply Kd.S_drewN | apply Kd.S_drew)); exact HO_5.out) (Kd.R_base ho0) hb); have n1_ := Aside0.mk (Kd.R_lower ho0 (below_size (by repeat (first | (with_reducible first | exact HB.out | apply below_alloc | apply pw_below_drewN | apply below_drew1 | refine below_set ?_ GE101.out) | exact HB.out)))); have n2_ := Aside0.mk (blk_below (g := gb101) (o := .cells #[.slice A0_0 l0_0.length c0_0, .int .i64 a0_1] 34 (0, 0)) (by (with_reducible repeat (first | refine blk_drewN ?_ _ | refine blk_drew ?_ | refine blk_alloc ?_ _)); exact BK101.out) hb); have n3_ := Aside0.mk (below_step (by repeat (first | (with_reducible first | exact HB.out | apply below_alloc | apply pw_below_drewN | apply below_drew1 | refine below_set ?_ GE101.out) | exact HB.out)) hb); clear HO_5; clear BK101; clear HB; have HO_5 := n0_; have HO104 := n1_; have BK101 := n2_; have HB := n3_; clear n0_ n1_ n2_ n3_; (try clear hb); (try clear hb2); (try clear hk); (try clear hi); (try clear ho0)))
        go_roundg kj5
        case measure => have := HK1.out; have := HJ5.out; omega
        case rel => exact ⟨(x5_1), (wrap64 (x12_1 + 1)), (by first | rfl | (simp; done) | (simp [*]; done)), H', ⟨by have := HK1.out; have := HJ5.out; omega⟩, ⟨by (with_reducible repeat (first | apply Kd.S_alloc | apply Kd.S_drewN | apply Kd.S_drew)); exact Kd.S_mono HO_5.out (fun _ hk => trivial)⟩, ⟨by (with_reducible repeat (first | refine blk_drewN ?_ _ | refine blk_drew ?_ | refine blk_alloc ?_ _)); exact BK101.out⟩, ⟨by repeat (first | (with_reducible first | exact HB.out | apply below_alloc | apply pw_below_drewN | apply below_drew1 | refine below_set ?_ GE101.out) | exact HB.out)⟩⟩
   ·rw [if_neg c5] at H
    have c5b0 : decide (x12_1 < (l0_0.length : Int)) = false := decide_eq_false c5
    clear c5
    obtain rfl := Option.some.inj H
    go_wp2
    go_ret
    exact ⟨_, by first | rfl | (simp [errW_none, errW_some] <;> rfl) | (simp [*, errW_none, errW_some] <;> rfl), by (with_reducible repeat (first | apply Kd.S_alloc | apply Kd.S_drewN | apply Kd.S_drew)); exact HO_5.out, by repeat (first | (with_reducible first | exact HB.out | apply below_alloc | apply pw_below_drewN | apply below_drew1 | refine below_set ?_ GE101.out) | exact HB.out)⟩
end Go.Proofs.Ytafegaaklpdgiaa.Q

namespace Go.Proofs.Ytafegaaklpdgiaa.Q
open Go.RowKit Go.Proofs.YtafegaaklpdgiaaW.PrintWords Go.Proofs.YtafegaaklpdgiaaW.PrintLast Go.Proofs.YtafegaaklpdgiaaW.PrintMore
attribute [local go_sem] max2_int min2_int max_two min_two max_three min_three max_four min_four   -- for this text's walks alone
set_option linter.unusedVariables false
set_option linter.unusedSimpArgs false
def spec_UntoldSingles.f (k : Nat) (l0_0 : List Int) (a0_1 : Int) : Option ((List (List Int)) × Bool) := (spec_slGood.f k l0_0 a0_1).bind fun t102 => (if t102 = true then ((spec_slList.f k l0_0 a0_1 false).bind fun t103 => (some (t103,true))) else (some (([] : List (List Int)),false)))
theorem spec_UntoldSingles.mono : ∀ a0 a1 k, LeO (spec_UntoldSingles.f k a0 a1) (spec_UntoldSingles.f (k + 1) a0 a1) := by
 intro a0 a1 k
 unfold spec_UntoldSingles.f
 repeat' first
   | (with_reducible exact spec_slGood.mono _ _ _)
   | (with_reducible exact spec_slList.mono _ _ _ _)
   | (with_reducible exact LeO.refl _)
   | (with_reducible exact LeO.none _)
   | (with_reducible refine LeO.ite ?_ ?_)
   | (with_reducible refine LeO.bind ?_ (fun _ => ?_))
   | exact spec_slGood.mono _ _ _
   | exact spec_slList.mono _ _ _ _
   | exact LeO.none _
   | refine LeO.ite ?_ ?_
   | refine LeO.bind ?_ (fun _ => ?_)
set_option maxHeartbeats 8000000 in
set_option maxRecDepth 100000 in
theorem spec_UntoldSingles.calls (k : Nat) (A0_0 : Option Addr) (c0_0 : Nat) (l0_0 : List Int) (a0_1 : Int) (r1 : List (List Int)) (r2 : Bool) (w : World) (hr0_0 : Kd.C (Kd.int .i64) w A0_0 l0_0.length l0_0) (hc0_0 : l0_0.length ≤ c0_0) (h : spec_UntoldSingles.f k l0_0 a0_1 = some (r1, r2)) :
  Calls Try.prog 12 #[.agg #[.slice A0_0 l0_0.length c0_0, .int .i64 a0_1]] w fun e w' => ∃ v0_ : Value, e = .returned (.tuple #[v0_, .bool r2]) ∧ Kd.S (Kd.slice 3 (Kd.int .i64)) 22 w' w.heap.size (fun _ => True) v0_ r1 ∧ Below w.heap.size w w' := by
 have hu34 := Try.underlying34
 have HR0_0 := Aside0.mk hr0_0
 have HC0_0 := Aside0.mk hc0_0
 clear hr0_0 hc0_0
 have HB := Aside0.mk (Below.refl w.heap.size w)
 have H : ((spec_slGood.f k l0_0 a0_1).bind fun t102 => (if t102 = true then ((spec_slList.f k l0_0 a0_1 false).bind fun t103 => (some (t103,true))) else (some (([] : List (List Int)),false)))) = some (r1, r2) := h
 clear h
 replace H := Option.bind_eq_some_iff.mp H
 obtain ⟨t102, A20, H⟩ := H
 replace H : (if t102 = true then ((spec_slList.f k l0_0 a0_1 false).bind fun t103 => (some (t103,true))) else (some (([] : List (List Int)),false))) = some (r1, r2) := H
 have A2 := Aside0.mk A20
 clear A20
 by_cases c3 : t102 = true
 ·subst c3
  have H1 : ((spec_slList.f k l0_0 a0_1 false).bind fun t103 => (some (t103,true))) = some (r1, r2) := by rw [if_pos rfl] at H; exact H
  clear H
  have H := H1
  clear H1
  replace H := Option.bind_eq_some_iff.mp H
  obtain ⟨t103, A40, H⟩ := H
  replace H : (some (t103,true)) = some (r1, r2) := H
  have A4 := Aside0.mk A40
  clear A40
  simp only [Option.some.injEq, Prod.mk.injEq] at H
  obtain ⟨rfl, rfl⟩ := H
  go_enter Try.func12, Try.ntmps12
  go_wp2_with (first | ((with_reducible refine gate_dst (N := 1) rfl ?_); refine box_event ?hg (N := 1) ?hd (cs := #[.slice A0_0 l0_0.length c0_0, .int .i64 a0_1]) (t := 34) ?hr ?_; (case hd => rfl); (case hg => rfl); (case hr => first | (go_simp; done) | (go_simp; rfl)); intro gb101 hg w5 hbox hb; have n0_ := Aside0.mk (below_step (by repeat (first | (with_reducible first | exact HB.out | apply below_alloc | apply pw_below_drewN | apply below_drew1) | exact HB.out)) hb); have n1_ := Aside0.mk (hbox); have n2_ := Aside0.mk ((by rw [hg]; exact (below_size (by repeat (first | (with_reducible first | exact HB.out | apply below_alloc | apply pw_below_drewN | apply below_drew1) | exact HB.out))) : w.heap.size ≤ gb101)); have n3_ := Aside0.mk ((by rw [hg]; exact (below_size (by repeat (first | (with_reducible first | exact HB.out | apply below_alloc | apply pw_below_drewN | apply below_drew1) | exact HB.out))) : w.heap.size ≤ gb101)); clear HB; have HB := n0_; have BK101 := n1_; have GW101 := n2_; have GE101 := n3_; clear n0_ n1_ n2_ n3_; clear hb hbox hg; have hcz6_0 : w5.cell? ⟨gb101, 0, none⟩ = some (.slice A0_0 l0_0.length c0_0) := (blk_cell BK101.out 0).trans rfl; have hcz6_1 : w5.cell? ⟨gb101, 1, none⟩ = some (.int .i64 a0_1) := (blk_cell BK101.out 1).trans rfl; have hfz6_0 := blk_frozen BK101.out 0; have hfz6_1 := blk_frozen BK101.out 1) | ((with_reducible refine gate_callee (f := 29) rfl ?_); refine goesL_ (some 5) rfl rfl Try.func29 (by kernel_rfl) rfl #[.agg #[.slice A0_0 l0_0.length c0_0, .int .i64 a0_1]] rfl (by (try simp only [List.map_toArray, List.map_cons, List.map_nil]); first | done | rfl | (simp only [List.length_drop, List.length_take]; rfl)) ?_; (with_reducible refine (spec_slGood.calls k _ _ l0_0 a0_1 true _ ?side1 ?side2 A2.out).mono ?_); (case side1 => repeat (first | exact (Kd.C_below HR0_0.out HB.out) | (with_reducible refine Kd.C_alloc ?_ _) | (with_reducible refine Kd.C_drewN ?_ _) | (with_reducible refine Kd.C_drew ?_))); (case side2 => exact HC0_0.out); rintro e w7 ⟨rfl, hb⟩; refine ⟨_, rfl, ?_⟩; have n0_ := Aside0.mk (blk_below (g := gb101) (o := .cells #[.slice A0_0 l0_0.length c0_0, .int .i64 a0_1] 34 (0, 0)) (by (with_reducible repeat (first | refine blk_drewN ?_ _ | refine blk_drew ?_ | refine blk_alloc ?_ _)); exact BK101.out) hb); have n1_ := Aside0.mk (below_step (by repeat (first | (with_reducible first | exact HB.out | apply below_alloc | apply pw_below_drewN | apply below_drew1 | refine below_set ?_ GE101.out) | exact HB.out)) hb); clear BK101; clear HB; have BK101 := n0_; have HB := n1_; clear n0_ n1_; (try clear hb); (try clear hb2); (try clear hk); (try clear hi); have hcz8_0 : w7.cell? ⟨gb101, 0, none⟩ = some (.slice A0_0 l0_0.length c0_0) := (blk_cell BK101.out 0).trans rfl; have hcz8_1 : w7.cell? ⟨gb101, 1, none⟩ = some (.int .i64 a0_1) := (blk_cell BK101.out 1).trans rfl; have hfz8_0 := blk_frozen BK101.out 0; have hfz8_1 := blk_frozen BK101.out 1) | ((with_reducible refine gate_callee (f := 30) rfl ?_); refine goesL_ (some 8) rfl rfl Try.func30 (by kernel_rfl) rfl #[.agg #[.slice A0_0 l0_0.length c0_0, .int .i64 a0_1], .bool false] rfl (by (try simp only [List.map_toArray, List.map_cons, List.map_nil]); first | done | rfl | (simp only [List.length_drop, List.length_take]; rfl)) ?_; (with_reducible refine (spec_slList.calls k _ _ l0_0 a0_1 false t103 _ ?side1 ?side2 A4.out).mono ?_); (case side1 => repeat (first | exact (Kd.C_below HR0_0.out HB.out) | (with_reducible refine Kd.C_alloc ?_ _) | (with_reducible refine Kd.C_drewN ?_ _) | (with_reducible refine Kd.C_drew ?_))); (case side2 => exact HC0_0.out); rintro e w9 ⟨v104, rfl, ho0, hb⟩; refine ⟨_, rfl, ?_⟩; have n0_ := Aside0.mk (Kd.S_lower ho0 (below_size (by repeat (first | (with_reducible first | exact HB.out | apply below_alloc | apply pw_below_drewN | apply below_drew1 | refine below_set ?_ GE101.out) | exact HB.out)))); have n1_ := Aside0.mk (blk_below (g := gb101) (o := .cells #[.slice A0_0 l0_0.length c0_0, .int .i64 a0_1] 34 (0, 0)) (by (with_reducible repeat (first | refine blk_drewN ?_ _ | refine blk_drew ?_ | refine blk_alloc ?_ _)); exact BK101.out) hb); have n2_ := Aside0.mk (below_step (by repeat (first | (with_reducible first | exact HB.out | apply below_alloc | apply pw_below_drewN | apply below_drew1 | refine below_set ?_ GE101.out) | exact HB.out)) hb); clear BK101; clear HB; have HO105 := n0_; have BK101 := n1_; have HB := n2_; clear n0_ n1_ n2_; (try clear hb); (try clear hb2); (try clear hk); (try clear hi); (try clear ho0)))
  go_ret2
  exact ⟨_, by first | rfl | (simp [errW_none, errW_some] <;> rfl) | (simp [*, errW_none, errW_some] <;> rfl), by (with_reducible repeat (first | apply Kd.S_alloc | apply Kd.S_drewN | apply Kd.S_drew)); exact HO105.out, by repeat (first | (with_reducible first | exact HB.out | apply below_alloc | apply pw_below_drewN | apply below_drew1 | refine below_set ?_ GE101.out) | exact HB.out)⟩
 ·replace c3 := Bool.eq_false_iff.mpr c3
  subst c3
  have H1 : (some (([] : List (List Int)),false)) = some (r1, r2) := by rw [if_neg (show ¬ (false = true) by decide)] at H; exact H
  clear H
  have H := H1
  clear H1
  simp only [Option.some.injEq, Prod.mk.injEq] at H
  obtain ⟨rfl, rfl⟩ := H
  go_enter Try.func12, Try.ntmps12
  go_wp2_with (first | ((with_reducible refine gate_dst (N := 1) rfl ?_); refine box_event ?hg (N := 1) ?hd (cs := #[.slice A0_0 l0_0.length c0_0, .int .i64 a0_1]) (t := 34) ?hr ?_; (case hd => rfl); (case hg => rfl); (case hr => first | (go_simp; done) | (go_simp; rfl)); intro gb101 hg w10 hbox hb; have n0_ := Aside0.mk (below_step (by repeat (first | (with_reducible first | exact HB.out | apply below_alloc | apply pw_below_drewN | apply below_drew1) | exact HB.out)) hb); have n1_ := Aside0.mk (hbox); have n2_ := Aside0.mk ((by rw [hg]; exact (below_size (by repeat (first | (with_reducible first | exact HB.out | apply below_alloc | apply pw_below_drewN | apply below_drew1) | exact HB.out))) : w.heap.size ≤ gb101)); have n3_ := Aside0.mk ((by rw [hg]; exact (below_size (by repeat (first | (with_reducible first | exact HB.out | apply below_alloc | apply pw_below_drewN | apply below_drew1) | exact HB.out))) : w.heap.size ≤ gb101)); clear HB; have HB := n0_; have BK101 := n1_; have GW101 := n2_; have GE101 := n3_; clear n0_ n1_ n2_ n3_; clear hb hbox hg; have hcz11_0 : w10.cell? ⟨gb101, 0, none⟩ = some (.slice A0_0 l0_0.length c0_0) := (blk_cell BK101.out 0).trans rfl; have hcz11_1 : w10.cell? ⟨gb101, 1, none⟩ = some (.int .i64 a0_1) := (blk_cell BK101.out 1).trans rfl; have hfz11_0 := blk_frozen BK101.out 0; have hfz11_1 := blk_frozen BK101.out 1) | ((with_reducible refine gate_callee (f := 29) rfl ?_); refine goesL_ (some 5) rfl rfl Try.func29 (by kernel_rfl) rfl #[.agg #[.slice A0_0 l0_0.length c0_0, .int .i64 a0_1]] rfl (by (try simp only [List.map_toArray, List.map_cons, List.map_nil]); first | done | rfl | (simp only [List.length_drop, List.length_take]; rfl)) ?_; (with_reducible refine (spec_slGood.calls k _ _ l0_0 a0_1 false _ ?side1 ?side2 A2.out).mono ?_); (case side1 => repeat (first | exact (Kd.C_below HR0_0.out HB.out) | (with_reducible refine Kd.C_alloc ?_ _) | (with_reducible refine Kd.C_drewN ?_ _) | (with_reducible refine Kd.C_drew ?_))); (case side2 => exact HC0_0.out); rintro e w12 ⟨rfl, hb⟩; refine ⟨_, rfl, ?_⟩; have n0_ := Aside0.mk (blk_below (g := gb101) (o := .cells #[.slice A0_0 l0_0.length c0_0, .int .i64 a0_1] 34 (0, 0)) (by (with_reducible repeat (first | refine blk_drewN ?_ _ | refine blk_drew ?_ | refine blk_alloc ?_ _)); exact BK101.out) hb); have n1_ := Aside0.mk (below_step (by repeat (first | (with_reducible first | exact HB.out | apply below_alloc | apply pw_below_drewN | apply below_drew1 | refine below_set ?_ GE101.out) | exact HB.out)) hb); clear BK101; clear HB; have BK101 := n0_; have HB := n1_; clear n0_ n1_; (try clear hb); (try clear hb2); (try clear hk); (try clear hi)))
  go_ret2
  exact ⟨_, by first | rfl | (simp [errW_none, errW_some] <;> rfl) | (simp [*, errW_none, errW_some] <;> rfl), by first | exact Kd.S_nil _ _ _ _ _ | exact Kd.N_nil _ _ _ _ _ | exact Kd.V_nil _ _ _ _ _ | exact Kd.Q_nil _ _ _ _ _ | exact Kd.R_nil _ _ _ _ _, by repeat (first | (with_reducible first | exact HB.out | apply below_alloc | apply pw_below_drewN | apply below_drew1 | refine below_set ?_ GE101.out) | exact HB.out)⟩
end Go.Proofs.Ytafegaaklpdgiaa.Q

namespace Go.Proofs.Ytafegaaklpdgiaa.Q
open Go.RowKit Go.Proofs.YtafegaaklpdgiaaW.PrintWords Go.Proofs.YtafegaaklpdgiaaW.PrintLast Go.Proofs.YtafegaaklpdgiaaW.PrintMore
attribute [local go_sem] max2_int min2_int max_two min_two max_three min_three max_four min_four   -- for this text's walks alone
set_option linter.unusedVariables false
set_option linter.unusedSimpArgs false
def impl_bit.f (a0 : Bool) : Option (Int) := if a0 = true then (some 1) else (some 0)
set_option maxHeartbeats 8000000 in
set_option maxRecDepth 100000 in
theorem impl_bit.calls (a0 : Bool) (r : Int) (w : World) (h : impl_bit.f a0 = some r) :
  Calls Try.prog 35 #[.bool a0] w fun e w' => e = .returned (.int .i64 r) ∧ Drawn0 w w' := by
 have H : (if a0 = true then (some 1) else (some 0)) = some r := h
 clear h
 by_cases c2 : a0 = true
 ·subst c2
  have H1 : (some 1) = some r := by rw [if_pos rfl] at H; exact H
  clear H
  have H := H1
  clear H1
  obtain rfl := Option.some.inj H
  go_enter Try.func35, Try.ntmps35
  go_wp2
  go_ret
  exact ⟨by first | rfl | (simp; done) | (simp [*]; done), by repeat (first | exact Drawn0.refl _ | apply Drawn0.step)⟩
 ·replace c2 := Bool.eq_false_iff.mpr c2
  subst c2
  have H1 : (some 0) = some r := by rw [if_neg (show ¬ (false = true) by decide)] at H; exact H
  clear H
  have H := H1
  clear H1
  obtain rfl := Option.some.inj H
  go_enter Try.func35, Try.ntmps35
  go_wp2
  go_ret
  exact ⟨by first | rfl | (simp; done) | (simp [*]; done), by repeat (first | exact Drawn0.refl _ | apply Drawn0.step)⟩
end Go.Proofs.Ytafegaaklpdgiaa.Q

namespace Go.Proofs.Ytafegaaklpdgiaa.Q
open Go.RowKit Go.Proofs.YtafegaaklpdgiaaW.PrintWords Go.Proofs.YtafegaaklpdgiaaW.PrintLast Go.Proofs.YtafegaaklpdgiaaW.PrintMore
attribute [local go_sem] max2_int min2_int max_two min_two max_three min_three max_four min_four   -- for this text's walks alone
set_option linter.unusedVariables false
set_option linter.unusedSimpArgs false
def impl_Check_allUntold.l0 : Nat → Bool → List (List Int) → Int → Int → List Int → Int → Option ((List (List Int)))
 | 0, _, _, _, _, _, _ => none
 | k + 1, x1, x5, x16, x17, x102000, x102001 => if x17 < x16 then ((impl_Check_untold.f k x102000 x102001 x17 x1).bind fun bt106 => (if bt106.2.2 = true then (if x5.length < 5864062014805 then (impl_Check_allUntold.l0 k x1 (x5 ++ [(([x17, bt106.1, bt106.2.1] : List Int))]) x16 (wrap64 (x17 + 1)) x102000 x102001) else (none)) else (impl_Check_allUntold.l0 k x1 x5 x16 (wrap64 (x17 + 1)) x102000 x102001))) else (some x5)
def impl_Check_allUntold.f (k : Nat) (l0_0 : List Int) (a0_1 : Int) (a1 : Bool) : Option ((List (List Int))) := (impl_bit.f a1).bind fun t105 => (impl_Check_allUntold.l0 k a1 (([] : List (List Int))) (wrap64 ((l0_0.length : Int) - t105)) 0 l0_0 a0_1)
theorem impl_Check_allUntold.mono_l : ∀ k, (∀ y0 y1 y2 y3 y4 y5, LeO (impl_Check_allUntold.l0 k y0 y1 y2 y3 y4 y5) (impl_Check_allUntold.l0 (k + 1) y0 y1 y2 y3 y4 y5))
 | 0 => fun _ _ _ _ _ _ r h => by simp [impl_Check_allUntold.l0] at h
 | k + 1 => by
  have ih0 := impl_Check_allUntold.mono_l k
  ·intro y0 y1 y2 y3 y4 y5
   unfold impl_Check_allUntold.l0
   repeat' first
   | (with_reducible exact ih0 _ _ _ _ _ _)
   | (with_reducible exact impl_Check_untold.mono _ _ _ _ _)
   | (with_reducible exact LeO.refl _)
   | (with_reducible exact LeO.none _)
   | (with_reducible refine LeO.ite ?_ ?_)
   | (with_reducible refine LeO.bind ?_ (fun _ => ?_))
   | exact ih0 _ _ _ _ _ _
   | exact impl_Check_untold.mono _ _ _ _ _
   | exact LeO.none _
   | refine LeO.ite ?_ ?_
   | refine LeO.bind ?_ (fun _ => ?_)
theorem impl_Check_allUntold.mono : ∀ a0 a1 a2 k, LeO (impl_Check_allUntold.f k a0 a1 a2) (impl_Check_allUntold.f (k + 1) a0 a1 a2) := by
 intro a0 a1 a2 k
 have ih0 := impl_Check_allUntold.mono_l k
 unfold impl_Check_allUntold.f
 repeat' first
   | (with_reducible exact ih0 _ _ _ _ _ _)
   | (with_reducible exact impl_Check_untold.mono _ _ _ _ _)
   | (with_reducible exact LeO.refl _)
   | (with_reducible exact LeO.none _)
   | (with_reducible refine LeO.ite ?_ ?_)
   | (with_reducible refine LeO.bind ?_ (fun _ => ?_))
   | exact ih0 _ _ _ _ _ _
   | exact impl_Check_untold.mono _ _ _ _ _
   | exact LeO.none _
   | refine LeO.ite ?_ ?_
   | refine LeO.bind ?_ (fun _ => ?_)
set_option maxHeartbeats 8000000 in
set_option maxRecDepth 100000 in
theorem impl_Check_allUntold.calls (k : Nat) (A0_0 : Option Addr) (c0_0 : Nat) (l0_0 : List Int) (a0_1 : Int) (a1 : Bool) (r : List (List Int)) (w : World) (hr0_0 : Kd.C (Kd.int .i64) w A0_0 l0_0.length l0_0) (hc0_0 : l0_0.length ≤ c0_0) (h : impl_Check_allUntold.f k l0_0 a0_1 a1 = some r) :
  Calls Try.prog 26 #[.agg #[.slice A0_0 l0_0.length c0_0, .int .i64 a0_1], .bool a1] w fun e w' => ∃ v0_ : Value, e = .returned (v0_) ∧ Kd.S (Kd.slice 3 (Kd.int .i64)) 22 w' w.heap.size (fun _ => True) v0_ r ∧ Below w.heap.size w w' := by
 have hu34 := Try.underlying34
 have HR0_0 := Aside0.mk hr0_0
 have HC0_0 := Aside0.mk hc0_0
 clear hr0_0 hc0_0
 have HB := Aside0.mk (Below.refl w.heap.size w)
 have H : ((impl_bit.f a1).bind fun t105 => (impl_Check_allUntold.l0 k a1 (([] : List (List Int))) (wrap64 ((l0_0.length : Int) - t105)) 0 l0_0 a0_1)) = some r := h
 clear h
 obtain ⟨y102, hy102⟩ : ∃ y_ : List (List Int), y_ = (([] : List (List Int))) := ⟨_, rfl⟩
 replace H : ((impl_bit.f a1).bind fun t105 => (impl_Check_allUntold.l0 k a1 y102 (wrap64 ((l0_0.length : Int) - t105)) 0 l0_0 a0_1)) = some r := by first | (rw [hy102]; with_reducible exact H) | (have H2_ := (Option.bind_some _ _).symm.trans H; rw [hy102]; with_reducible exact H2_) | (have H2_ := (Option.bind_some _ _).symm.trans H; with_reducible exact H2_) | with_reducible exact H | (rw [hy102]; exact H) | exact H
 have Ny102 := Aside0.mk hy102
 clear hy102
 replace H := Option.bind_eq_some_iff.mp H
 obtain ⟨t105, A30, H⟩ := H
 replace H : (impl_Check_allUntold.l0 k a1 y102 (wrap64 ((l0_0.length : Int) - t105)) 0 l0_0 a0_1) = some r := H
 have A3 := Aside0.mk A30
 clear A30
 have H' := Aside0.mk H
 clear H
 go_enter Try.func26, Try.ntmps26
 go_wp2_with (first | ((with_reducible refine gate_dst (N := 2) rfl ?_); refine box_event ?hg (N := 2) ?hd (cs := #[.slice A0_0 l0_0.length c0_0, .int .i64 a0_1]) (t := 34) ?hr ?_; (case hd => rfl); (case hg => rfl); (case hr => first | (go_simp; done) | (go_simp; rfl)); intro gb101 hg w4 hbox hb; have n0_ := Aside0.mk (below_step (by repeat (first | (with_reducible first | exact HB.out | apply below_alloc | apply pw_below_drewN | apply below_drew1) | exact HB.out)) hb); have n1_ := Aside0.mk (hbox); have n2_ := Aside0.mk ((by rw [hg]; exact (below_size (by repeat (first | (with_reducible first | exact HB.out | apply below_alloc | apply pw_below_drewN | apply below_drew1) | exact HB.out))) : w.heap.size ≤ gb101)); have n3_ := Aside0.mk ((by rw [hg]; exact (below_size (by repeat (first | (with_reducible first | exact HB.out | apply below_alloc | apply pw_below_drewN | apply below_drew1) | exact HB.out))) : w.heap.size ≤ gb101)); clear HB; have HB := n0_; have BK101 := n1_; have GW101 := n2_; have GE101 := n3_; clear n0_ n1_ n2_ n3_; clear hb hbox hg) | ((with_reducible refine gate_dst (N := 10) rfl ?_); refine Kd.S_lit (Kd.slice 3 (Kd.int .i64)) _ 22 ?hg (N := 10) ?hd (xs := ([] : List (List Int))) (inner := []) (ok := fun _ => True) (okp := fun _ => True) ?hr ?hp (fun _ hk => hk) trivial (Below.refl _ _) (Nat.le_refl _) (by simp) ?_; (case hd => rfl); (case hg => rfl); (case hr => first | (go_simp; done) | (go_simp; rfl)); (case hp => exact (Reps.none _ _)); intro v103 w5 ho6 hb hg_ hnew_; clear hg_ hnew_; (first | rw [← Ny102.out] at ho6 | (simp only [Int.reduceToNat] at ho6; rw [← Ny102.out] at ho6)); have n0_ := Aside0.mk (Kd.S_lower ho6 (below_size (by repeat (first | (with_reducible first | exact HB.out | apply below_alloc | apply pw_below_drewN | apply below_drew1 | refine below_set ?_ GE101.out) | exact HB.out)))); have n1_ := Aside0.mk (blk_below (g := gb101) (o := .cells #[.slice A0_0 l0_0.length c0_0, .int .i64 a0_1] 34 (0, 0)) (by (with_reducible repeat (first | refine blk_drewN ?_ _ | refine blk_drew ?_ | refine blk_alloc ?_ _)); exact BK101.out) hb); have n2_ := Aside0.mk (below_step (by repeat (first | (with_reducible first | exact HB.out | apply below_alloc | apply pw_below_drewN | apply below_drew1 | refine below_set ?_ GE101.out) | exact HB.out)) hb); clear BK101; clear HB; have HO104 := n0_; have BK101 := n1_; have HB := n2_; clear n0_ n1_ n2_; clear hb ho6; have hcz7_0 : w5.cell? ⟨gb101, 0, none⟩ = some (.slice A0_0 l0_0.length c0_0) := (blk_cell BK101.out 0).trans rfl; have hcz7_1 : w5.cell? ⟨gb101, 1, none⟩ = some (.int .i64 a0_1) := (blk_cell BK101.out 1).trans rfl; have hfz7_0 := blk_frozen BK101.out 0; have hfz7_1 := blk_frozen BK101.out 1) | (go_at_call 35; (with_reducible refine (impl_bit.calls a1 t105 _ A3.out).mono ?_); rintro e w' ⟨rfl, ⟨nd, rfl⟩⟩; (try first | exact ⟨rfl, _, World.drewN_drewN _ _ _⟩ | exact ⟨rfl, _, Eq.trans (World.drewN_drewN _ _ _) (congrArg (World.drewN _) (Nat.add_assoc _ _ _))⟩)))
 repeat (go_quiet (first | ((with_reducible refine gate_dst (N := 2) rfl ?_); refine box_event ?hg (N := 2) ?hd (cs := #[.slice A0_0 l0_0.length c0_0, .int .i64 a0_1]) (t := 34) ?hr ?_; (case hd => rfl); (case hg => rfl); (case hr => first | (go_simp; done) | (go_simp; rfl)); intro gb101 hg w4 hbox hb; have n0_ := Aside0.mk (below_step (by repeat (first | (with_reducible first | exact HB.out | apply below_alloc | apply pw_below_drewN | apply below_drew1) | exact HB.out)) hb); have n1_ := Aside0.mk (hbox); have n2_ := Aside0.mk ((by rw [hg]; exact (below_size (by repeat (first | (with_reducible first | exact HB.out | apply below_alloc | apply pw_below_drewN | apply below_drew1) | exact HB.out))) : w.heap.size ≤ gb101)); have n3_ := Aside0.mk ((by rw [hg]; exact (below_size (by repeat (first | (with_reducible first | exact HB.out | apply below_alloc | apply pw_below_drewN | apply below_drew1) | exact HB.out))) : w.heap.size ≤ gb101)); clear HB; have HB := n0_; have BK101 := n1_; have GW101 := n2_; have GE101 := n3_; clear n0_ n1_ n2_ n3_; clear hb hbox hg) | ((with_reducible refine gate_dst (N := 10) rfl ?_); refine Kd.S_lit (Kd.slice 3 (Kd.int .i64)) _ 22 ?hg (N := 10) ?hd (xs := ([] : List (List Int))) (inner := []) (ok := fun _ => True) (okp := fun _ => True) ?hr ?hp (fun _ hk => hk) trivial (Below.refl _ _) (Nat.le_refl _) (by simp) ?_; (case hd => rfl); (case hg => rfl); (case hr => first | (go_simp; done) | (go_simp; rfl)); (case hp => exact (Reps.none _ _)); intro v103 w5 ho6 hb hg_ hnew_; clear hg_ hnew_; (first | rw [← Ny102.out] at ho6 | (simp only [Int.reduceToNat] at ho6; rw [← Ny102.out] at ho6)); have n0_ := Aside0.mk (Kd.S_lower ho6 (below_size (by repeat (first | (with_reducible first | exact HB.out | apply below_alloc | apply pw_below_drewN | apply below_drew1 | refine below_set ?_ GE101.out) | exact HB.out)))); have n1_ := Aside0.mk (blk_below (g := gb101) (o := .cells #[.slice A0_0 l0_0.length c0_0, .int .i64 a0_1] 34 (0, 0)) (by (with_reducible repeat (first | refine blk_drewN ?_ _ | refine blk_drew ?_ | refine blk_alloc ?_ _)); exact BK101.out) hb); have n2_ := Aside0.mk (below_step (by repeat (first | (with_reducible first | exact HB.out | apply below_alloc | apply pw_below_drewN | apply below_drew1 | refine below_set ?_ GE101.out) | exact HB.out)) hb); clear BK101; clear HB; have HO104 := n0_; have BK101 := n1_; have HB := n2_; clear n0_ n1_ n2_; clear hb ho6; have hcz7_0 : w5.cell? ⟨gb101, 0, none⟩ = some (.slice A0_0 l0_0.length c0_0) := (blk_cell BK101.out 0).trans rfl; have hcz7_1 : w5.cell? ⟨gb101, 1, none⟩ = some (.int .i64 a0_1) := (blk_cell BK101.out 1).trans rfl; have hfz7_0 := blk_frozen BK101.out 0; have hfz7_1 := blk_frozen BK101.out 1) | (go_at_call 35; (with_reducible refine (impl_bit.calls a1 t105 _ A3.out).mono ?_); rintro e w' ⟨rfl, ⟨nd, rfl⟩⟩; (try first | exact ⟨rfl, _, World.drewN_drewN _ _ _⟩ | exact ⟨rfl, _, Eq.trans (World.drewN_drewN _ _ _) (congrArg (World.drewN _) (Nat.add_assoc _ _ _))⟩))); try go_wp2_with (first | ((with_reducible refine gate_dst (N := 2) rfl ?_); refine box_event ?hg (N := 2) ?hd (cs := #[.slice A0_0 l0_0.length c0_0, .int .i64 a0_1]) (t := 34) ?hr ?_; (case hd => rfl); (case hg => rfl); (case hr => first | (go_simp; done) | (go_simp; rfl)); intro gb101 hg w4 hbox hb; have n0_ := Aside0.mk (below_step (by repeat (first | (with_reducible first | exact HB.out | apply below_alloc | apply pw_below_drewN | apply below_drew1) | exact HB.out)) hb); have n1_ := Aside0.mk (hbox); have n2_ := Aside0.mk ((by rw [hg]; exact (below_size (by repeat (first | (with_reducible first | exact HB.out | apply below_alloc | apply pw_below_drewN | apply below_drew1) | exact HB.out))) : w.heap.size ≤ gb101)); have n3_ := Aside0.mk ((by rw [hg]; exact (below_size (by repeat (first | (with_reducible first | exact HB.out | apply below_alloc | apply pw_below_drewN | apply below_drew1) | exact HB.out))) : w.heap.size ≤ gb101)); clear HB; have HB := n0_; have BK101 := n1_; have GW101 := n2_; have GE101 := n3_; clear n0_ n1_ n2_ n3_; clear hb hbox hg) | ((with_reducible refine gate_dst (N := 10) rfl ?_); refine Kd.S_lit (Kd.slice 3 (Kd.int .i64)) _ 22 ?hg (N := 10) ?hd (xs := ([] : List (List Int))) (inner := []) (ok := fun _ => True) (okp := fun _ => True) ?hr ?hp (fun _ hk => hk) trivial (Below.refl _ _) (Nat.le_refl _) (by simp) ?_; (case hd => rfl); (case hg => rfl); (case hr => first | (go_simp; done) | (go_simp; rfl)); (case hp => exact (Reps.none _ _)); intro v103 w5 ho6 hb hg_ hnew_; clear hg_ hnew_; (first | rw [← Ny102.out] at ho6 | (simp only [Int.reduceToNat] at ho6; rw [← Ny102.out] at ho6)); have n0_ := Aside0.mk (Kd.S_lower ho6 (below_size (by repeat (first | (with_reducible first | exact HB.out | apply below_alloc | apply pw_below_drewN | apply below_drew1 | refine below_set ?_ GE101.out) | exact HB.out)))); have n1_ := Aside0.mk (blk_below (g := gb101) (o := .cells #[.slice A0_0 l0_0.length c0_0, .int .i64 a0_1] 34 (0, 0)) (by (with_reducible repeat (first | refine blk_drewN ?_ _ | refine blk_drew ?_ | refine blk_alloc ?_ _)); exact BK101.out) hb); have n2_ := Aside0.mk (below_step (by repeat (first | (with_reducible first | exact HB.out | apply below_alloc | apply pw_below_drewN | apply below_drew1 | refine below_set ?_ GE101.out) | exact HB.out)) hb); clear BK101; clear HB; have HO104 := n0_; have BK101 := n1_; have HB := n2_; clear n0_ n1_ n2_; clear hb ho6; have hcz7_0 : w5.cell? ⟨gb101, 0, none⟩ = some (.slice A0_0 l0_0.length c0_0) := (blk_cell BK101.out 0).trans rfl; have hcz7_1 : w5.cell? ⟨gb101, 1, none⟩ = some (.int .i64 a0_1) := (blk_cell BK101.out 1).trans rfl; have hfz7_0 := blk_frozen BK101.out 0; have hfz7_1 := blk_frozen BK101.out 1) | (go_at_call 35; (with_reducible refine (impl_bit.calls a1 t105 _ A3.out).mono ?_); rintro e w' ⟨rfl, ⟨nd, rfl⟩⟩; (try first | exact ⟨rfl, _, World.drewN_drewN _ _ _⟩ | exact ⟨rfl, _, Eq.trans (World.drewN_drewN _ _ _) (congrArg (World.drewN _) (Nat.add_assoc _ _ _))⟩))))
 go_loopg [5, 17] k (fun kq v5 v17 w' => ∃ (x5_1 : List (List Int)) (x17_1 : Int), v17 = .int .i64 x17_1 ∧ Aside0 (impl_Check_allUntold.l0 kq a1 x5_1 (wrap64 ((l0_0.length : Int) - t105)) x17_1 l0_0 a0_1 = some r) ∧ Aside0 (kq ≤ k) ∧ Aside0 (Kd.S (Kd.slice 3 (Kd.int .i64)) 22 w' w.heap.size (fun _ => True) v5 x5_1) ∧ Aside0 (w'.heap[gb101]? = some (.cells #[(.slice A0_0 l0_0.length c0_0), .int .i64 a0_1] 34 (0, 0))) ∧ Aside0 (Below w.heap.size w w'))
 case atStart => exact ⟨(y102), (0), (by first | rfl | (simp; done) | (simp [*]; done)), H', ⟨Nat.le_refl _⟩, ⟨by (with_reducible repeat (first | apply Kd.S_alloc | apply Kd.S_drewN | apply Kd.S_drew)); exact HO104.out⟩, ⟨by (with_reducible repeat (first | refine blk_drewN ?_ _ | refine blk_drew ?_ | refine blk_alloc ?_ _)); exact BK101.out⟩, ⟨by repeat (first | (with_reducible first | exact HB.out | apply below_alloc | apply pw_below_drewN | apply below_drew1 | refine below_set ?_ GE101.out) | exact HB.out)⟩⟩
 case round =>
  clear H'
  try clear c2
  try clear p2
  try clear p6
  try clear hcz7_0
  try clear hcz7_1
  try clear hfz7_0
  try clear hfz7_1
  obtain ⟨x5_1, x17_1, rfl, HA, HK1, HO_5, BK101, HB⟩ := hrel
  cases gk with
  | zero => exact absurd HA.out (by simp [impl_Check_allUntold.l0])
  | succ k1 =>
   have H := HA.out
   clear HA
   simp only [impl_Check_allUntold.l0] at H
   by_cases c8 : x17_1 < (wrap64 ((l0_0.length : Int) - t105))
   ·rw [if_pos c8] at H
    have c8b0 : decide (x17_1 < (wrap64 ((l0_0.length : Int) - t105))) = true := decide_eq_true c8
    clear c8
    replace H := Option.bind_eq_some_iff.mp H
    obtain ⟨⟨t106, t107, t108⟩, A90, H⟩ := H
    replace H : (if t108 = true then (if x5_1.length < 5864062014805 then (impl_Check_allUntold.l0 k1 a1 (x5_1 ++ [(([x17_1, t106, t107] : List Int))]) (wrap64 ((l0_0.length : Int) - t105)) (wrap64 (x17_1 + 1)) l0_0 a0_1) else (none)) else (impl_Check_allUntold.l0 k1 a1 x5_1 (wrap64 ((l0_0.length : Int) - t105)) (wrap64 (x17_1 + 1)) l0_0 a0_1)) = some r := H
    have A9 := Aside0.mk A90
    clear A90
    by_cases c10 : t108 = true
    ·subst c10
     have H1 : (if x5_1.length < 5864062014805 then (impl_Check_allUntold.l0 k1 a1 (x5_1 ++ [(([x17_1, t106, t107] : List Int))]) (wrap64 ((l0_0.length : Int) - t105)) (wrap64 (x17_1 + 1)) l0_0 a0_1) else (none)) = some r := by rw [if_pos rfl] at H; exact H
     clear H
     have H := H1
     clear H1
     obtain ⟨y109, hy109⟩ : ∃ y_ : List Int, y_ = (([x17_1, t106, t107] : List Int)) := ⟨_, rfl⟩
     replace H : (if x5_1.length < 5864062014805 then (impl_Check_allUntold.l0 k1 a1 (x5_1 ++ [y109]) (wrap64 ((l0_0.length : Int) - t105)) (wrap64 (x17_1 + 1)) l0_0 a0_1) else (none)) = some r := by first | (rw [hy109]; with_reducible exact H) | (have H2_ := (Option.bind_some _ _).symm.trans H; rw [hy109]; with_reducible exact H2_) | (have H2_ := (Option.bind_some _ _).symm.trans H; with_reducible exact H2_) | with_reducible exact H | (rw [hy109]; exact H) | exact H
     have Ny109 := Aside0.mk hy109
     clear hy109
     by_cases c11 : x5_1.length < 5864062014805
     ·rw [if_pos c11] at H
      have LMc11 := Aside0.mk c11
      clear c11
      obtain ⟨y112, hy112⟩ : ∃ y_ : List (List Int), y_ = (x5_1 ++ [y109]) := ⟨_, rfl⟩
      replace H : (impl_Check_allUntold.l0 k1 a1 y112 (wrap64 ((l0_0.length : Int) - t105)) (wrap64 (x17_1 + 1)) l0_0 a0_1) = some r := by first | (rw [hy112]; with_reducible exact H) | (have H2_ := (Option.bind_some _ _).symm.trans H; rw [hy112]; with_reducible exact H2_) | (have H2_ := (Option.bind_some _ _).symm.trans H; with_reducible exact H2_) | with_reducible exact H | (rw [hy112]; exact H) | exact H
      have Ny112 := Aside0.mk hy112
      clear hy112
      have H' := Aside0.mk H
      clear H
      have hcz12_0 : wr.cell? ⟨gb101, 0, none⟩ = some (.slice A0_0 l0_0.length c0_0) := (blk_cell BK101.out 0).trans rfl
      have hcz12_1 : wr.cell? ⟨gb101, 1, none⟩ = some (.int .i64 a0_1) := (blk_cell BK101.out 1).trans rfl
      have hfz12_0 := blk_frozen BK101.out 0
      have hfz12_1 := blk_frozen BK101.out 1
      go_wp2_with (first | (go_at_call 36; (with_reducible refine (impl_Check_untold.calls k1 _ _ l0_0 a0_1 x17_1 a1 t106 t107 true _ ?side1 ?side2 A9.out).mono ?_); (case side1 => repeat (first | exact (Kd.C_below HR0_0.out HB.out) | (with_reducible refine Kd.C_alloc ?_ _) | (with_reducible refine Kd.C_drewN ?_ _) | (with_reducible refine Kd.C_drew ?_))); (case side2 => exact HC0_0.out); rintro e w13 ⟨rfl, hb⟩; have n0_ := Aside0.mk (Kd.S_below (by (with_reducible repeat (first | apply Kd.S_alloc | apply Kd.S_drewN | apply Kd.S_drew)); exact HO_5.out) hb); have n1_ := Aside0.mk (blk_below (g := gb101) (o := .cells #[.slice A0_0 l0_0.length c0_0, .int .i64 a0_1] 34 (0, 0)) (by (with_reducible repeat (first | refine blk_drewN ?_ _ | refine blk_drew ?_ | refine blk_alloc ?_ _)); exact BK101.out) hb); have n2_ := Aside0.mk (below_step (by repeat (first | (with_reducible first | exact HB.out | apply below_alloc | apply pw_below_drewN | apply below_drew1 | refine below_set ?_ GE101.out) | exact HB.out)) hb); clear HO_5; clear BK101; clear HB; have HO_5 := n0_; have BK101 := n1_; have HB := n2_; clear n0_ n1_ n2_; (try clear hb); (try clear hb2); (try clear hk); (try clear hi)) | ((with_reducible refine gate_dst (N := 33) rfl ?_); refine Kd.R_lit (Kd.int .i64) _ 3 ?hg (N := 33) ?hd (xs := ([x17_1, t106, t107] : List Int)) (inner := [.int .i64 x17_1, .int .i64 t106, .int .i64 t107]) (ok := fun _ => True) (okp := fun _ => True) ?hr ?hp (fun _ hk => hk) trivial (Below.refl _ _) (Nat.le_refl _) (by simp) ?_; (case hd => rfl); (case hg => rfl); (case hr => first | (go_simp; done) | (go_simp; rfl)); (case hp => exact (Reps.one (show Kd.M (Kd.int .i64) _ _ _ x17_1 [.int .i64 x17_1] from rfl) (Reps.one (show Kd.M (Kd.int .i64) _ _ _ t106 [.int .i64 t106] from rfl) (Reps.one (show Kd.M (Kd.int .i64) _ _ _ t107 [.int .i64 t107] from rfl) (Reps.none _ _))))); intro v110 w14 ho15 hb hg_ hnew_; clear hg_ hnew_; (first | rw [← Ny109.out] at ho15 | (simp only [Int.reduceToNat] at ho15; rw [← Ny109.out] at ho15)); have n0_ := Aside0.mk (Kd.S_elder' (by (with_reducible repeat (first | apply Kd.S_alloc | apply Kd.S_drewN | apply Kd.S_drew)); exact HO_5.out) (Kd.R_base ho15) hb); have n1_ := Aside0.mk (Kd.R_lower ho15 (below_size (by repeat (first | (with_reducible first | exact HB.out | apply below_alloc | apply pw_below_drewN | apply below_drew1 | refine below_set ?_ GE101.out) | exact HB.out)))); have n2_ := Aside0.mk (blk_below (g := gb101) (o := .cells #[.slice A0_0 l0_0.length c0_0, .int .i64 a0_1] 34 (0, 0)) (by (with_reducible repeat (first | refine blk_drewN ?_ _ | refine blk_drew ?_ | refine blk_alloc ?_ _)); exact BK101.out) hb); have n3_ := Aside0.mk (below_step (by repeat (first | (with_reducible first | exact HB.out | apply below_alloc | apply pw_below_drewN | apply below_drew1 | refine below_set ?_ GE101.out) | exact HB.out)) hb); clear HO_5; clear BK101; clear HB; have HO_5 := n0_; have HO111 := n1_; have BK101 := n2_; have HB := n3_; clear n0_ n1_ n2_ n3_; clear hb ho15; obtain ⟨Ao17, co17, eo17⟩ := Kd.R_slice HO111.out; subst eo17) | ((with_reducible refine gate_builtin (b := .append) (xs := #[.tmp 29, .tmp 34]) rfl ?_); at_builtin; refine Kd.S_append (Kd.slice 3 (Kd.int .i64)) (w0 := w) w.heap.size rfl (.tmp 29) (.tmp 34) 31 22 (.slice none 0 0) 24 rfl Try.underlying31 info22 rfl (by decide) (by omega) u5 x5_1 y109 [.slice Ao17 y109.length co17] (fun _ => True) (fun k_ => some k_ = (.slice Ao17 y109.length co17 : Value).ownBlock) rfl rfl ?aP (fun k_ hk_ => ((Kd.R_mono (ok' := fun k_ => ((fun _ => True)) k_ ∧ some k_ ≠ (u5 : Value).ownBlock) (Kd.R_apart' (HO111.out) (Kd.S_typed HO_5.out) (by decide)) (fun k_ hk => ⟨trivial, hk.2⟩))).1 k_ hk_.symm) ?aF ?aO ?aB ?aS ?aL ?_; (case aP => exact Kd.M_row (Kd.R_mono (Kd.R_tight rfl (Kd.R_mono (ok' := fun k_ => ((fun _ => True)) k_ ∧ some k_ ≠ (u5 : Value).ownBlock) (Kd.R_apart' (HO111.out) (Kd.S_typed HO_5.out) (by decide)) (fun k_ hk => ⟨trivial, hk.2⟩))) (fun _ h_ => h_))); (case aB => exact (by repeat (first | (with_reducible first | exact HB.out | apply below_alloc | apply pw_below_drewN | apply below_drew1 | refine below_set ?_ GE101.out) | exact HB.out))); (case aF => exact (fun _ _ => trivial)); (case aO => exact (by (with_reducible repeat (first | apply Kd.S_alloc | apply Kd.S_drewN | apply Kd.S_drew)); exact Kd.S_mono HO_5.out (fun k_ hk => ⟨trivial, fun e_ => hk.2 e_⟩))); (case aS => exact (below_size (by repeat (first | (with_reducible first | exact HB.out | apply below_alloc | apply pw_below_drewN | apply below_drew1 | refine below_set ?_ GE101.out) | exact HB.out)))); (case aL => have := LMc11.out; omega); intro v113 w16 ho hb hg hat; rw [← Ny112.out] at ho; have n0_ := Aside0.mk (blk_grown (g := gb101) (o := .cells #[.slice A0_0 l0_0.length c0_0, .int .i64 a0_1] 34 (0, 0)) (by (with_reducible repeat (first | refine blk_drewN ?_ _ | refine blk_drew ?_ | refine blk_alloc ?_ _)); exact BK101.out) hg (Kd.S_ne HO_5.out BK101.out (by decide))); have n1_ := Aside0.mk (hb); have n2_ := Aside0.mk (ho); clear BK101; clear HB; clear HO_5; clear HO111; have BK101 := n0_; have HB := n1_; have HO114 := n2_; clear n0_ n1_ n2_; clear ho hb hg hat))
      repeat (go_quiet (first | (go_at_call 36; (with_reducible refine (impl_Check_untold.calls k1 _ _ l0_0 a0_1 x17_1 a1 t106 t107 true _ ?side1 ?side2 A9.out).mono ?_); (case side1 => repeat (first | exact (Kd.C_below HR0_0.out HB.out) | (with_reducible refine Kd.C_alloc ?_ _) | (with_reducible refine Kd.C_drewN ?_ _) | (with_reducible refine Kd.C_drew ?_))); (case side2 => exact HC0_0.out); rintro e w13 ⟨rfl, hb⟩; have n0_ := Aside0.mk (Kd.S_below (by (with_reducible repeat (first | apply Kd.S_alloc | apply Kd.S_drewN | apply Kd.S_drew)); exact HO_5.out) hb); have n1_ := Aside0.mk (blk_below (g := gb101) (o := .cells #[.slice A0_0 l0_0.length c0_0, .int .i64 a0_1] 34 (0, 0)) (by (with_reducible repeat (first | refine blk_drewN ?_ _ | refine blk_drew ?_ | refine blk_alloc ?_ _)); exact BK101.out) hb); have n2_ := Aside0.mk (below_step (by repeat (first | (with_reducible first | exact HB.out | apply below_alloc | apply pw_below_drewN | apply below_drew1 | refine below_set ?_ GE101.out) | exact HB.out)) hb); clear HO_5; clear BK101; clear HB; have HO_5 := n0_; have BK101 := n1_; have HB := n2_; clear n0_ n1_ n2_; (try clear hb); (try clear hb2); (try clear hk); (try clear hi)) | ((with_reducible refine gate_dst (N := 33) rfl ?_); refine Kd.R_lit (Kd.int .i64) _ 3 ?hg (N := 33) ?hd (xs := ([x17_1, t106, t107] : List Int)) (inner := [.int .i64 x17_1, .int .i64 t106, .int .i64 t107]) (ok := fun _ => True) (okp := fun _ => True) ?hr ?hp (fun _ hk => hk) trivial (Below.refl _ _) (Nat.le_refl _) (by simp) ?_; (case hd => rfl); (case hg => rfl); (case hr => first | (go_simp; done) | (go_simp; rfl)); (case hp => exact (Reps.one (show Kd.M (Kd.int .i64) _ _ _ x17_1 [.int .i64 x17_1] from rfl) (Reps.one (show Kd.M (Kd.int .i64) _ _ _ t106 [.int .i64 t106] from rfl) (Reps.one (show Kd.M (Kd.int .i64) _ _ _ t107 [.int .i64 t107] from rfl) (Reps.none _ _))))); intro v110 w14 ho15 hb hg_ hnew_; clear hg_ hnew_; (first | rw [← Ny109.out] at ho15 | (simp only [Int.reduceToNat] at ho15; rw [← Ny109.out] at ho15)); have n0_ := Aside0.mk (Kd.S_elder' (by (with_reducible repeat (first | apply Kd.S_alloc | apply Kd.S_drewN | apply Kd.S_drew)); exact HO_5.out) (Kd.R_base ho15) hb); have n1_ := Aside0.mk (Kd.R_lower ho15 (below_size (by repeat (first | (with_reducible first | exact HB.out | apply below_alloc | apply pw_below_drewN | apply below_drew1 | refine below_set ?_ GE101.out) | exact HB.out)))); have n2_ := Aside0.mk (blk_below (g := gb101) (o := .cells #[.slice A0_0 l0_0.length c0_0, .int .i64 a0_1] 34 (0, 0)) (by (with_reducible repeat (first | refine blk_drewN ?_ _ | refine blk_drew ?_ | refine blk_alloc ?_ _)); exact BK101.out) hb); have n3_ := Aside0.mk (below_step (by repeat (first | (with_reducible first | exact HB.out | apply below_alloc | apply pw_below_drewN | apply below_drew1 | refine below_set ?_ GE101.out) | exact HB.out)) hb); clear HO_5; clear BK101; clear HB; have HO_5 := n0_; have HO111 := n1_; have BK101 := n2_; have HB := n3_; clear n0_ n1_ n2_ n3_; clear hb ho15; obtain ⟨Ao17, co17, eo17⟩ := Kd.R_slice HO111.out; subst eo17) | ((with_reducible refine gate_builtin (b := .append) (xs := #[.tmp 29, .tmp 34]) rfl ?_); at_builtin; refine Kd.S_append (Kd.slice 3 (Kd.int .i64)) (w0 := w) w.heap.size rfl (.tmp 29) (.tmp 34) 31 22 (.slice none 0 0) 24 rfl Try.underlying31 info22 rfl (by decide) (by omega) u5 x5_1 y109 [.slice Ao17 y109.length co17] (fun _ => True) (fun k_ => some k_ = (.slice Ao17 y109.length co17 : Value).ownBlock) rfl rfl ?aP (fun k_ hk_ => ((Kd.R_mono (ok' := fun k_ => ((fun _ => True)) k_ ∧ some k_ ≠ (u5 : Value).ownBlock) (Kd.R_apart' (HO111.out) (Kd.S_typed HO_5.out) (by decide)) (fun k_ hk => ⟨trivial, hk.2⟩))).1 k_ hk_.symm) ?aF ?aO ?aB ?aS ?aL ?_; (case aP => exact Kd.M_row (Kd.R_mono (Kd.R_tight rfl (Kd.R_mono (ok' := fun k_ => ((fun _ => True)) k_ ∧ some k_ ≠ (u5 : Value).ownBlock) (Kd.R_apart' (HO111.out) (Kd.S_typed HO_5.out) (by decide)) (fun k_ hk => ⟨trivial, hk.2⟩))) (fun _ h_ => h_))); (case aB => exact (by repeat (first | (with_reducible first | exact HB.out | apply below_alloc | apply pw_below_drewN | apply below_drew1 | refine below_set ?_ GE101.out) | exact HB.out))); (case aF => exact (fun _ _ => trivial)); (case aO => exact (by (with_reducible repeat (first | apply Kd.S_alloc | apply Kd.S_drewN | apply Kd.S_drew)); exact Kd.S_mono HO_5.out (fun k_ hk => ⟨trivial, fun e_ => hk.2 e_⟩))); (case aS => exact (below_size (by repeat (first | (with_reducible first | exact HB.out | apply below_alloc | apply pw_below_drewN | apply below_drew1 | refine below_set ?_ GE101.out) | exact HB.out)))); (case aL => have := LMc11.out; omega); intro v113 w16 ho hb hg hat; rw [← Ny112.out] at ho; have n0_ := Aside0.mk (blk_grown (g := gb101) (o := .cells #[.slice A0_0 l0_0.length c0_0, .int .i64 a0_1] 34 (0, 0)) (by (with_reducible repeat (first | refine blk_drewN ?_ _ | refine blk_drew ?_ | refine blk_alloc ?_ _)); exact BK101.out) hg (Kd.S_ne HO_5.out BK101.out (by decide))); have n1_ := Aside0.mk (hb); have n2_ := Aside0.mk (ho); clear BK101; clear HB; clear HO_5; clear HO111; have BK101 := n0_; have HB := n1_; have HO114 := n2_; clear n0_ n1_ n2_; clear ho hb hg hat)); try go_wp2_with (first | (go_at_call 36; (with_reducible refine (impl_Check_untold.calls k1 _ _ l0_0 a0_1 x17_1 a1 t106 t107 true _ ?side1 ?side2 A9.out).mono ?_); (case side1 => repeat (first | exact (Kd.C_below HR0_0.out HB.out) | (with_reducible refine Kd.C_alloc ?_ _) | (with_reducible refine Kd.C_drewN ?_ _) | (with_reducible refine Kd.C_drew ?_))); (case side2 => exact HC0_0.out); rintro e w13 ⟨rfl, hb⟩; have n0_ := Aside0.mk (Kd.S_below (by (with_reducible repeat (first | apply Kd.S_alloc | apply Kd.S_drewN | apply Kd.S_drew)); exact HO_5.out) hb); have n1_ := Aside0.mk (blk_below (g := gb101) (o := .cells #[.slice A0_0 l0_0.length c0_0, .int .i64 a0_1] 34 (0, 0)) (by (with_reducible repeat (first | refine blk_drewN ?_ _ | refine blk_drew ?_ | refine blk_alloc ?_ _)); exact BK101.out) hb); have n2_ := Aside0.mk (below_step (by repeat (first | (with_reducible first | exact HB.out | apply below_alloc | apply pw_below_drewN | apply below_drew1 | refine below_set ?_ GE101.out) | exact HB.out)) hb); clear HO_5; clear BK101; clear HB; have HO_5 := n0_; have BK101 := n1_; have HB := n2_; clear n0_ n1_ n2_; (try clear hb); (try clear hb2); (try clear hk); (try clear hi)) | ((with_reducible refine gate_dst (N := 33) rfl ?_); refine Kd.R_lit (Kd.int .i64) _ 3 ?hg (N := 33) ?hd (xs := ([x17_1, t106, t107] : List Int)) (inner := [.int .i64 x17_1, .int .i64 t106, .int .i64 t107]) (ok := fun _ => True) (okp := fun _ => True) ?hr ?hp (fun _ hk => hk) trivial (Below.refl _ _) (Nat.le_refl _) (by simp) ?_; (case hd => rfl); (case hg => rfl); (case hr => first | (go_simp; done) | (go_simp; rfl)); (case hp => exact (Reps.one (show Kd.M (Kd.int .i64) _ _ _ x17_1 [.int .i64 x17_1] from rfl) (Reps.one (show Kd.M (Kd.int .i64) _ _ _ t106 [.int .i64 t106] from rfl) (Reps.one (show Kd.M (Kd.int .i64) _ _ _ t107 [.int .i64 t107] from rfl) (Reps.none _ _))))); intro v110 w14 ho15 hb hg_ hnew_; clear hg_ hnew_; (first | rw [← Ny109.out] at ho15 | (simp only [Int.reduceToNat] at ho15; rw [← Ny109.out] at ho15)); have n0_ := Aside0.mk (Kd.S_elder' (by (with_reducible repeat (first | apply Kd.S_alloc | apply Kd.S_drewN | apply Kd.S_drew)); exact HO_5.out) (Kd.R_base ho15) hb); have n1_ := Aside0.mk (Kd.R_lower ho15 (below_size (by repeat (first | (with_reducible first | exact HB.out | apply below_alloc | apply pw_below_drewN | apply below_drew1 | refine below_set ?_ GE101.out) | exact HB.out)))); have n2_ := Aside0.mk (blk_below (g := gb101) (o := .cells #[.slice A0_0 l0_0.length c0_0, .int .i64 a0_1] 34 (0, 0)) (by (with_reducible repeat (first | refine blk_drewN ?_ _ | refine blk_drew ?_ | refine blk_alloc ?_ _)); exact BK101.out) hb); have n3_ := Aside0.mk (below_step (by repeat (first | (with_reducible first | exact HB.out | apply below_alloc | apply pw_below_drewN | apply below_drew1 | refine below_set ?_ GE101.out) | exact HB.out)) hb); clear HO_5; clear BK101; clear HB; have HO_5 := n0_; have HO111 := n1_; have BK101 := n2_; have HB := n3_; clear n0_ n1_ n2_ n3_; clear hb ho15; obtain ⟨Ao17, co17, eo17⟩ := Kd.R_slice HO111.out; subst eo17) | ((with_reducible refine gate_builtin (b := .append) (xs := #[.tmp 29, .tmp 34]) rfl ?_); at_builtin; refine Kd.S_append (Kd.slice 3 (Kd.int .i64)) (w0 := w) w.heap.size rfl (.tmp 29) (.tmp 34) 31 22 (.slice none 0 0) 24 rfl Try.underlying31 info22 rfl (by decide) (by omega) u5 x5_1 y109 [.slice Ao17 y109.length co17] (fun _ => True) (fun k_ => some k_ = (.slice Ao17 y109.length co17 : Value).ownBlock) rfl rfl ?aP (fun k_ hk_ => ((Kd.R_mono (ok' := fun k_ => ((fun _ => True)) k_ ∧ some k_ ≠ (u5 : Value).ownBlock) (Kd.R_apart' (HO111.out) (Kd.S_typed HO_5.out) (by decide)) (fun k_ hk => ⟨trivial, hk.2⟩))).1 k_ hk_.symm) ?aF ?aO ?aB ?aS ?aL ?_; (case aP => exact Kd.M_row (Kd.R_mono (Kd.R_tight rfl (Kd.R_mono (ok' := fun k_ => ((fun _ => True)) k_ ∧ some k_ ≠ (u5 : Value).ownBlock) (Kd.R_apart' (HO111.out) (Kd.S_typed HO_5.out) (by decide)) (fun k_ hk => ⟨trivial, hk.2⟩))) (fun _ h_ => h_))); (case aB => exact (by repeat (first | (with_reducible first | exact HB.out | apply below_alloc | apply pw_below_drewN | apply below_drew1 | refine below_set ?_ GE101.out) | exact HB.out))); (case aF => exact (fun _ _ => trivial)); (case aO => exact (by (with_reducible repeat (first | apply Kd.S_alloc | apply Kd.S_drewN | apply Kd.S_drew)); exact Kd.S_mono HO_5.out (fun k_ hk => ⟨trivial, fun e_ => hk.2 e_⟩))); (case aS => exact (below_size (by repeat (first | (with_reducible first | exact HB.out | apply below_alloc | apply pw_below_drewN | apply below_drew1 | refine below_set ?_ GE101.out) | exact HB.out)))); (case aL => have := LMc11.out; omega); intro v113 w16 ho hb hg hat; rw [← Ny112.out] at ho; have n0_ := Aside0.mk (blk_grown (g := gb101) (o := .cells #[.slice A0_0 l0_0.length c0_0, .int .i64 a0_1] 34 (0, 0)) (by (with_reducible repeat (first | refine blk_drewN ?_ _ | refine blk_drew ?_ | refine blk_alloc ?_ _)); exact BK101.out) hg (Kd.S_ne HO_5.out BK101.out (by decide))); have n1_ := Aside0.mk (hb); have n2_ := Aside0.mk (ho); clear BK101; clear HB; clear HO_5; clear HO111; have BK101 := n0_; have HB := n1_; have HO114 := n2_; clear n0_ n1_ n2_; clear ho hb hg hat)))
      go_roundg k1
      case measure => have := HK1.out; omega
      case rel => exact ⟨(y112), (wrap64 (x17_1 + 1)), (by first | rfl | (simp; done) | (simp [*]; done)), H', ⟨by have := HK1.out; omega⟩, ⟨by (with_reducible repeat (first | apply Kd.S_alloc | apply Kd.S_drewN | apply Kd.S_drew)); exact HO114.out⟩, ⟨by (with_reducible repeat (first | refine blk_drewN ?_ _ | refine blk_drew ?_ | refine blk_alloc ?_ _)); exact BK101.out⟩, ⟨by repeat (first | (with_reducible first | exact HB.out | apply below_alloc | apply pw_below_drewN | apply below_drew1 | refine below_set ?_ GE101.out) | exact HB.out)⟩⟩
     ·rw [if_neg c11] at H
      exact absurd H (by simp)
    ·replace c10 := Bool.eq_false_iff.mpr c10
     subst c10
     have H1 : (impl_Check_allUntold.l0 k1 a1 x5_1 (wrap64 ((l0_0.length : Int) - t105)) (wrap64 (x17_1 + 1)) l0_0 a0_1) = some r := by rw [if_neg (show ¬ (false = true) by decide)] at H; exact H
     clear H
     have H := H1
     clear H1
     have H' := Aside0.mk H
     clear H
     have hcz18_0 : wr.cell? ⟨gb101, 0, none⟩ = some (.slice A0_0 l0_0.length c0_0) := (blk_cell BK101.out 0).trans rfl
     have hcz18_1 : wr.cell? ⟨gb101, 1, none⟩ = some (.int .i64 a0_1) := (blk_cell BK101.out 1).trans rfl
     have hfz18_0 := blk_frozen BK101.out 0
     have hfz18_1 := blk_frozen BK101.out 1
     go_wp2_with (first | (go_at_call 36; (with_reducible refine (impl_Check_untold.calls k1 _ _ l0_0 a0_1 x17_1 a1 t106 t107 false _ ?side1 ?side2 A9.out).mono ?_); (case side1 => repeat (first | exact (Kd.C_below HR0_0.out HB.out) | (with_reducible refine Kd.C_alloc ?_ _) | (with_reducible refine Kd.C_drewN ?_ _) | (with_reducible refine Kd.C_drew ?_))); (case side2 => exact HC0_0.out); rintro e w19 ⟨rfl, hb⟩; have n0_ := Aside0.mk (Kd.S_below (by (with_reducible repeat (first | apply Kd.S_alloc | apply Kd.S_drewN | apply Kd.S_drew)); exact HO_5.out) hb); have n1_ := Aside0.mk (blk_below (g := gb101) (o := .cells #[.slice A0_0 l0_0.length c0_0, .int .i64 a0_1] 34 (0, 0)) (by (with_reducible repeat (first | refine blk_drewN ?_ _ | refine blk_drew ?_ | refine blk_alloc ?_ _)); exact BK101.out) hb); have n2_ := Aside0.mk (below_step (by repeat (first | (with_reducible first | exact HB.out | apply below_alloc | apply pw_below_drewN | apply below_drew1 | refine below_set ?_ GE101.out) | exact HB.out)) hb); clear HO_5; clear BK101; clear HB; have HO_5 := n0_; have BK101 := n1_; have HB := n2_; clear n0_ n1_ n2_; (try clear hb); (try clear hb2); (try clear hk); (try clear hi)))
     repeat (go_quiet (first | (go_at_call 36; (with_reducible refine (impl_Check_untold.calls k1 _ _ l0_0 a0_1 x17_1 a1 t106 t107 false _ ?side1 ?side2 A9.out).mono ?_); (case side1 => repeat (first | exact (Kd.C_below HR0_0.out HB.out) | (with_reducible refine Kd.C_alloc ?_ _) | (with_reducible refine Kd.C_drewN ?_ _) | (with_reducible refine Kd.C_drew ?_))); (case side2 => exact HC0_0.out); rintro e w19 ⟨rfl, hb⟩; have n0_ := Aside0.mk (Kd.S_below (by (with_reducible repeat (first | apply Kd.S_alloc | apply Kd.S_drewN | apply Kd.S_drew)); exact HO_5.out) hb); have n1_ := Aside0.mk (blk_below (g := gb101) (o := .cells #[.slice A0_0 l0_0.length c0_0, .int .i64 a0_1] 34 (0, 0)) (by (with_reducible repeat (first | refine blk_drewN ?_ _ | refine blk_drew ?_ | refine blk_alloc ?_ _)); exact BK101.out) hb); have n2_ := Aside0.mk (below_step (by repeat (first | (with_reducible first | exact HB.out | apply below_alloc | apply pw_below_drewN | apply below_drew1 | refine below_set ?_ GE101.out) | exact HB.out)) hb); clear HO_5; clear BK101; clear HB; have HO_5 := n0_; have BK101 := n1_; have HB := n2_; clear n0_ n1_ n2_; (try clear hb); (try clear hb2); (try clear hk); (try clear hi))); try go_wp2_with (first | (go_at_call 36; (with_reducible refine (impl_Check_untold.calls k1 _ _ l0_0 a0_1 x17_1 a1 t106 t107 false _ ?side1 ?side2 A9.out).mono ?_); (case side1 => repeat (first | exact (Kd.C_below HR0_0.out HB.out) | (with_reducible refine Kd.C_alloc ?_ _) | (with_reducible refine Kd.C_drewN ?_ _) | (with_reducible refine Kd.C_drew ?_))); (case side2 => exact HC0_0.out); rintro e w19 ⟨rfl, hb⟩; have n0_ := Aside0.mk (Kd.S_below (by (with_reducible repeat (first | apply Kd.S_alloc | apply Kd.S_drewN | apply Kd.S_drew)); exact HO_5.out) hb); have n1_ := Aside0.mk (blk_below (g := gb101) (o := .cells #[.slice A0_0 l0_0.length c0_0, .int .i64 a0_1] 34 (0, 0)) (by (with_reducible repeat (first | refine blk_drewN ?_ _ | refine blk_drew ?_ | refine blk_alloc ?_ _)); exact BK101.out) hb); have n2_ := Aside0.mk (below_step (by repeat (first | (with_reducible first | exact HB.out | apply below_alloc | apply pw_below_drewN | apply below_drew1 | refine below_set ?_ GE101.out) | exact HB.out)) hb); clear HO_5; clear BK101; clear HB; have HO_5 := n0_; have BK101 := n1_; have HB := n2_; clear n0_ n1_ n2_; (try clear hb); (try clear hb2); (try clear hk); (try clear hi))))
     go_roundg k1
     case measure => have := HK1.out; omega
     case rel => exact ⟨(x5_1), (wrap64 (x17_1 + 1)), (by first | rfl | (simp; done) | (simp [*]; done)), H', ⟨by have := HK1.out; omega⟩, ⟨by (with_reducible repeat (first | apply Kd.S_alloc | apply Kd.S_drewN | apply Kd.S_drew)); exact HO_5.out⟩, ⟨by (with_reducible repeat (first | refine blk_drewN ?_ _ | refine blk_drew ?_ | refine blk_alloc ?_ _)); exact BK101.out⟩, ⟨by repeat (first | (with_reducible first | exact HB.out | apply below_alloc | apply pw_below_drewN | apply below_drew1 | refine below_set ?_ GE101.out) | exact HB.out)⟩⟩
   ·rw [if_neg c8] at H
    have c8b0 : decide (x17_1 < (wrap64 ((l0_0.length : Int) - t105))) = false := decide_eq_false c8
    clear c8
    obtain rfl := Option.some.inj H
    go_wp2
    repeat (go_quiet (fail); try go_wp2)
    go_ret
    exact ⟨_, by first | rfl | (simp [errW_none, errW_some] <;> rfl) | (simp [*, errW_none, errW_some] <;> rfl), by (with_reducible repeat (first | apply Kd.S_alloc | apply Kd.S_drewN | apply Kd.S_drew)); exact HO_5.out, by repeat (first | (with_reducible first | exact HB.out | apply below_alloc | apply pw_below_drewN | apply below_drew1 | refine below_set ?_ GE101.out) | exact HB.out)⟩
end Go.Proofs.Ytafegaaklpdgiaa.Q

namespace Go.Proofs.Ytafegaaklpdgiaa.Q
open Go.RowKit Go.Proofs.YtafegaaklpdgiaaW.PrintWords Go.Proofs.YtafegaaklpdgiaaW.PrintLast Go.Proofs.YtafegaaklpdgiaaW.PrintMore
attribute [local go_sem] max2_int min2_int max_two min_two max_three min_three max_four min_four   -- for this text's walks alone
set_option linter.unusedVariables false
set_option linter.unusedSimpArgs false
def impl_UntoldSingles.f (k : Nat) (l0_0 : List Int) (a0_1 : Int) : Option ((List (List Int)) × Bool) := (impl_IsCheck.f l0_0 a0_1).bind fun t102 => (if t102 = true then ((impl_Check_allUntold.f k l0_0 a0_1 false).bind fun t103 => (some (t103,true))) else (some (([] : List (List Int)),false)))
theorem impl_UntoldSingles.mono : ∀ a0 a1 k, LeO (impl_UntoldSingles.f k a0 a1) (impl_UntoldSingles.f (k + 1) a0 a1) := by
 intro a0 a1 k
 unfold impl_UntoldSingles.f
 repeat' first
   | (with_reducible exact impl_Check_allUntold.mono _ _ _ _)
   | (with_reducible exact LeO.refl _)
   | (with_reducible exact LeO.none _)
   | (with_reducible refine LeO.ite ?_ ?_)
   | (with_reducible refine LeO.bind ?_ (fun _ => ?_))
   | exact impl_Check_allUntold.mono _ _ _ _
   | exact LeO.none _
   | refine LeO.ite ?_ ?_
   | refine LeO.bind ?_ (fun _ => ?_)
set_option maxHeartbeats 8000000 in
set_option maxRecDepth 100000 in
theorem impl_UntoldSingles.calls (k : Nat) (A0_0 : Option Addr) (c0_0 : Nat) (l0_0 : List Int) (a0_1 : Int) (r1 : List (List Int)) (r2 : Bool) (w : World) (hr0_0 : Kd.C (Kd.int .i64) w A0_0 l0_0.length l0_0) (hc0_0 : l0_0.length ≤ c0_0) (h : impl_UntoldSingles.f k l0_0 a0_1 = some (r1, r2)) :
  Calls Try.prog 14 #[.agg #[.slice A0_0 l0_0.length c0_0, .int .i64 a0_1]] w fun e w' => ∃ v0_ : Value, e = .returned (.tuple #[v0_, .bool r2]) ∧ Kd.S (Kd.slice 3 (Kd.int .i64)) 22 w' w.heap.size (fun _ => True) v0_ r1 ∧ Below w.heap.size w w' := by
 have hu34 := Try.underlying34
 have HR0_0 := Aside0.mk hr0_0
 have HC0_0 := Aside0.mk hc0_0
 clear hr0_0 hc0_0
 have HB := Aside0.mk (Below.refl w.heap.size w)
 have H : ((impl_IsCheck.f l0_0 a0_1).bind fun t102 => (if t102 = true then ((impl_Check_allUntold.f k l0_0 a0_1 false).bind fun t103 => (some (t103,true))) else (some (([] : List (List Int)),false)))) = some (r1, r2) := h
 clear h
 replace H := Option.bind_eq_some_iff.mp H
 obtain ⟨t102, A20, H⟩ := H
 replace H : (if t102 = true then ((impl_Check_allUntold.f k l0_0 a0_1 false).bind fun t103 => (some (t103,true))) else (some (([] : List (List Int)),false))) = some (r1, r2) := H
 have A2 := Aside0.mk A20
 clear A20
 by_cases c3 : t102 = true
 ·subst c3
  have H1 : ((impl_Check_allUntold.f k l0_0 a0_1 false).bind fun t103 => (some (t103,true))) = some (r1, r2) := by rw [if_pos rfl] at H; exact H
  clear H
  have H := H1
  clear H1
  replace H := Option.bind_eq_some_iff.mp H
  obtain ⟨t103, A40, H⟩ := H
  replace H : (some (t103,true)) = some (r1, r2) := H
  have A4 := Aside0.mk A40
  clear A40
  simp only [Option.some.injEq, Prod.mk.injEq] at H
  obtain ⟨rfl, rfl⟩ := H
  go_enter Try.func14, Try.ntmps14
  go_wp2_with (first | ((with_reducible refine gate_dst (N := 1) rfl ?_); refine box_event ?hg (N := 1) ?hd (cs := #[.slice A0_0 l0_0.length c0_0, .int .i64 a0_1]) (t := 34) ?hr ?_; (case hd => rfl); (case hg => rfl); (case hr => first | (go_simp; done) | (go_simp; rfl)); intro gb101 hg w5 hbox hb; have n0_ := Aside0.mk (below_step (by repeat (first | (with_reducible first | exact HB.out | apply below_alloc | apply pw_below_drewN | apply below_drew1) | exact HB.out)) hb); have n1_ := Aside0.mk (hbox); have n2_ := Aside0.mk ((by rw [hg]; exact (below_size (by repeat (first | (with_reducible first | exact HB.out | apply below_alloc | apply pw_below_drewN | apply below_drew1) | exact HB.out))) : w.heap.size ≤ gb101)); have n3_ := Aside0.mk ((by rw [hg]; exact (below_size (by repeat (first | (with_reducible first | exact HB.out | apply below_alloc | apply pw_below_drewN | apply below_drew1) | exact HB.out))) : w.heap.size ≤ gb101)); clear HB; have HB := n0_; have BK101 := n1_; have GW101 := n2_; have GE101 := n3_; clear n0_ n1_ n2_ n3_; clear hb hbox hg; have hcz6_0 : w5.cell? ⟨gb101, 0, none⟩ = some (.slice A0_0 l0_0.length c0_0) := (blk_cell BK101.out 0).trans rfl; have hcz6_1 : w5.cell? ⟨gb101, 1, none⟩ = some (.int .i64 a0_1) := (blk_cell BK101.out 1).trans rfl; have hfz6_0 := blk_frozen BK101.out 0; have hfz6_1 := blk_frozen BK101.out 1) | ((with_reducible refine gate_callee (f := 32) rfl ?_); refine goesL_ (some 5) rfl rfl Try.func32 (by kernel_rfl) rfl #[.agg #[.slice A0_0 l0_0.length c0_0, .int .i64 a0_1]] rfl (by (try simp only [List.map_toArray, List.map_cons, List.map_nil]); first | done | rfl | (simp only [List.length_drop, List.length_take]; rfl)) ?_; (with_reducible refine (impl_IsCheck.calls _ _ l0_0 a0_1 true _ ?side1 ?side2 A2.out).mono ?_); (case side1 => repeat (first | exact (Kd.C_below HR0_0.out HB.out) | (with_reducible refine Kd.C_alloc ?_ _) | (with_reducible refine Kd.C_drewN ?_ _) | (with_reducible refine Kd.C_drew ?_))); (case side2 => exact HC0_0.out); rintro e w7 ⟨rfl, hb⟩; refine ⟨_, rfl, ?_⟩; have n0_ := Aside0.mk (blk_below (g := gb101) (o := .cells #[.slice A0_0 l0_0.length c0_0, .int .i64 a0_1] 34 (0, 0)) (by (with_reducible repeat (first | refine blk_drewN ?_ _ | refine blk_drew ?_ | refine blk_alloc ?_ _)); exact BK101.out) hb); have n1_ := Aside0.mk (below_step (by repeat (first | (with_reducible first | exact HB.out | apply below_alloc | apply pw_below_drewN | apply below_drew1 | refine below_set ?_ GE101.out) | exact HB.out)) hb); clear BK101; clear HB; have BK101 := n0_; have HB := n1_; clear n0_ n1_; (try clear hb); (try clear hb2); (try clear hk); (try clear hi); have hcz8_0 : w7.cell? ⟨gb101, 0, none⟩ = some (.slice A0_0 l0_0.length c0_0) := (blk_cell BK101.out 0).trans rfl; have hcz8_1 : w7.cell? ⟨gb101, 1, none⟩ = some (.int .i64 a0_1) := (blk_cell BK101.out 1).trans rfl; have hfz8_0 := blk_frozen BK101.out 0; have hfz8_1 := blk_frozen BK101.out 1) | ((with_reducible refine gate_callee (f := 26) rfl ?_); refine goesL_ (some 8) rfl rfl Try.func26 (by kernel_rfl) rfl #[.agg #[.slice A0_0 l0_0.length c0_0, .int .i64 a0_1], .bool false] rfl (by (try simp only [List.map_toArray, List.map_cons, List.map_nil]); first | done | rfl | (simp only [List.length_drop, List.length_take]; rfl)) ?_; (with_reducible refine (impl_Check_allUntold.calls k _ _ l0_0 a0_1 false t103 _ ?side1 ?side2 A4.out).mono ?_); (case side1 => repeat (first | exact (Kd.C_below HR0_0.out HB.out) | (with_reducible refine Kd.C_alloc ?_ _) | (with_reducible refine Kd.C_drewN ?_ _) | (with_reducible refine Kd.C_drew ?_))); (case side2 => exact HC0_0.out); rintro e w9 ⟨v104, rfl, ho0, hb⟩; refine ⟨_, rfl, ?_⟩; have n0_ := Aside0.mk (Kd.S_lower ho0 (below_size (by repeat (first | (with_reducible first | exact HB.out | apply below_alloc | apply pw_below_drewN | apply below_drew1 | refine below_set ?_ GE101.out) | exact HB.out)))); have n1_ := Aside0.mk (blk_below (g := gb101) (o := .cells #[.slice A0_0 l0_0.length c0_0, .int .i64 a0_1] 34 (0, 0)) (by (with_reducible repeat (first | refine blk_drewN ?_ _ | refine blk_drew ?_ | refine blk_alloc ?_ _)); exact BK101.out) hb); have n2_ := Aside0.mk (below_step (by repeat (first | (with_reducible first | exact HB.out | apply below_alloc | apply pw_below_drewN | apply below_drew1 | refine below_set ?_ GE101.out) | exact HB.out)) hb); clear BK101; clear HB; have HO105 := n0_; have BK101 := n1_; have HB := n2_; clear n0_ n1_ n2_; (try clear hb); (try clear hb2); (try clear hk); (try clear hi); (try clear ho0)))
  go_ret2
  exact ⟨_, by first | rfl | (simp [errW_none, errW_some] <;> rfl) | (simp [*, errW_none, errW_some] <;> rfl), by (with_reducible repeat (first | apply Kd.S_alloc | apply Kd.S_drewN | apply Kd.S_drew)); exact HO105.out, by repeat (first | (with_reducible first | exact HB.out | apply below_alloc | apply pw_below_drewN | apply below_drew1 | refine below_set ?_ GE101.out) | exact HB.out)⟩
 ·replace c3 := Bool.eq_false_iff.mpr c3
  subst c3
  have H1 : (some (([] : List (List Int)),false)) = some (r1, r2) := by rw [if_neg (show ¬ (false = true) by decide)] at H; exact H
  clear H
  have H := H1
  clear H1
  simp only [Option.some.injEq, Prod.mk.injEq] at H
  obtain ⟨rfl, rfl⟩ := H
  go_enter Try.func14, Try.ntmps14
  go_wp2_with (first | ((with_reducible refine gate_dst (N := 1) rfl ?_); refine box_event ?hg (N := 1) ?hd (cs := #[.slice A0_0 l0_0.length c0_0, .int .i64 a0_1]) (t := 34) ?hr ?_; (case hd => rfl); (case hg => rfl); (case hr => first | (go_simp; done) | (go_simp; rfl)); intro gb101 hg w10 hbox hb; have n0_ := Aside0.mk (below_step (by repeat (first | (with_reducible first | exact HB.out | apply below_alloc | apply pw_below_drewN | apply below_drew1) | exact HB.out)) hb); have n1_ := Aside0.mk (hbox); have n2_ := Aside0.mk ((by rw [hg]; exact (below_size (by repeat (first | (with_reducible first | exact HB.out | apply below_alloc | apply pw_below_drewN | apply below_drew1) | exact HB.out))) : w.heap.size ≤ gb101)); have n3_ := Aside0.mk ((by rw [hg]; exact (below_size (by repeat (first | (with_reducible first | exact HB.out | apply below_alloc | apply pw_below_drewN | apply below_drew1) | exact HB.out))) : w.heap.size ≤ gb101)); clear HB; have HB := n0_; have BK101 := n1_; have GW101 := n2_; have GE101 := n3_; clear n0_ n1_ n2_ n3_; clear hb hbox hg; have hcz11_0 : w10.cell? ⟨gb101, 0, none⟩ = some (.slice A0_0 l0_0.length c0_0) := (blk_cell BK101.out 0).trans rfl; have hcz11_1 : w10.cell? ⟨gb101, 1, none⟩ = some (.int .i64 a0_1) := (blk_cell BK101.out 1).trans rfl; have hfz11_0 := blk_frozen BK101.out 0; have hfz11_1 := blk_frozen BK101.out 1) | ((with_reducible refine gate_callee (f := 32) rfl ?_); refine goesL_ (some 5) rfl rfl Try.func32 (by kernel_rfl) rfl #[.agg #[.slice A0_0 l0_0.length c0_0, .int .i64 a0_1]] rfl (by (try simp only [List.map_toArray, List.map_cons, List.map_nil]); first | done | rfl | (simp only [List.length_drop, List.length_take]; rfl)) ?_; (with_reducible refine (impl_IsCheck.calls _ _ l0_0 a0_1 false _ ?side1 ?side2 A2.out).mono ?_); (case side1 => repeat (first | exact (Kd.C_below HR0_0.out HB.out) | (with_reducible refine Kd.C_alloc ?_ _) | (with_reducible refine Kd.C_drewN ?_ _) | (with_reducible refine Kd.C_drew ?_))); (case side2 => exact HC0_0.out); rintro e w12 ⟨rfl, hb⟩; refine ⟨_, rfl, ?_⟩; have n0_ := Aside0.mk (blk_below (g := gb101) (o := .cells #[.slice A0_0 l0_0.length c0_0, .int .i64 a0_1] 34 (0, 0)) (by (with_reducible repeat (first | refine blk_drewN ?_ _ | refine blk_drew ?_ | refine blk_alloc ?_ _)); exact BK101.out) hb); have n1_ := Aside0.mk (below_step (by repeat (first | (with_reducible first | exact HB.out | apply below_alloc | apply pw_below_drewN | apply below_drew1 | refine below_set ?_ GE101.out) | exact HB.out)) hb); clear BK101; clear HB; have BK101 := n0_; have HB := n1_; clear n0_ n1_; (try clear hb); (try clear hb2); (try clear hk); (try clear hi)))
  go_ret2
  exact ⟨_, by first | rfl | (simp [errW_none, errW_some] <;> rfl) | (simp [*, errW_none, errW_some] <;> rfl), by first | exact Kd.S_nil _ _ _ _ _ | exact Kd.N_nil _ _ _ _ _ | exact Kd.V_nil _ _ _ _ _ | exact Kd.Q_nil _ _ _ _ _ | exact Kd.R_nil _ _ _ _ _, by repeat (first | (with_reducible first | exact HB.out | apply below_alloc | apply pw_below_drewN | apply below_drew1 | refine below_set ?_ GE101.out) | exact HB.out)⟩
end Go.Proofs.Ytafegaaklpdgiaa.Q

namespace Go.Proofs.Ytafegaaklpdgiaa.Q
open Go.RowKit Go.Proofs.YtafegaaklpdgiaaW.PrintWords Go.Proofs.YtafegaaklpdgiaaW.PrintLast Go.Proofs.YtafegaaklpdgiaaW.PrintMore
attribute [local go_sem] max2_int min2_int max_two min_two max_three min_three max_four min_four   -- for this text's walks alone
set_option linter.unusedVariables false
set_option linter.unusedSimpArgs false
def spec_UntoldSwaps.f (k : Nat) (l0_0 : List Int) (a0_1 : Int) : Option ((List (List Int)) × Bool) := (spec_slGood.f k l0_0 a0_1).bind fun t102 => (if t102 = true then ((spec_slList.f k l0_0 a0_1 true).bind fun t103 => (some (t103,true))) else (some (([] : List (List Int)),false)))
theorem spec_UntoldSwaps.mono : ∀ a0 a1 k, LeO (spec_UntoldSwaps.f k a0 a1) (spec_UntoldSwaps.f (k + 1) a0 a1) := by
 intro a0 a1 k
 unfold spec_UntoldSwaps.f
 repeat' first
   | (with_reducible exact spec_slGood.mono _ _ _)
   | (with_reducible exact spec_slList.mono _ _ _ _)
   | (with_reducible exact LeO.refl _)
   | (with_reducible exact LeO.none _)
   | (with_reducible refine LeO.ite ?_ ?_)
   | (with_reducible refine LeO.bind ?_ (fun _ => ?_))
   | exact spec_slGood.mono _ _ _
   | exact spec_slList.mono _ _ _ _
   | exact LeO.none _
   | refine LeO.ite ?_ ?_
   | refine LeO.bind ?_ (fun _ => ?_)
set_option maxHeartbeats 8000000 in
set_option maxRecDepth 100000 in
theorem spec_UntoldSwaps.calls (k : Nat) (A0_0 : Option Addr) (c0_0 : Nat) (l0_0 : List Int) (a0_1 : Int) (r1 : List (List Int)) (r2 : Bool) (w : World) (hr0_0 : Kd.C (Kd.int .i64) w A0_0 l0_0.length l0_0) (hc0_0 : l0_0.length ≤ c0_0) (h : spec_UntoldSwaps.f k l0_0 a0_1 = some (r1, r2)) :
  Calls Try.prog 20 #[.agg #[.slice A0_0 l0_0.length c0_0, .int .i64 a0_1]] w fun e w' => ∃ v0_ : Value, e = .returned (.tuple #[v0_, .bool r2]) ∧ Kd.S (Kd.slice 3 (Kd.int .i64)) 22 w' w.heap.size (fun _ => True) v0_ r1 ∧ Below w.heap.size w w' := by
 have hu34 := Try.underlying34
 have HR0_0 := Aside0.mk hr0_0
 have HC0_0 := Aside0.mk hc0_0
 clear hr0_0 hc0_0
 have HB := Aside0.mk (Below.refl w.heap.size w)
 have H : ((spec_slGood.f k l0_0 a0_1).bind fun t102 => (if t102 = true then ((spec_slList.f k l0_0 a0_1 true).bind fun t103 => (some (t103,true))) else (some (([] : List (List Int)),false)))) = some (r1, r2) := h
 clear h
 replace H := Option.bind_eq_some_iff.mp H
 obtain ⟨t102, A20, H⟩ := H
 replace H : (if t102 = true then ((spec_slList.f k l0_0 a0_1 true).bind fun t103 => (some (t103,true))) else (some (([] : List (List Int)),false))) = some (r1, r2) := H
 have A2 := Aside0.mk A20
 clear A20
 by_cases c3 : t102 = true
 ·subst c3
  have H1 : ((spec_slList.f k l0_0 a0_1 true).bind fun t103 => (some (t103,true))) = some (r1, r2) := by rw [if_pos rfl] at H; exact H
  clear H
  have H := H1
  clear H1
  replace H := Option.bind_eq_some_iff.mp H
  obtain ⟨t103, A40, H⟩ := H
  replace H : (some (t103,true)) = some (r1, r2) := H
  have A4 := Aside0.mk A40
  clear A40
  simp only [Option.some.injEq, Prod.mk.injEq] at H
  obtain ⟨rfl, rfl⟩ := H
  go_enter Try.func20, Try.ntmps20
  go_wp2_with (first | ((with_reducible refine gate_dst (N := 1) rfl ?_); refine box_event ?hg (N := 1) ?hd (cs := #[.slice A0_0 l0_0.length c0_0, .int .i64 a0_1]) (t := 34) ?hr ?_; (case hd => rfl); (case hg => rfl); (case hr => first | (go_simp; done) | (go_simp; rfl)); intro gb101 hg w5 hbox hb; have n0_ := Aside0.mk (below_step (by repeat (first | (with_reducible first | exact HB.out | apply below_alloc | apply pw_below_drewN | apply below_drew1) | exact HB.out)) hb); have n1_ := Aside0.mk (hbox); have n2_ := Aside0.mk ((by rw [hg]; exact (below_size (by repeat (first | (with_reducible first | exact HB.out | apply below_alloc | apply pw_below_drewN | apply below_drew1) | exact HB.out))) : w.heap.size ≤ gb101)); have n3_ := Aside0.mk ((by rw [hg]; exact (below_size (by repeat (first | (with_reducible first | exact HB.out | apply below_alloc | apply pw_below_drewN | apply below_drew1) | exact HB.out))) : w.heap.size ≤ gb101)); clear HB; have HB := n0_; have BK101 := n1_; have GW101 := n2_; have GE101 := n3_; clear n0_ n1_ n2_ n3_; clear hb hbox hg; have hcz6_0 : w5.cell? ⟨gb101, 0, none⟩ = some (.slice A0_0 l0_0.length c0_0) := (blk_cell BK101.out 0).trans rfl; have hcz6_1 : w5.cell? ⟨gb101, 1, none⟩ = some (.int .i64 a0_1) := (blk_cell BK101.out 1).trans rfl; have hfz6_0 := blk_frozen BK101.out 0; have hfz6_1 := blk_frozen BK101.out 1) | ((with_reducible refine gate_callee (f := 29) rfl ?_); refine goesL_ (some 5) rfl rfl Try.func29 (by kernel_rfl) rfl #[.agg #[.slice A0_0 l0_0.length c0_0, .int .i64 a0_1]] rfl (by (try simp only [List.map_toArray, List.map_cons, List.map_nil]); first | done | rfl | (simp only [List.length_drop, List.length_take]; rfl)) ?_; (with_reducible refine (spec_slGood.calls k _ _ l0_0 a0_1 true _ ?side1 ?side2 A2.out).mono ?_); (case side1 => repeat (first | exact (Kd.C_below HR0_0.out HB.out) | (with_reducible refine Kd.C_alloc ?_ _) | (with_reducible refine Kd.C_drewN ?_ _) | (with_reducible refine Kd.C_drew ?_))); (case side2 => exact HC0_0.out); rintro e w7 ⟨rfl, hb⟩; refine ⟨_, rfl, ?_⟩; have n0_ := Aside0.mk (blk_below (g := gb101) (o := .cells #[.slice A0_0 l0_0.length c0_0, .int .i64 a0_1] 34 (0, 0)) (by (with_reducible repeat (first | refine blk_drewN ?_ _ | refine blk_drew ?_ | refine blk_alloc ?_ _)); exact BK101.out) hb); have n1_ := Aside0.mk (below_step (by repeat (first | (with_reducible first | exact HB.out | apply below_alloc | apply pw_below_drewN | apply below_drew1 | refine below_set ?_ GE101.out) | exact HB.out)) hb); clear BK101; clear HB; have BK101 := n0_; have HB := n1_; clear n0_ n1_; (try clear hb); (try clear hb2); (try clear hk); (try clear hi); have hcz8_0 : w7.cell? ⟨gb101, 0, none⟩ = some (.slice A0_0 l0_0.length c0_0) := (blk_cell BK101.out 0).trans rfl; have hcz8_1 : w7.cell? ⟨gb101, 1, none⟩ = some (.int .i64 a0_1) := (blk_cell BK101.out 1).trans rfl; have hfz8_0 := blk_frozen BK101.out 0; have hfz8_1 := blk_frozen BK101.out 1) | ((with_reducible refine gate_callee (f := 30) rfl ?_); refine goesL_ (some 8) rfl rfl Try.func30 (by kernel_rfl) rfl #[.agg #[.slice A0_0 l0_0.length c0_0, .int .i64 a0_1], .bool true] rfl (by (try simp only [List.map_toArray, List.map_cons, List.map_nil]); first | done | rfl | (simp only [List.length_drop, List.length_take]; rfl)) ?_; (with_reducible refine (spec_slList.calls k _ _ l0_0 a0_1 true t103 _ ?side1 ?side2 A4.out).mono ?_); (case side1 => repeat (first | exact (Kd.C_below HR0_0.out HB.out) | (with_reducible refine Kd.C_alloc ?_ _) | (with_reducible refine Kd.C_drewN ?_ _) | (with_reducible refine Kd.C_drew ?_))); (case side2 => exact HC0_0.out); rintro e w9 ⟨v104, rfl, ho0, hb⟩; refine ⟨_, rfl, ?_⟩; have n0_ := Aside0.mk (Kd.S_lower ho0 (below_size (by repeat (first | (with_reducible first | exact HB.out | apply below_alloc | apply pw_below_drewN | apply below_drew1 | refine below_set ?_ GE101.out) | exact HB.out)))); have n1_ := Aside0.mk (blk_below (g := gb101) (o := .cells #[.slice A0_0 l0_0.length c0_0, .int .i64 a0_1] 34 (0, 0)) (by (with_reducible repeat (first | refine blk_drewN ?_ _ | refine blk_drew ?_ | refine blk_alloc ?_ _)); exact BK101.out) hb); have n2_ := Aside0.mk (below_step (by repeat (first | (with_reducible first | exact HB.out | apply below_alloc | apply pw_below_drewN | apply below_drew1 | refine below_set ?_ GE101.out) | exact HB.out)) hb); clear BK101; clear HB; have HO105 := n0_; have BK101 := n1_; have HB := n2_; clear n0_ n1_ n2_; (try clear hb); (try clear hb2); (try clear hk); (try clear hi); (try clear ho0)))
  go_ret2
  exact ⟨_, by first | rfl | (simp [errW_none, errW_some] <;> rfl) | (simp [*, errW_none, errW_some] <;> rfl), by (with_reducible repeat (first | apply Kd.S_alloc | apply Kd.S_drewN | apply Kd.S_drew)); exact HO105.out, by repeat (first | (with_reducible first | exact HB.out | apply below_alloc | apply pw_below_drewN | apply below_drew1 | refine below_set ?_ GE101.out) | exact HB.out)⟩
 ·replace c3 := Bool.eq_false_iff.mpr c3
  subst c3
  have H1 : (some (([] : List (List Int)),false)) = some (r1, r2) := by rw [if_neg (show ¬ (false = true) by decide)] at H; exact H
  clear H
  have H := H1
  clear H1
  simp only [Option.some.injEq, Prod.mk.injEq] at H
  obtain ⟨rfl, rfl⟩ := H
  go_enter Try.func20, Try.ntmps20
  go_wp2_with (first | ((with_reducible refine gate_dst (N := 1) rfl ?_); refine box_event ?hg (N := 1) ?hd (cs := #[.slice A0_0 l0_0.length c0_0, .int .i64 a0_1]) (t := 34) ?hr ?_; (case hd => rfl); (case hg => rfl); (case hr => first | (go_simp; done) | (go_simp; rfl)); intro gb101 hg w10 hbox hb; have n0_ := Aside0.mk (below_step (by repeat (first | (with_reducible first | exact HB.out | apply below_alloc | apply pw_below_drewN | apply below_drew1) | exact HB.out)) hb); have n1_ := Aside0.mk (hbox); have n2_ := Aside0.mk ((by rw [hg]; exact (below_size (by repeat (first | (with_reducible first | exact HB.out | apply below_alloc | apply pw_below_drewN | apply below_drew1) | exact HB.out))) : w.heap.size ≤ gb101)); have n3_ := Aside0.mk ((by rw [hg]; exact (below_size (by repeat (first | (with_reducible first | exact HB.out | apply below_alloc | apply pw_below_drewN | apply below_drew1) | exact HB.out))) : w.heap.size ≤ gb101)); clear HB; have HB := n0_; have BK101 := n1_; have GW101 := n2_; have GE101 := n3_; clear n0_ n1_ n2_ n3_; clear hb hbox hg; have hcz11_0 : w10.cell? ⟨gb101, 0, none⟩ = some (.slice A0_0 l0_0.length c0_0) := (blk_cell BK101.out 0).trans rfl; have hcz11_1 : w10.cell? ⟨gb101, 1, none⟩ = some (.int .i64 a0_1) := (blk_cell BK101.out 1).trans rfl; have hfz11_0 := blk_frozen BK101.out 0; have hfz11_1 := blk_frozen BK101.out 1) | ((with_reducible refine gate_callee (f := 29) rfl ?_); refine goesL_ (some 5) rfl rfl Try.func29 (by kernel_rfl) rfl #[.agg #[.slice A0_0 l0_0.length c0_0, .int .i64 a0_1]] rfl (by (try simp only [List.map_toArray, List.map_cons, List.map_nil]); first | done | rfl | (simp only [List.length_drop, List.length_take]; rfl)) ?_; (with_reducible refine (spec_slGood.calls k _ _ l0_0 a0_1 false _ ?side1 ?side2 A2.out).mono ?_); (case side1 => repeat (first | exact (Kd.C_below HR0_0.out HB.out) | (with_reducible refine Kd.C_alloc ?_ _) | (with_reducible refine Kd.C_drewN ?_ _) | (with_reducible refine Kd.C_drew ?_))); (case side2 => exact HC0_0.out); rintro e w12 ⟨rfl, hb⟩; refine ⟨_, rfl, ?_⟩; have n0_ := Aside0.mk (blk_below (g := gb101) (o := .cells #[.slice A0_0 l0_0.length c0_0, .int .i64 a0_1] 34 (0, 0)) (by (with_reducible repeat (first | refine blk_drewN ?_ _ | refine blk_drew ?_ | refine blk_alloc ?_ _)); exact BK101.out) hb); have n1_ := Aside0.mk (below_step (by repeat (first | (with_reducible first | exact HB.out | apply below_alloc | apply pw_below_drewN | apply below_drew1 | refine below_set ?_ GE101.out) | exact HB.out)) hb); clear BK101; clear HB; have BK101 := n0_; have HB := n1_; clear n0_ n1_; (try clear hb); (try clear hb2); (try clear hk); (try clear hi)))
  go_ret2
  exact ⟨_, by first | rfl | (simp [errW_none, errW_some] <;> rfl) | (simp [*, errW_none, errW_some] <;> rfl), by first | exact Kd.S_nil _ _ _ _ _ | exact Kd.N_nil _ _ _ _ _ | exact Kd.V_nil _ _ _ _ _ | exact Kd.Q_nil _ _ _ _ _ | exact Kd.R_nil _ _ _ _ _, by repeat (first | (with_reducible first | exact HB.out | apply below_alloc | apply pw_below_drewN | apply below_drew1 | refine below_set ?_ GE101.out) | exact HB.out)⟩
end Go.Proofs.Ytafegaaklpdgiaa.Q

namespace Go.Proofs.Ytafegaaklpdgiaa.Q
open Go.RowKit Go.Proofs.YtafegaaklpdgiaaW.PrintWords Go.Proofs.YtafegaaklpdgiaaW.PrintLast Go.Proofs.YtafegaaklpdgiaaW.PrintMore
attribute [local go_sem] max2_int min2_int max_two min_two max_three min_three max_four min_four   -- for this text's walks alone
set_option linter.unusedVariables false
set_option linter.unusedSimpArgs false
def impl_UntoldSwaps.f (k : Nat) (l0_0 : List Int) (a0_1 : Int) : Option ((List (List Int)) × Bool) := (impl_IsCheck.f l0_0 a0_1).bind fun t102 => (if t102 = true then ((impl_Check_allUntold.f k l0_0 a0_1 true).bind fun t103 => (some (t103,true))) else (some (([] : List (List Int)),false)))
theorem impl_UntoldSwaps.mono : ∀ a0 a1 k, LeO (impl_UntoldSwaps.f k a0 a1) (impl_UntoldSwaps.f (k + 1) a0 a1) := by
 intro a0 a1 k
 unfold impl_UntoldSwaps.f
 repeat' first
   | (with_reducible exact impl_Check_allUntold.mono _ _ _ _)
   | (with_reducible exact LeO.refl _)
   | (with_reducible exact LeO.none _)
   | (with_reducible refine LeO.ite ?_ ?_)
   | (with_reducible refine LeO.bind ?_ (fun _ => ?_))
   | exact impl_Check_allUntold.mono _ _ _ _
   | exact LeO.none _
   | refine LeO.ite ?_ ?_
   | refine LeO.bind ?_ (fun _ => ?_)
set_option maxHeartbeats 8000000 in
set_option maxRecDepth 100000 in
theorem impl_UntoldSwaps.calls (k : Nat) (A0_0 : Option Addr) (c0_0 : Nat) (l0_0 : List Int) (a0_1 : Int) (r1 : List (List Int)) (r2 : Bool) (w : World) (hr0_0 : Kd.C (Kd.int .i64) w A0_0 l0_0.length l0_0) (hc0_0 : l0_0.length ≤ c0_0) (h : impl_UntoldSwaps.f k l0_0 a0_1 = some (r1, r2)) :
  Calls Try.prog 21 #[.agg #[.slice A0_0 l0_0.length c0_0, .int .i64 a0_1]] w fun e w' => ∃ v0_ : Value, e = .returned (.tuple #[v0_, .bool r2]) ∧ Kd.S (Kd.slice 3 (Kd.int .i64)) 22 w' w.heap.size (fun _ => True) v0_ r1 ∧ Below w.heap.size w w' := by
 have hu34 := Try.underlying34
 have HR0_0 := Aside0.mk hr0_0
 have HC0_0 := Aside0.mk hc0_0
 clear hr0_0 hc0_0
 have HB := Aside0.mk (Below.refl w.heap.size w)
 have H : ((impl_IsCheck.f l0_0 a0_1).bind fun t102 => (if t102 = true then ((impl_Check_allUntold.f k l0_0 a0_1 true).bind fun t103 => (some (t103,true))) else (some (([] : List (List Int)),false)))) = some (r1, r2) := h
 clear h
 replace H := Option.bind_eq_some_iff.mp H
 obtain ⟨t102, A20, H⟩ := H
 replace H : (if t102 = true then ((impl_Check_allUntold.f k l0_0 a0_1 true).bind fun t103 => (some (t103,true))) else (some (([] : List (List Int)),false))) = some (r1, r2) := H
 have A2 := Aside0.mk A20
 clear A20
 by_cases c3 : t102 = true
 ·subst c3
  have H1 : ((impl_Check_allUntold.f k l0_0 a0_1 true).bind fun t103 => (some (t103,true))) = some (r1, r2) := by rw [if_pos rfl] at H; exact H
  clear H
  have H := H1
  clear H1
  replace H := Option.bind_eq_some_iff.mp H
  obtain ⟨t103, A40, H⟩ := H
  replace H : (some (t103,true)) = some (r1, r2) := H
  have A4 := Aside0.mk A40
  clear A40
  simp only [Option.some.injEq, Prod.mk.injEq] at H
  obtain ⟨rfl, rfl⟩ := H
  go_enter Try.func21, Try.ntmps21
  go_wp2_with (first | ((with_reducible refine gate_dst (N := 1) rfl ?_); refine box_event ?hg (N := 1) ?hd (cs := #[.slice A0_0 l0_0.length c0_0, .int .i64 a0_1]) (t := 34) ?hr ?_; (case hd => rfl); (case hg => rfl); (case hr => first | (go_simp; done) | (go_simp; rfl)); intro gb101 hg w5 hbox hb; have n0_ := Aside0.mk (below_step (by repeat (first | (with_reducible first | exact HB.out | apply below_alloc | apply pw_below_drewN | apply below_drew1) | exact HB.out)) hb); have n1_ := Aside0.mk (hbox); have n2_ := Aside0.mk ((by rw [hg]; exact (below_size (by repeat (first | (with_reducible first | exact HB.out | apply below_alloc | apply pw_below_drewN | apply below_drew1) | exact HB.out))) : w.heap.size ≤ gb101)); have n3_ := Aside0.mk ((by rw [hg]; exact (below_size (by repeat (first | (with_reducible first | exact HB.out | apply below_alloc | apply pw_below_drewN | apply below_drew1) | exact HB.out))) : w.heap.size ≤ gb101)); clear HB; have HB := n0_; have BK101 := n1_; have GW101 := n2_; have GE101 := n3_; clear n0_ n1_ n2_ n3_; clear hb hbox hg; have hcz6_0 : w5.cell? ⟨gb101, 0, none⟩ = some (.slice A0_0 l0_0.length c0_0) := (blk_cell BK101.out 0).trans rfl; have hcz6_1 : w5.cell? ⟨gb101, 1, none⟩ = some (.int .i64 a0_1) := (blk_cell BK101.out 1).trans rfl; have hfz6_0 := blk_frozen BK101.out 0; have hfz6_1 := blk_frozen BK101.out 1) | ((with_reducible refine gate_callee (f := 32) rfl ?_); refine goesL_ (some 5) rfl rfl Try.func32 (by kernel_rfl) rfl #[.agg #[.slice A0_0 l0_0.length c0_0, .int .i64 a0_1]] rfl (by (try simp only [List.map_toArray, List.map_cons, List.map_nil]); first | done | rfl | (simp only [List.length_drop, List.length_take]; rfl)) ?_; (with_reducible refine (impl_IsCheck.calls _ _ l0_0 a0_1 true _ ?side1 ?side2 A2.out).mono ?_); (case side1 => repeat (first | exact (Kd.C_below HR0_0.out HB.out) | (with_reducible refine Kd.C_alloc ?_ _) | (with_reducible refine Kd.C_drewN ?_ _) | (with_reducible refine Kd.C_drew ?_))); (case side2 => exact HC0_0.out); rintro e w7 ⟨rfl, hb⟩; refine ⟨_, rfl, ?_⟩; have n0_ := Aside0.mk (blk_below (g := gb101) (o := .cells #[.slice A0_0 l0_0.length c0_0, .int .i64 a0_1] 34 (0, 0)) (by (with_reducible repeat (first | refine blk_drewN ?_ _ | refine blk_drew ?_ | refine blk_alloc ?_ _)); exact BK101.out) hb); have n1_ := Aside0.mk (below_step (by repeat (first | (with_reducible first | exact HB.out | apply below_alloc | apply pw_below_drewN | apply below_drew1 | refine below_set ?_ GE101.out) | exact HB.out)) hb); clear BK101; clear HB; have BK101 := n0_; have HB := n1_; clear n0_ n1_; (try clear hb); (try clear hb2); (try clear hk); (try clear hi); have hcz8_0 : w7.cell? ⟨gb101, 0, none⟩ = some (.slice A0_0 l0_0.length c0_0) := (blk_cell BK101.out 0).trans rfl; have hcz8_1 : w7.cell? ⟨gb101, 1, none⟩ = some (.int .i64 a0_1) := (blk_cell BK101.out 1).trans rfl; have hfz8_0 := blk_frozen BK101.out 0; have hfz8_1 := blk_frozen BK101.out 1) | ((with_reducible refine gate_callee (f := 26) rfl ?_); refine goesL_ (some 8) rfl rfl Try.func26 (by kernel_rfl) rfl #[.agg #[.slice A0_0 l0_0.length c0_0, .int .i64 a0_1], .bool true] rfl (by (try simp only [List.map_toArray, List.map_cons, List.map_nil]); first | done | rfl | (simp only [List.length_drop, List.length_take]; rfl)) ?_; (with_reducible refine (impl_Check_allUntold.calls k _ _ l0_0 a0_1 true t103 _ ?side1 ?side2 A4.out).mono ?_); (case side1 => repeat (first | exact (Kd.C_below HR0_0.out HB.out) | (with_reducible refine Kd.C_alloc ?_ _) | (with_reducible refine Kd.C_drewN ?_ _) | (with_reducible refine Kd.C_drew ?_))); (case side2 => exact HC0_0.out); rintro e w9 ⟨v104, rfl, ho0, hb⟩; refine ⟨_, rfl, ?_⟩; have n0_ := Aside0.mk (Kd.S_lower ho0 (below_size (by repeat (first | (with_reducible first | exact HB.out | apply below_alloc | apply pw_below_drewN | apply below_drew1 | refine below_set ?_ GE101.out) | exact HB.out)))); have n1_ := Aside0.mk (blk_below (g := gb101) (o := .cells #[.slice A0_0 l0_0.length c0_0, .int .i64 a0_1] 34 (0, 0)) (by (with_reducible repeat (first | refine blk_drewN ?_ _ | refine blk_drew ?_ | refine blk_alloc ?_ _)); exact BK101.out) hb); have n2_ := Aside0.mk (below_step (by repeat (first | (with_reducible first | exact HB.out | apply below_alloc | apply pw_below_drewN | apply below_drew1 | refine below_set ?_ GE101.out) | exact HB.out)) hb); clear BK101; clear HB; have HO105 := n0_; have BK101 := n1_; have HB := n2_; clear n0_ n1_ n2_; (try clear hb); (try clear hb2); (try clear hk); (try clear hi); (try clear ho0)))
  go_ret2
  exact ⟨_, by first | rfl | (simp [errW_none, errW_some] <;> rfl) | (simp [*, errW_none, errW_some] <;> rfl), by (with_reducible repeat (first | apply Kd.S_alloc | apply Kd.S_drewN | apply Kd.S_drew)); exact HO105.out, by repeat (first | (with_reducible first | exact HB.out | apply below_alloc | apply pw_below_drewN | apply below_drew1 | refine below_set ?_ GE101.out) | exact HB.out)⟩
 ·replace c3 := Bool.eq_false_iff.mpr c3
  subst c3
  have H1 : (some (([] : List (List Int)),false)) = some (r1, r2) := by rw [if_neg (show ¬ (false = true) by decide)] at H; exact H
  clear H
  have H := H1
  clear H1
  simp only [Option.some.injEq, Prod.mk.injEq] at H
  obtain ⟨rfl, rfl⟩ := H
  go_enter Try.func21, Try.ntmps21
  go_wp2_with (first | ((with_reducible refine gate_dst (N := 1) rfl ?_); refine box_event ?hg (N := 1) ?hd (cs := #[.slice A0_0 l0_0.length c0_0, .int .i64 a0_1]) (t := 34) ?hr ?_; (case hd => rfl); (case hg => rfl); (case hr => first | (go_simp; done) | (go_simp; rfl)); intro gb101 hg w10 hbox hb; have n0_ := Aside0.mk (below_step (by repeat (first | (with_reducible first | exact HB.out | apply below_alloc | apply pw_below_drewN | apply below_drew1) | exact HB.out)) hb); have n1_ := Aside0.mk (hbox); have n2_ := Aside0.mk ((by rw [hg]; exact (below_size (by repeat (first | (with_reducible first | exact HB.out | apply below_alloc | apply pw_below_drewN | apply below_drew1) | exact HB.out))) : w.heap.size ≤ gb101)); have n3_ := Aside0.mk ((by rw [hg]; exact (below_size (by repeat (first | (with_reducible first | exact HB.out | apply below_alloc | apply pw_below_drewN | apply below_drew1) | exact HB.out))) : w.heap.size ≤ gb101)); clear HB; have HB := n0_; have BK101 := n1_; have GW101 := n2_; have GE101 := n3_; clear n0_ n1_ n2_ n3_; clear hb hbox hg; have hcz11_0 : w10.cell? ⟨gb101, 0, none⟩ = some (.slice A0_0 l0_0.length c0_0) := (blk_cell BK101.out 0).trans rfl; have hcz11_1 : w10.cell? ⟨gb101, 1, none⟩ = some (.int .i64 a0_1) := (blk_cell BK101.out 1).trans rfl; have hfz11_0 := blk_frozen BK101.out 0; have hfz11_1 := blk_frozen BK101.out 1) | ((with_reducible refine gate_callee (f := 32) rfl ?_); refine goesL_ (some 5) rfl rfl Try.func32 (by kernel_rfl) rfl #[.agg #[.slice A0_0 l0_0.length c0_0, .int .i64 a0_1]] rfl (by (try simp only [List.map_toArray, List.map_cons, List.map_nil]); first | done | rfl | (simp only [List.length_drop, List.length_take]; rfl)) ?_; (with_reducible refine (impl_IsCheck.calls _ _ l0_0 a0_1 false _ ?side1 ?side2 A2.out).mono ?_); (case side1 => repeat (first | exact (Kd.C_below HR0_0.out HB.out) | (with_reducible refine Kd.C_alloc ?_ _) | (with_reducible refine Kd.C_drewN ?_ _) | (with_reducible refine Kd.C_drew ?_))); (case side2 => exact HC0_0.out); rintro e w12 ⟨rfl, hb⟩; refine ⟨_, rfl, ?_⟩; have n0_ := Aside0.mk (blk_below (g := gb101) (o := .cells #[.slice A0_0 l0_0.length c0_0, .int .i64 a0_1] 34 (0, 0)) (by (with_reducible repeat (first | refine blk_drewN ?_ _ | refine blk_drew ?_ | refine blk_alloc ?_ _)); exact BK101.out) hb); have n1_ := Aside0.mk (below_step (by repeat (first | (with_reducible first | exact HB.out | apply below_alloc | apply pw_below_drewN | apply below_drew1 | refine below_set ?_ GE101.out) | exact HB.out)) hb); clear BK101; clear HB; have BK101 := n0_; have HB := n1_; clear n0_ n1_; (try clear hb); (try clear hb2); (try clear hk); (try clear hi)))
  go_ret2
  exact ⟨_, by first | rfl | (simp [errW_none, errW_some] <;> rfl) | (simp [*, errW_none, errW_some] <;> rfl), by first | exact Kd.S_nil _ _ _ _ _ | exact Kd.N_nil _ _ _ _ _ | exact Kd.V_nil _ _ _ _ _ | exact Kd.Q_nil _ _ _ _ _ | exact Kd.R_nil _ _ _ _ _, by repeat (first | (with_reducible first | exact HB.out | apply below_alloc | apply pw_below_drewN | apply below_drew1 | refine below_set ?_ GE101.out) | exact HB.out)⟩
end Go.Proofs.Ytafegaaklpdgiaa.Q

namespace Go.Proofs.Ytafegaaklpdgiaa.Q
open Go.RowKit Go.Proofs.YtafegaaklpdgiaaW.PrintWords Go.Proofs.YtafegaaklpdgiaaW.PrintLast Go.Proofs.YtafegaaklpdgiaaW.PrintMore
set_option linter.unusedVariables false
set_option linter.unusedSimpArgs false
theorem len_snoc {α : Type} (a : List α) (w : α) : (a ++ [w]).length = a.length + 1 := by simp
def row3 (i : Nat) (u : Option (Nat × Nat)) : List (List Int) := u.elim [] fun p => [[(i : Int), (p.1 : Int), (p.2 : Int)]]
noncomputable def rowsS (m : Nat) : List Nat → List Nat → List (List Int)
 | _, [] => []
 | a, w :: c => row3 a.length (un1 m (a ++ c) w) ++ rowsS m (a ++ [w]) c
noncomputable def rowsW (m : Nat) : List Nat → List Nat → List (List Int)
 | _, [] => []
 | _, [_] => []
 | a, w :: v :: c => row3 a.length (un2 m (a ++ c) w v) ++ rowsW m (a ++ [w]) (v :: c)
theorem row3_len (i : Nat) (u : Option (Nat × Nat)) : (row3 i u).length ≤ 1 ∧ ∀ r ∈ row3 i u, r.length ≤ 3 := by
 cases u <;> simp [row3]
section
variable {m : Nat} (hm : 2 ≤ m) (hm2 : m ≤ 11)
include hm hm2
omit hm hm2 in
/-- one place of the program's -/
theorem all_step (ws : List Nat) (swap : Bool) (n i : Nat) (hi : i < n) (hn : n ≤ 100) (acc : List (List Int)) (hacc : acc.length ≤ 100) (u : Option (Nat × Nat)) (hu : Ev (fun k => impl_Check_untold.f k (ints ws) (m : Int) (i : Int) swap) (out3 u)) (R : List (List Int))
  (h : Ev (fun k => impl_Check_allUntold.l0 k swap (acc ++ row3 i u) (n : Int) ((i + 1 : Nat) : Int) (ints ws) (m : Int)) R) : Ev (fun k => impl_Check_allUntold.l0 k swap acc (n : Int) (i : Int) (ints ws) (m : Int)) R := by
 refine Ev.step (f := fun k => (impl_Check_untold.f k (ints ws) (m : Int) (i : Int) swap).bind fun bt => if bt.2.2 = true then (if acc.length < 5864062014805 then impl_Check_allUntold.l0 k swap (acc ++ [[(i : Int), bt.1, bt.2.1]]) (n : Int) ((i + 1 : Nat) : Int) (ints ws) (m : Int) else none) else impl_Check_allUntold.l0 k swap acc (n : Int) ((i + 1 : Nat) : Int) (ints ws) (m : Int)) (fun k => ?_) (Ev.bind (f := fun k (bt : Int × Int × Bool) => if bt.2.2 = true then (if acc.length < 5864062014805 then impl_Check_allUntold.l0 k swap (acc ++ [[(i : Int), bt.1, bt.2.1]]) (n : Int) ((i + 1 : Nat) : Int) (ints ws) (m : Int) else none) else impl_Check_allUntold.l0 k swap acc (n : Int) ((i + 1 : Nat) : Int) (ints ws) (m : Int)) hu ?_)
 ·simp only [impl_Check_allUntold.l0]
  rw [if_pos (by omega), wsucc i (by omega)]
 ·cases u with
  | none =>
   have h : Ev (fun k => impl_Check_allUntold.l0 k swap (acc ++ []) (n : Int) ((i + 1 : Nat) : Int) (ints ws) (m : Int)) R := h
   rw [List.append_nil] at h
   exact Ev.congr (fun k => if_neg (by show ¬ (false = true); decide)) h
  | some p => exact Ev.congr (fun k => (if_pos rfl).trans (if_pos (by omega))) h
theorem all_single : ∀ (c a : List Nat) (acc : List (List Int)), (∀ v ∈ a ++ c, v < m) → (a ++ c).length ≤ 12 → acc.length ≤ a.length →
  Ev (fun k => impl_Check_allUntold.l0 k false acc ((a ++ c).length : Int) (a.length : Int) (ints (a ++ c)) (m : Int)) (acc ++ rowsS m a c)
 | [], a, acc, hw, hl, hacc => by
  refine Ev.step (f := fun _ => some (acc ++ rowsS m a [])) (fun k => ?_) (Ev.now _)
  simp only [impl_Check_allUntold.l0]
  rw [if_neg (by simp)]
  simp [rowsS]
 | w :: c, a, acc, hw, hl, hacc => by
  have h1 := (row3_len a.length (un1 m (a ++ c) w)).1
  have ih := all_single c (a ++ [w]) (acc ++ row3 a.length (un1 m (a ++ c) w)) (by rw [List.append_assoc]; exact hw) (by rw [List.append_assoc]; exact hl) (by simp only [List.length_append, List.length_cons, List.length_nil]; omega)
  rw [List.append_assoc, List.append_assoc, List.singleton_append, len_snoc a w] at ih
  have hl2 : a.length + (c.length + 1) ≤ 12 := by simpa using hl
  exact all_step (a ++ w :: c) false (a ++ w :: c).length a.length (by simp) (by omega) acc (by omega) _ (untold_single hm hm2 a c w hw hl) _ ih
theorem all_swap : ∀ (c a : List Nat) (acc : List (List Int)) (n : Nat), (∀ v ∈ a ++ c, v < m) → (a ++ c).length ≤ 12 → acc.length ≤ a.length → n + 1 = (a ++ c).length → 
  Ev (fun k => impl_Check_allUntold.l0 k true acc (n : Int) (a.length : Int) (ints (a ++ c)) (m : Int)) (acc ++ rowsW m a c)
 | [], a, acc, n, hw, hl, hacc, hn => by
  simp only [List.append_nil] at hn
  refine Ev.step (f := fun _ => some (acc ++ rowsW m a [])) (fun k => ?_) (Ev.now _)
  simp only [impl_Check_allUntold.l0]
  rw [if_neg (by omega)]
  simp [rowsW]
 | [w], a, acc, n, hw, hl, hacc, hn => by
  simp only [List.length_append, List.length_cons, List.length_nil] at hn
  refine Ev.step (f := fun _ => some (acc ++ rowsW m a [w])) (fun k => ?_) (Ev.now _)
  simp only [impl_Check_allUntold.l0]
  rw [if_neg (by omega)]
  simp [rowsW]
 | w :: v :: c, a, acc, n, hw, hl, hacc, hn => by
  have h1 := (row3_len a.length (un2 m (a ++ c) w v)).1
  have ih := all_swap (v :: c) (a ++ [w]) (acc ++ row3 a.length (un2 m (a ++ c) w v)) n (by rw [List.append_assoc]; exact hw) (by rw [List.append_assoc]; exact hl) (by simp only [List.length_append, List.length_cons, List.length_nil]; omega) (by rw [List.append_assoc]; exact hn)
  rw [List.append_assoc, List.append_assoc, List.singleton_append, len_snoc a w] at ih
  have hl2 : a.length + (c.length + 1 + 1) ≤ 12 := by simpa using hl
  have hn2 : n + 1 = a.length + (c.length + 1 + 1) := by simpa using hn
  exact all_step (a ++ w :: v :: c) true n a.length (by omega) (by omega) acc (by omega) _ (untold_swap hm hm2 a c w v hw hl) _ ih
theorem allSingle_ev (ws : List Nat) (hw : ∀ v ∈ ws, v < m) (hl : ws.length ≤ 12) : Ev (fun k => impl_Check_allUntold.f k (ints ws) (m : Int) false) (rowsS m [] ws) := by
 have h := all_single hm hm2 ws [] [] (by simpa using hw) (by simpa using hl) (Nat.le_refl _)
 refine Ev.congr (fun k => ?_) h
 simp only [impl_Check_allUntold.f, impl_bit.f]
 rw [if_neg (by decide), Option.bind_some, ints_length, wr (by omega) (by omega)]
 simp
theorem allSwap_ev (ws : List Nat) (hw : ∀ v ∈ ws, v < m) (hl : ws.length ≤ 12) (h1 : 1 ≤ ws.length) : Ev (fun k => impl_Check_allUntold.f k (ints ws) (m : Int) true) (rowsW m [] ws) := by
 have h := all_swap hm hm2 ws [] [] (ws.length - 1) (by simpa using hw) (by simpa using hl) (Nat.le_refl _) (by simp; omega)
 refine Ev.congr (fun k => ?_) h
 simp only [impl_Check_allUntold.f, impl_bit.f]
 rw [if_pos trivial, Option.bind_some, ints_length, wr (by omega) (by omega), show (ws.length : Int) - 1 = ((ws.length - 1 : Nat) : Int) by omega]
 simp
omit hm hm2 in
/-- one place of the reference's -/
theorem ref_step (ws : List Nat) (swap : Bool) (n i : Nat) (hi : i < n) (hn : n ≤ 100) (hsk : (swap && (i == ws.length - 1)) = false) (hws : 1 ≤ ws.length) (hw2 : ws.length ≤ 100) (acc : List (List Int)) (hacc : acc.length ≤ 100) (u : Option (Nat × Nat)) (hu : Ev (fun k => spec_slUntold.f k (ints ws) (m : Int) (i : Int) swap) (out2 u)) (R : List (List Int))
  (h : Ev (fun k => spec_slList.l0 k swap (acc ++ row3 i u) (n : Int) ((i + 1 : Nat) : Int) (ints ws) (m : Int)) R) : Ev (fun k => spec_slList.l0 k swap acc (n : Int) (i : Int) (ints ws) (m : Int)) R := by
 refine Ev.step (f := fun k => spec_slList.j1 k swap acc (i : Int) (n : Int) (i : Int) false (ints ws) (m : Int)) (fun k => ?_) (Ev.step (f := fun k => (spec_slUntold.f k (ints ws) (m : Int) (i : Int) swap).bind fun bt => if bt.2 = true then (if 1 + bt.1.length < 17592186044416 then (if acc.length < 5864062014805 then spec_slList.l0 k swap (acc ++ [([(i : Int)] ++ bt.1)]) (n : Int) ((i + 1 : Nat) : Int) (ints ws) (m : Int) else none) else none) else spec_slList.l0 k swap acc (n : Int) ((i + 1 : Nat) : Int) (ints ws) (m : Int)) (fun k => ?_) (Ev.bind (f := fun k (bt : List Int × Bool) => if bt.2 = true then (if 1 + bt.1.length < 17592186044416 then (if acc.length < 5864062014805 then spec_slList.l0 k swap (acc ++ [([(i : Int)] ++ bt.1)]) (n : Int) ((i + 1 : Nat) : Int) (ints ws) (m : Int) else none) else none) else spec_slList.l0 k swap acc (n : Int) ((i + 1 : Nat) : Int) (ints ws) (m : Int)) hu ?_))
 ·simp only [spec_slList.l0]
  rw [if_pos (by omega), ints_length, wr (by omega) (by omega)]
  cases swap with
  | false => rw [if_neg (by decide)]
  | true =>
   rw [if_pos rfl]
   congr 1
   rw [Bool.true_and] at hsk
   have := beq_eq_false_iff_ne.1 hsk
   exact beq_eq_false_iff_ne.2 (by omega)
 ·simp only [spec_slList.j1]
  rw [if_neg (by decide), wsucc i (by omega)]
  rfl
 ·cases u with
  | none =>
   have h : Ev (fun k => spec_slList.l0 k swap (acc ++ []) (n : Int) ((i + 1 : Nat) : Int) (ints ws) (m : Int)) R := h
   rw [List.append_nil] at h
   exact Ev.congr (fun k => if_neg (by show ¬ (false = true); decide)) h
  | some p => exact Ev.congr (fun k => (if_pos rfl).trans ((if_pos (by simp [out2])).trans (if_pos (by omega)))) h
theorem ref_single : ∀ (c a : List Nat) (acc : List (List Int)), (∀ v ∈ a ++ c, v < m) → (a ++ c).length ≤ 12 → acc.length ≤ a.length →
  Ev (fun k => spec_slList.l0 k false acc ((a ++ c).length : Int) (a.length : Int) (ints (a ++ c)) (m : Int)) (acc ++ rowsS m a c)
 | [], a, acc, hw, hl, hacc => by
  refine Ev.step (f := fun _ => some (acc ++ rowsS m a [])) (fun k => ?_) (Ev.now _)
  simp only [spec_slList.l0]
  rw [if_neg (by simp)]
  simp [rowsS]
 | w :: c, a, acc, hw, hl, hacc => by
  have h1 := (row3_len a.length (un1 m (a ++ c) w)).1
  have ih := ref_single c (a ++ [w]) (acc ++ row3 a.length (un1 m (a ++ c) w)) (by rw [List.append_assoc]; exact hw) (by rw [List.append_assoc]; exact hl) (by simp only [List.length_append, List.length_cons, List.length_nil]; omega)
  rw [List.append_assoc, List.append_assoc, List.singleton_append, len_snoc a w] at ih
  have hl2 : a.length + (c.length + 1) ≤ 12 := by simpa using hl
  exact ref_step (a ++ w :: c) false (a ++ w :: c).length a.length (by simp) (by omega) rfl (by simp only [List.length_append, List.length_cons]; omega) (by omega) acc (by omega) _ (refer_single hm hm2 a c w hw hl) _ ih
theorem ref_swap : ∀ (c a : List Nat) (acc : List (List Int)), c ≠ [] → (∀ v ∈ a ++ c, v < m) → (a ++ c).length ≤ 12 → acc.length ≤ a.length → 
  Ev (fun k => spec_slList.l0 k true acc ((a ++ c).length : Int) (a.length : Int) (ints (a ++ c)) (m : Int)) (acc ++ rowsW m a c)
 | [], a, acc, hne, hw, hl, hacc => absurd rfl hne
 | [w], a, acc, hne, hw, hl, hacc => by
  have hl2 : a.length + 1 ≤ 12 := by simpa using hl
  refine Ev.step (f := fun k => spec_slList.j1 k true acc (a.length : Int) ((a ++ [w]).length : Int) (a.length : Int) true (ints (a ++ [w])) (m : Int)) (fun k => ?_) (Ev.step (f := fun _ => some (acc ++ rowsW m a [w])) (fun k => ?_) (Ev.now _))
  ·simp only [spec_slList.l0]
   rw [if_pos (by rw [len_snoc]; omega), if_pos trivial, ints_length, len_snoc, wr (by omega) (by omega)]
   congr 1
   exact beq_iff_eq.2 (by omega)
  ·simp only [spec_slList.j1]
   rw [if_pos trivial]
   simp [rowsW]
 | w :: v :: c, a, acc, hne, hw, hl, hacc => by
  have h1 := (row3_len a.length (un2 m (a ++ c) w v)).1
  have ih := ref_swap (v :: c) (a ++ [w]) (acc ++ row3 a.length (un2 m (a ++ c) w v)) (by simp) (by rw [List.append_assoc]; exact hw) (by rw [List.append_assoc]; exact hl) (by simp only [List.length_append, List.length_cons, List.length_nil]; omega)
  rw [List.append_assoc, List.append_assoc, List.singleton_append, len_snoc a w] at ih
  have hl2 : a.length + (c.length + 1 + 1) ≤ 12 := by simpa using hl
  exact ref_step (a ++ w :: v :: c) true (a ++ w :: v :: c).length a.length (by simp only [List.length_append, List.length_cons]; omega) (by omega) (by rw [Bool.true_and]; exact beq_eq_false_iff_ne.2 (by simp only [List.length_append, List.length_cons]; omega)) (by simp only [List.length_append, List.length_cons]; omega) (by omega) acc (by omega) _ (refer_swap hm hm2 a c w v hw hl) _ ih
theorem refSingle_ev (ws : List Nat) (hw : ∀ v ∈ ws, v < m) (hl : ws.length ≤ 12) : Ev (fun k => spec_slList.f k (ints ws) (m : Int) false) (rowsS m [] ws) := by
 have h := ref_single hm hm2 ws [] [] (by simpa using hw) (by simpa using hl) (Nat.le_refl _)
 refine Ev.congr (fun k => ?_) h
 simp only [spec_slList.f]
 rw [ints_length]
 rfl
theorem refSwap_ev (ws : List Nat) (hw : ∀ v ∈ ws, v < m) (hl : ws.length ≤ 12) (h1 : 1 ≤ ws.length) : Ev (fun k => spec_slList.f k (ints ws) (m : Int) true) (rowsW m [] ws) := by
 have h := ref_swap hm hm2 ws [] [] (by intro e; rw [e] at h1; simp at h1) (by simpa using hw) (by simpa using hl) (Nat.le_refl _)
 refine Ev.congr (fun k => ?_) h
 simp only [spec_slList.f]
 rw [ints_length]
 rfl
end
theorem in_eq (a b c : Int) : spec_l1In.f a b c = some (decide (b ≤ a) && decide (a ≤ c)) := by
 unfold spec_l1In.f
 by_cases h : a ≥ b
 ·rw [if_pos h, decide_eq_true h, Bool.true_and]
 ·rw [if_neg h, decide_eq_false h, Bool.false_and]
end Go.Proofs.Ytafegaaklpdgiaa.Q

namespace Go.Proofs.Ytafegaaklpdgiaa.Q
open Go.RowKit Go.Proofs.YtafegaaklpdgiaaW.PrintWords Go.Proofs.YtafegaaklpdgiaaW.PrintLast Go.Proofs.YtafegaaklpdgiaaW.PrintMore
set_option linter.unusedVariables false
set_option linter.unusedSimpArgs false
/-- all slips and all swaps are told -/
noncomputable def okC (m : Nat) (ws : List Nat) : Bool := (rowsS m [] ws).isEmpty && (rowsW m [] ws).isEmpty
/-- the first weights, with so many more, of the good ones -/
noncomputable def fnd (m : Nat) (gd : List Nat) : Nat → List Nat → Option (List Nat)
 | 0, ws => if okC m ws = true then some ws else none
 | e + 1, ws => gd.findSome? fun w => fnd m gd e (ws ++ [w])
theorem fnd_len (m : Nat) (gd : List Nat) : ∀ e ws rs, fnd m gd e ws = some rs → rs.length = ws.length + e
 | 0, ws, rs, h => by
  unfold fnd at h
  split at h
  ·cases h; rfl
  ·cases h
 | e + 1, ws, rs, h => by
  unfold fnd at h
  obtain ⟨w, _, hw⟩ := List.exists_of_findSome?_eq_some h
  have := fnd_len m gd e _ rs hw
  rw [len_snoc] at this
  omega
/-- what the closure hands back -/
def Res (w : World) (B : Nat) (v : Value) : Option (List Nat) → Prop
 | none => v = .slice none 0 0
 | some rs => Kd.R (Kd.int .i64) 3 w B (fun _ => True) v (ints rs)
theorem Res.below {w w1 : World} {B : Nat} {v : Value} {r : Option (List Nat)} (h : Res w B v r) (hb : Below w.heap.size w w1) : Res w1 B v r := by
 cases r with
 | none => exact h
 | some rs => exact Kd.R_below h hb
/-- the variables that the closure captures -/
structure FW (w : World) (bp bm bg bf : Nat) (p m : Nat) (Ag : Option Addr) (cg : Nat) (gd : List Nat) : Prop where
 hp : w.heap[bp]? = some (.cells #[.int .i64 (p : Int)] 3 (0, 0))
 hm : w.heap[bm]? = some (.cells #[.int .i64 (m : Int)] 3 (0, 0))
 hg : w.heap[bg]? = some (.cells #[.slice Ag (ints gd).length cg] 22 (0, 0))
 hf : w.heap[bf]? = some (.cells #[.func (.func 25) #[] #[.pointer (some ⟨bp, 0, none⟩), .pointer (some ⟨bm, 0, none⟩), .pointer (some ⟨bg, 0, none⟩), .pointer (some ⟨bf, 0, none⟩)]] 43 (0, 0))
 row : Kd.C (Kd.int .i64) w Ag (ints gd).length (ints gd)
theorem FW.below {w w1 : World} {bp bm bg bf p m : Nat} {Ag : Option Addr} {cg : Nat} {gd : List Nat} (h : FW w bp bm bg bf p m Ag cg gd) (hb : Below w.heap.size w w1) : FW w1 bp bm bg bf p m Ag cg gd :=
 ⟨blk_below h.hp hb, blk_below h.hm hb, blk_below h.hg hb, blk_below h.hf hb, Kd.C_below h.row hb⟩
theorem isE_eq {α : Type} (l : List α) : ((l.length : Int) == 0) = l.isEmpty := by
 cases l with
 | nil => rfl
 | cons x l => exact beq_eq_false_iff_ne.2 (by simp only [List.length_cons]; omega)
set_option maxHeartbeats 8000000 in
set_option maxRecDepth 100000 in
/-- the last of the weights has been laid: the check -/
theorem find_leaf (bp bm bg bf p m : Nat) (Ag : Option Addr) (cg : Nat) (gd : List Nat) (B : Nat) (h1 : 1 ≤ p) (h6 : p ≤ 6) (hm1 : 2 ≤ m) (hm2 : m ≤ 11) (ws : List Nat) (hws : ws.length = p) (hlt : ∀ v ∈ ws, v < m) (u : Value) (w : World) (F : FW w bp bm bg bf p m Ag cg gd) (hR : Kd.R (Kd.int .i64) 3 w B (fun _ => True) u (ints ws)) :
  Calls Try.prog 25 #[u, .pointer (some ⟨bp, 0, none⟩), .pointer (some ⟨bm, 0, none⟩), .pointer (some ⟨bg, 0, none⟩), .pointer (some ⟨bf, 0, none⟩)] w fun e' w' => ∃ v : Value, e' = .returned v ∧ Aside0 (Res w' B v (fnd m gd 0 ws)) ∧ Below w.heap.size w w' := by
 have hu34 := Try.underlying34
 obtain ⟨A, c, hu⟩ := Kd.R_slice hR
 subst hu
 obtain ⟨k1, e1⟩ := (allSingle_ev hm1 hm2 ws hlt (by omega)).rounds
 obtain ⟨k2, e2⟩ := (allSwap_ev hm1 hm2 ws hlt (by omega) (by omega)).rounds
 have hok : okC m ws = ((rowsS m [] ws).isEmpty && (rowsW m [] ws).isEmpty) := rfl
 obtain ⟨RS, hRS⟩ : ∃ RS, RS = rowsS m [] ws := ⟨_, rfl⟩
 obtain ⟨RW, hRW⟩ : ∃ RW, RW = rowsW m [] ws := ⟨_, rfl⟩
 rw [← hRS] at e1 hok
 rw [← hRW] at e2 hok
 have hil := ints_length ws
 have cp := cell_of_one F.hp
 have cm := cell_of_one F.hm
 have ceq : (((ints ws).length : Int) == (p : Int)) = true := beq_iff_eq.2 (by rw [hil, hws])
 have HRR := Aside0.mk hR
 have HE1 := Aside0.mk e1
 have HE2 := Aside0.mk e2
 have HOK := Aside0.mk hok
 have HB := Aside0.mk (below_alloc (Below.refl w.heap.size w) (.cells #[.slice A (ints ws).length c, .int .i64 (m : Int)] 34))
 have HX := Aside0.mk (heap_alloc_new w (.cells #[.slice A (ints ws).length c, .int .i64 (m : Int)] 34))
 have HCC := Aside0.mk (Kd.R_reads' (Kd.R_alloc hR (.cells #[.slice A (ints ws).length c, .int .i64 (m : Int)] 34)))
 clear hR e1 e2 hok hRS hRW hil hws hlt F h1 h6 hm1 hm2
 go_enter Try.func25, Try.ntmps25
 go_wp2_with (fail)
 refine (impl_Check_allUntold.calls k1 A c (ints ws) (m : Int) false RS _ HCC.out.2.2 HCC.out.2.1 HE1.out).mono ?_
 rintro e' w1 ⟨v1, rfl, hv1, hb⟩
 obtain ⟨A1, c1, hv⟩ := Kd.S_slice hv1
 subst hv
 have HB1 := Aside0.mk (below_step HB.out hb)
 have HX1 := Aside0.mk (blk_below HX.out hb)
 have HCC1 := Aside0.mk (Kd.C_below HCC.out.2.2 hb)
 have z0 := (blk_cell HX1.out 0).trans rfl
 have z1 := (blk_cell HX1.out 1).trans rfl
 have hie := isE_eq RS
 obtain ⟨b1, hb1⟩ : ∃ b1, RS.isEmpty = b1 := ⟨_, rfl⟩
 rw [hb1] at hie
 have HB1b := Aside0.mk hb1
 clear hb hv1 hb1
 cases b1 with
 | false =>
  go_wp2_with (fail)
  go_ret
  refine ⟨_, rfl, ⟨?_⟩, HB1.out⟩
  unfold fnd
  rw [HOK.out, HB1b.out, Bool.false_and, if_neg (by decide)]
  rfl
 | true =>
  go_wp2_with (fail)
  refine (impl_Check_allUntold.calls k2 A c (ints ws) (m : Int) true RW _ HCC1.out HCC.out.2.1 HE2.out).mono ?_
  rintro e' w2 ⟨v2, rfl, hv2, hb⟩
  obtain ⟨A2, c2, hv⟩ := Kd.S_slice hv2
  subst hv
  have HB2 := Aside0.mk (below_step HB1.out hb)
  have hie2 := isE_eq RW
  obtain ⟨b2, hb2⟩ : ∃ b2, RW.isEmpty = b2 := ⟨_, rfl⟩
  rw [hb2] at hie2
  have HB2b := Aside0.mk hb2
  clear hb hv2 hb2 z0 z1
  cases b2 with
  | false =>
   go_wp2_with (fail)
   go_ret
   refine ⟨_, rfl, ⟨?_⟩, HB2.out⟩
   unfold fnd
   rw [HOK.out, HB2b.out, Bool.and_false, if_neg (by decide)]
   rfl
  | true =>
   go_wp2_with (fail)
   go_ret
   refine ⟨_, rfl, ⟨?_⟩, HB2.out⟩
   unfold fnd
   rw [HOK.out, HB1b.out, HB2b.out, if_pos (show (true && true) = true from rfl)]
   exact Kd.R_below HRR.out HB2.out
theorem findSome_drop {gd : List Nat} {i x : Nat} (h : gd[i]? = some x) (f : Nat → Option (List Nat)) : (gd.drop i).findSome? f = match f x with | some r => some r | none => (gd.drop (i + 1)).findSome? f := by
 have hi := (List.getElem?_eq_some_iff.1 h).1
 rw [List.drop_eq_getElem_cons hi, List.findSome?_cons]
 have : gd[i] = x := by
  have := List.getElem?_eq_getElem hi
  rw [h] at this
  exact (Option.some.inj this).symm
 rw [this]
 cases f x <;> rfl
theorem app_R {w0 w1 : World} {B : Nat} {v : Value} {ws : List Nat} {x : Nat} (h : Kd.R (Kd.int .i64) 3 w1 B (fun _ => True) v (ints ws ++ [(x : Int)])) : Kd.R (Kd.int .i64) 3 w1 B (fun _ => True) v (ints (ws ++ [x])) := by
 rw [ints_app]
 exact h
theorem goesF_ {P : Program} {ops : Array Oper} {Q : Exit → Act → World → Prop} {oi : Oper} {N : Option Tmp} {a : Act} {w : World} {K : Act → World → Prop} {f : FuncId} {fn : Func} {xs : Array Operand} {ts : Array TypeId} (hf : P.funcs[f]? = some fn) (hname : (fn.name == "runtime.NumGoroutine") = false) (hb : fn.body.isSome = true) (args caps : Array Value) (t : Tmp)
  (hw : Region.wanted oi (yielded ops a.tmps) = true) (hN : oi.dst = N) (hop : oi.op = .call { callee := .value (.tmp t), args := xs, argTypes := ts }) (hv : a.eval (.tmp t) = .func (.func f) #[] caps) (hargs : xs.map a.eval ++ caps = args)
  (h : Calls P f args w fun e w' => ∃ v, e = .returned v ∧ K (a.put N v) w') : if Region.wanted oi (yielded ops a.tmps) = true then Oper.wp P oi a w K Q else K (a.put N undef) w := by
 refine call_ f args hw hN ?_ h
 have he := enters_ hf hname hb args w
 unfold execOp
 simp [hop, resolve, Deferred.ofValue, invoke, hv, hargs, he]
def find_any.T9 : Bool × List (List Nat × List Nat) := (true, [([], []), ([], []), ([1], [1]), ([], []), ([3], [3]), ([2, 4, 2], [2, 4]), ([0, 5, 5], [0, 5]), ([6, 6, 0, 1, 2, 3, 4, 5, 6], [6])])
def find_any.B9 : List Nat := [0, 0, 2, 0, 8, 30, 63, 127]
theorem find_any.tab9 : rtab .any (opsOf Try.f25 9) = find_any.T9 := by kernel_rfl
theorem find_any.bits9 : waitsOk find_any.T9.2 find_any.B9 = true := by kernel_rfl
set_option maxHeartbeats 8000000 in
set_option maxRecDepth 100000 in
theorem find_any (bp bm bg bf p m : Nat) (Ag : Option Addr) (cg : Nat) (gd : List Nat) (B : Nat) (h1 : 1 ≤ p) (h6 : p ≤ 6) (hm1 : 2 ≤ m) (hm2 : m ≤ 11) (hgd : ∀ v ∈ gd, v < m) (hgl : gd.length ≤ 12) : ∀ (e : Nat) (ws : List Nat) (u : Value) (w : World), ws.length + e = p → (∀ v ∈ ws, v < m) → FW w bp bm bg bf p m Ag cg gd → B ≤ w.heap.size → Kd.R (Kd.int .i64) 3 w B (fun _ => True) u (ints ws) →
  Calls Try.prog 25 #[u, .pointer (some ⟨bp, 0, none⟩), .pointer (some ⟨bm, 0, none⟩), .pointer (some ⟨bg, 0, none⟩), .pointer (some ⟨bf, 0, none⟩)] w fun e' w' => ∃ v : Value, e' = .returned v ∧ Aside0 (Res w' B v (fnd m gd e ws)) ∧ Below w.heap.size w w'
 | 0, ws, u, w, hl, hlt, F, hB, hR => find_leaf bp bm bg bf p m Ag cg gd B h1 h6 hm1 hm2 ws hl hlt u w F hR
 | e + 1, ws, u, w, hl, hlt, F, hB, hR => by
  have IH := find_any bp bm bg bf p m Ag cg gd B h1 h6 hm1 hm2 hgd hgl e
  obtain ⟨A, c, hu⟩ := Kd.R_slice hR
  subst hu
  have q22 : ∀ (w : World) (a : Option Addr) (n c n' c' : Nat), (binOp .neq 22 (.slice a n c) (.slice none n' c')).run Try.prog w = .ok (.bool (!a.isNone)) w := fun w a n c n' c' => run_neq_slice_nil_any w _ _ a n c n' c' Try.underlying22
  obtain ⟨R, hRes⟩ : ∃ R, fnd m gd (e + 1) ws = R := ⟨_, rfl⟩
  rw [hRes]
  have hfs : (gd.drop 0).findSome? (fun x => fnd m gd e (ws ++ [x])) = R := hRes
  have hil := ints_length ws
  have hig := ints_length gd
  have cp := cell_of_one F.hp
  have ceq : (((ints ws).length : Int) == (p : Int)) = false := beq_eq_false_iff_ne.2 (by rw [hil]; omega)
  have cg1 := cell_of_one F.hg
  have HIH := Aside0.mk IH
  have HF := Aside0.mk F
  have HRR := Aside0.mk hR
  have HFS := Aside0.mk hfs
  have HWL := Aside0.mk (show (ints ws).length ≤ 6 by rw [hil]; omega)
  have HL := Aside0.mk hl
  have HLT := Aside0.mk hlt
  have HGD := Aside0.mk hgd
  have HGL := Aside0.mk hgl
  have HIG := Aside0.mk hig
  have HBS := Aside0.mk hB
  clear IH F hR hfs hl hlt hgd hgl hig hil hB hRes h1 h6 hm1 hm2
  go_enter Try.func25, Try.ntmps25
  go_wp2
  go_loopg [31] gd.length (fun gk v wr => ∃ (i : Nat) (z : Int), v = .int .i64 z ∧ Aside0 (z = (i : Int)) ∧ Aside0 (gk + i = gd.length) ∧ Aside0 ((gd.drop i).findSome? (fun x => fnd m gd e (ws ++ [x])) = R) ∧ Aside0 (Below w.heap.size w wr))
  case atStart => exact ⟨0, _, rfl, ⟨by rfl⟩, ⟨by omega⟩, HFS, ⟨Below.refl _ _⟩⟩
  case round =>
   clear HFS
   obtain ⟨i, z, rfl, hz, hgk, HFS, HB⟩ := hrel
   obtain rfl : z = (i : Int) := hz.out
   clear hz
   have F1 := Aside0.mk (HF.out.below HB.out)
   by_cases hi : i < gd.length
   ·obtain ⟨x, hx⟩ : ∃ x, gd[i]? = some x := ⟨_, List.getElem?_eq_getElem hi⟩
    obtain ⟨ad, hA, hcell⟩ := Kd.at_int F1.out.row (i : Int) (by omega) (by rw [HIG.out]; omega)
    rw [Int.toNat_natCast] at hcell
    subst hA
    have hrx : rd (ints gd) (i : Int) = (x : Int) := by
     rw [rd, Int.toNat_natCast]
     unfold ints
     simp [List.getD_eq_getElem?_getD, hx]
    rw [hrx] at hcell
    have hli : (i : Int) < ((ints gd).length : Int) := by rw [HIG.out]; omega
    have hst := HFS.out
    rw [findSome_drop hx] at hst
    have HST := Aside0.mk hst
    have HI := Aside0.mk hi
    have E1 := Aside0.mk (wsucc i (by have := HGL.out; omega))
    have HXM := Aside0.mk (HGD.out x (List.mem_of_getElem? hx))
    have cf := cell_of_one F1.out.hf
    have cg2 := cell_of_one F1.out.hg
    clear hst hx hrx hi
    go_wp2_with (fail)
    have hb := below_drew (Below.refl wr.heap.size wr)
    have HB1 := Aside0.mk (below_step HB.out hb)
    clear HB hb 
    have HB := HB1
    clear HB1
    have y0 := cell_of_one (HF.out.below HB.out).hf
    refine start_ (n := 8) (S := fun w' => w'.cell? ⟨bf, 0, none⟩ = some (.func (.func 25) #[] #[.pointer (some ⟨bp, 0, none⟩), .pointer (some ⟨bm, 0, none⟩), .pointer (some ⟨bg, 0, none⟩), .pointer (some ⟨bf, 0, none⟩)])) (ds := []) #[false,false,false,false,false,false,false,false] (by kernel_rfl) rfl rfl (y0) (fun hHeld => ?_)
    clear y0
    generalize wr.drew = w4 at HB hHeld ⊢
    refine with_tabW find_any.tab9 find_any.bits9 (fun HT_ HW_ => ?_)
    refine pure_ (i := 1) (N := some 36) (v := ?_) (a' := ?_) #[false,true,false,false,false,false,false,false] rfl rfl (any_of HT_.out (by kernel_rfl)) (fun _ _ _ h => h) (Or.inl ⟨by rfl, ?_⟩) ?_ ?_
    rotate_left
    ·intro w'
     go_simp
     with_reducible rfl
    rotate_left
    ·simp only [Act.put, List.setIfInBounds_toArray, List.set_cons_zero, List.set_cons_succ, i64_w, i32_w]
     rfl
    refine pure_ (i := 3) (N := some 38) (v := ?_) (a' := ?_) #[false,true,false,true,false,false,false,false] rfl rfl (any_of HT_.out (by kernel_rfl)) (fun _ _ _ h => h) (Or.inl ⟨by rfl, ?_⟩) ?_ ?_
    rotate_left
    ·intro w'
     go_simp
     with_reducible rfl
    rotate_left
    ·simp only [Act.put, List.setIfInBounds_toArray, List.set_cons_zero, List.set_cons_succ, i64_w, i32_w]
     rfl
    refine take_ (i := 0) (N := some 35) (v := ?_) (a' := ?_) #[true,true,false,true,false,false,false,false] rfl rfl (take_ofW HT_.out HW_.out (by kernel_rfl)) (fun _ _ _ h => h) (Or.inl ⟨by rfl, ?_⟩) hHeld ?_ ?_
    rotate_left
    ·intro w' s0
     go_simp
     with_reducible rfl
    rotate_left
    ·simp only [Act.put, List.setIfInBounds_toArray, List.set_cons_zero, List.set_cons_succ, i64_w, i32_w]
     rfl
    refine join_ (σ := Value × Value) 3 #[true,true,true,true,true,false,false,false] (fun s_ => [(37, s_.1), (39, s_.2)]) (fun s_ w_ => w_.cell? ⟨bf, 0, none⟩ = some (.func (.func 25) #[] #[.pointer (some ⟨bp, 0, none⟩), .pointer (some ⟨bm, 0, none⟩), .pointer (some ⟨bg, 0, none⟩), .pointer (some ⟨bf, 0, none⟩)]) ∧ Kd.R (Kd.int .i64) 3 w_ w.heap.size (fun _ => True) s_.1 (ints ws) ∧ Kd.R (Kd.int .i64) 3 w_ w.heap.size (fun _ => True) s_.2 [(x : Int)] ∧ Below w.heap.size w w_) ?_ ?_
    rotate_left
    ·intro hCont
     refine two_ (i := 2) (j := 4) (Ni := some 37) (Nj := some 39) #[true,true,true,true,false,false,false,false] #[true,true,false,true,true,false,false,false] rfl rfl rfl rfl (two_of HT_.out (by kernel_rfl)) (by decide) (by decide) (fun K hK => ?_) (fun K hK => ?_)
     ·skip
      refine goes_ Try.func27 (by kernel_rfl) rfl #[.slice A (ints ws).length c] (by rfl) rfl rfl (by simp only [List.map_toArray, List.map_cons, List.map_nil]; rfl) ?_
      with_reducible refine (clone_any A c (ints ws) _ (Kd.R_reads' (Kd.R_below HRR.out HB.out)).2.2 (by have := HWL.out; omega)).mono ?_
      rintro e5 w5 ⟨v37, rfl, hv37, hb⟩
      refine ⟨_, rfl, ?_⟩
      have HC := Aside0.mk (Kd.R_lower hv37 HB.out.size)
      clear hv37
      have HB1 := Aside0.mk (below_step HB.out hb)
      clear HB hb 
      have HB := HB1
      clear HB1
      have y0 := cell_of_one (HF.out.below HB.out).hf
      refine hK.out _ _ (y0) (fun hHeld => ?_)
      clear hK K
      refine norm_ (a' := ?_) ?_ ?_
      rotate_left
      ·show Act.put _ (some 37) _ = _
       simp only [Act.put, List.setIfInBounds_toArray, List.set_cons_zero, List.set_cons_succ, i64_w, i32_w]
       rfl
      refine one_ (i := 4) (N := some 39) #[true,true,true,true,true,false,false,false] rfl rfl (one_of HT_.out (by kernel_rfl)) (by decide) (fun K hK => ?_)
      refine Kd.R_lit_step (Kd.int .i64) _ 3 ?hg (N := 39) ?hd (xs := ([(x : Int)] : List Int)) (inner := [.int .i64 (x : Int)]) (ok := fun _ => True) (okp := fun _ => True) ?hr ?hp (fun _ hk => hk) trivial (Below.refl _ _) (Nat.le_refl _) (by simp) ?_; (case hd => rfl); (case hg => rfl); (case hr => first | (go_simp; done) | (go_simp; rfl)); (case hp => exact (Reps.one (show Kd.M (Kd.int .i64) _ _ _ (x : Int) [.int .i64 (x : Int)] from rfl) (Reps.none _ _)))
      intro v39 w6 hv39 hb hg_ hnew_
      clear hg_ hnew_
      have HT := Aside0.mk (Kd.R_lower hv39 HB.out.size)
      clear hv39
      have HB1 := Aside0.mk (below_step HB.out hb)
      have HC1 := Aside0.mk (Kd.R_below HC.out hb)
      clear HB hb HC
      have HB := HB1
      clear HB1
      have HC := HC1
      clear HC1
      have y0 := cell_of_one (HF.out.below HB.out).hf
      refine hK.out _ _ (y0) (fun hHeld => ?_)
      clear hK K
      refine norm_ (a' := ?_) ?_ ?_
      rotate_left
      ·show Act.put _ (some 39) _ = _
       simp only [Act.put, List.setIfInBounds_toArray, List.set_cons_zero, List.set_cons_succ, i64_w, i32_w]
       rfl
      exact norm_ (by simp only [putAll, Act.put, List.setIfInBounds_toArray, List.set_cons_zero, List.set_cons_succ]) (hCont (v37, v39) _ ⟨hHeld, HC.out, HT.out, HB.out⟩)
     ·skip
      refine Kd.R_lit_step (Kd.int .i64) _ 3 ?hg (N := 39) ?hd (xs := ([(x : Int)] : List Int)) (inner := [.int .i64 (x : Int)]) (ok := fun _ => True) (okp := fun _ => True) ?hr ?hp (fun _ hk => hk) trivial (Below.refl _ _) (Nat.le_refl _) (by simp) ?_; (case hd => rfl); (case hg => rfl); (case hr => first | (go_simp; done) | (go_simp; rfl)); (case hp => exact (Reps.one (show Kd.M (Kd.int .i64) _ _ _ (x : Int) [.int .i64 (x : Int)] from rfl) (Reps.none _ _)))
      intro v39 w5 hv39 hb hg_ hnew_
      clear hg_ hnew_
      have HT := Aside0.mk (Kd.R_lower hv39 HB.out.size)
      clear hv39
      have HB1 := Aside0.mk (below_step HB.out hb)
      clear HB hb 
      have HB := HB1
      clear HB1
      have y0 := cell_of_one (HF.out.below HB.out).hf
      refine hK.out _ _ (y0) (fun hHeld => ?_)
      clear hK K
      refine norm_ (a' := ?_) ?_ ?_
      rotate_left
      ·show Act.put _ (some 39) _ = _
       simp only [Act.put, List.setIfInBounds_toArray, List.set_cons_zero, List.set_cons_succ, i64_w, i32_w]
       rfl
      refine one_ (i := 2) (N := some 37) #[true,true,true,true,true,false,false,false] rfl rfl (one_of HT_.out (by kernel_rfl)) (by decide) (fun K hK => ?_)
      refine goes_ Try.func27 (by kernel_rfl) rfl #[.slice A (ints ws).length c] (by rfl) rfl rfl (by simp only [List.map_toArray, List.map_cons, List.map_nil]; rfl) ?_
      with_reducible refine (clone_any A c (ints ws) _ (Kd.R_reads' (Kd.R_below HRR.out HB.out)).2.2 (by have := HWL.out; omega)).mono ?_
      rintro e5 w6 ⟨v37, rfl, hv37, hb⟩
      refine ⟨_, rfl, ?_⟩
      have HC := Aside0.mk (Kd.R_lower hv37 HB.out.size)
      clear hv37
      have HB1 := Aside0.mk (below_step HB.out hb)
      have HT1 := Aside0.mk (Kd.R_below HT.out hb)
      clear HB hb HT
      have HB := HB1
      clear HB1
      have HT := HT1
      clear HT1
      have y0 := cell_of_one (HF.out.below HB.out).hf
      refine hK.out _ _ (y0) (fun hHeld => ?_)
      clear hK K
      refine norm_ (a' := ?_) ?_ ?_
      rotate_left
      ·show Act.put _ (some 37) _ = _
       simp only [Act.put, List.setIfInBounds_toArray, List.set_cons_zero, List.set_cons_succ, i64_w, i32_w]
       rfl
      exact norm_ (by simp only [putAll, Act.put, List.setIfInBounds_toArray, List.set_cons_zero, List.set_cons_succ]) (hCont (v37, v39) _ ⟨hHeld, HC.out, HT.out, HB.out⟩)
    clear HB
    rintro ⟨v37, v39⟩ w7 ⟨hHeld, hC_, hT_, hB_⟩
    have HC := Aside0.mk hC_
    have HT := Aside0.mk hT_
    have HB := Aside0.mk hB_
    clear hC_ hT_ hB_
    refine norm_ (a' := ?_) ?_ ?_
    rotate_left
    ·simp only [putAll, Act.put, List.setIfInBounds_toArray, List.set_cons_zero, List.set_cons_succ]
     rfl
    refine one_ (i := 5) (N := some 40) #[true,true,true,true,true,true,false,false] rfl rfl (one_of HT_.out (by kernel_rfl)) (by decide) (fun K hK => ?_)
    obtain ⟨A39, c39, hv⟩ := Kd.R_slice HT.out
    subst hv
    refine Kd.R_append_rows_step (Kd.int .i64) (w0 := w) w.heap.size (by rfl) (.tmp 37) (.tmp 39) 22 3 (.int .i64 0) 8 rfl Try.underlying22 info3 rfl (by decide) (by omega) v37 (ints ws) [(x : Int)] _ _ _ (fun _ => True) (fun _ => False) rfl rfl ?aO ?aR (fun _ _ h => h) (fun _ h => h.elim) ?aF ?aB ?aS ?aL ?_
    (case aR => exact (Kd.R_reads' HT.out).2.2)
    (case aB => exact HB.out)
    (case aF => exact (fun _ _ => trivial))
    (case aO => exact HC.out)
    (case aS => exact HB.out.size)
    (case aL => have := HWL.out; simp only [List.length_cons, List.length_nil]; omega)
    intro v40 w8 ho hb hg hat
    have HA := Aside0.mk (app_R (w0 := w) (Kd.R_lower ho HBS.out))
    clear HB HC HT ho hg hat
    have HB := Aside0.mk hb
    clear hb
    have y0 := cell_of_one (HF.out.below HB.out).hf
    refine hK.out _ _ (y0) (fun hHeld => ?_)
    clear hK K
    refine norm_ (a' := ?_) ?_ ?_
    rotate_left
    ·show Act.put _ (some 40) _ = _
     simp only [Act.put, List.setIfInBounds_toArray, List.set_cons_zero, List.set_cons_succ, i64_w, i32_w]
     rfl
    refine one_ (i := 6) (N := some 41) #[true,true,true,true,true,true,true,false] rfl rfl (one_of HT_.out (by kernel_rfl)) (by decide) (fun K hK => ?_)
    refine goesF_ Try.func25 (by kernel_rfl) rfl #[v40, .pointer (some ⟨bp, 0, none⟩), .pointer (some ⟨bm, 0, none⟩), .pointer (some ⟨bg, 0, none⟩), .pointer (some ⟨bf, 0, none⟩)] #[.pointer (some ⟨bp, 0, none⟩), .pointer (some ⟨bm, 0, none⟩), .pointer (some ⟨bg, 0, none⟩), .pointer (some ⟨bf, 0, none⟩)] 35 (by rfl) rfl rfl (by rfl) (by simp only [List.map_toArray, List.map_cons, List.map_nil]; rfl) ?_
    refine (HIH.out (ws ++ [x]) v40 w8 (by rw [len_snoc]; have := HL.out; omega) (fun v hv => (List.mem_append.1 hv).elim (HLT.out v) (fun h => by rw [List.mem_singleton.1 h]; exact HXM.out)) (HF.out.below HB.out) (Nat.le_trans HBS.out HB.out.size) HA.out).mono ?_
    rintro e6 w9 ⟨v41, rfl, HRES, hb⟩
    refine ⟨_, rfl, ?_⟩
    clear HA
    have HB1 := Aside0.mk (below_step HB.out hb)
    clear HB hb 
    have HB := HB1
    clear HB1
    have y0 := cell_of_one (HF.out.below HB.out).hf
    refine hK.out _ _ (y0) (fun hHeld => ?_)
    clear hK K
    refine norm_ (a' := ?_) ?_ ?_
    rotate_left
    ·show Act.put _ (some 41) _ = _
     simp only [Act.put, List.setIfInBounds_toArray, List.set_cons_zero, List.set_cons_succ, i64_w, i32_w]
     rfl
    refine pure_ (i := 7) (N := some 10) (v := ?_) (a' := ?_) #[true,true,true,true,true,true,true,true] rfl rfl (any_of HT_.out (by kernel_rfl)) (fun _ _ _ h => h) (Or.inl ⟨by rfl, ?_⟩) ?_ ?_
    rotate_left
    ·intro w'
     go_simp
     with_reducible rfl
    rotate_left
    ·simp only [Act.put, List.setIfInBounds_toArray, List.set_cons_zero, List.set_cons_succ, i64_w, i32_w]
     rfl
    refine done_ (done_of HT_.out (by kernel_rfl)) ?_
    
    clear hHeld
    cases hfx : fnd m gd e (ws ++ [x]) with
    | none =>
     rw [hfx] at HRES
     obtain rfl : v41 = .slice none 0 0 := HRES.out
     have h := HST.out
     rw [hfx] at h
     have HFS1 := Aside0.mk h
     clear h HRES hfx
     go_wp2_with (fail)
     go_roundg (gd.length - (i + 1))
     case measure => have := hgk.out; have := HI.out; omega
     case rel => exact ⟨i + 1, _, rfl, ⟨by first | exact E1.out | rfl⟩, ⟨by have := hgk.out; have := HI.out; omega⟩, HFS1, HB⟩
    | some rs =>
     rw [hfx] at HRES
     have h := HST.out
     rw [hfx] at h
     have hlen := fnd_len m gd e _ rs hfx
     obtain ⟨g, cap, hv, _, _, _⟩ := Kd.R_form HRES.out (by rw [ints_length, hlen, len_snoc]; omega)
     subst hv
     have HRS := Aside0.mk h
     clear h hfx hlen
     go_wp2_with (fail)
     go_ret
     refine ⟨_, rfl, ⟨?_⟩, HB.out⟩
     rw [← HRS.out]
     exact HRES.out
   ·have hli : ¬ (i : Int) < ((ints gd).length : Int) := by rw [HIG.out]; omega
    have HI := Aside0.mk hi
    clear hi
    go_wp2_with (fail)
    go_ret
    refine ⟨_, rfl, ⟨?_⟩, HB.out⟩
    have h := HFS.out
    rw [List.drop_eq_nil_of_le (by have := HI.out; omega)] at h
    rw [← h]
    rfl
end Go.Proofs.Ytafegaaklpdgiaa.Q

namespace Go.Proofs.Ytafegaaklpdgiaa.Q
open Go.RowKit Go.Proofs.YtafegaaklpdgiaaW.PrintWords Go.Proofs.YtafegaaklpdgiaaW.PrintLast Go.Proofs.YtafegaaklpdgiaaW.PrintMore
set_option linter.unusedVariables false
set_option linter.unusedSimpArgs false
/-- no multiple by a digit that is left is one of the modulus -/
def tlF (m w : Nat) : Nat → Nat → Bool
 | 0, _ => true
 | e + 1, d => decide ((w * d) % m ≠ 0) && tlF m w e (d + 1)
def tl (m w : Nat) : Bool := tlF m w 9 1
def goodF (m : Nat) : Nat → Nat → List Nat
 | 0, _ => []
 | e + 1, w => (if tl m w = true then [w] else []) ++ goodF m e (w + 1)
def goods (m : Nat) : List Nat := goodF m m 0
theorem goodF_mem (m : Nat) : ∀ e w v, v ∈ goodF m e w → w ≤ v ∧ v < w + e
 | 0, w, v, h => by simp [goodF] at h
 | e + 1, w, v, h => by
  simp only [goodF, List.mem_append] at h
  rcases h with h | h
  ·split at h
   ·simp at h; omega
   ·simp at h
  ·have := goodF_mem m e (w + 1) v h; omega
theorem goodF_len (m : Nat) : ∀ e w, (goodF m e w).length ≤ e
 | 0, w => by simp [goodF]
 | e + 1, w => by
  have := goodF_len m e (w + 1)
  simp only [goodF, List.length_append]
  split <;> simp <;> omega
/-- the variables and the list of good weights -/
structure GW (w0 w : World) (p m : Nat) (v : Value) (acc : List Int) : Prop where
 below : Below w0.heap.size w0 w
 hp : w.heap[w0.heap.size]? = some (.cells #[.int .i64 (p : Int)] 3 (0, 0))
 hm : w.heap[w0.heap.size + 1]? = some (.cells #[.int .i64 (m : Int)] 3 (0, 0))
 hg : w.heap[w0.heap.size + 1 + 1 + 1]? = some (.cells #[v] 22 (0, 0))
 row : Kd.R (Kd.int .i64) 3 w w0.heap.size (fun k => k ≠ w0.heap.size ∧ k ≠ w0.heap.size + 1) v acc
theorem R_bareI (W : World) (base g : Nat) (h : W.heap[g]? = some (.cells #[] 3 (0, 0))) (hb : base ≤ g) (ok : Nat → Prop) (hok : ok g) :
  Kd.R (Kd.int .i64) 3 W base ok (.slice (some ⟨g, 0, none⟩) 0 0) [] :=
 ⟨fun k hk => by simp only [Value.ownBlock] at hk; injection hk with hk; rw [← hk]; exact hok, [], ⟨by simp, .inr ⟨g, 0, #[], by simp, hb, h, by simp, by simp [maxLen], by simp, by simp⟩⟩, Reps.none _ _⟩
theorem GW.start (w : World) (p m : Nat) : GW w ((((w.alloc (Obj.cells #[Value.int IntKind.i64 (p : Int)] 3)).alloc (Obj.cells #[Value.int IntKind.i64 (m : Int)] 3)).alloc (Obj.cells #[] 3)).alloc (Obj.cells #[Value.slice (some { block := w.heap.size + 1 + 1, off := 0 }) 0 0] 22)) p m (.slice (some { block := w.heap.size + 1 + 1, off := 0 }) 0 0) [] := by
 have al_new : ∀ (w : World) (o : Obj) (k : Nat), k = w.heap.size → (w.alloc o).heap[k]? = some o := fun w o k h => by rw [h]; exact heap_alloc_new w o
 have al_old : ∀ (w : World) (o : Obj) (k : Nat), k < w.heap.size → (w.alloc o).heap[k]? = w.heap[k]? := fun w o k h => (below_alloc (Below.refl w.heap.size w) o).block k h
 have al_size : ∀ (w : World) (o : Obj), (w.alloc o).heap.size = w.heap.size + 1 := fun w o => by simp
 refine ⟨below_alloc (below_alloc (below_alloc (below_alloc (Below.refl _ _) _) _) _) _, ?_, ?_, ?_, R_bareI _ _ _ ?_ (by omega) _ (by omega)⟩
 all_goals repeat (first | exact al_new _ _ _ (by simp only [al_size]) | exact al_new _ _ _ rfl | rw [al_old _ _ _ (by simp only [al_size]; omega)])
/-- ahead of the store into the variable: the row has grown -/
structure GX (w0 w : World) (p m : Nat) (v0 v : Value) (acc : List Int) : Prop where
 below : Below w0.heap.size w0 w
 hp : w.heap[w0.heap.size]? = some (.cells #[.int .i64 (p : Int)] 3 (0, 0))
 hm : w.heap[w0.heap.size + 1]? = some (.cells #[.int .i64 (m : Int)] 3 (0, 0))
 cg : w.heap[w0.heap.size + 1 + 1 + 1]? = some (.cells #[v0] 22 (0, 0))
 row : Kd.R (Kd.int .i64) 3 w w0.heap.size (fun k => k ≠ w0.heap.size ∧ k ≠ w0.heap.size + 1) v acc
theorem GW.grown {w0 w w1 : World} {p m : Nat} {v v1 : Value} {acc acc1 : List Int} (H : GW w0 w p m v acc) (ho : Kd.R (Kd.int .i64) 3 w1 w0.heap.size (fun k => k ≠ w0.heap.size ∧ k ≠ w0.heap.size + 1) v1 acc1) (hb : Below w0.heap.size w0 w1) (hg : w.grownBy w1 v.ownBlock) : GX w0 w1 p m v v1 acc1 := by
 have hne : some (w0.heap.size + 1 + 1 + 1) ≠ v.ownBlock := Kd.R_ne H.row H.hg (by decide)
 exact ⟨hb, (hg.block _ (blk_lt H.hp) (fun e => (H.row.1 _ e.symm).1 rfl)).trans H.hp, (hg.block _ (blk_lt H.hm) (fun e => (H.row.1 _ e.symm).2 rfl)).trans H.hm, (hg.block _ (blk_lt H.hg) hne).trans H.hg, ho⟩
theorem GX.box {w0 w : World} {p m : Nat} {v0 v : Value} {acc : List Nat} {i : Nat} (H : GX w0 w p m v0 v (ints acc ++ [(i : Int)])) : GW w0 (w.setCell ⟨w0.heap.size + 1 + 1 + 1, 0, none⟩ v) p m v (ints (acc ++ [i])) := by
 have far : ∀ {k : Nat} {o : Obj}, w.heap[k]? = some o → k ≠ w0.heap.size + 1 + 1 + 1 → (w.setCell ⟨w0.heap.size + 1 + 1 + 1, 0, none⟩ v).heap[k]? = some o := fun h hk => (Below.heap_setCell _ _ _ _ hk).trans h
 rw [ints_app]
 exact ⟨below_set H.below (by show w0.heap.size ≤ w0.heap.size + 1 + 1 + 1; omega), far H.hp (by omega), far H.hm (by omega), one_setCell H.cg, Kd.R_set H.row H.cg (by decide) _ _⟩
theorem mulw2 {a b : Nat} (ha : a ≤ 11) (hb : b ≤ 10) : wrap64 ((a : Int) * (b : Int)) = ((a * b : Nat) : Int) := mulw ha hb
set_option maxHeartbeats 8000000 in
set_option maxRecDepth 100000 in
theorem best_any (p m : Nat) (h1 : 2 ≤ p) (h6 : p ≤ 6) (hm1 : 2 ≤ m) (hm2 : m ≤ 11) (w : World) :
  Calls Try.prog 7 #[.int .i64 (p : Int), .int .i64 (m : Int)] w fun e' w' => ∃ v : Value, e' = .returned (.tuple #[v, .bool (fnd m (goods m) p []).isSome]) ∧ Aside0 (Res w' w.heap.size v (fnd m (goods m) p [])) ∧ Below w.heap.size w w' := by
 have q22 : ∀ (w : World) (a : Option Addr) (n c n' c' : Nat), (binOp .neq 22 (.slice a n c) (.slice none n' c')).run Try.prog w = .ok (.bool (!a.isNone)) w := fun w a n c n' c' => run_neq_slice_nil_any w _ _ a n c n' c' Try.underlying22
 have b1 : (decide (2 ≤ (p : Int)) && decide ((p : Int) ≤ 6)) = true := by rw [Bool.and_eq_true]; exact ⟨decide_eq_true (by omega), decide_eq_true (by omega)⟩
 have b2 : (decide (2 ≤ (m : Int)) && decide ((m : Int) ≤ 11)) = true := by rw [Bool.and_eq_true]; exact ⟨decide_eq_true (by omega), decide_eq_true (by omega)⟩
 have mz : ((m : Int) == 0) = false := beq_eq_false_iff_ne.2 (by omega)
 obtain ⟨R, hR⟩ : ∃ R, fnd m (goods m) p [] = R := ⟨_, rfl⟩
 rw [hR]
 have HRR := Aside0.mk hR
 clear hR
 have HB1 := Aside0.mk b1
 have HB2 := Aside0.mk b2
 have H1 := Aside0.mk h1
 have H6 := Aside0.mk h6
 have HM1 := Aside0.mk hm1
 have HM2 := Aside0.mk hm2
 clear b1 b2 h1 h6 hm1 hm2
 go_enter Try.func7, Try.ntmps7
 go_wp2_with (go_at_call 24; first | (with_reducible refine (within_eq _ _ _ true _ HB1.out).mono ?_; rintro e w1 ⟨rfl, rfl⟩) | (with_reducible refine (within_eq _ _ _ true _ HB2.out).mono ?_; rintro e w1 ⟨rfl, rfl⟩))
 have HG0 := Aside0.mk (GW.start w p m)
 generalize (((w.alloc (Obj.cells #[Value.int IntKind.i64 (p : Int)] 3)).alloc (Obj.cells #[Value.int IntKind.i64 (m : Int)] 3)).alloc (Obj.cells #[] 3)).alloc (Obj.cells #[Value.slice (some { block := w.heap.size + 1 + 1, off := 0 }) 0 0] 22) = w4 at HG0 ⊢
 go_loopg [22] m (fun gk v22 wr => ∃ (i : Nat) (z : Int) (acc : List Nat) (v : Value), v22 = .int .i64 z ∧ Aside0 (z = (i : Int)) ∧ Aside0 (gk + i = m) ∧ Aside0 (acc ++ goodF m (m - i) i = goods m) ∧ Aside0 (acc.length ≤ i) ∧ Aside0 (GW w wr p m v (ints acc)))
 case atStart => exact ⟨0, _, [], _, rfl, ⟨by rfl⟩, ⟨by omega⟩, ⟨rfl⟩, ⟨Nat.le_refl _⟩, HG0⟩
 case round =>
  clear HG0
  obtain ⟨i, z, acc, v, rfl, hz, hgk, HA, HL, HG⟩ := hrel
  obtain rfl : z = (i : Int) := hz.out
  clear hz
  by_cases hi : i < m
  ·have hli : (i : Int) < (m : Int) := by omega
   have HI := Aside0.mk hi
   have cm := cell_of_one HG.out.hm
   have E1 := Aside0.mk (wsucc i (by have := HM2.out; omega))
   clear hi
   go_wp2_with (fail)
   go_loopg [8, 9] 9 (fun gj v8 v9 wv => ∃ (b : Bool) (d : Nat) (z : Int), v8 = .bool b ∧ v9 = .int .i64 z ∧ Aside0 (z = (d : Int)) ∧ Aside0 (gj + d = 10 ∧ 1 ≤ d) ∧ Aside0 ((b && tlF m i (10 - d) d) = tl m i) ∧ Aside0 (wr = wv))
   case atStart => exact ⟨true, 1, _, rfl, rfl, ⟨by rfl⟩, ⟨by omega⟩, ⟨by rw [Bool.true_and]; rfl⟩, ⟨rfl⟩⟩
   case round =>
    obtain ⟨b, d, z, rfl, rfl, hz, HD, HT, hw⟩ := hrel
    obtain rfl : z = (d : Int) := hz.out
    obtain rfl := hw.out
    clear hz hw
    by_cases hd : d < 10
    ·have hld : (d : Int) < 10 := by omega
     have HDD := Aside0.mk hd
     have E2 := Aside0.mk (wsucc d (by omega))
     obtain ⟨t, ht⟩ : ∃ t : Bool, decide ((i * d) % m ≠ 0) = t := ⟨_, rfl⟩
     have hne : (Int.tmod (wrap64 ((i : Int) * (d : Int))) (m : Int) != 0) = t := by
      rw [mulw2 (a := i) (b := d) (by have := HI.out; have := HM2.out; omega) (by omega)]
      have e : Int.tmod ((i * d : Nat) : Int) (m : Int) = (((i * d) % m : Nat) : Int) := rfl
      rw [← ht, e]
      by_cases c : (i * d) % m = 0
      ·rw [c]; rfl
      ·rw [decide_eq_true c]; exact bne_iff_ne.2 (by omega)
     have HNE := Aside0.mk hne
     clear hne
     have hstep : tlF m i (10 - d) d = (t && tlF m i (10 - (d + 1)) (d + 1)) := by
      rw [show 10 - d = (10 - (d + 1)) + 1 by omega, tlF, ht]
     have HS := Aside0.mk hstep
     clear hd ht hstep
     cases b with
     | false =>
      go_wp2_with (fail)
      go_roundg (9 - d)
      case measure => have := HD.out; have := HDD.out; omega
      case rel => exact ⟨false, d + 1, _, rfl, rfl, ⟨by first | exact E2.out | rfl⟩, ⟨by have := HD.out; have := HDD.out; omega⟩, ⟨by rw [← HT.out]; rfl⟩, ⟨rfl⟩⟩
     | true =>
      go_wp2_with (fail)
      go_roundg (9 - d)
      case measure => have := HD.out; have := HDD.out; omega
      case rel => exact ⟨_, d + 1, _, rfl, rfl, ⟨by first | exact E2.out | rfl⟩, ⟨by have := HD.out; have := HDD.out; omega⟩, ⟨by rw [← HT.out, HS.out, Bool.true_and, HNE.out]⟩, ⟨rfl⟩⟩
    ·have hld : ¬ (d : Int) < 10 := by omega
     have HDD := Aside0.mk hd
     have hT : b = tl m i := by
      have h := HT.out
      rw [show 10 - d = 0 by omega, tlF, Bool.and_true] at h
      exact h
     have hstep : goodF m (m - i) i = (if tl m i = true then [i] else []) ++ goodF m (m - (i + 1)) (i + 1) := by
      have := HI.out
      rw [show m - i = (m - (i + 1)) + 1 by omega, goodF]
     have HS := Aside0.mk hstep
     have HTT := Aside0.mk hT
     clear hd hstep hT
     cases b with
     | false =>
      go_wp2_with (fail)
      go_roundg (m - (i + 1))
      case measure => have := hgk.out; have := HI.out; omega
      case rel => exact ⟨i + 1, _, acc, v, rfl, ⟨by first | exact E1.out | rfl⟩, ⟨by have := hgk.out; have := HI.out; omega⟩, ⟨by rw [← HA.out, HS.out, ← HTT.out]; rfl⟩, ⟨by have := HL.out; omega⟩, HG⟩
     | true =>
      have cg := cell_of_one HG.out.hg
      have HLS := Aside0.mk (show (ints acc).length ≤ 1000 by rw [ints_length]; have := HL.out; have := HI.out; have := HM2.out; omega)
      go_wp2_with ((with_reducible refine gate_builtin (b := .append) (xs := #[.tmp 39, .tmp 41]) rfl ?_); at_builtin; refine Kd.R_append (Kd.int .i64) (w0 := w) w.heap.size rfl (.tmp 39) (.tmp 41) 22 3 (.int .i64 0) 8 rfl Try.underlying22 info3 rfl (by decide) (by omega) v (ints acc) (i : Int) [.int .i64 (i : Int)] (fun k => k ≠ w.heap.size ∧ k ≠ w.heap.size + 1) (fun _ => False) rfl rfl ?aP (fun _ hk => hk.elim) ?aF ?aO ?aB ?aS ?aL ?_; (case aP => exact rfl); (case aF => exact fun k hk => by have := blk_lt HG.out.hg; omega); (case aO => exact HG.out.row); (case aB => exact HG.out.below); (case aS => exact HG.out.below.size); (case aL => have := HLS.out; omega); intro v1 w5 ho hb hg hat; have H2 := Aside0.mk (HG.out.grown ho hb hg); have cl2 := cell_of_one H2.out.cg; have fl2 := free_of_one H2.out.cg; (have hcut : ∃ A n_ c_, v1 = .slice A n_ c_ := (by obtain ⟨A, c_, e_⟩ := Kd.R_slice ho; exact ⟨A, _, c_, e_⟩)); clear ho hb hg hat cg; obtain ⟨A1, n1, c1, e1_⟩ := hcut; subst e1_)
      go_roundg (m - (i + 1))
      case measure => have := hgk.out; have := HI.out; omega
      case rel => exact ⟨i + 1, _, acc ++ [i], _, rfl, ⟨by first | exact E1.out | rfl⟩, ⟨by have := hgk.out; have := HI.out; omega⟩, ⟨by rw [List.append_assoc, ← HA.out, HS.out, ← HTT.out]; rfl⟩, ⟨by rw [len_snoc]; have := HL.out; omega⟩, ⟨H2.out.box⟩⟩
  ·have hli : ¬ (i : Int) < (m : Int) := by omega
   have hacc : acc = goods m := by
    have h := HA.out
    rw [show m - i = 0 by omega, goodF, List.append_nil] at h
    exact h
   subst hacc
   obtain ⟨Ag, cgc, hv⟩ := Kd.R_slice HG.out.row
   subst hv
   have hb4 := below_alloc (Below.refl wr.heap.size wr) (.cells #[.func (.func 25) #[] #[.pointer (some ⟨w.heap.size, 0, none⟩), .pointer (some ⟨w.heap.size + 1, 0, none⟩), .pointer (some ⟨w.heap.size + 1 + 1 + 1, 0, none⟩), .pointer (some ⟨wr.heap.size, 0, none⟩)]] 43)
   have HF := Aside0.mk (show FW _ w.heap.size (w.heap.size + 1) (w.heap.size + 1 + 1 + 1) wr.heap.size p m Ag cgc (goods m) from ⟨blk_below HG.out.hp hb4, blk_below HG.out.hm hb4, blk_below HG.out.hg hb4, heap_alloc_new wr _, Kd.C_below (Kd.R_reads' HG.out.row).2.2 hb4⟩)
   have HB4 := Aside0.mk (below_step HG.out.below hb4)
   have cf := cell_of_one HF.out.hf
   clear hb4 HG HA HL
   go_wp2_with (fail)
   refine (find_any w.heap.size (w.heap.size + 1) (w.heap.size + 1 + 1 + 1) wr.heap.size p m Ag cgc (goods m) w.heap.size (by have := H1.out; omega) H6.out HM1.out HM2.out (fun v hv => by have := goodF_mem m m 0 v hv; omega) (by have := goodF_len m m 0; have := HM2.out; unfold goods; omega) p [] (.slice none 0 0) _ (by simp) (fun v hv => by simp at hv) HF.out HB4.out.size (Kd.R_nil _ _ _ _ _)).mono ?_
   rintro e2 w6 ⟨v6, rfl, HRES, hb6⟩
   have HB6 := Aside0.mk (below_step HB4.out hb6)
   rw [HRR.out] at HRES
   clear hb6
   cases R with
   | none =>
    obtain rfl : v6 = .slice none 0 0 := HRES.out
    go_wp2_with (fail)
    go_ret2
    exact ⟨_, rfl, ⟨rfl⟩, HB6.out⟩
   | some rs =>
    have hlen := fnd_len m (goods m) p [] rs HRR.out
    obtain ⟨g, cap, hv, _, _, _⟩ := Kd.R_form HRES.out (by rw [ints_length, hlen]; have := H1.out; simp; omega)
    subst hv
    clear hlen
    go_wp2_with (fail)
    go_ret2
    exact ⟨_, rfl, HRES, HB6.out⟩
set_option maxHeartbeats 2000000 in
set_option maxRecDepth 100000 in
theorem best_none (a0 a1 : Int) (h : ¬ ((2 ≤ a0 ∧ a0 ≤ 6) ∧ (2 ≤ a1 ∧ a1 ≤ 11))) (w : World) :
  Calls Try.prog 7 #[.int .i64 a0, .int .i64 a1] w fun e' w' => e' = .returned (.tuple #[.slice none 0 0, .bool false]) ∧ Below w.heap.size w w' := by
 by_cases c : 2 ≤ a0 ∧ a0 ≤ 6
 ·have b1 : (decide (2 ≤ a0) && decide (a0 ≤ 6)) = true := by rw [Bool.and_eq_true]; exact ⟨decide_eq_true c.1, decide_eq_true c.2⟩
  have b2 : (decide (2 ≤ a1) && decide (a1 ≤ 11)) = false := by
   rw [Bool.and_eq_false_iff]
   by_cases c2 : 2 ≤ a1
   ·exact .inr (decide_eq_false (fun c3 => h ⟨c, c2, c3⟩))
   ·exact .inl (decide_eq_false c2)
  have HB1 := Aside0.mk b1
  have HB2 := Aside0.mk b2
  clear b1 b2 h c
  go_enter Try.func7, Try.ntmps7
  go_wp2_with (go_at_call 24; first | (with_reducible refine (within_eq _ _ _ true _ HB1.out).mono ?_; rintro e w1 ⟨rfl, rfl⟩) | (with_reducible refine (within_eq _ _ _ false _ HB2.out).mono ?_; rintro e w1 ⟨rfl, rfl⟩))
  go_ret2
  exact ⟨rfl, below_alloc (below_alloc (Below.refl _ _) _) _⟩
 ·have b1 : (decide (2 ≤ a0) && decide (a0 ≤ 6)) = false := by
   rw [Bool.and_eq_false_iff]
   by_cases c2 : 2 ≤ a0
   ·exact .inr (decide_eq_false (fun c3 => c ⟨c2, c3⟩))
   ·exact .inl (decide_eq_false c2)
  have HB1 := Aside0.mk b1
  clear b1 h c
  go_enter Try.func7, Try.ntmps7
  go_wp2_with (go_at_call 24; with_reducible refine (within_eq _ _ _ false _ HB1.out).mono ?_; rintro e w1 ⟨rfl, rfl⟩)
  go_ret2
  exact ⟨rfl, below_alloc (below_alloc (Below.refl _ _) _) _⟩
/-- 'BestWeights', in the print's form -/
noncomputable def bestP (p m : Nat) : List Int × Bool := match fnd m (goods m) p [] with
 | some ws => (ints ws,true)
 | none => ([],false)
noncomputable def impl_BestWeights.f (a0 a1 : Int) : Option (List Int × Bool) := if (2 ≤ a0 ∧ a0 ≤ 6) ∧ (2 ≤ a1 ∧ a1 ≤ 11) then some (bestP a0.toNat a1.toNat) else some ([],false)
theorem impl_BestWeights.calls (a0 a1 : Int) (r1 : List Int) (r2 : Bool) (w : World) (h : impl_BestWeights.f a0 a1 = some (r1, r2)) :
  Calls Try.prog 7 #[.int .i64 a0, .int .i64 a1] w fun e w' => ∃ v0_ : Value, e = .returned (.tuple #[v0_, .bool r2]) ∧ Kd.R (Kd.int .i64) 3 w' w.heap.size (fun _ => True) v0_ r1 ∧ Below w.heap.size w w' := by
 unfold impl_BestWeights.f at h
 by_cases c : (2 ≤ a0 ∧ a0 ≤ 6) ∧ (2 ≤ a1 ∧ a1 ≤ 11)
 ·rw [if_pos c] at h
  have h := Option.some.inj h
  obtain ⟨p, rfl⟩ : ∃ p : Nat, a0 = (p : Int) := ⟨a0.toNat, by omega⟩
  obtain ⟨m, rfl⟩ : ∃ m : Nat, a1 = (m : Int) := ⟨a1.toNat, by omega⟩
  rw [Int.toNat_natCast, Int.toNat_natCast] at h
  refine (best_any p m (by omega) (by omega) (by omega) (by omega) w).mono fun e w' ⟨v, he, hr, hb⟩ => ?_
  unfold bestP at h
  cases hf : fnd m (goods m) p [] with
  | none =>
   rw [hf] at h he hr
   obtain ⟨rfl, rfl⟩ := Prod.mk.inj h
   obtain rfl : v = .slice none 0 0 := hr.out
   exact ⟨_, he, Kd.R_nil _ _ _ _ _, hb⟩
  | some ws =>
   rw [hf] at h he hr
   obtain ⟨rfl, rfl⟩ := Prod.mk.inj h
   exact ⟨_, he, hr.out, hb⟩
 ·rw [if_neg c] at h
  obtain ⟨rfl, rfl⟩ := Prod.mk.inj (Option.some.inj h)
  exact (best_none a0 a1 c w).mono fun e w' ⟨he, hb⟩ => ⟨_, he, Kd.R_nil _ _ _ _ _, hb⟩
end Go.Proofs.Ytafegaaklpdgiaa.Q

namespace Go.Proofs.Ytafegaaklpdgiaa.Q
open Go.RowKit Go.Proofs.YtafegaaklpdgiaaW.PrintWords Go.Proofs.YtafegaaklpdgiaaW.PrintLast Go.Proofs.YtafegaaklpdgiaaW.PrintMore
attribute [local go_sem] max2_int min2_int max_two min_two max_three min_three max_four min_four   -- for this text's walks alone
set_option linter.unusedVariables false
set_option linter.unusedSimpArgs false
def spec_l1Own.f (l0 : List Int) : Option (List Int) := (some (([] : List Int) : List Int)).bind fun y101 => (if y101.length + l0.length < 17592186044416 then (some (y101 ++ l0)) else (none))
set_option maxHeartbeats 8000000 in
set_option maxRecDepth 100000 in
theorem spec_l1Own.calls (A0 : Option Addr) (c0 : Nat) (l0 : List Int) (r : List Int) (w : World) (hr0 : Kd.C (Kd.int .i64) w A0 l0.length l0) (hc0 : l0.length ≤ c0) (h : spec_l1Own.f l0 = some r) :
  Calls Try.prog 34 #[.slice A0 l0.length c0] w fun e w' => ∃ v0_ : Value, e = .returned (v0_) ∧ Kd.R (Kd.int .i64) 3 w' w.heap.size (fun _ => True) v0_ r ∧ Below w.heap.size w w' := by
 have HR0 := Aside0.mk hr0
 have HC0 := Aside0.mk hc0
 clear hr0 hc0
 have HB := Aside0.mk (Below.refl w.heap.size w)
 have H : ((some (([] : List Int) : List Int)).bind fun y101 => (if y101.length + l0.length < 17592186044416 then (some (y101 ++ l0)) else (none))) = some r := h
 clear h
 obtain ⟨y101, hy101⟩ : ∃ y_ : List Int, y_ = (([] : List Int)) := ⟨_, rfl⟩
 replace H : (if y101.length + l0.length < 17592186044416 then (some (y101 ++ l0)) else (none)) = some r := by first | (rw [hy101]; with_reducible exact H) | (have H2_ := (Option.bind_some _ _).symm.trans H; rw [hy101]; with_reducible exact H2_) | (have H2_ := (Option.bind_some _ _).symm.trans H; with_reducible exact H2_) | with_reducible exact H | (rw [hy101]; exact H) | exact H
 have Ny101 := Aside0.mk hy101
 clear hy101
 by_cases c2 : y101.length + l0.length < 17592186044416
 ·rw [if_pos c2] at H
  have LMc2 := Aside0.mk c2
  clear c2
  obtain ⟨y104, hy104⟩ : ∃ y_ : List Int, y_ = (y101 ++ l0) := ⟨_, rfl⟩
  replace H : (some y104) = some r := by first | (rw [hy104]; with_reducible exact H) | (have H2_ := (Option.bind_some _ _).symm.trans H; rw [hy104]; with_reducible exact H2_) | (have H2_ := (Option.bind_some _ _).symm.trans H; with_reducible exact H2_) | with_reducible exact H | (rw [hy104]; exact H) | exact H
  have Ny104 := Aside0.mk hy104
  clear hy104
  obtain rfl := Option.some.inj H
  go_enter Try.func34, Try.ntmps34
  go_wp2_with (first | ((with_reducible refine gate_dst (N := 3) rfl ?_); refine Kd.R_lit (Kd.int .i64) _ 3 ?hg (N := 3) ?hd (xs := ([] : List Int)) (inner := []) (ok := fun _ => True) (okp := fun _ => True) ?hr ?hp (fun _ hk => hk) trivial (Below.refl _ _) (Nat.le_refl _) (by simp) ?_; (case hd => rfl); (case hg => rfl); (case hr => first | (go_simp; done) | (go_simp; rfl)); (case hp => exact (Reps.none _ _)); intro v102 w3 ho4 hb hg_ hnew_; clear hg_ hnew_; (first | rw [← Ny101.out] at ho4 | (simp only [Int.reduceToNat] at ho4; rw [← Ny101.out] at ho4)); have n0_ := Aside0.mk (Kd.R_lower ho4 (below_size (by repeat (first | (with_reducible first | exact HB.out | apply below_alloc | apply pw_below_drewN | apply below_drew1) | exact HB.out)))); have n1_ := Aside0.mk (below_step (by repeat (first | (with_reducible first | exact HB.out | apply below_alloc | apply pw_below_drewN | apply below_drew1) | exact HB.out)) hb); clear HB; have HO103 := n0_; have HB := n1_; clear n0_ n1_; clear hb ho4) | ((with_reducible refine gate_builtin (b := .append) (xs := #[.tmp 3, .tmp 4]) rfl ?_); at_builtin; refine Kd.R_append_rows (Kd.int .i64) (w0 := w) w.heap.size rfl (.tmp 3) (.tmp 4) 22 3 (.int .i64 0) 8 rfl Try.underlying22 info3 rfl (by decide) (by omega) v102 y101 l0 _ _ _ (fun _ => True) (fun _ => False) rfl rfl ?aO ?aR (fun _ _ h => h) (fun _ h => h.elim) ?aF ?aB ?aS ?aL ?_; (case aR => repeat (first | exact (Kd.C_below HR0.out HB.out) | (with_reducible refine Kd.C_alloc ?_ _) | (with_reducible refine Kd.C_drewN ?_ _) | (with_reducible refine Kd.C_drew ?_))); (case aB => exact (by repeat (first | (with_reducible first | exact HB.out | apply below_alloc | apply pw_below_drewN | apply below_drew1) | exact HB.out))); (case aF => exact (fun _ _ => trivial)); (case aO => exact (by (with_reducible repeat (first | apply Kd.R_alloc | apply Kd.R_drewN | apply Kd.R_drew)); exact HO103.out)); (case aS => exact (below_size (by repeat (first | (with_reducible first | exact HB.out | apply below_alloc | apply pw_below_drewN | apply below_drew1) | exact HB.out)))); (case aL => have := LMc2.out; omega); intro v105 w5 ho hb hg hat; rw [← Ny104.out] at ho; have n0_ := Aside0.mk (hb); have n1_ := Aside0.mk (ho); clear HB; clear HO103; have HB := n0_; have HO106 := n1_; clear n0_ n1_; clear ho hb hg hat))
  go_ret
  exact ⟨_, by first | rfl | (simp [errW_none, errW_some] <;> rfl) | (simp [*, errW_none, errW_some] <;> rfl), by (with_reducible repeat (first | apply Kd.R_alloc | apply Kd.R_drewN | apply Kd.R_drew)); exact HO106.out, by repeat (first | (with_reducible first | exact HB.out | apply below_alloc | apply pw_below_drewN | apply below_drew1) | exact HB.out)⟩
 ·rw [if_neg c2] at H
  exact absurd H (by simp)
end Go.Proofs.Ytafegaaklpdgiaa.Q
