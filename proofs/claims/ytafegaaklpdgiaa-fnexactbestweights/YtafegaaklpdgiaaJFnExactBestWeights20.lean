/-
  Texts of this claim, joined in their build order: the contracts of the functions that the statement reaches, and plain lemmas.
-/
import Derived.Test.YtafegaaklpdgiaaJFnExactBestWeights16
import Derived.Test.YtafegaaklpdgiaaJFnExactBestWeights19
import Derived.Test.YtafegaaklpdgiaaJFnExactBestWeights18

namespace Go.Proofs.Ytafegaaklpdgiaa.Q
open Go.RowKit Go.Proofs.YtafegaaklpdgiaaW.PrintWords Go.Proofs.YtafegaaklpdgiaaW.PrintLast Go.Proofs.YtafegaaklpdgiaaW.PrintMore
attribute [local go_sem] max2_int min2_int max_two min_two max_three min_three max_four min_four   -- for this text's walks alone
set_option linter.unusedVariables false
set_option linter.unusedSimpArgs false
def spec_BestWeights.f (k : Nat) (a0 : Int) (a1 : Int) : Option (List Int × Bool) := (spec_l1In.f a0 2 6).bind fun t101 => (if t101 = true then ((spec_l1In.f a1 2 11).bind fun t102 => (if t102 = true then ((spec_slBest.f k a0 ([] : List Int) a1).bind fun bt103 => (some (bt103.1, bt103.2))) else (some (([] : List Int),false)))) else (some (([] : List Int),false)))
theorem spec_BestWeights.mono : ∀ a0 a1 k, LeO (spec_BestWeights.f k a0 a1) (spec_BestWeights.f (k + 1) a0 a1) := by
 intro a0 a1 k
 unfold spec_BestWeights.f
 repeat' first
   | (with_reducible exact spec_slBest.mono _ _ _ _)
   | (with_reducible exact LeO.refl _)
   | (with_reducible exact LeO.none _)
   | (with_reducible refine LeO.ite ?_ ?_)
   | (with_reducible refine LeO.bind ?_ (fun _ => ?_))
   | exact spec_slBest.mono _ _ _ _
   | exact LeO.none _
   | refine LeO.ite ?_ ?_
   | refine LeO.bind ?_ (fun _ => ?_)
set_option maxHeartbeats 8000000 in
set_option maxRecDepth 100000 in
theorem spec_BestWeights.calls (k : Nat) (a0 : Int) (a1 : Int) (r1 : List Int) (r2 : Bool) (w : World) (h : spec_BestWeights.f k a0 a1 = some (r1, r2)) :
  Calls Try.prog 6 #[.int .i64 a0, .int .i64 a1] w fun e w' => ∃ v0_ : Value, e = .returned (.tuple #[v0_, .bool r2]) ∧ Kd.R (Kd.int .i64) 3 w' w.heap.size (fun _ => True) v0_ r1 ∧ Below w.heap.size w w' := by
 have hu34 := Try.underlying34
 have HB := Aside0.mk (Below.refl w.heap.size w)
 have H : ((spec_l1In.f a0 2 6).bind fun t101 => (if t101 = true then ((spec_l1In.f a1 2 11).bind fun t102 => (if t102 = true then ((spec_slBest.f k a0 ([] : List Int) a1).bind fun bt103 => (some (bt103.1, bt103.2))) else (some (([] : List Int),false)))) else (some (([] : List Int),false)))) = some (r1, r2) := h
 clear h
 replace H := Option.bind_eq_some_iff.mp H
 obtain ⟨t101, A30, H⟩ := H
 replace H : (if t101 = true then ((spec_l1In.f a1 2 11).bind fun t102 => (if t102 = true then ((spec_slBest.f k a0 ([] : List Int) a1).bind fun bt103 => (some (bt103.1, bt103.2))) else (some (([] : List Int),false)))) else (some (([] : List Int),false))) = some (r1, r2) := H
 have A3 := Aside0.mk A30
 clear A30
 by_cases c4 : t101 = true
 ·subst c4
  have H1 : ((spec_l1In.f a1 2 11).bind fun t102 => (if t102 = true then ((spec_slBest.f k a0 ([] : List Int) a1).bind fun bt103 => (some (bt103.1, bt103.2))) else (some (([] : List Int),false)))) = some (r1, r2) := by rw [if_pos rfl] at H; exact H
  clear H
  have H := H1
  clear H1
  replace H := Option.bind_eq_some_iff.mp H
  obtain ⟨t102, A50, H⟩ := H
  replace H : (if t102 = true then ((spec_slBest.f k a0 ([] : List Int) a1).bind fun bt103 => (some (bt103.1, bt103.2))) else (some (([] : List Int),false))) = some (r1, r2) := H
  have A5 := Aside0.mk A50
  clear A50
  by_cases c6 : t102 = true
  ·subst c6
   have H1 : ((spec_slBest.f k a0 ([] : List Int) a1).bind fun bt103 => (some (bt103.1, bt103.2))) = some (r1, r2) := by rw [if_pos rfl] at H; exact H
   clear H
   have H := H1
   clear H1
   replace H := Option.bind_eq_some_iff.mp H
   obtain ⟨⟨t103, t106⟩, A70, H⟩ := H
   replace H : (some (t103, t106)) = some (r1, r2) := H
   have A7 := Aside0.mk A70
   clear A70
   simp only [Option.some.injEq, Prod.mk.injEq] at H
   obtain ⟨rfl, rfl⟩ := H
   go_enter Try.func6, Try.ntmps6
   go_wp2_with (first | ((with_reducible refine gate_callee (f := 22) rfl ?_); refine goesL_ (some 7) rfl rfl Try.func22 (by kernel_rfl) rfl #[.int .i64 a0, .int .i64 2, .int .i64 6] rfl (by (try simp only [List.map_toArray, List.map_cons, List.map_nil]); first | done | rfl | (simp only [List.length_drop, List.length_take]; rfl)) ?_; (with_reducible refine (spec_l1In.calls a0 2 6 true _ A3.out).mono ?_); rintro e w' ⟨rfl, ⟨nd, rfl⟩⟩; refine ⟨_, rfl, ?_⟩) | (go_at_call 22; (with_reducible refine (spec_l1In.calls a1 2 11 true _ A5.out).mono ?_); rintro e w' ⟨rfl, ⟨nd, rfl⟩⟩) | ((with_reducible refine gate_callee (f := 23) rfl ?_); refine goesL_ (some 17) rfl rfl Try.func23 (by kernel_rfl) rfl #[.int .i64 a0, .agg #[.slice none 0 0, .int .i64 a1]] rfl (by (try simp only [List.map_toArray, List.map_cons, List.map_nil]); first | done | rfl | (simp only [List.length_drop, List.length_take]; rfl)) ?_; (refine (spec_slBest.calls k a0 (fun k_ => some k_ = (.slice none 0 0 : Value).ownBlock) (.slice none 0 0) ([] : List Int) a1 t103 t106 w _ ?side1 ?side2 A7.out).mono ?_); (case side1 => repeat (first | (with_reducible first | exact HB.out | apply below_alloc | apply pw_below_drewN | apply below_drew1) | exact HB.out)); (case side2 => exact Kd.R_nil _ _ _ _ _); rintro e w8 ⟨v104, rfl, ho0, hb, hkp⟩; refine ⟨_, rfl, ?_⟩; have n0_ := Aside0.mk (Kd.R_mono (ok' := fun k_ => True) ho0 (fun k_ hk_ => trivial)); have n1_ := Aside0.mk (hb); clear HB; have HO105 := n0_; have HB := n1_; clear n0_ n1_; (try clear hb); (try clear hkp); (try clear ho0)))
   go_ret2
   exact ⟨_, by first | rfl | (simp [errW_none, errW_some] <;> rfl) | (simp [*, errW_none, errW_some] <;> rfl), by (with_reducible repeat (first | apply Kd.R_alloc | apply Kd.R_drewN | apply Kd.R_drew)); exact HO105.out, by repeat (first | (with_reducible first | exact HB.out | apply below_alloc | apply pw_below_drewN | apply below_drew1) | exact HB.out)⟩
  ·replace c6 := Bool.eq_false_iff.mpr c6
   subst c6
   have H1 : (some (([] : List Int),false)) = some (r1, r2) := by rw [if_neg (show ¬ (false = true) by decide)] at H; exact H
   clear H
   have H := H1
   clear H1
   simp only [Option.some.injEq, Prod.mk.injEq] at H
   obtain ⟨rfl, rfl⟩ := H
   go_enter Try.func6, Try.ntmps6
   go_wp2_with (first | ((with_reducible refine gate_callee (f := 22) rfl ?_); refine goesL_ (some 7) rfl rfl Try.func22 (by kernel_rfl) rfl #[.int .i64 a0, .int .i64 2, .int .i64 6] rfl (by (try simp only [List.map_toArray, List.map_cons, List.map_nil]); first | done | rfl | (simp only [List.length_drop, List.length_take]; rfl)) ?_; (with_reducible refine (spec_l1In.calls a0 2 6 true _ A3.out).mono ?_); rintro e w' ⟨rfl, ⟨nd, rfl⟩⟩; refine ⟨_, rfl, ?_⟩) | (go_at_call 22; (with_reducible refine (spec_l1In.calls a1 2 11 false _ A5.out).mono ?_); rintro e w' ⟨rfl, ⟨nd, rfl⟩⟩))
   go_ret2
   exact ⟨_, by first | rfl | (simp [errW_none, errW_some] <;> rfl) | (simp [*, errW_none, errW_some] <;> rfl), by first | exact Kd.R_nil _ _ _ _ _ | exact Kd.N_nil _ _ _ _ _ | exact Kd.V_nil _ _ _ _ _ | exact Kd.Q_nil _ _ _ _ _ | exact Kd.S_nil _ _ _ _ _, by repeat (first | (with_reducible first | exact HB.out | apply below_alloc | apply pw_below_drewN | apply below_drew1) | exact HB.out)⟩
 ·replace c4 := Bool.eq_false_iff.mpr c4
  subst c4
  have H1 : (some (([] : List Int),false)) = some (r1, r2) := by rw [if_neg (show ¬ (false = true) by decide)] at H; exact H
  clear H
  have H := H1
  clear H1
  simp only [Option.some.injEq, Prod.mk.injEq] at H
  obtain ⟨rfl, rfl⟩ := H
  go_enter Try.func6, Try.ntmps6
  go_wp2_with (first | ((with_reducible refine gate_callee (f := 22) rfl ?_); refine goesL_ (some 7) rfl rfl Try.func22 (by kernel_rfl) rfl #[.int .i64 a0, .int .i64 2, .int .i64 6] rfl (by (try simp only [List.map_toArray, List.map_cons, List.map_nil]); first | done | rfl | (simp only [List.length_drop, List.length_take]; rfl)) ?_; (with_reducible refine (spec_l1In.calls a0 2 6 false _ A3.out).mono ?_); rintro e w' ⟨rfl, ⟨nd, rfl⟩⟩; refine ⟨_, rfl, ?_⟩))
  go_ret2
  exact ⟨_, by first | rfl | (simp [errW_none, errW_some] <;> rfl) | (simp [*, errW_none, errW_some] <;> rfl), by first | exact Kd.R_nil _ _ _ _ _ | exact Kd.N_nil _ _ _ _ _ | exact Kd.V_nil _ _ _ _ _ | exact Kd.Q_nil _ _ _ _ _ | exact Kd.S_nil _ _ _ _ _, by repeat (first | (with_reducible first | exact HB.out | apply below_alloc | apply pw_below_drewN | apply below_drew1) | exact HB.out)⟩
end Go.Proofs.Ytafegaaklpdgiaa.Q

namespace Go.Proofs.Ytafegaaklpdgiaa.Q
open Go.RowKit Go.Proofs.YtafegaaklpdgiaaW.PrintWords Go.Proofs.YtafegaaklpdgiaaW.PrintLast Go.Proofs.YtafegaaklpdgiaaW.PrintMore
attribute [local go_sem] max2_int min2_int max_two min_two max_three min_three max_four min_four   -- for this text's walks alone
set_option linter.unusedVariables false
set_option linter.unusedSimpArgs false
mutual
noncomputable def laws_FnExactBestWeights.j0 : Nat → Int → Int → List Int → Bool → List Int → Bool → Option (Bool)
 | 0, _, _, _, _, _, _ => none
 | k + 1, x0, x1, x5, x6, x7, x33 => if x33 = true then (some false) else ((laws_markIntS.f k x7 1).bind fun bt110 => ((laws_heldIntS.f k bt110.2 1).bind fun t112 => (if t112 < 0 then (some false) else (if t112 = bt110.1 then ((impl_BestWeights.f x0 x1).bind fun bt113 => ((laws_eqIntS.f k bt113.1 x5).bind fun t117 => (if t117 = true then (laws_FnExactBestWeights.j1 k bt110.2 bt110.1 (bt113.2 != x6)) else (laws_FnExactBestWeights.j1 k bt110.2 bt110.1 true)))) else (some false)))))
noncomputable def laws_FnExactBestWeights.j1 : Nat → List Int → Int → Bool → Option (Bool)
 | 0, _, _, _ => none
 | k + 1, x7, x9, x59 => if x59 = true then (some false) else ((laws_heldIntS.f k x7 1).bind fun t118 => (if t118 < 0 then (some false) else (if t118 = x9 then (some true) else (some false))))
end
noncomputable def laws_FnExactBestWeights.f (k : Nat) (a0 : Int) (a1 : Int) : Option (Bool) := (spec_BestWeights.f k a0 a1).bind fun bt101 => ((impl_BestWeights.f a0 a1).bind fun bt105 => ((laws_eqIntS.f k bt105.1 bt101.1).bind fun t109 => (if t109 = true then (laws_FnExactBestWeights.j0 k a0 a1 bt101.1 bt101.2 bt105.1 (bt105.2 != bt101.2)) else (laws_FnExactBestWeights.j0 k a0 a1 bt101.1 bt101.2 bt105.1 true))))
theorem laws_FnExactBestWeights.mono_l : ∀ k, (∀ y0 y1 y2 y3 y4 y5, LeO (laws_FnExactBestWeights.j0 k y0 y1 y2 y3 y4 y5) (laws_FnExactBestWeights.j0 (k + 1) y0 y1 y2 y3 y4 y5)) ∧ (∀ y0 y1 y2, LeO (laws_FnExactBestWeights.j1 k y0 y1 y2) (laws_FnExactBestWeights.j1 (k + 1) y0 y1 y2))
 | 0 => ⟨fun _ _ _ _ _ _ r h => by simp [laws_FnExactBestWeights.j0] at h, fun _ _ _ r h => by simp [laws_FnExactBestWeights.j1] at h⟩
 | k + 1 => by
  obtain ⟨ih0, ih1⟩ := laws_FnExactBestWeights.mono_l k
  refine ⟨?_, ?_⟩
  ·intro y0 y1 y2 y3 y4 y5
   unfold laws_FnExactBestWeights.j0
   repeat' first
   | (with_reducible exact ih0 _ _ _ _ _ _)
   | (with_reducible exact ih1 _ _ _)
   | (with_reducible exact laws_eqIntS.mono _ _ _)
   | (with_reducible exact laws_heldIntS.mono _ _ _)
   | (with_reducible exact laws_markIntS.mono _ _ _)
   | (with_reducible exact spec_BestWeights.mono _ _ _)
   | (with_reducible exact LeO.refl _)
   | (with_reducible exact LeO.none _)
   | (with_reducible refine LeO.ite ?_ ?_)
   | (with_reducible refine LeO.bind ?_ (fun _ => ?_))
   | exact ih0 _ _ _ _ _ _
   | exact ih1 _ _ _
   | exact laws_eqIntS.mono _ _ _
   | exact laws_heldIntS.mono _ _ _
   | exact laws_markIntS.mono _ _ _
   | exact spec_BestWeights.mono _ _ _
   | exact LeO.none _
   | refine LeO.ite ?_ ?_
   | refine LeO.bind ?_ (fun _ => ?_)
  ·intro y0 y1 y2
   unfold laws_FnExactBestWeights.j1
   repeat' first
   | (with_reducible exact ih0 _ _ _ _ _ _)
   | (with_reducible exact ih1 _ _ _)
   | (with_reducible exact laws_eqIntS.mono _ _ _)
   | (with_reducible exact laws_heldIntS.mono _ _ _)
   | (with_reducible exact laws_markIntS.mono _ _ _)
   | (with_reducible exact spec_BestWeights.mono _ _ _)
   | (with_reducible exact LeO.refl _)
   | (with_reducible exact LeO.none _)
   | (with_reducible refine LeO.ite ?_ ?_)
   | (with_reducible refine LeO.bind ?_ (fun _ => ?_))
   | exact ih0 _ _ _ _ _ _
   | exact ih1 _ _ _
   | exact laws_eqIntS.mono _ _ _
   | exact laws_heldIntS.mono _ _ _
   | exact laws_markIntS.mono _ _ _
   | exact spec_BestWeights.mono _ _ _
   | exact LeO.none _
   | refine LeO.ite ?_ ?_
   | refine LeO.bind ?_ (fun _ => ?_)
theorem laws_FnExactBestWeights.mono : ∀ a0 a1 k, LeO (laws_FnExactBestWeights.f k a0 a1) (laws_FnExactBestWeights.f (k + 1) a0 a1) := by
 intro a0 a1 k
 obtain ⟨ih0, ih1⟩ := laws_FnExactBestWeights.mono_l k
 unfold laws_FnExactBestWeights.f
 repeat' first
   | (with_reducible exact ih0 _ _ _ _ _ _)
   | (with_reducible exact ih1 _ _ _)
   | (with_reducible exact laws_eqIntS.mono _ _ _)
   | (with_reducible exact laws_heldIntS.mono _ _ _)
   | (with_reducible exact laws_markIntS.mono _ _ _)
   | (with_reducible exact spec_BestWeights.mono _ _ _)
   | (with_reducible exact LeO.refl _)
   | (with_reducible exact LeO.none _)
   | (with_reducible refine LeO.ite ?_ ?_)
   | (with_reducible refine LeO.bind ?_ (fun _ => ?_))
   | exact ih0 _ _ _ _ _ _
   | exact ih1 _ _ _
   | exact laws_eqIntS.mono _ _ _
   | exact laws_heldIntS.mono _ _ _
   | exact laws_markIntS.mono _ _ _
   | exact spec_BestWeights.mono _ _ _
   | exact LeO.none _
   | refine LeO.ite ?_ ?_
   | refine LeO.bind ?_ (fun _ => ?_)
set_option maxHeartbeats 8000000 in
set_option maxRecDepth 100000 in
theorem laws_FnExactBestWeights.calls (k : Nat) (a0 : Int) (a1 : Int) (r : Bool) (w : World) (h : laws_FnExactBestWeights.f k a0 a1 = some r) :
  Calls Try.prog 3 #[.int .i64 a0, .int .i64 a1] w fun e w' => e = .returned (.bool r) ∧ Below w.heap.size w w' := by
 have HB := Aside0.mk (Below.refl w.heap.size w)
 have H : ((spec_BestWeights.f k a0 a1).bind fun bt101 => ((impl_BestWeights.f a0 a1).bind fun bt105 => ((laws_eqIntS.f k bt105.1 bt101.1).bind fun t109 => (if t109 = true then (laws_FnExactBestWeights.j0 k a0 a1 bt101.1 bt101.2 bt105.1 (bt105.2 != bt101.2)) else (laws_FnExactBestWeights.j0 k a0 a1 bt101.1 bt101.2 bt105.1 true))))) = some r := h
 clear h
 replace H := Option.bind_eq_some_iff.mp H
 obtain ⟨⟨t101, t102⟩, A30, H⟩ := H
 replace H : ((impl_BestWeights.f a0 a1).bind fun bt105 => ((laws_eqIntS.f k bt105.1 t101).bind fun t109 => (if t109 = true then (laws_FnExactBestWeights.j0 k a0 a1 t101 t102 bt105.1 (bt105.2 != t102)) else (laws_FnExactBestWeights.j0 k a0 a1 t101 t102 bt105.1 true)))) = some r := H
 have A3 := Aside0.mk A30
 clear A30
 replace H := Option.bind_eq_some_iff.mp H
 obtain ⟨⟨t105, t106⟩, A40, H⟩ := H
 replace H : ((laws_eqIntS.f k t105 t101).bind fun t109 => (if t109 = true then (laws_FnExactBestWeights.j0 k a0 a1 t101 t102 t105 (t106 != t102)) else (laws_FnExactBestWeights.j0 k a0 a1 t101 t102 t105 true))) = some r := H
 have A4 := Aside0.mk A40
 clear A40
 have HC5 := Aside0.mk H
 clear H
 go_enter Try.func3, Try.ntmps3
 go_upto_region 3 with (first | ((with_reducible refine gate_callee (f := 6) rfl ?_); refine goesL_ (some 16) rfl rfl Try.func6 (by kernel_rfl) rfl #[.int .i64 a0, .int .i64 a1] rfl (by (try simp only [List.map_toArray, List.map_cons, List.map_nil]); first | done | rfl | (simp only [List.length_drop, List.length_take]; rfl)) ?_; (with_reducible refine (spec_BestWeights.calls k a0 a1 t101 t102 _ A3.out).mono ?_); rintro e w6 ⟨v103, rfl, ho0, hb⟩; refine ⟨_, rfl, ?_⟩; have n0_ := Aside0.mk (Kd.R_lower ho0 (below_size (by repeat (first | (with_reducible first | exact HB.out | apply below_alloc | apply pw_below_drewN | apply below_drew1) | exact HB.out)))); have n1_ := Aside0.mk (below_step (by repeat (first | (with_reducible first | exact HB.out | apply below_alloc | apply pw_below_drewN | apply below_drew1) | exact HB.out)) hb); clear HB; have HO104 := n0_; have HB := n1_; clear n0_ n1_; (try clear hb); (try clear hb2); (try clear hk); (try clear hi); (try clear ho0)) | ((with_reducible refine gate_callee (f := 7) rfl ?_); refine goesL_ (some 22) rfl rfl Try.func7 (by kernel_rfl) rfl #[.int .i64 a0, .int .i64 a1] rfl (by (try simp only [List.map_toArray, List.map_cons, List.map_nil]); first | done | rfl | (simp only [List.length_drop, List.length_take]; rfl)) ?_; (with_reducible refine (impl_BestWeights.calls a0 a1 t105 t106 _ A4.out).mono ?_); rintro e w7 ⟨v107, rfl, ho0, hb⟩; refine ⟨_, rfl, ?_⟩; have n0_ := Aside0.mk (Kd.R_elder' (by (with_reducible repeat (first | apply Kd.R_alloc | apply Kd.R_drewN | apply Kd.R_drew)); exact HO104.out) (Kd.R_base ho0) hb); have n1_ := Aside0.mk (Kd.R_lower (Kd.R_new' ho0 (Kd.R_lt (by (with_reducible repeat (first | apply Kd.R_alloc | apply Kd.R_drewN | apply Kd.R_drew)); exact HO104.out))) (below_size (by repeat (first | (with_reducible first | exact HB.out | apply below_alloc | apply pw_below_drewN | apply below_drew1) | exact HB.out)))); have n2_ := Aside0.mk (below_step (by repeat (first | (with_reducible first | exact HB.out | apply below_alloc | apply pw_below_drewN | apply below_drew1) | exact HB.out)) hb); clear HO104; clear HB; have HO104 := n0_; have HO108 := n1_; have HB := n2_; clear n0_ n1_ n2_; (try clear hb); (try clear hb2); (try clear hk); (try clear hi); (try clear ho0)))
 (try simp only [Act.put, List.setIfInBounds_toArray, List.set_cons_zero, List.set_cons_succ])
 go_cut [33] (fun v33 wc => ∃ (kq : Nat) (x33_4 : Bool), v33 = .bool x33_4 ∧ Aside0 (laws_FnExactBestWeights.j0 kq a0 a1 t101 t102 t105 x33_4 = some r) ∧ Aside0 (kq ≤ k) ∧ Aside0 (Kd.R (Kd.int .i64) 3 wc w.heap.size (fun k_ => some k_ ≠ (v107 : Value).ownBlock) v103 t101) ∧ Aside0 (Kd.R (Kd.int .i64) 3 wc w.heap.size (fun k_ => some k_ ≠ (v103 : Value).ownBlock) v107 t105) ∧ Aside0 (Below w.heap.size w wc))
 case first =>
  have H := HC5.out
  clear HC5
  replace H := Option.bind_eq_some_iff.mp H
  obtain ⟨t109, A80, H⟩ := H
  replace H : (if t109 = true then (laws_FnExactBestWeights.j0 k a0 a1 t101 t102 t105 (t106 != t102)) else (laws_FnExactBestWeights.j0 k a0 a1 t101 t102 t105 true)) = some r := H
  have A8 := Aside0.mk A80
  clear A80
  by_cases c9 : t109 = true
  ·subst c9
   have H1 : (laws_FnExactBestWeights.j0 k a0 a1 t101 t102 t105 (t106 != t102)) = some r := by rw [if_pos rfl] at H; exact H
   clear H
   have H := H1
   clear H1
   have H' := Aside0.mk H
   clear H
   obtain ⟨Ao10, co10, eo10⟩ := Kd.R_slice HO108.out
   subst eo10
   obtain ⟨Ao11, co11, eo11⟩ := Kd.R_slice HO104.out
   subst eo11
   go_wp2_with (first | ((with_reducible refine gate_callee (f := 8) rfl ?_); refine goesL_ (some 27) rfl rfl Try.func8 (by kernel_rfl) rfl #[.slice Ao10 t105.length co10, .slice Ao11 t101.length co11] rfl (by (try simp only [List.map_toArray, List.map_cons, List.map_nil]); first | done | rfl | (simp only [List.length_drop, List.length_take]; rfl)) ?_; (with_reducible refine (laws_eqIntS.calls k _ _ t105 _ _ t101 true _ ?side1 ?side2 ?side3 ?side4 A8.out).mono ?_); (case side1 => repeat (first | exact (Kd.R_reads' HO108.out).2.2 | (with_reducible refine Kd.C_alloc ?_ _) | (with_reducible refine Kd.C_drewN ?_ _) | (with_reducible refine Kd.C_drew ?_))); (case side2 => exact (Kd.R_reads' HO108.out).2.1); (case side3 => repeat (first | exact (Kd.R_reads' HO104.out).2.2 | (with_reducible refine Kd.C_alloc ?_ _) | (with_reducible refine Kd.C_drewN ?_ _) | (with_reducible refine Kd.C_drew ?_))); (case side4 => exact (Kd.R_reads' HO104.out).2.1); rintro e w' ⟨rfl, ⟨nd, rfl⟩⟩; refine ⟨_, rfl, ?_⟩))
   go_meet
   case rel => exact ⟨_, ((t106 != t102)), (by first | rfl | (simp; done) | (simp [*]; done)), H', ⟨by first | omega | exact Nat.le_refl _⟩, ⟨by (with_reducible repeat (first | apply Kd.R_alloc | apply Kd.R_drewN | apply Kd.R_drew)); exact Kd.R_mono HO104.out (fun _ hk => hk.2)⟩, ⟨by (with_reducible repeat (first | apply Kd.R_alloc | apply Kd.R_drewN | apply Kd.R_drew)); exact Kd.R_mono HO108.out (fun _ hk => hk.2)⟩, ⟨by repeat (first | (with_reducible first | exact HB.out | apply below_alloc | apply pw_below_drewN | apply below_drew1) | exact HB.out)⟩⟩
  ·replace c9 := Bool.eq_false_iff.mpr c9
   subst c9
   have H1 : (laws_FnExactBestWeights.j0 k a0 a1 t101 t102 t105 true) = some r := by rw [if_neg (show ¬ (false = true) by decide)] at H; exact H
   clear H
   have H := H1
   clear H1
   have H' := Aside0.mk H
   clear H
   obtain ⟨Ao12, co12, eo12⟩ := Kd.R_slice HO108.out
   subst eo12
   obtain ⟨Ao13, co13, eo13⟩ := Kd.R_slice HO104.out
   subst eo13
   go_wp2_with (first | ((with_reducible refine gate_callee (f := 8) rfl ?_); refine goesL_ (some 27) rfl rfl Try.func8 (by kernel_rfl) rfl #[.slice Ao12 t105.length co12, .slice Ao13 t101.length co13] rfl (by (try simp only [List.map_toArray, List.map_cons, List.map_nil]); first | done | rfl | (simp only [List.length_drop, List.length_take]; rfl)) ?_; (with_reducible refine (laws_eqIntS.calls k _ _ t105 _ _ t101 false _ ?side1 ?side2 ?side3 ?side4 A8.out).mono ?_); (case side1 => repeat (first | exact (Kd.R_reads' HO108.out).2.2 | (with_reducible refine Kd.C_alloc ?_ _) | (with_reducible refine Kd.C_drewN ?_ _) | (with_reducible refine Kd.C_drew ?_))); (case side2 => exact (Kd.R_reads' HO108.out).2.1); (case side3 => repeat (first | exact (Kd.R_reads' HO104.out).2.2 | (with_reducible refine Kd.C_alloc ?_ _) | (with_reducible refine Kd.C_drewN ?_ _) | (with_reducible refine Kd.C_drew ?_))); (case side4 => exact (Kd.R_reads' HO104.out).2.1); rintro e w' ⟨rfl, ⟨nd, rfl⟩⟩; refine ⟨_, rfl, ?_⟩))
   go_meet
   case rel => exact ⟨_, (true), (by first | rfl | (simp; done) | (simp [*]; done)), H', ⟨by first | omega | exact Nat.le_refl _⟩, ⟨by (with_reducible repeat (first | apply Kd.R_alloc | apply Kd.R_drewN | apply Kd.R_drew)); exact Kd.R_mono HO104.out (fun _ hk => hk.2)⟩, ⟨by (with_reducible repeat (first | apply Kd.R_alloc | apply Kd.R_drewN | apply Kd.R_drew)); exact Kd.R_mono HO108.out (fun _ hk => hk.2)⟩, ⟨by repeat (first | (with_reducible first | exact HB.out | apply below_alloc | apply pw_below_drewN | apply below_drew1) | exact HB.out)⟩⟩
 case rest =>
  clear HC5
  try clear p2
  try clear c3
  try clear c6
  try clear c7
  try clear c8
  try clear c9
  obtain ⟨kq, x33_4, rfl, HA, HJ4, HO_5, HO_7, HB⟩ := hcut
  cases kq with
  | zero => exact absurd HA.out (by simp [laws_FnExactBestWeights.j0])
  | succ kj4 =>
   have H := HA.out
   clear HA
   simp only [laws_FnExactBestWeights.j0] at H
   by_cases c14 : x33_4 = true
   ·subst c14
    have H1 : (some false) = some r := by rw [if_pos rfl] at H; exact H
    clear H
    have H := H1
    clear H1
    obtain rfl := Option.some.inj H
    go_wp2
    go_ret
    exact ⟨by first | rfl | (simp [errW_none, errW_some] <;> rfl) | (simp [*, errW_none, errW_some] <;> rfl), by repeat (first | (with_reducible first | exact HB.out | apply below_alloc | apply pw_below_drewN | apply below_drew1) | exact HB.out)⟩
   ·replace c14 := Bool.eq_false_iff.mpr c14
    subst c14
    have H1 : ((laws_markIntS.f kj4 t105 1).bind fun bt110 => ((laws_heldIntS.f kj4 bt110.2 1).bind fun t112 => (if t112 < 0 then (some false) else (if t112 = bt110.1 then ((impl_BestWeights.f a0 a1).bind fun bt113 => ((laws_eqIntS.f kj4 bt113.1 t101).bind fun t117 => (if t117 = true then (laws_FnExactBestWeights.j1 kj4 bt110.2 bt110.1 (bt113.2 != t102)) else (laws_FnExactBestWeights.j1 kj4 bt110.2 bt110.1 true)))) else (some false))))) = some r := by rw [if_neg (show ¬ (false = true) by decide)] at H; exact H
    clear H
    have H := H1
    clear H1
    replace H := Option.bind_eq_some_iff.mp H
    obtain ⟨⟨t110, t111⟩, A150, H⟩ := H
    replace H : ((laws_heldIntS.f kj4 t111 1).bind fun t112 => (if t112 < 0 then (some false) else (if t112 = t110 then ((impl_BestWeights.f a0 a1).bind fun bt113 => ((laws_eqIntS.f kj4 bt113.1 t101).bind fun t117 => (if t117 = true then (laws_FnExactBestWeights.j1 kj4 t111 t110 (bt113.2 != t102)) else (laws_FnExactBestWeights.j1 kj4 t111 t110 true)))) else (some false)))) = some r := H
    have A15 := Aside0.mk A150
    clear A150
    replace H := Option.bind_eq_some_iff.mp H
    obtain ⟨t112, A160, H⟩ := H
    replace H : (if t112 < 0 then (some false) else (if t112 = t110 then ((impl_BestWeights.f a0 a1).bind fun bt113 => ((laws_eqIntS.f kj4 bt113.1 t101).bind fun t117 => (if t117 = true then (laws_FnExactBestWeights.j1 kj4 t111 t110 (bt113.2 != t102)) else (laws_FnExactBestWeights.j1 kj4 t111 t110 true)))) else (some false))) = some r := H
    have A16 := Aside0.mk A160
    clear A160
    by_cases c17 : t112 < 0
    ·rw [if_pos c17] at H
     have c17b0 : decide (t112 < 0) = true := decide_eq_true c17
     clear c17
     obtain rfl := Option.some.inj H
     obtain ⟨Ao18, co18, eo18⟩ := Kd.R_slice HO_7.out
     subst eo18
     go_wp2_with (first | ((with_reducible refine gate_callee (f := 9) rfl ?_); refine goesL_ (some 36) rfl rfl Try.func9 (by kernel_rfl) rfl #[.slice Ao18 t105.length co18, .int .i64 1] rfl (by (try simp only [List.map_toArray, List.map_cons, List.map_nil]); first | done | rfl | (simp only [List.length_drop, List.length_take]; rfl)) ?_; (with_reducible refine (laws_markIntS.calls kj4 (fun k_ => some k_ = (.slice Ao18 t105.length co18 : Value).ownBlock) (.slice Ao18 t105.length co18) t105 1 t110 t111 w _ ?side1 ?side2 A15.out).mono ?_); (case side1 => repeat (first | (with_reducible first | exact HB.out | apply below_alloc | apply pw_below_drewN | apply below_drew1) | exact HB.out)); (case side2 => exact Kd.R_tight rfl HO_7.out); rintro e w19 ⟨rfl, hy0, hb, hkp⟩; refine ⟨_, rfl, ?_⟩; have n0_ := Aside0.mk (Kd.R_mono (ok' := fun k_ => some k_ ≠ (.slice Ao18 t105.length co18 : Value).ownBlock) (Kd.R_keptB (HO_5.out) hkp (fun k_ hk_ hs_ => (hk_) hs_)) (fun k_ hk_ => hk_.1)); have n1_ := Aside0.mk (Kd.R_reok rfl hy0 (fun k_ e_ => HO_7.out.1 k_ e_)); have n2_ := Aside0.mk (hb); clear HO_5; clear HO_7; clear HB; have HO_5 := n0_; have HO_7 := n1_; have HB := n2_; clear n0_ n1_ n2_; (try clear hb); (try clear hkp); (try clear hy0)) | ((with_reducible refine gate_callee (f := 10) rfl ?_); refine goesL_ (some 39) rfl rfl Try.func10 (by kernel_rfl) rfl #[.slice Ao18 t111.length co18, .int .i64 1] rfl (by (try simp only [List.map_toArray, List.map_cons, List.map_nil]); first | done | (rw [show t111.length = t105.length from (Kd.R_reads' HO_7.out).1.symm] <;> rfl) | rfl | (simp only [List.length_drop, List.length_take]; rfl)) ?_; (with_reducible refine (laws_heldIntS.calls kj4 _ _ t111 1 t112 _ ?side1 ?side2 A16.out).mono ?_); (case side1 => repeat (first | exact (Kd.R_reads' HO_7.out).2.2 | (with_reducible refine Kd.C_alloc ?_ _) | (with_reducible refine Kd.C_drewN ?_ _) | (with_reducible refine Kd.C_drew ?_))); (case side2 => rw [show t111.length = t105.length from (Kd.R_reads' HO_7.out).1.symm]; exact (Kd.R_reads' HO_7.out).2.1); rintro e w' ⟨rfl, ⟨nd, rfl⟩⟩; refine ⟨_, rfl, ?_⟩))
     go_ret
     exact ⟨by first | rfl | (simp [errW_none, errW_some] <;> rfl) | (simp [*, errW_none, errW_some] <;> rfl), by repeat (first | (with_reducible first | exact HB.out | apply below_alloc | apply pw_below_drewN | apply below_drew1) | exact HB.out)⟩
    ·rw [if_neg c17] at H
     have c17b0 : decide (t112 < 0) = false := decide_eq_false c17
     clear c17
     by_cases c20 : t112 = t110
     ·rw [if_pos c20] at H
      have c20b0 : (t112 == t110) = true := beq_iff_eq.mpr c20
      have c20b1 : (t112 != t110) = false := bne_eq_false_iff_eq.mpr c20
      clear c20
      replace H := Option.bind_eq_some_iff.mp H
      obtain ⟨⟨t113, t114⟩, A210, H⟩ := H
      replace H : ((laws_eqIntS.f kj4 t113 t101).bind fun t117 => (if t117 = true then (laws_FnExactBestWeights.j1 kj4 t111 t110 (t114 != t102)) else (laws_FnExactBestWeights.j1 kj4 t111 t110 true))) = some r := H
      have A21 := Aside0.mk A210
      clear A210
      have HC22 := Aside0.mk H
      clear H
      obtain ⟨Ao23, co23, eo23⟩ := Kd.R_slice HO_7.out
      subst eo23
      go_upto_region 14 with (first | ((with_reducible refine gate_callee (f := 9) rfl ?_); refine goesL_ (some 36) rfl rfl Try.func9 (by kernel_rfl) rfl #[.slice Ao23 t105.length co23, .int .i64 1] rfl (by (try simp only [List.map_toArray, List.map_cons, List.map_nil]); first | done | rfl | (simp only [List.length_drop, List.length_take]; rfl)) ?_; (with_reducible refine (laws_markIntS.calls kj4 (fun k_ => some k_ = (.slice Ao23 t105.length co23 : Value).ownBlock) (.slice Ao23 t105.length co23) t105 1 t110 t111 w _ ?side1 ?side2 A15.out).mono ?_); (case side1 => repeat (first | (with_reducible first | exact HB.out | apply below_alloc | apply pw_below_drewN | apply below_drew1) | exact HB.out)); (case side2 => exact Kd.R_tight rfl HO_7.out); rintro e w24 ⟨rfl, hy0, hb, hkp⟩; refine ⟨_, rfl, ?_⟩; have n0_ := Aside0.mk (Kd.R_mono (ok' := fun k_ => some k_ ≠ (.slice Ao23 t105.length co23 : Value).ownBlock) (Kd.R_keptB (HO_5.out) hkp (fun k_ hk_ hs_ => (hk_) hs_)) (fun k_ hk_ => hk_.1)); have n1_ := Aside0.mk (Kd.R_reok rfl hy0 (fun k_ e_ => HO_7.out.1 k_ e_)); have n2_ := Aside0.mk (hb); clear HO_5; clear HO_7; clear HB; have HO_5 := n0_; have HO_7 := n1_; have HB := n2_; clear n0_ n1_ n2_; (try clear hb); (try clear hkp); (try clear hy0)) | ((with_reducible refine gate_callee (f := 10) rfl ?_); refine goesL_ (some 39) rfl rfl Try.func10 (by kernel_rfl) rfl #[.slice Ao23 t111.length co23, .int .i64 1] rfl (by (try simp only [List.map_toArray, List.map_cons, List.map_nil]); first | done | (rw [show t111.length = t105.length from (Kd.R_reads' HO_7.out).1.symm] <;> rfl) | rfl | (simp only [List.length_drop, List.length_take]; rfl)) ?_; (with_reducible refine (laws_heldIntS.calls kj4 _ _ t111 1 t112 _ ?side1 ?side2 A16.out).mono ?_); (case side1 => repeat (first | exact (Kd.R_reads' HO_7.out).2.2 | (with_reducible refine Kd.C_alloc ?_ _) | (with_reducible refine Kd.C_drewN ?_ _) | (with_reducible refine Kd.C_drew ?_))); (case side2 => rw [show t111.length = t105.length from (Kd.R_reads' HO_7.out).1.symm]; exact (Kd.R_reads' HO_7.out).2.1); rintro e w' ⟨rfl, ⟨nd, rfl⟩⟩; refine ⟨_, rfl, ?_⟩) | ((with_reducible refine gate_callee (f := 7) rfl ?_); refine goesL_ (some 48) rfl rfl Try.func7 (by kernel_rfl) rfl #[.int .i64 a0, .int .i64 a1] rfl (by (try simp only [List.map_toArray, List.map_cons, List.map_nil]); first | done | rfl | (simp only [List.length_drop, List.length_take]; rfl)) ?_; (with_reducible refine (impl_BestWeights.calls a0 a1 t113 t114 _ A21.out).mono ?_); rintro e w25 ⟨v115, rfl, ho0, hb⟩; refine ⟨_, rfl, ?_⟩; have n0_ := Aside0.mk (Kd.R_elder' (by (with_reducible repeat (first | apply Kd.R_alloc | apply Kd.R_drewN | apply Kd.R_drew)); exact HO_5.out) (Kd.R_base ho0) hb); have n1_ := Aside0.mk (Kd.R_elder' (by (with_reducible repeat (first | apply Kd.R_alloc | apply Kd.R_drewN | apply Kd.R_drew)); exact HO_7.out) (Kd.R_base ho0) hb); have n2_ := Aside0.mk (Kd.R_lower (Kd.R_new' (Kd.R_new' ho0 (Kd.R_lt (by (with_reducible repeat (first | apply Kd.R_alloc | apply Kd.R_drewN | apply Kd.R_drew)); exact HO_5.out))) (Kd.R_lt (by (with_reducible repeat (first | apply Kd.R_alloc | apply Kd.R_drewN | apply Kd.R_drew)); exact HO_7.out))) (below_size (by repeat (first | (with_reducible first | exact HB.out | apply below_alloc | apply pw_below_drewN | apply below_drew1) | exact HB.out)))); have n3_ := Aside0.mk (below_step (by repeat (first | (with_reducible first | exact HB.out | apply below_alloc | apply pw_below_drewN | apply below_drew1) | exact HB.out)) hb); clear HO_5; clear HO_7; clear HB; have HO_5 := n0_; have HO_7 := n1_; have HO116 := n2_; have HB := n3_; clear n0_ n1_ n2_ n3_; (try clear hb); (try clear hb2); (try clear hk); (try clear hi); (try clear ho0)))
      (try simp only [Act.put, List.setIfInBounds_toArray, List.set_cons_zero, List.set_cons_succ])
      go_cut [59] (fun v59 wc => ∃ (kq : Nat) (x59_21 : Bool), v59 = .bool x59_21 ∧ Aside0 (laws_FnExactBestWeights.j1 kq t111 t110 x59_21 = some r) ∧ Aside0 (kq ≤ kj4) ∧ Aside0 (Kd.R (Kd.int .i64) 3 wc w.heap.size (fun _ => True) (.slice Ao23 t105.length co23) t111) ∧ Aside0 (Below w.heap.size w wc))
      case first =>
       have H := HC22.out
       clear HC22
       replace H := Option.bind_eq_some_iff.mp H
       obtain ⟨t117, A260, H⟩ := H
       replace H : (if t117 = true then (laws_FnExactBestWeights.j1 kj4 t111 t110 (t114 != t102)) else (laws_FnExactBestWeights.j1 kj4 t111 t110 true)) = some r := H
       have A26 := Aside0.mk A260
       clear A260
       by_cases c27 : t117 = true
       ·subst c27
        have H1 : (laws_FnExactBestWeights.j1 kj4 t111 t110 (t114 != t102)) = some r := by rw [if_pos rfl] at H; exact H
        clear H
        have H := H1
        clear H1
        have H' := Aside0.mk H
        clear H
        obtain ⟨Ao28, co28, eo28⟩ := Kd.R_slice HO116.out
        subst eo28
        obtain ⟨Ao29, co29, eo29⟩ := Kd.R_slice HO_5.out
        subst eo29
        go_wp2_with (first | ((with_reducible refine gate_callee (f := 8) rfl ?_); refine goesL_ (some 53) rfl rfl Try.func8 (by kernel_rfl) rfl #[.slice Ao28 t113.length co28, .slice Ao29 t101.length co29] rfl (by (try simp only [List.map_toArray, List.map_cons, List.map_nil]); first | done | rfl | (simp only [List.length_drop, List.length_take]; rfl)) ?_; (with_reducible refine (laws_eqIntS.calls kj4 _ _ t113 _ _ t101 true _ ?side1 ?side2 ?side3 ?side4 A26.out).mono ?_); (case side1 => repeat (first | exact (Kd.R_reads' HO116.out).2.2 | (with_reducible refine Kd.C_alloc ?_ _) | (with_reducible refine Kd.C_drewN ?_ _) | (with_reducible refine Kd.C_drew ?_))); (case side2 => exact (Kd.R_reads' HO116.out).2.1); (case side3 => repeat (first | exact (Kd.R_reads' HO_5.out).2.2 | (with_reducible refine Kd.C_alloc ?_ _) | (with_reducible refine Kd.C_drewN ?_ _) | (with_reducible refine Kd.C_drew ?_))); (case side4 => exact (Kd.R_reads' HO_5.out).2.1); rintro e w' ⟨rfl, ⟨nd, rfl⟩⟩; refine ⟨_, rfl, ?_⟩))
        go_meet
        case rel => exact ⟨_, ((t114 != t102)), (by first | rfl | (simp; done) | (simp [*]; done)), H', ⟨by have := HJ4.out; first | omega | exact Nat.le_refl _⟩, ⟨by (with_reducible repeat (first | apply Kd.R_alloc | apply Kd.R_drewN | apply Kd.R_drew)); exact Kd.R_mono HO_7.out (fun _ hk => trivial)⟩, ⟨by repeat (first | (with_reducible first | exact HB.out | apply below_alloc | apply pw_below_drewN | apply below_drew1) | exact HB.out)⟩⟩
       ·replace c27 := Bool.eq_false_iff.mpr c27
        subst c27
        have H1 : (laws_FnExactBestWeights.j1 kj4 t111 t110 true) = some r := by rw [if_neg (show ¬ (false = true) by decide)] at H; exact H
        clear H
        have H := H1
        clear H1
        have H' := Aside0.mk H
        clear H
        obtain ⟨Ao30, co30, eo30⟩ := Kd.R_slice HO116.out
        subst eo30
        obtain ⟨Ao31, co31, eo31⟩ := Kd.R_slice HO_5.out
        subst eo31
        go_wp2_with (first | ((with_reducible refine gate_callee (f := 8) rfl ?_); refine goesL_ (some 53) rfl rfl Try.func8 (by kernel_rfl) rfl #[.slice Ao30 t113.length co30, .slice Ao31 t101.length co31] rfl (by (try simp only [List.map_toArray, List.map_cons, List.map_nil]); first | done | rfl | (simp only [List.length_drop, List.length_take]; rfl)) ?_; (with_reducible refine (laws_eqIntS.calls kj4 _ _ t113 _ _ t101 false _ ?side1 ?side2 ?side3 ?side4 A26.out).mono ?_); (case side1 => repeat (first | exact (Kd.R_reads' HO116.out).2.2 | (with_reducible refine Kd.C_alloc ?_ _) | (with_reducible refine Kd.C_drewN ?_ _) | (with_reducible refine Kd.C_drew ?_))); (case side2 => exact (Kd.R_reads' HO116.out).2.1); (case side3 => repeat (first | exact (Kd.R_reads' HO_5.out).2.2 | (with_reducible refine Kd.C_alloc ?_ _) | (with_reducible refine Kd.C_drewN ?_ _) | (with_reducible refine Kd.C_drew ?_))); (case side4 => exact (Kd.R_reads' HO_5.out).2.1); rintro e w' ⟨rfl, ⟨nd, rfl⟩⟩; refine ⟨_, rfl, ?_⟩))
        go_meet
        case rel => exact ⟨_, (true), (by first | rfl | (simp; done) | (simp [*]; done)), H', ⟨by have := HJ4.out; first | omega | exact Nat.le_refl _⟩, ⟨by (with_reducible repeat (first | apply Kd.R_alloc | apply Kd.R_drewN | apply Kd.R_drew)); exact Kd.R_mono HO_7.out (fun _ hk => trivial)⟩, ⟨by repeat (first | (with_reducible first | exact HB.out | apply below_alloc | apply pw_below_drewN | apply below_drew1) | exact HB.out)⟩⟩
      case rest =>
       clear HC22
       try clear c1
       try clear c2
       try clear p2
       try clear c3
       try clear c6
       try clear c7
       try clear c8
       try clear c9
       try clear c10
       try clear c14
       try clear c17
       try clear c17b0
       try clear c20
       try clear c20b0
       try clear c20b1
       try clear c27
       try clear p2
       obtain ⟨kq, x59_21, rfl, HA, HJ21, HO_7, HB⟩ := hcut
       have hl7_21 := (Kd.R_reads' HO_7.out).1
       rw [hl7_21] at HO_7
       (try simp only [hl7_21])
       cases kq with
       | zero => exact absurd HA.out (by simp [laws_FnExactBestWeights.j1])
       | succ kj21 =>
        have H := HA.out
        clear HA
        simp only [laws_FnExactBestWeights.j1] at H
        by_cases c32 : x59_21 = true
        ·subst c32
         have H1 : (some false) = some r := by rw [if_pos rfl] at H; exact H
         clear H
         have H := H1
         clear H1
         obtain rfl := Option.some.inj H
         go_wp2
         go_ret
         exact ⟨by first | rfl | (simp [errW_none, errW_some] <;> rfl) | (simp [*, errW_none, errW_some] <;> rfl), by repeat (first | (with_reducible first | exact HB.out | apply below_alloc | apply pw_below_drewN | apply below_drew1) | exact HB.out)⟩
        ·replace c32 := Bool.eq_false_iff.mpr c32
         subst c32
         have H1 : ((laws_heldIntS.f kj21 t111 1).bind fun t118 => (if t118 < 0 then (some false) else (if t118 = t110 then (some true) else (some false)))) = some r := by rw [if_neg (show ¬ (false = true) by decide)] at H; exact H
         clear H
         have H := H1
         clear H1
         replace H := Option.bind_eq_some_iff.mp H
         obtain ⟨t118, A330, H⟩ := H
         replace H : (if t118 < 0 then (some false) else (if t118 = t110 then (some true) else (some false))) = some r := H
         have A33 := Aside0.mk A330
         clear A330
         by_cases c34 : t118 < 0
         ·rw [if_pos c34] at H
          have c34b0 : decide (t118 < 0) = true := decide_eq_true c34
          clear c34
          obtain rfl := Option.some.inj H
          go_wp2_with (first | ((with_reducible refine gate_callee (f := 10) rfl ?_); refine goesL_ (some 62) rfl rfl Try.func10 (by kernel_rfl) rfl #[.slice Ao23 t111.length co23, .int .i64 1] rfl (by (try simp only [List.map_toArray, List.map_cons, List.map_nil]); first | done | rfl | (simp only [List.length_drop, List.length_take]; rfl)) ?_; (with_reducible refine (laws_heldIntS.calls kj21 _ _ t111 1 t118 _ ?side1 ?side2 A33.out).mono ?_); (case side1 => repeat (first | exact (Kd.R_reads' HO_7.out).2.2 | (with_reducible refine Kd.C_alloc ?_ _) | (with_reducible refine Kd.C_drewN ?_ _) | (with_reducible refine Kd.C_drew ?_))); (case side2 => exact (Kd.R_reads' HO_7.out).2.1); rintro e w' ⟨rfl, ⟨nd, rfl⟩⟩; refine ⟨_, rfl, ?_⟩))
          go_ret
          exact ⟨by first | rfl | (simp [errW_none, errW_some] <;> rfl) | (simp [*, errW_none, errW_some] <;> rfl), by repeat (first | (with_reducible first | exact HB.out | apply below_alloc | apply pw_below_drewN | apply below_drew1) | exact HB.out)⟩
         ·rw [if_neg c34] at H
          have c34b0 : decide (t118 < 0) = false := decide_eq_false c34
          clear c34
          by_cases c35 : t118 = t110
          ·rw [if_pos c35] at H
           have c35b0 : (t118 == t110) = true := beq_iff_eq.mpr c35
           have c35b1 : (t118 != t110) = false := bne_eq_false_iff_eq.mpr c35
           clear c35
           obtain rfl := Option.some.inj H
           go_wp2_with (first | ((with_reducible refine gate_callee (f := 10) rfl ?_); refine goesL_ (some 62) rfl rfl Try.func10 (by kernel_rfl) rfl #[.slice Ao23 t111.length co23, .int .i64 1] rfl (by (try simp only [List.map_toArray, List.map_cons, List.map_nil]); first | done | rfl | (simp only [List.length_drop, List.length_take]; rfl)) ?_; (with_reducible refine (laws_heldIntS.calls kj21 _ _ t111 1 t118 _ ?side1 ?side2 A33.out).mono ?_); (case side1 => repeat (first | exact (Kd.R_reads' HO_7.out).2.2 | (with_reducible refine Kd.C_alloc ?_ _) | (with_reducible refine Kd.C_drewN ?_ _) | (with_reducible refine Kd.C_drew ?_))); (case side2 => exact (Kd.R_reads' HO_7.out).2.1); rintro e w' ⟨rfl, ⟨nd, rfl⟩⟩; refine ⟨_, rfl, ?_⟩))
           go_ret
           exact ⟨by first | rfl | (simp [errW_none, errW_some] <;> rfl) | (simp [*, errW_none, errW_some] <;> rfl), by repeat (first | (with_reducible first | exact HB.out | apply below_alloc | apply pw_below_drewN | apply below_drew1) | exact HB.out)⟩
          ·rw [if_neg c35] at H
           have c35b0 : (t118 == t110) = false := beq_eq_false_iff_ne.mpr c35
           have c35b1 : (t118 != t110) = true := bne_iff_ne.mpr c35
           obtain rfl := Option.some.inj H
           go_wp2_with (first | ((with_reducible refine gate_callee (f := 10) rfl ?_); refine goesL_ (some 62) rfl rfl Try.func10 (by kernel_rfl) rfl #[.slice Ao23 t111.length co23, .int .i64 1] rfl (by (try simp only [List.map_toArray, List.map_cons, List.map_nil]); first | done | rfl | (simp only [List.length_drop, List.length_take]; rfl)) ?_; (with_reducible refine (laws_heldIntS.calls kj21 _ _ t111 1 t118 _ ?side1 ?side2 A33.out).mono ?_); (case side1 => repeat (first | exact (Kd.R_reads' HO_7.out).2.2 | (with_reducible refine Kd.C_alloc ?_ _) | (with_reducible refine Kd.C_drewN ?_ _) | (with_reducible refine Kd.C_drew ?_))); (case side2 => exact (Kd.R_reads' HO_7.out).2.1); rintro e w' ⟨rfl, ⟨nd, rfl⟩⟩; refine ⟨_, rfl, ?_⟩))
           go_ret
           exact ⟨by first | rfl | (simp [errW_none, errW_some] <;> rfl) | (simp [*, errW_none, errW_some] <;> rfl), by repeat (first | (with_reducible first | exact HB.out | apply below_alloc | apply pw_below_drewN | apply below_drew1) | exact HB.out)⟩
     ·rw [if_neg c20] at H
      have c20b0 : (t112 == t110) = false := beq_eq_false_iff_ne.mpr c20
      have c20b1 : (t112 != t110) = true := bne_iff_ne.mpr c20
      obtain rfl := Option.some.inj H
      obtain ⟨Ao36, co36, eo36⟩ := Kd.R_slice HO_7.out
      subst eo36
      go_wp2_with (first | ((with_reducible refine gate_callee (f := 9) rfl ?_); refine goesL_ (some 36) rfl rfl Try.func9 (by kernel_rfl) rfl #[.slice Ao36 t105.length co36, .int .i64 1] rfl (by (try simp only [List.map_toArray, List.map_cons, List.map_nil]); first | done | rfl | (simp only [List.length_drop, List.length_take]; rfl)) ?_; (with_reducible refine (laws_markIntS.calls kj4 (fun k_ => some k_ = (.slice Ao36 t105.length co36 : Value).ownBlock) (.slice Ao36 t105.length co36) t105 1 t110 t111 w _ ?side1 ?side2 A15.out).mono ?_); (case side1 => repeat (first | (with_reducible first | exact HB.out | apply below_alloc | apply pw_below_drewN | apply below_drew1) | exact HB.out)); (case side2 => exact Kd.R_tight rfl HO_7.out); rintro e w37 ⟨rfl, hy0, hb, hkp⟩; refine ⟨_, rfl, ?_⟩; have n0_ := Aside0.mk (Kd.R_mono (ok' := fun k_ => some k_ ≠ (.slice Ao36 t105.length co36 : Value).ownBlock) (Kd.R_keptB (HO_5.out) hkp (fun k_ hk_ hs_ => (hk_) hs_)) (fun k_ hk_ => hk_.1)); have n1_ := Aside0.mk (Kd.R_reok rfl hy0 (fun k_ e_ => HO_7.out.1 k_ e_)); have n2_ := Aside0.mk (hb); clear HO_5; clear HO_7; clear HB; have HO_5 := n0_; have HO_7 := n1_; have HB := n2_; clear n0_ n1_ n2_; (try clear hb); (try clear hkp); (try clear hy0)) | ((with_reducible refine gate_callee (f := 10) rfl ?_); refine goesL_ (some 39) rfl rfl Try.func10 (by kernel_rfl) rfl #[.slice Ao36 t111.length co36, .int .i64 1] rfl (by (try simp only [List.map_toArray, List.map_cons, List.map_nil]); first | done | (rw [show t111.length = t105.length from (Kd.R_reads' HO_7.out).1.symm] <;> rfl) | rfl | (simp only [List.length_drop, List.length_take]; rfl)) ?_; (with_reducible refine (laws_heldIntS.calls kj4 _ _ t111 1 t112 _ ?side1 ?side2 A16.out).mono ?_); (case side1 => repeat (first | exact (Kd.R_reads' HO_7.out).2.2 | (with_reducible refine Kd.C_alloc ?_ _) | (with_reducible refine Kd.C_drewN ?_ _) | (with_reducible refine Kd.C_drew ?_))); (case side2 => rw [show t111.length = t105.length from (Kd.R_reads' HO_7.out).1.symm]; exact (Kd.R_reads' HO_7.out).2.1); rintro e w' ⟨rfl, ⟨nd, rfl⟩⟩; refine ⟨_, rfl, ?_⟩))
      go_ret
      exact ⟨by first | rfl | (simp [errW_none, errW_some] <;> rfl) | (simp [*, errW_none, errW_some] <;> rfl), by repeat (first | (with_reducible first | exact HB.out | apply below_alloc | apply pw_below_drewN | apply below_drew1) | exact HB.out)⟩
/-- THE ONE PURE STATEMENT of laws_FnExactBestWeights: yours. -/
def laws_FnExactBestWeights.Pure : Prop := ∀ (a0 : Int) (a1 : Int), (Lit.int .i64 a0).wf = true → (Lit.int .i64 a1).wf = true → ∃ k, laws_FnExactBestWeights.f k a0 a1 = some true
theorem laws_FnExactBestWeights.walk (P : laws_FnExactBestWeights.Pure) (a0 : Int) (a1 : Int) (w : World) (w0 : (Lit.int .i64 a0).wf = true) (w1 : (Lit.int .i64 a1).wf = true) :
  Calls Try.prog 3 #[.int .i64 a0, .int .i64 a1] w fun e w' => e = .returned (.bool true) ∧ Below w.heap.size w w' := by
 obtain ⟨k, h⟩ := P a0 a1 w0 w1
 refine (laws_FnExactBestWeights.calls k a0 a1 true w h).mono ?_
 rintro e w' ⟨rfl, hd⟩
 exact ⟨rfl, hd⟩
end Go.Proofs.Ytafegaaklpdgiaa.Q

namespace Go.Proofs.Ytafegaaklpdgiaa.Q
open Go.RowKit Go.Proofs.YtafegaaklpdgiaaW.PrintWords Go.Proofs.YtafegaaklpdgiaaW.PrintLast Go.Proofs.YtafegaaklpdgiaaW.PrintMore
set_option linter.unusedVariables false
set_option linter.unusedSimpArgs false
/-- a slip from 0 is not told -/
def slp (m w : Nat) : Bool := (pairs.find? (alike m w)).isSome
theorem zero_pair (d : Nat) (h1 : 1 ≤ d) (h2 : d ≤ 9) : (0, d) ∈ pairs := by
  have h : ∀ d ∈ List.range 10, 1 ≤ d → (0, d) ∈ pairs := by decide +kernel
  exact h d (List.mem_range.2 (by omega)) h1
theorem slp_tl (m w : Nat) : slp m w = !tl m w := by
  have h1 : slp m w = pairs.any (alike m w) := by
    unfold slp
    rw [Bool.eq_iff_iff, List.find?_isSome, List.any_eq_true]
  have h2 : ∀ d, alike m w (0, d) = decide ((w * d) % m = 0) := fun d => by simp [alike]
  rw [h1]
  rw [Bool.eq_iff_iff, List.any_eq_true]
  have ht : (!tl m w) = true ↔ ∃ d, 1 ≤ d ∧ d ≤ 9 ∧ (w * d) % m = 0 := by
    simp only [tl, tlF, Bool.not_eq_true', Bool.and_eq_false_iff, decide_eq_false_iff_not, Bool.true_eq_false, or_false, Decidable.not_not]
    constructor
    · intro h
      rcases h with h | h | h | h | h | h | h | h | h
      · exact ⟨1, by omega, by omega, h⟩
      · exact ⟨2, by omega, by omega, h⟩
      · exact ⟨3, by omega, by omega, h⟩
      · exact ⟨4, by omega, by omega, h⟩
      · exact ⟨5, by omega, by omega, h⟩
      · exact ⟨6, by omega, by omega, h⟩
      · exact ⟨7, by omega, by omega, h⟩
      · exact ⟨8, by omega, by omega, h⟩
      · exact ⟨9, by omega, by omega, h⟩
    · rintro ⟨d, h1, h2, h3⟩
      have : d = 1 ∨ d = 2 ∨ d = 3 ∨ d = 4 ∨ d = 5 ∨ d = 6 ∨ d = 7 ∨ d = 8 ∨ d = 9 := by omega
      rcases this with rfl | rfl | rfl | rfl | rfl | rfl | rfl | rfl | rfl
      all_goals first | exact .inl h3 | exact .inr (.inl h3) | exact .inr (.inr (.inl h3)) | exact .inr (.inr (.inr (.inl h3))) | exact .inr (.inr (.inr (.inr (.inl h3)))) | exact .inr (.inr (.inr (.inr (.inr (.inl h3))))) | exact .inr (.inr (.inr (.inr (.inr (.inr (.inl h3)))))) | exact .inr (.inr (.inr (.inr (.inr (.inr (.inr (.inl h3))))))) | exact .inr (.inr (.inr (.inr (.inr (.inr (.inr (.inr h3)))))))
  rw [ht]
  constructor
  · rintro ⟨p, hp, ha⟩
    have := pairs_ok p hp
    exact ⟨p.2 - p.1, by omega, by omega, by simpa [alike] using ha⟩
  · rintro ⟨d, h4, h5, h3⟩
    exact ⟨(0, d), zero_pair d h4 h5, by rw [h2 d]; exact decide_eq_true h3⟩
/-- the reference's search -/
noncomputable def bst (m : Nat) : Nat → List Nat → Option (List Nat)
  | 0, ws => if okC m ws = true then some ws else none
  | e + 1, ws => (List.range m).findSome? fun w => if slp m w = true ∨ ws.getLast? = some w then none else bst m e (ws ++ [w])
theorem rch_zero (m : Nat) (hm : 0 < m) : ∀ (ws : List Nat) (P : Nat → Prop), P 0 → rch m ws P 0
  | [], P, h => h
  | w :: ws, P, h => rch_zero m hm ws _ ⟨0, hm, h, 0, by omega, by simp⟩
theorem rowsW_pre (m : Nat) (b : List Nat) : ∀ (c a : List Nat), b ≠ [] → rowsW m (a ++ c) b ≠ [] → rowsW m a (c ++ b) ≠ []
  | [], a, hb, h => by simpa using h
  | w :: c, a, hb, h => by
    obtain ⟨v, t, ht⟩ : ∃ v t, c ++ b = v :: t := by
      cases hc : c ++ b with
      | nil => simp at hc; exact absurd hc.2 hb
      | cons v t => exact ⟨v, t, rfl⟩
    have ih := rowsW_pre m b c (a ++ [w]) hb (by rw [List.append_assoc]; exact h)
    rw [List.cons_append, ht, rowsW]
    rw [ht] at ih
    intro he
    exact ih (List.append_eq_nil_iff.1 he).2
theorem adj_not (m : Nat) (hm : m = 10 ∨ m = 11) (a c : List Nat) (w : Nat) : okC m (a ++ w :: w :: c) = false := by
  have h : rowsW m [] (a ++ (w :: w :: c)) ≠ [] := by
    refine rowsW_pre m (w :: w :: c) a [] (by simp) ?_
    rw [List.nil_append, rowsW]
    have hs : (un2 m (a ++ c) w w).isSome = true := by
      unfold un2
      rw [List.find?_isSome]
      obtain ⟨q, hq, hs⟩ : ∃ q : Nat × Nat, q ∈ pairs ∧ q.1 + q.2 = m := by
        rcases hm with rfl | rfl
        · exact ⟨(1, 9), by decide +kernel, rfl⟩
        · exact ⟨(2, 9), by decide +kernel, rfl⟩
      refine ⟨q, hq, ?_⟩
      rw [Bool.and_eq_true]
      refine ⟨by simp [alike, absd], ?_⟩
      refine (sdB_iff (b := true) ⟨fun _ => ?_, fun _ => rfl⟩).symm
      unfold sdP
      have e : (w * q.1 + w * q.2) % m = 0 := by rw [← Nat.mul_add, hs]; exact Nat.mul_mod_left w m
      rw [e, Nat.sub_zero, Nat.mod_self]
      exact rch_zero m (by rcases hm with rfl | rfl <;> omega) _ _ rfl
    cases hu : un2 m (a ++ c) w w with
    | none => rw [hu] at hs; cases hs
    | some p => simp [row3]
  unfold okC
  have : (rowsW m [] (a ++ w :: w :: c)).isEmpty = false := by
    cases hr : rowsW m [] (a ++ w :: w :: c) with
    | nil => exact absurd hr h
    | cons x l => rfl
  rw [this, Bool.and_false]
theorem fnd_adj (m : Nat) (hm : m = 10 ∨ m = 11) (gd : List Nat) : ∀ e (a c : List Nat) (w : Nat), fnd m gd e (a ++ w :: w :: c) = none
  | 0, a, c, w => by
    unfold fnd
    rw [adj_not m hm a c w, if_neg (by decide)]
  | e + 1, a, c, w => by
    unfold fnd
    rw [List.findSome?_eq_none_iff]
    intro x _
    have := fnd_adj m hm gd e a (c ++ [x]) w
    simpa using this
theorem small_slp (m w : Nat) (hm : 2 ≤ m) (h : m ≤ 9) : slp m w = true := by
  unfold slp
  rw [List.find?_isSome]
  exact ⟨(0, m), zero_pair m (by omega) h, by simp [alike]⟩
theorem goodF_find (m : Nat) (f : Nat → Option (List Nat)) : ∀ e w, (goodF m e w).findSome? f = (List.range' w e).findSome? fun v => if tl m v = true then f v else none
  | 0, w => rfl
  | e + 1, w => by
    rw [goodF, List.range'_succ, List.findSome?_append, List.findSome?_cons, goodF_find m f e (w + 1)]
    by_cases c : tl m w = true
    · rw [if_pos c, if_pos c]
      cases hf : f w with
      | none => simp [hf]
      | some r => simp [hf]
    · rw [if_neg c, if_neg c]
      rfl
theorem findSome_congr {f g : Nat → Option (List Nat)} : ∀ {l : List Nat}, (∀ x ∈ l, f x = g x) → l.findSome? f = l.findSome? g
  | [], h => rfl
  | x :: l, h => by
    rw [List.findSome?_cons, List.findSome?_cons, h x List.mem_cons_self, findSome_congr (fun y hy => h y (List.mem_cons_of_mem _ hy))]
theorem bst_fnd (m : Nat) (hm1 : 2 ≤ m) (hm2 : m ≤ 11) : ∀ e ws, bst m e ws = fnd m (goods m) e ws
  | 0, ws => rfl
  | e + 1, ws => by
    unfold bst fnd goods
    rw [goodF_find, ← List.range_eq_range']
    refine findSome_congr (fun w _ => ?_)
    rw [slp_tl]
    cases ht : tl m w with
    | false => rw [if_pos (.inl rfl), if_neg (by decide)]
    | true =>
      rw [if_pos rfl]
      by_cases hl : ws.getLast? = some w
      · rw [if_pos (.inr hl)]
        have hm : m = 10 ∨ m = 11 := by
          by_cases c : m ≤ 9
          · have := small_slp m w hm1 c
            rw [slp_tl, ht] at this
            cases this
          · omega
        obtain ⟨a, rfl⟩ := List.getLast?_eq_some_iff.1 hl
        have := fnd_adj m hm (goodF m m 0) e a [] w
        rw [List.append_assoc]
        exact this.symm
      · rw [if_neg (by rintro (h | h); · cases h
                       · exact hl h)]
        exact bst_fnd m hm1 hm2 e (ws ++ [w])
end Go.Proofs.Ytafegaaklpdgiaa.Q

namespace Go.Proofs.Ytafegaaklpdgiaa.Q
open Go.RowKit Go.Proofs.YtafegaaklpdgiaaW.PrintWords Go.Proofs.YtafegaaklpdgiaaW.PrintLast Go.Proofs.YtafegaaklpdgiaaW.PrintMore
set_option linter.unusedVariables false
set_option linter.unusedSimpArgs false
def outR (o : Option (List Nat)) : List Int × Bool := o.elim ([],false) fun r => (ints r,true)
noncomputable def outB (m e : Nat) (ws : List Nat) : List Int × Bool := (bst m e ws).elim ((if e = 0 then ints ws else []),false) fun r => (ints r,true)
theorem out2_snd (m w : Nat) : (out2 (pairs.find? (alike m w))).2 = slp m w := by
 unfold slp
 cases pairs.find? (alike m w) <;> rfl
theorem own_ev (l : List Int) (h : l.length ≤ 1000) : spec_l1Own.f l = some l := by
 unfold spec_l1Own.f
 rw [Option.bind_some, if_pos (by simp only [List.length_nil]; omega)]
 rfl
section
variable {m : Nat} (hm1 : 2 ≤ m) (hm2 : m ≤ 11)
include hm1 hm2
theorem best_l0 (e : Nat) (ws : List Nat) (he : e ≤ 100) (hl : ws.length ≤ 100) (IH : ∀ w, w < m → Ev (fun k => spec_slBest.f k (e : Int) (ints (ws ++ [w])) (m : Int)) (outB m e (ws ++ [w]))) :
  ∀ f i, i + f = m → Ev (fun k => spec_slBest.l0 k ((e + 1 : Nat) : Int) (i : Int) (ints ws) (m : Int)) (outR ((List.range' i f).findSome? fun w => if slp m w = true ∨ ws.getLast? = some w then none else bst m e (ws ++ [w])))
 | 0, i, hi => by
  refine Ev.step (f := fun _ => some ([],false)) (fun k => ?_) (Ev.now _)
  simp only [spec_slBest.l0]
  rw [if_neg (by omega)]
 | f + 1, i, hi => by
  have ih := best_l0 e ws he hl IH f (i + 1) (by omega)
  rw [List.range'_succ, List.findSome?_cons]
  -- the test
  obtain ⟨t, ht⟩ : ∃ t : Bool, (t = true ↔ (slp m i = true ∨ ws.getLast? = some i)) ∧ (∀ R, Ev (fun k => spec_slBest.j1 k ((e + 1 : Nat) : Int) (i : Int) t (ints ws) (m : Int)) R → Ev (fun k => spec_slBest.l0 k ((e + 1 : Nat) : Int) (i : Int) (ints ws) (m : Int)) R) := by
   cases hs : slp m i with
   | true =>
    refine ⟨true, by simp, fun R h => Ev.step (f := fun k => (spec_slPair.f k (ints ws) (m : Int) (i : Int)).bind fun bt => if bt.2 = true then spec_slBest.j1 k ((e + 1 : Nat) : Int) (i : Int) true (ints ws) (m : Int) else (if ((ints ws).length : Int) > 0 then (if 0 ≤ (wrap64 (((ints ws).length : Int) - 1)) then (if (wrap64 (((ints ws).length : Int) - 1)) < ((ints ws).length : Int) then (spec_slBest.j1 k ((e + 1 : Nat) : Int) (i : Int) ((rd (ints ws) (wrap64 (((ints ws).length : Int) - 1))) == (i : Int)) (ints ws) (m : Int)) else (none)) else (none)) else (spec_slBest.j1 k ((e + 1 : Nat) : Int) (i : Int) false (ints ws) (m : Int)))) (fun k => ?_) (Ev.bind (f := fun k (bt : List Int × Bool) => if bt.2 = true then spec_slBest.j1 k ((e + 1 : Nat) : Int) (i : Int) true (ints ws) (m : Int) else (if ((ints ws).length : Int) > 0 then (if 0 ≤ (wrap64 (((ints ws).length : Int) - 1)) then (if (wrap64 (((ints ws).length : Int) - 1)) < ((ints ws).length : Int) then (spec_slBest.j1 k ((e + 1 : Nat) : Int) (i : Int) ((rd (ints ws) (wrap64 (((ints ws).length : Int) - 1))) == (i : Int)) (ints ws) (m : Int)) else (none)) else (none)) else (spec_slBest.j1 k ((e + 1 : Nat) : Int) (i : Int) false (ints ws) (m : Int)))) (pair_ev hm1 hm2 (ints ws) i (by omega)) (Ev.congr (fun k => if_pos (by rw [out2_snd]; exact hs)) h))⟩
    simp only [spec_slBest.l0]
    rw [if_pos (by omega)]
   | false =>
    have hgen : ∀ (t : Bool) R, (∀ k, (if ((ints ws).length : Int) > 0 then (if 0 ≤ (wrap64 (((ints ws).length : Int) - 1)) then (if (wrap64 (((ints ws).length : Int) - 1)) < ((ints ws).length : Int) then (spec_slBest.j1 k ((e + 1 : Nat) : Int) (i : Int) ((rd (ints ws) (wrap64 (((ints ws).length : Int) - 1))) == (i : Int)) (ints ws) (m : Int)) else (none)) else (none)) else (spec_slBest.j1 k ((e + 1 : Nat) : Int) (i : Int) false (ints ws) (m : Int))) = spec_slBest.j1 k ((e + 1 : Nat) : Int) (i : Int) t (ints ws) (m : Int)) → Ev (fun k => spec_slBest.j1 k ((e + 1 : Nat) : Int) (i : Int) t (ints ws) (m : Int)) R → Ev (fun k => spec_slBest.l0 k ((e + 1 : Nat) : Int) (i : Int) (ints ws) (m : Int)) R := by
     intro t R hk h
     refine Ev.step (f := fun k => (spec_slPair.f k (ints ws) (m : Int) (i : Int)).bind fun bt => if bt.2 = true then spec_slBest.j1 k ((e + 1 : Nat) : Int) (i : Int) true (ints ws) (m : Int) else spec_slBest.j1 k ((e + 1 : Nat) : Int) (i : Int) t (ints ws) (m : Int)) (fun k => ?_) (Ev.bind (f := fun k (bt : List Int × Bool) => if bt.2 = true then spec_slBest.j1 k ((e + 1 : Nat) : Int) (i : Int) true (ints ws) (m : Int) else spec_slBest.j1 k ((e + 1 : Nat) : Int) (i : Int) t (ints ws) (m : Int)) (pair_ev hm1 hm2 (ints ws) i (by omega)) (Ev.congr (fun k => if_neg (by rw [out2_snd, hs]; decide)) h))
     simp only [spec_slBest.l0]
     rw [if_pos (by omega)]
     congr 1
     funext bt
     rw [hk k]
    by_cases hw : ws = []
    ·subst hw
     exact ⟨false, by simp, fun R h => hgen false R (fun k => if_neg (by simp [ints])) h⟩
    ·obtain ⟨a, v, rfl⟩ : ∃ a v, ws = a ++ [v] := ⟨ws.dropLast, ws.getLast hw, (List.dropLast_concat_getLast hw).symm⟩
     have el : (ints (a ++ [v])).length = a.length + 1 := by rw [ints_length, len_snoc]
     have hal : a.length ≤ 100 := by rw [len_snoc] at hl; omega
     have e1 : wrap64 (((ints (a ++ [v])).length : Int) - 1) = (a.length : Int) := by rw [el, wr (by omega) (by omega)]; omega
     refine ⟨(v : Int) == (i : Int), ?_, fun R h => hgen _ R (fun k => ?_) h⟩
     ·rw [beq_iff_eq]
      simp only [Bool.false_eq_true,false_or, List.getLast?_append, List.getLast?_singleton, Option.some_or, Option.some.injEq]
      omega
     ·rw [if_pos (by rw [el]; omega), e1, if_pos (by omega), if_pos (by rw [el]; omega), rd_ints]
  obtain ⟨ht, hj⟩ := ht
  refine hj _ ?_
  cases t with
  | true =>
   rw [if_pos (ht.1 rfl)]
   refine Ev.step (fun k => ?_) ih
   simp only [spec_slBest.j1]
   rw [if_pos trivial, wsucc i (by omega)]
  | false =>
   rw [if_neg (fun h => by have := ht.2 h; cases this)]
   have hI := IH i (by omega)
   refine Ev.step (f := fun k => (spec_slBest.f k (e : Int) (ints (ws ++ [i])) (m : Int)).bind fun bt => if bt.2 = true then some (bt.1,true) else spec_slBest.l0 k ((e + 1 : Nat) : Int) ((i + 1 : Nat) : Int) (ints ws) (m : Int)) (fun k => ?_) (Ev.bind (f := fun k (bt : List Int × Bool) => if bt.2 = true then some (bt.1,true) else spec_slBest.l0 k ((e + 1 : Nat) : Int) ((i + 1 : Nat) : Int) (ints ws) (m : Int)) hI ?_)
   ·simp only [spec_slBest.j1]
    rw [if_neg (by decide), own_ev _ (by rw [ints_length]; omega), Option.bind_some, Option.bind_some, if_pos (by rw [ints_length]; simp only [List.length_cons, List.length_nil]; omega), wsucc i (by omega), wr (by omega) (by omega), show ((e + 1 : Nat) : Int) - 1 = (e : Int) by omega, show ints ws ++ [(i : Int)] = ints (ws ++ [i]) by simp [ints]]
   ·cases hb : bst m e (ws ++ [i]) with
    | none =>
     unfold outB
     rw [hb]
     exact Ev.congr (fun k => if_neg (by show ¬ (false = true); decide)) ih
    | some r =>
     unfold outB
     rw [hb]
     exact Ev.congr (fun k => if_pos rfl) (Ev.now _)
theorem best_ev (p : Nat) (hp1 : 1 ≤ p) (hp : p ≤ 6) : ∀ e ws, ws.length + e = p → (∀ v ∈ ws, v < m) → Ev (fun k => spec_slBest.f k (e : Int) (ints ws) (m : Int)) (outB m e ws)
 | 0, ws, hl, hlt => by
  refine Ev.step (f := fun k => (spec_slList.f k (ints ws) (m : Int) false).bind fun t102 => if (t102.length : Int) = 0 then ((spec_slList.f k (ints ws) (m : Int) true).bind fun t105 => some (ints ws, ((t105.length : Int) == 0))) else some (ints ws,false)) (fun k => ?_) (Ev.bind (f := fun k (t102 : List (List Int)) => if (t102.length : Int) = 0 then ((spec_slList.f k (ints ws) (m : Int) true).bind fun t105 => some (ints ws, ((t105.length : Int) == 0))) else some (ints ws,false)) (refSingle_ev hm1 hm2 ws hlt (by omega)) ?_)
  ·simp only [spec_slBest.f]
   rw [if_pos (show ((0 : Nat) : Int) = 0 from rfl)]
  ·unfold outB bst okC
   by_cases c : (rowsS m [] ws).length = 0
   ·have c2 := List.eq_nil_of_length_eq_zero c
    rw [c2]
    refine Ev.congr (fun k => if_pos (by simp)) (Ev.bind (f := fun k (t105 : List (List Int)) => some (ints ws, ((t105.length : Int) == 0))) (refSwap_ev hm1 hm2 ws hlt (by omega) (by omega)) ?_)
    rw [isE_eq]
    cases (rowsW m [] ws).isEmpty <;> exact Ev.now _
   ·have c2 : (rowsS m [] ws).isEmpty = false := by
     cases hr : rowsS m [] ws with
     | nil => rw [hr] at c; exact absurd rfl c
     | cons x l => rfl
    rw [c2, Bool.false_and, if_neg (by decide)]
    exact Ev.congr (fun k => if_neg (by omega)) (Ev.now _)
 | e + 1, ws, hl, hlt => by
  have h := best_l0 hm1 hm2 e ws (by omega) (by omega) (fun w hw => best_ev p hp1 hp e (ws ++ [w]) (by rw [len_snoc]; omega) (fun v hv => (List.mem_append.1 hv).elim (hlt v) (fun h => by rw [List.mem_singleton.1 h]; exact hw))) m 0 (by omega)
  have e1 : outB m (e + 1) ws = outR ((List.range' 0 m).findSome? fun w => if slp m w = true ∨ ws.getLast? = some w then none else bst m e (ws ++ [w])) := by
   unfold outB outR
   rw [← List.range_eq_range', if_neg (by omega)]
   rfl
  rw [e1]
  refine Ev.step (fun k => ?_) h
  simp only [spec_slBest.f]
  rw [if_neg (by omega)]
  rfl
end
theorem bestSpec_ev (a0 a1 : Int) : ∃ (l : List Int) (b : Bool), Ev (fun k => spec_BestWeights.f k a0 a1) (l, b) ∧ impl_BestWeights.f a0 a1 = some (l, b) ∧ l.length ≤ 6 := by
 have hdef : ∀ k, spec_BestWeights.f k a0 a1 = if (decide (2 ≤ a0) && decide (a0 ≤ 6)) = true then (if (decide (2 ≤ a1) && decide (a1 ≤ 11)) = true then ((spec_slBest.f k a0 [] a1).bind fun bt => some (bt.1, bt.2)) else some ([],false)) else some ([],false) := by
  intro k
  simp only [spec_BestWeights.f, in_eq, Option.bind_some]
 by_cases c : (2 ≤ a0 ∧ a0 ≤ 6) ∧ (2 ≤ a1 ∧ a1 ≤ 11)
 ·obtain ⟨p, rfl⟩ : ∃ p : Nat, a0 = (p : Int) := ⟨a0.toNat, by omega⟩
  obtain ⟨m, rfl⟩ : ∃ m : Nat, a1 = (m : Int) := ⟨a1.toNat, by omega⟩
  have hE := best_ev (m := m) (by omega) (by omega) p (by omega) (by omega) p [] (by simp) (fun v hv => by simp at hv)
  have hb : outB m p [] = bestP p m := by
   unfold outB bestP
   rw [bst_fnd m (by omega) (by omega), if_neg (by omega)]
   cases fnd m (goods m) p [] <;> rfl
  rw [hb] at hE
  refine ⟨(bestP p m).1, (bestP p m).2, Ev.congr (fun k => (hdef k).trans ((if_pos ?_).trans (if_pos ?_))) (Ev.bind (f := fun k (bt : List Int × Bool) => some (bt.1, bt.2)) hE (Ev.now _)), ?_, ?_⟩
  ·rw [Bool.and_eq_true]; exact ⟨decide_eq_true c.1.1, decide_eq_true c.1.2⟩
  ·rw [Bool.and_eq_true]; exact ⟨decide_eq_true c.2.1, decide_eq_true c.2.2⟩
  ·unfold impl_BestWeights.f
   rw [if_pos c, Int.toNat_natCast, Int.toNat_natCast]
  ·unfold bestP
   cases hf : fnd m (goods m) p [] with
   | none => simp
   | some ws =>
    have := fnd_len m (goods m) p [] ws hf
    simp only [List.length_nil] at this
    show (ints ws).length ≤ 6
    rw [ints_length]
    omega
 ·refine ⟨[],false, ?_, by unfold impl_BestWeights.f; rw [if_neg c], by simp⟩
  refine Ev.congr (fun k => (hdef k).trans ?_) (Ev.now _)
  by_cases c0 : (decide (2 ≤ a0) && decide (a0 ≤ 6)) = true
  ·rw [if_pos c0]
   rw [if_neg]
   intro c1
   rw [Bool.and_eq_true] at c0 c1
   exact c ⟨⟨of_decide_eq_true c0.1, of_decide_eq_true c0.2⟩, of_decide_eq_true c1.1, of_decide_eq_true c1.2⟩
  ·rw [if_neg c0]
end Go.Proofs.Ytafegaaklpdgiaa.Q

namespace Go.Proofs.Ytafegaaklpdgiaa.Pure
open Go.RowKit Go.Proofs.Ytafegaaklpdgiaa.Q Go.Proofs.YtafegaaklpdgiaaW.PrintWords Go.Proofs.YtafegaaklpdgiaaW.PrintLast
theorem FnExactBestWeights : laws_FnExactBestWeights.Pure := by
 intro a0 a1 _ _
 obtain ⟨l, b, hs, hi, hl⟩ := bestSpec_ev a0 a1
 have hb : (b != b) = false := by cases b <;> rfl
 have heq := eqIntS_ev l (by omega)
 have hmk := markIntS_ev l 1 (by omega) (by omega) (by omega)
 have hhd := heldIntS_ev l.length 1 (by omega) (by omega) (by omega)
 have hlen : (cnt 1 l.length).length = l.length := cnt_length _ _
 have h1 : Ev (fun k => laws_FnExactBestWeights.j1 k (cnt 1 l.length) (1 + (l.length : Int)) false) true := by
  refine Ev.step (f := fun k => (laws_heldIntS.f k (cnt 1 l.length) 1).bind fun t => if t < 0 then some false else if t = 1 + (l.length : Int) then some true else some false) (fun k => ?_) (Ev.bind (f := fun k (t : Int) => if t < 0 then some false else if t = 1 + (l.length : Int) then some true else some false) hhd (Ev.congr (fun k => (if_neg (by omega)).trans (if_pos rfl)) (Ev.now _)))
  simp only [laws_FnExactBestWeights.j1]
  rw [if_neg (by decide)]
 have h0 : Ev (fun k => laws_FnExactBestWeights.j0 k a0 a1 l b l false) true := by
  refine Ev.step (f := fun k => (laws_markIntS.f k l 1).bind fun bt => (laws_heldIntS.f k bt.2 1).bind fun t => if t < 0 then some false else if t = bt.1 then ((laws_eqIntS.f k l l).bind fun t117 => if t117 = true then laws_FnExactBestWeights.j1 k bt.2 bt.1 (b != b) else laws_FnExactBestWeights.j1 k bt.2 bt.1 true) else some false) (fun k => ?_) ?_
  ·simp only [laws_FnExactBestWeights.j0, hi, Option.bind_some]
   rw [if_neg (by decide)]
  ·refine Ev.bind (f := fun k (bt : Int × List Int) => (laws_heldIntS.f k bt.2 1).bind fun t => if t < 0 then some false else if t = bt.1 then ((laws_eqIntS.f k l l).bind fun t117 => if t117 = true then laws_FnExactBestWeights.j1 k bt.2 bt.1 (b != b) else laws_FnExactBestWeights.j1 k bt.2 bt.1 true) else some false) hmk ?_
   refine Ev.bind (f := fun k (t : Int) => if t < 0 then some false else if t = 1 + (l.length : Int) then ((laws_eqIntS.f k l l).bind fun t117 => if t117 = true then laws_FnExactBestWeights.j1 k (cnt 1 l.length) (1 + (l.length : Int)) (b != b) else laws_FnExactBestWeights.j1 k (cnt 1 l.length) (1 + (l.length : Int)) true) else some false) hhd ?_
   refine Ev.congr (fun k => (if_neg (by omega)).trans (if_pos rfl)) ?_
   refine Ev.bind (f := fun k (t117 : Bool) => if t117 = true then laws_FnExactBestWeights.j1 k (cnt 1 l.length) (1 + (l.length : Int)) (b != b) else laws_FnExactBestWeights.j1 k (cnt 1 l.length) (1 + (l.length : Int)) true) heq ?_
   rw [hb]
   exact Ev.congr (fun k => if_pos rfl) h1
 have hE : Ev (fun k => laws_FnExactBestWeights.f k a0 a1) true := by
  have hdef : ∀ k, laws_FnExactBestWeights.f k a0 a1 = (spec_BestWeights.f k a0 a1).bind fun bt => (laws_eqIntS.f k l bt.1).bind fun t => if t = true then laws_FnExactBestWeights.j0 k a0 a1 bt.1 bt.2 l (b != bt.2) else laws_FnExactBestWeights.j0 k a0 a1 bt.1 bt.2 l true := by
   intro k
   simp only [laws_FnExactBestWeights.f, hi, Option.bind_some]
  refine Ev.congr hdef (Ev.bind (f := fun k (bt : List Int × Bool) => (laws_eqIntS.f k l bt.1).bind fun t => if t = true then laws_FnExactBestWeights.j0 k a0 a1 bt.1 bt.2 l (b != bt.2) else laws_FnExactBestWeights.j0 k a0 a1 bt.1 bt.2 l true) hs ?_)
  refine Ev.bind (f := fun k (t : Bool) => if t = true then laws_FnExactBestWeights.j0 k a0 a1 l b l (b != b) else laws_FnExactBestWeights.j0 k a0 a1 l b l true) heq ?_
  rw [hb]
  exact Ev.congr (fun k => if_pos rfl) h0
 exact hE.rounds
end Go.Proofs.Ytafegaaklpdgiaa.Pure
