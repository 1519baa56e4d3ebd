/-
  'KindsOfReading' of the program: what it returns: the letters of all kinds that a reading has. Laid by a program of this session; the row of letters (a constant turned into bytes, which bears a mark) by hand.
-/
import Derived.Test.YtpdcjkiejglaiaaQx0
import Derived.Test.YtpdcjkiejglaiaaQf36
import Derived.Test.YtpdcjkiejglaiaaQf37
import Derived.Lib.SlBytesConst
namespace Go.Proofs.Ytpdcjkiejglaiaa.Q
open Go.RowKit Go.Proofs.YtpdcjkiejglaiaaW.PrintWords Go.Proofs.YtpdcjkiejglaiaaW.PrintLast Go.Proofs.YtpdcjkiejglaiaaW.PrintMore
attribute [local go_sem] max2_int min2_int max_two min_two max_three min_three max_four min_four   -- for this text's walks alone
set_option linter.unusedVariables false
set_option linter.unusedSimpArgs false

/-! ### impl_KindsOfReading: function 18 -/
def impl_KindsOfReading.l0 : Nat → ByteArray → List Int → List Int → Int → Int → Option (ByteArray × Bool)
  | 0, _, _, _, _, _ => none
  | k + 1, x0, x4, x12, x13, x14 => if x14 < x13 then (if 0 ≤ x14 then (if x14 < (x12.length : Int) then ((impl_isOf.f k (rd x12 x14) x0).bind fun t188 => (if t188 = true then (if x4.length < 140737488355328 then (impl_KindsOfReading.l0 k x0 (x4 ++ [rd x12 x14]) x12 x13 (wrap64 (x14 + 1))) else (none)) else (impl_KindsOfReading.l0 k x0 x4 x12 x13 (wrap64 (x14 + 1))))) else (none)) else (none)) else (some (strOfNums x4, true))
def impl_KindsOfReading.f (k : Nat) (a0 : ByteArray) : Option (ByteArray × Bool) := (impl_IsReading.f k a0).bind fun t180 => (if t180 = true then ((some (([97, 109, 117, 114, 102, 100] : List Int) : List Int)).bind fun y184 => (impl_KindsOfReading.l0 k a0 (([] : List Int)) y184 (y184.length : Int) 0)) else (some ((⟨#[]⟩ : ByteArray), false)))
theorem impl_KindsOfReading.mono_l : ∀ k, (∀ y0 y1 y2 y3 y4, LeO (impl_KindsOfReading.l0 k y0 y1 y2 y3 y4) (impl_KindsOfReading.l0 (k + 1) y0 y1 y2 y3 y4))
  | 0 => fun _ _ _ _ _ r h => by simp [impl_KindsOfReading.l0] at h
  | k + 1 => by
    have ih0 := impl_KindsOfReading.mono_l k
    · intro y0 y1 y2 y3 y4
      unfold impl_KindsOfReading.l0
      repeat' first
      | (with_reducible exact ih0 _ _ _ _ _)
      | (with_reducible exact impl_IsReading.mono _ _)
      | (with_reducible exact impl_isOf.mono _ _ _)
      | (with_reducible exact LeO.refl _)
      | (with_reducible exact LeO.none _)
      | (with_reducible refine LeO.ite ?_ ?_)
      | (with_reducible refine LeO.bind ?_ (fun _ => ?_))
      | exact ih0 _ _ _ _ _
      | exact impl_IsReading.mono _ _
      | exact impl_isOf.mono _ _ _
      | exact LeO.none _
      | refine LeO.ite ?_ ?_
      | refine LeO.bind ?_ (fun _ => ?_)
theorem impl_KindsOfReading.mono : ∀ a0 k, LeO (impl_KindsOfReading.f k a0) (impl_KindsOfReading.f (k + 1) a0) := by
  intro a0 k
  have ih0 := impl_KindsOfReading.mono_l k
  unfold impl_KindsOfReading.f
  repeat' first
      | (with_reducible exact ih0 _ _ _ _ _)
      | (with_reducible exact impl_IsReading.mono _ _)
      | (with_reducible exact impl_isOf.mono _ _ _)
      | (with_reducible exact LeO.refl _)
      | (with_reducible exact LeO.none _)
      | (with_reducible refine LeO.ite ?_ ?_)
      | (with_reducible refine LeO.bind ?_ (fun _ => ?_))
      | exact ih0 _ _ _ _ _
      | exact impl_IsReading.mono _ _
      | exact impl_isOf.mono _ _ _
      | exact LeO.none _
      | refine LeO.ite ?_ ?_
      | refine LeO.bind ?_ (fun _ => ?_)

/-- the letters of the kinds, as the program lays them -/
def kindRow : Array Value := #[.int .u8 97, .int .u8 109, .int .u8 117, .int .u8 114, .int .u8 102, .int .u8 100]
def kindList : List Int := [97, 109, 117, 114, 102, 100]
theorem kind_cell (W : World) (b : Nat) (h : W.heap[b]? = some (.cells kindRow 5 (6, 7))) (x : Int) (h0 : 0 ≤ x) (h1 : x < 6) :
    W.cell? ⟨b, x.toNat, none⟩ = some (.int .u8 (rd kindList x)) := by
  obtain ⟨n, rfl⟩ := Int.eq_ofNat_of_zero_le h0
  have hn : n < 6 := by omega
  rw [show (n : Int).toNat = n by omega]
  unfold World.cell?
  simp only [h]
  match n, hn with
  | 0, _ => rfl
  | 1, _ => rfl
  | 2, _ => rfl
  | 3, _ => rfl
  | 4, _ => rfl
  | 5, _ => rfl

set_option maxHeartbeats 8000000 in
set_option maxRecDepth 100000 in
theorem impl_KindsOfReading.calls (k : Nat) (a0 : ByteArray) (r1 : ByteArray) (r2 : Bool) (w : World) (h : impl_KindsOfReading.f k a0 = some (r1, r2)) :
    Calls Try.prog 18 #[.string a0] w fun e w' => e = .returned (.tuple #[.string r1, .bool r2]) ∧ Below w.heap.size w w' := by
  have HB := Aside0.mk (Below.refl w.heap.size w)
  have H : ((impl_IsReading.f k a0).bind fun t180 => (if t180 = true then ((some (([97, 109, 117, 114, 102, 100] : List Int) : List Int)).bind fun kindList => (impl_KindsOfReading.l0 k a0 (([] : List Int)) kindList 6 0)) else (some ((⟨#[]⟩ : ByteArray), false)))) = some (r1, r2) := h
  clear h
  replace H := Option.bind_eq_some_iff.mp H
  obtain ⟨t180, A20, H⟩ := H
  replace H : (if t180 = true then ((some (([97, 109, 117, 114, 102, 100] : List Int) : List Int)).bind fun kindList => (impl_KindsOfReading.l0 k a0 (([] : List Int)) kindList 6 0)) else (some ((⟨#[]⟩ : ByteArray), false))) = some (r1, r2) := H
  have A2 := Aside0.mk A20
  clear A20
  by_cases c3 : t180 = true
  · subst c3
    have H1 : ((some (([97, 109, 117, 114, 102, 100] : List Int) : List Int)).bind fun kindList => (impl_KindsOfReading.l0 k a0 (([] : List Int)) kindList 6 0)) = some (r1, r2) := by rw [if_pos rfl] at H; exact H
    clear H
    have H := H1
    clear H1
    obtain ⟨y181, hy181⟩ : ∃ y_ : List Int, y_ = (([] : List Int)) := ⟨_, rfl⟩
    replace H : ((some (([97, 109, 117, 114, 102, 100] : List Int) : List Int)).bind fun kindList => (impl_KindsOfReading.l0 k a0 y181 kindList 6 0)) = some (r1, r2) := by first | (rw [hy181]; with_reducible exact H) | (have H2_ := (Option.bind_some _ _).symm.trans H; rw [hy181]; with_reducible exact H2_) | (have H2_ := (Option.bind_some _ _).symm.trans H; with_reducible exact H2_) | with_reducible exact H | (rw [hy181]; exact H) | exact H
    have Ny181 := Aside0.mk hy181
    clear hy181
    replace H : impl_KindsOfReading.l0 k a0 y181 kindList 6 0 = some (r1, r2) := H
    have H' := Aside0.mk H
    clear H
    have kc := fun (W : World) (C : Array Value) (n c : Nat) => Lib.run_convert_bytes_const (P := Try.prog) W 39 5 C n c Try.underlying39 Try.underlying5
    go_enter Try.func18, Try.ntmps18
    go_wp2_with (first | ((with_reducible refine gate_callee (f := 36) rfl ?_); refine goesL_ (some 8) rfl rfl Try.func36 (by kernel_rfl) rfl #[.string a0] rfl (by (try simp only [List.map_toArray, List.map_cons, List.map_nil]); first | done | rfl | (simp only [List.length_drop, List.length_take]; rfl)) ?_; (with_reducible refine (impl_IsReading.calls k a0 true _ A2.out).mono ?_); rintro e w' ⟨rfl, ⟨nd, rfl⟩⟩; refine ⟨_, rfl, ?_⟩) | ((with_reducible refine gate_dst (N := 10) rfl ?_); refine Kd.R_lit (Kd.int .u8) _ 5 ?hg (N := 10) ?hd (xs := ([] : List Int)) (inner := []) (ok := fun _ => True) (okp := fun _ => True) ?hr ?hp (fun _ hk => hk) trivial (Below.refl _ _) (Nat.le_refl _) (by simp) ?_; (case hd => rfl); (case hg => rfl); (case hr => first | (go_simp; done) | (go_simp; rfl)); (case hp => exact (Reps.none _ _)); intro v182 w4 ho5 hb hg_ hnew_; clear hg_ hnew_; (first | rw [← Ny181.out] at ho5 | (simp only [Int.reduceToNat] at ho5; rw [← Ny181.out] at ho5)); have n0_ := Aside0.mk (Kd.R_lower ho5 (below_size (by repeat (first | (with_reducible first | exact HB.out | apply below_alloc | apply pw_below_drewN | apply below_drew1) | exact HB.out)))); have n1_ := Aside0.mk (below_step (by repeat (first | (with_reducible first | exact HB.out | apply below_alloc | apply pw_below_drewN | apply below_drew1) | exact HB.out)) hb); clear HB; have HO183 := n0_; have HB := n1_; clear n0_ n1_; clear hb ho5))
    have HO2 := Aside0.mk (Kd.R_mono (ok' := fun k_ => k_ ≠ w4.heap.size) (Kd.R_bound HO183.out) (fun k_ hk => Nat.ne_of_lt hk.2.2.1))
    have HZ := Aside0.mk (show (w4.alloc (.cells kindRow 5 (6, 7))).heap[w4.heap.size]? = some (.cells kindRow 5 (6, 7)) from heap_alloc_new _ _)
    go_loopg [4, 14] k (fun kq v4 v14 w' => ∃ (x4_1 : List Int) (x14_1 : Int), v14 = .int .i64 x14_1 ∧ Aside0 (impl_KindsOfReading.l0 kq a0 x4_1 kindList 6 x14_1 = some (r1, r2)) ∧ Aside0 (kq ≤ k) ∧ Aside0 (Kd.R (Kd.int .u8) 5 w' w.heap.size (fun k_ => k_ ≠ w4.heap.size) v4 x4_1) ∧ Aside0 (w'.heap[w4.heap.size]? = some (.cells kindRow 5 (6, 7))) ∧ Aside0 (Below w.heap.size w w'))
    case atStart => exact ⟨(y181), (0), rfl, H', ⟨Nat.le_refl _⟩, ⟨Kd.R_alloc HO2.out _⟩, ⟨HZ.out⟩, ⟨by repeat (first | (with_reducible first | exact HB.out | apply below_alloc | apply pw_below_drewN | apply below_drew1) | exact HB.out)⟩⟩
    case round =>
      clear H'
      try clear c1
      try clear p2
      try clear c3
      obtain ⟨x4_1, x14_1, rfl, HA, HK1, HO_4, HO_12, HB⟩ := hrel
      cases gk with
      | zero => exact absurd HA.out (by simp [impl_KindsOfReading.l0])
      | succ k1 =>
        have H := HA.out
        clear HA
        simp only [impl_KindsOfReading.l0] at H
        rw [show (kindList.length : Int) = 6 from rfl] at H
        by_cases c9 : x14_1 < 6
        · rw [if_pos c9] at H
          have c9b0 : decide (x14_1 < 6) = true := decide_eq_true c9
          clear c9
          by_cases c10 : 0 ≤ x14_1
          · rw [if_pos c10] at H
            have c10b0 : decide (0 ≤ x14_1) = true := decide_eq_true c10
            clear c10
            by_cases c11 : x14_1 < 6
            · rw [if_pos c11] at H
              have c11b0 : decide (x14_1 < 6) = true := decide_eq_true c11
              clear c11
              replace H := Option.bind_eq_some_iff.mp H
              obtain ⟨t188, A120, H⟩ := H
              replace H : (if t188 = true then (if x4_1.length < 140737488355328 then (impl_KindsOfReading.l0 k1 a0 (x4_1 ++ [rd kindList x14_1]) kindList 6 (wrap64 (x14_1 + 1))) else (none)) else (impl_KindsOfReading.l0 k1 a0 x4_1 kindList 6 (wrap64 (x14_1 + 1)))) = some (r1, r2) := H
              have A12 := Aside0.mk A120
              clear A120
              by_cases c13 : t188 = true
              · subst c13
                have H1 : (if x4_1.length < 140737488355328 then (impl_KindsOfReading.l0 k1 a0 (x4_1 ++ [rd kindList x14_1]) kindList 6 (wrap64 (x14_1 + 1))) else (none)) = some (r1, r2) := by rw [if_pos rfl] at H; exact H
                clear H
                have H := H1
                clear H1
                by_cases c14 : x4_1.length < 140737488355328
                · rw [if_pos c14] at H
                  have LMc14 := Aside0.mk c14
                  clear c14
                  obtain ⟨y189, hy189⟩ : ∃ y_ : List Int, y_ = (x4_1 ++ [rd kindList x14_1]) := ⟨_, rfl⟩
                  replace H : (impl_KindsOfReading.l0 k1 a0 y189 kindList 6 (wrap64 (x14_1 + 1))) = some (r1, r2) := by first | (rw [hy189]; with_reducible exact H) | (have H2_ := (Option.bind_some _ _).symm.trans H; rw [hy189]; with_reducible exact H2_) | (have H2_ := (Option.bind_some _ _).symm.trans H; with_reducible exact H2_) | with_reducible exact H | (rw [hy189]; exact H) | exact H
                  have Ny189 := Aside0.mk hy189
                  clear hy189
                  have H' := Aside0.mk H
                  clear H
                  have p187 : 0 ≤ (x14_1 : Int) := of_decide_eq_true (by first | (with_reducible assumption) | assumption)
                  have q187 : x14_1 < 6 := of_decide_eq_true (by first | (with_reducible assumption) | assumption)
                  have hx187_0 := kind_cell _ _ HO_12.out x14_1 p187 q187

                  have hlt187 := (Array.getElem?_eq_some_iff.1 HO_12.out).1
                  replace p187 := eq_true p187
                  replace q187 := eq_true q187
                  go_wp2_with (first | ((with_reducible refine gate_callee (f := 37) rfl ?_); refine goesL_ (some 20) rfl rfl Try.func37 (by kernel_rfl) rfl #[.int .u8 (rd kindList x14_1), .string a0] rfl (by (try simp only [List.map_toArray, List.map_cons, List.map_nil]); first | done | rfl | (simp only [List.length_drop, List.length_take]; rfl)) ?_; (with_reducible refine (impl_isOf.calls k1 (rd kindList x14_1) a0 true _ A12.out).mono ?_); rintro e w' ⟨rfl, ⟨nd, rfl⟩⟩; refine ⟨_, rfl, ?_⟩) | ((with_reducible refine gate_builtin (b := .append) (xs := #[.tmp 21, .tmp 23]) rfl ?_); at_builtin; refine Kd.R_append (Kd.int .u8) (w0 := w) w.heap.size rfl (.tmp 21) (.tmp 23) 39 5 (.int .u8 0) 1 rfl Try.underlying39 info5 rfl (by decide) (by omega) u4 x4_1 (rd kindList x14_1) [.int .u8 (rd kindList x14_1)] (fun k_ => k_ ≠ w4.heap.size) (fun _ => False) rfl rfl ?aP (fun _ hk => hk.elim) ?aF ?aO ?aB ?aS ?aL ?_; (case aP => exact rfl); (case aB => exact (by repeat (first | (with_reducible first | exact HB.out | apply below_alloc | apply pw_below_drewN | apply below_drew1) | exact HB.out))); (case aF => exact (fun k_ hk => by have := (Array.getElem?_eq_some_iff.1 HO_12.out).1; simp at hk; omega)); (case aO => exact (by (with_reducible repeat (first | apply Kd.R_alloc | apply Kd.R_drewN | apply Kd.R_drew)); exact HO_4.out)); (case aS => exact (below_size (by repeat (first | (with_reducible first | exact HB.out | apply below_alloc | apply pw_below_drewN | apply below_drew1) | exact HB.out)))); (case aL => have := LMc14.out; omega); intro v190 w15 ho hb hg hat; rw [← Ny189.out] at ho; have n0_ := Aside0.mk ((hg.block w4.heap.size (by simpa using (Array.getElem?_eq_some_iff.1 HO_12.out).1) (fun e_ => HO_4.out.1 _ e_.symm rfl)).trans (by simpa using HO_12.out)); have n1_ := Aside0.mk (hb); have n2_ := Aside0.mk (ho); clear HO_12; clear HB; clear HO_4; have HO_12 := n0_; have HB := n1_; have HO191 := n2_; clear n0_ n1_ n2_; clear ho hb hg hat))
                  go_roundg k1
                  case measure => have := HK1.out; omega
                  case rel => exact ⟨(y189), (wrap64 (x14_1 + 1)), (by first | rfl | (simp; done) | (simp [*]; done)), H', ⟨by have := HK1.out; omega⟩, ⟨by (with_reducible repeat (first | apply Kd.R_alloc | apply Kd.R_drewN | apply Kd.R_drew)); exact HO191.out⟩, ⟨by simpa using HO_12.out⟩, ⟨by repeat (first | (with_reducible first | exact HB.out | apply below_alloc | apply pw_below_drewN | apply below_drew1) | exact HB.out)⟩⟩
                · rw [if_neg c14] at H
                  exact absurd H (by simp)
              · replace c13 := Bool.eq_false_iff.mpr c13
                subst c13
                have H1 : (impl_KindsOfReading.l0 k1 a0 x4_1 kindList 6 (wrap64 (x14_1 + 1))) = some (r1, r2) := by rw [if_neg (show ¬ (false = true) by decide)] at H; exact H
                clear H
                have H := H1
                clear H1
                have H' := Aside0.mk H
                clear H
                have p187 : 0 ≤ (x14_1 : Int) := of_decide_eq_true (by first | (with_reducible assumption) | assumption)
                have q187 : x14_1 < 6 := of_decide_eq_true (by first | (with_reducible assumption) | assumption)
                have hx187_0 := kind_cell _ _ HO_12.out x14_1 p187 q187

                have hlt187 := (Array.getElem?_eq_some_iff.1 HO_12.out).1
                replace p187 := eq_true p187
                replace q187 := eq_true q187
                go_wp2_with (first | ((with_reducible refine gate_callee (f := 37) rfl ?_); refine goesL_ (some 20) rfl rfl Try.func37 (by kernel_rfl) rfl #[.int .u8 (rd kindList x14_1), .string a0] rfl (by (try simp only [List.map_toArray, List.map_cons, List.map_nil]); first | done | rfl | (simp only [List.length_drop, List.length_take]; rfl)) ?_; (with_reducible refine (impl_isOf.calls k1 (rd kindList x14_1) a0 false _ A12.out).mono ?_); rintro e w' ⟨rfl, ⟨nd, rfl⟩⟩; refine ⟨_, rfl, ?_⟩))
                go_roundg k1
                case measure => have := HK1.out; omega
                case rel => exact ⟨(x4_1), (wrap64 (x14_1 + 1)), (by first | rfl | (simp; done) | (simp [*]; done)), H', ⟨by have := HK1.out; omega⟩, ⟨by (with_reducible repeat (first | apply Kd.R_alloc | apply Kd.R_drewN | apply Kd.R_drew)); exact HO_4.out⟩, ⟨by simpa using HO_12.out⟩, ⟨by repeat (first | (with_reducible first | exact HB.out | apply below_alloc | apply pw_below_drewN | apply below_drew1) | exact HB.out)⟩⟩
            · rw [if_neg c11] at H
              exact absurd H (by simp)
          · rw [if_neg c10] at H
            exact absurd H (by simp)
        · rw [if_neg c9] at H
          have c9b0 : decide (x14_1 < 6) = false := decide_eq_false c9
          clear c9
          simp only [Option.some.injEq, Prod.mk.injEq] at H
          obtain ⟨rfl, rfl⟩ := H
          have hcv16 := own_string (P := Try.prog) Try.underlying39 Try.underlying5 Try.underlying9 (Kd.own_of_R HO_4.out)
          go_wp2
          go_ret2
          exact ⟨by first | rfl | (simp [errW_none, errW_some] <;> rfl) | (simp [*, errW_none, errW_some] <;> rfl), by repeat (first | (with_reducible first | exact HB.out | apply below_alloc | apply pw_below_drewN | apply below_drew1) | exact HB.out)⟩
  · replace c3 := Bool.eq_false_iff.mpr c3
    subst c3
    have H1 : (some ((⟨#[]⟩ : ByteArray), false)) = some (r1, r2) := by rw [if_neg (show ¬ (false = true) by decide)] at H; exact H
    clear H
    have H := H1
    clear H1
    simp only [Option.some.injEq, Prod.mk.injEq] at H
    obtain ⟨rfl, rfl⟩ := H
    go_enter Try.func18, Try.ntmps18
    go_wp2_with (first | ((with_reducible refine gate_callee (f := 36) rfl ?_); refine goesL_ (some 8) rfl rfl Try.func36 (by kernel_rfl) rfl #[.string a0] rfl (by (try simp only [List.map_toArray, List.map_cons, List.map_nil]); first | done | rfl | (simp only [List.length_drop, List.length_take]; rfl)) ?_; (with_reducible refine (impl_IsReading.calls k a0 false _ A2.out).mono ?_); rintro e w' ⟨rfl, ⟨nd, rfl⟩⟩; refine ⟨_, rfl, ?_⟩))
    go_ret2
    exact ⟨by first | rfl | (simp [errW_none, errW_some] <;> rfl) | (simp [*, errW_none, errW_some] <;> rfl), by repeat (first | (with_reducible first | exact HB.out | apply below_alloc | apply pw_below_drewN | apply below_drew1) | exact HB.out)⟩

end Go.Proofs.Ytpdcjkiejglaiaa.Q
