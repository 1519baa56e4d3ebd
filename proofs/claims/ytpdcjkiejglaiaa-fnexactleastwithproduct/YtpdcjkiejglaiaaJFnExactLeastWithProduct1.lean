/-
  Texts of this claim, joined in their build order: the contracts of the functions that the statement reaches, and plain lemmas.
-/
import Derived.Test.YtpdcjkiejglaiaaJFnExactLeastWithProduct0
import Derived.Sort.LotA
import Derived.Sort.OwnSortedInts

/- Laid by a program of this session (wip/tools/own_print.py) over the translation of this seat: contracts of the functions that the statement reaches. -/
namespace Go.Proofs.Ytpdcjkiejglaiaa.Q
open Go.RowKit Go.Proofs.YtpdcjkiejglaiaaW.PrintWords Go.Proofs.YtpdcjkiejglaiaaW.PrintLast Go.Proofs.YtpdcjkiejglaiaaW.PrintMore
attribute [local go_sem] max2_int min2_int max_two min_two max_three min_three max_four min_four   -- for this text's walks alone
set_option linter.unusedVariables false
set_option linter.unusedSimpArgs false

/-! ### impl_isOf: function 37 -/
def impl_isOf.l0 : Nat → Int → ByteArray → Int → Int → Option (Bool)
  | 0, _, _, _, _ => none
  | k + 1, x0, x1, x7, x8 => if x8 < x7 then (if 0 ≤ (wrap64 (x8 + 1)) then (if (wrap64 (x8 + 1)) ≤ (x1.size : Int) then ((impl_may.f k x0 (x1.extract 0 ((wrap64 (x8 + 1)) : Int).toNat) (x1.size : Int)).bind fun t101 => (if t101 = true then (impl_isOf.l0 k x0 x1 x7 (wrap64 (x8 + 1))) else (some false))) else (none)) else (none)) else (some true)
def impl_isOf.f (k : Nat) (a0 : Int) (a1 : ByteArray) : Option (Bool) := impl_isOf.l0 k a0 a1 (a1.size : Int) 0
theorem impl_isOf.mono_l : ∀ k, (∀ y0 y1 y2 y3, LeO (impl_isOf.l0 k y0 y1 y2 y3) (impl_isOf.l0 (k + 1) y0 y1 y2 y3))
  | 0 => fun _ _ _ _ r h => by simp [impl_isOf.l0] at h
  | k + 1 => by
    have ih0 := impl_isOf.mono_l k
    · intro y0 y1 y2 y3
      unfold impl_isOf.l0
      repeat' first
      | (with_reducible exact ih0 _ _ _ _)
      | (with_reducible exact impl_may.mono _ _ _ _)
      | (with_reducible exact LeO.refl _)
      | (with_reducible exact LeO.none _)
      | (with_reducible refine LeO.ite ?_ ?_)
      | (with_reducible refine LeO.bind ?_ (fun _ => ?_))
      | exact ih0 _ _ _ _
      | exact impl_may.mono _ _ _ _
      | exact LeO.none _
      | refine LeO.ite ?_ ?_
      | refine LeO.bind ?_ (fun _ => ?_)
theorem impl_isOf.mono : ∀ a0 a1 k, LeO (impl_isOf.f k a0 a1) (impl_isOf.f (k + 1) a0 a1) := by
  intro a0 a1 k
  have ih0 := impl_isOf.mono_l k
  unfold impl_isOf.f
  repeat' first
      | (with_reducible exact ih0 _ _ _ _)
      | (with_reducible exact impl_may.mono _ _ _ _)
      | (with_reducible exact LeO.refl _)
      | (with_reducible exact LeO.none _)
      | (with_reducible refine LeO.ite ?_ ?_)
      | (with_reducible refine LeO.bind ?_ (fun _ => ?_))
      | exact ih0 _ _ _ _
      | exact impl_may.mono _ _ _ _
      | exact LeO.none _
      | refine LeO.ite ?_ ?_
      | refine LeO.bind ?_ (fun _ => ?_)
set_option maxHeartbeats 8000000 in
set_option maxRecDepth 100000 in
theorem impl_isOf.calls (k : Nat) (a0 : Int) (a1 : ByteArray) (r : Bool) (w : World) (h : impl_isOf.f k a0 a1 = some r) :
    Calls Try.prog 37 #[.int .u8 a0, .string a1] w fun e w' => e = .returned (.bool r) ∧ Drawn0 w w' := by
  have H : (impl_isOf.l0 k a0 a1 (a1.size : Int) 0) = some r := h
  clear h
  have H' := Aside0.mk H
  clear H
  go_enter Try.func37, Try.ntmps37
  go_wp2
  go_loopg [8] k (fun kq v8 w' => ∃ (x8_1 : Int), v8 = .int .i64 x8_1 ∧ Aside0 (impl_isOf.l0 kq a0 a1 (a1.size : Int) x8_1 = some r) ∧ Aside0 (kq ≤ k) ∧ Drawn0 w w')
  case atStart => exact ⟨(0), (by first | rfl | (simp; done) | (simp [*]; done)), H', ⟨Nat.le_refl _⟩, by repeat (first | exact Drawn0.refl _ | apply Drawn0.step)⟩
  case round =>
    clear H'
    try clear p2
    obtain ⟨x8_1, rfl, HA, HK1, ⟨m1, rfl⟩⟩ := hrel
    cases gk with
    | zero => exact absurd HA.out (by simp [impl_isOf.l0])
    | succ k1 =>
      have H := HA.out
      clear HA
      simp only [impl_isOf.l0] at H
      by_cases c3 : x8_1 < (a1.size : Int)
      · rw [if_pos c3] at H
        have c3b0 : decide (x8_1 < (a1.size : Int)) = true := decide_eq_true c3
        clear c3
        obtain ⟨ji4, hji4⟩ : ∃ j_ : Int, (wrap64 (x8_1 + 1)) = j_ := ⟨_, rfl⟩
        replace H : (if 0 ≤ (ji4) then (if (ji4) ≤ (a1.size : Int) then ((impl_may.f k1 a0 (a1.extract 0 ((ji4) : Int).toNat) (a1.size : Int)).bind fun t101 => (if t101 = true then (impl_isOf.l0 k1 a0 a1 (a1.size : Int) ji4) else (some false))) else (none)) else (none)) = some r := by first | (rw [hji4] at H; exact H) | (simp only [hji4] at H ⊢; exact H)
        have hji4w : (IntKind.i64.wrap (x8_1 + 1)) = ji4 := (i64_w _).trans hji4
        by_cases c5 : 0 ≤ (ji4)
        · rw [if_pos c5] at H
          have c5b0 := eq_true c5
          have c5b1 : decide (0 ≤ (ji4)) = true := decide_eq_true c5
          clear c5
          by_cases c6 : (ji4) ≤ (a1.size : Int)
          · rw [if_pos c6] at H
            have c6b0 := eq_true c6
            have c6b1 : decide ((ji4) ≤ (a1.size : Int)) = true := decide_eq_true c6
            clear c6
            replace H := Option.bind_eq_some_iff.mp H
            obtain ⟨t101, A70, H⟩ := H
            replace H : (if t101 = true then (impl_isOf.l0 k1 a0 a1 (a1.size : Int) ji4) else (some false)) = some r := H
            have A7 := Aside0.mk A70
            clear A70
            by_cases c8 : t101 = true
            · subst c8
              have H1 : (impl_isOf.l0 k1 a0 a1 (a1.size : Int) ji4) = some r := by rw [if_pos rfl] at H; exact H
              clear H
              have H := H1
              clear H1
              have H' := Aside0.mk H
              clear H
              go_wp2_with (first | ((with_reducible refine gate_callee (f := 61) rfl ?_); refine goesL_ (some 18) rfl rfl Try.func61 (by kernel_rfl) rfl #[.int .u8 a0, .string (a1.extract 0 ((ji4) : Int).toNat), .int .i64 (a1.size : Int)] rfl (by (try simp only [List.map_toArray, List.map_cons, List.map_nil]); first | done | (simp only [hji4]; rfl) | rfl | (simp only [List.length_drop, List.length_take]; rfl)) ?_; (with_reducible refine (impl_may.calls k1 a0 (a1.extract 0 ((ji4) : Int).toNat) (a1.size : Int) true _ A7.out).mono ?_); rintro e w' ⟨rfl, ⟨nd, rfl⟩⟩; refine ⟨_, rfl, ?_⟩))
              go_roundg k1
              case measure => have := HK1.out; omega
              case rel => exact ⟨(ji4), (by first | rfl | (simp; done) | (simp only [← hji4] <;> (first | rfl | simp)) | (simp [*]; done)), H', ⟨by have := HK1.out; omega⟩, by repeat (first | exact Drawn0.refl _ | apply Drawn0.step)⟩
            · replace c8 := Bool.eq_false_iff.mpr c8
              subst c8
              have H1 : (some false) = some r := by rw [if_neg (show ¬ (false = true) by decide)] at H; exact H
              clear H
              have H := H1
              clear H1
              obtain rfl := Option.some.inj H
              go_wp2_with (first | ((with_reducible refine gate_callee (f := 61) rfl ?_); refine goesL_ (some 18) rfl rfl Try.func61 (by kernel_rfl) rfl #[.int .u8 a0, .string (a1.extract 0 ((ji4) : Int).toNat), .int .i64 (a1.size : Int)] rfl (by (try simp only [List.map_toArray, List.map_cons, List.map_nil]); first | done | (simp only [hji4]; rfl) | rfl | (simp only [List.length_drop, List.length_take]; rfl)) ?_; (with_reducible refine (impl_may.calls k1 a0 (a1.extract 0 ((ji4) : Int).toNat) (a1.size : Int) false _ A7.out).mono ?_); rintro e w' ⟨rfl, ⟨nd, rfl⟩⟩; refine ⟨_, rfl, ?_⟩))
              go_ret
              exact ⟨by first | rfl | (simp; done) | (simp only [← hji4] <;> (first | rfl | simp)) | (simp [*]; done), by repeat (first | exact Drawn0.refl _ | apply Drawn0.step)⟩
          · rw [if_neg c6] at H
            exact absurd H (by simp)
        · rw [if_neg c5] at H
          exact absurd H (by simp)
      · rw [if_neg c3] at H
        have c3b0 : decide (x8_1 < (a1.size : Int)) = false := decide_eq_false c3
        clear c3
        obtain rfl := Option.some.inj H
        go_wp2
        go_ret
        exact ⟨by first | rfl | (simp; done) | (simp [*]; done), by repeat (first | exact Drawn0.refl _ | apply Drawn0.step)⟩

end Go.Proofs.Ytpdcjkiejglaiaa.Q

/-
  What 'may' and 'isOf' of the program return, in plain words.
-/
namespace Go.Proofs.Ytpdcjkiejglaiaa.Q
open Go.RowKit Go.Proofs.YtpdcjkiejglaiaaW.PrintWords Go.Proofs.YtpdcjkiejglaiaaW.PrintLast Go.Proofs.YtpdcjkiejglaiaaW.PrintMore
set_option linter.unusedVariables false
set_option linter.unusedSimpArgs false

theorem newTo_iff (s : ByteArray) (i : Nat) : ∀ k, newTo s i k = true ↔ ∀ j : Nat, j < k → bt s j ≠ bt s i
  | 0 => by simp [newTo]
  | k + 1 => by
    simp only [newTo, Bool.and_eq_true, newTo_iff s i k, bne_iff_ne]
    constructor
    · rintro ⟨h1, h2⟩ j hj
      by_cases e : j = k
      · rw [e]; exact h2
      · exact h1 j (by omega)
    · intro h
      exact ⟨fun j hj => h j (by omega), h k (by omega)⟩
theorem idx_neg : ∀ (l : List UInt8) (c : UInt8), Lib.indexByte l c < 0 ↔ c ∉ l
  | [], c => by simp [Lib.indexByte]
  | b :: l, c => by
    have ih := idx_neg l c
    have hg := Lib.indexByte_ge l c
    unfold Lib.indexByte
    by_cases hb : b = c
    · subst hb; simp
    · have hb' : (b == c) = false := by simpa using hb
      rw [hb']
      simp only [Bool.false_eq_true, if_false]
      by_cases h1 : Lib.indexByte l c = -1
      · rw [h1]
        simp only [beq_self_eq_true, if_true]
        rw [h1] at ih
        simp only [List.mem_cons, not_or]
        constructor
        · intro _; exact ⟨fun e => hb e.symm, ih.1 (by decide)⟩
        · intro _; decide
      · rw [if_neg (by simpa using h1)]
        simp only [List.mem_cons, not_or]
        constructor
        · intro h; omega
        · rintro ⟨_, h⟩; have := ih.2 h; omega
theorem idx_new (p : ByteArray) (i : Nat) (hi : i < p.size) : decide (Lib.indexByte (p.extract 0 i).data.toList (bt p i).toNat.toUInt8 < 0) = newTo p i i := by
  rw [Bool.eq_iff_iff, decide_eq_true_eq, idx_neg, newTo_iff, Lib.extract_data]
  have hb : ∀ j : Nat, j < p.size → ∃ h : j < p.data.toList.length, ((p.data.toList[j]'h).toNat : Int) = bt p j := by
    intro j hj
    have h' : j < p.data.toList.length := by rw [Array.length_toList]; exact hj
    exact ⟨h', bt_at p (j : Int) hj⟩
  have hc : ((bt p i).toNat.toUInt8.toNat : Int) = bt p i := by
    have := bt_range p i
    simp [Nat.toUInt8]
    omega
  constructor
  · intro h j hj e
    apply h
    obtain ⟨h1, h2⟩ := hb j (by omega)
    have : p.data.toList[j]'h1 = (bt p i).toNat.toUInt8 := toNat_inj (by rw [h2, e, hc])
    rw [← this]
    rw [List.drop_zero, Nat.sub_zero, List.mem_iff_getElem]
    exact ⟨j, by rw [List.length_take]; omega, by simp⟩
  · intro h hm
    rw [List.drop_zero, Nat.sub_zero, List.mem_iff_getElem] at hm
    obtain ⟨j, hj, e⟩ := hm
    rw [List.length_take] at hj
    rw [List.getElem_take] at e
    obtain ⟨h1, h2⟩ := hb j (by omega)
    exact h j (by omega) (by rw [← h2, e, hc])

/-- a digit upside down -/
def up (x : Int) : Int := if x = 48 ∨ x = 49 ∨ x = 56 then x else if x = 54 then 57 else if x = 57 then 54 else 0
theorem upside_ev (x : Int) : Ev (fun k => impl_upside.f k x) (up x) := by
  refine Ev.step (f := fun _ => some (up x)) (fun k => ?_) (Ev.now _)
  unfold impl_upside.f up
  simp only [impl_upside.j0]
  by_cases h1 : x = 48
  · simp [h1]
  · by_cases h2 : x = 49
    · simp [h2]
    · by_cases h3 : x = 56
      · simp [h3]
      · by_cases h4 : x = 54
        · subst h4; decide
        · by_cases h5 : x = 57
          · subst h5; decide
          · simp [h1, h2, h3, h4, h5]

/-- may the digit at place i of a text stand there, in a reading of a kind with n digits? -/
def mayAt (c : Int) (p : ByteArray) (n i : Nat) : Bool :=
  if c = 97 then bt p i == bt p 0
  else if c = 109 then decide (i < n - 1 - i) || (bt p ((n - 1 - i : Nat) : Int) == bt p i)
  else if c = 117 then up (bt p i) != 0 && (decide (i < n - 1 - i) || (bt p ((n - 1 - i : Nat) : Int) == up (bt p i)))
  else if c = 114 then (decide (i = 0) || decide (bt p ((i - 1 : Nat) : Int) < bt p i)) && decide (bt p i - 48 + ((n - 1 - i : Nat) : Int) ≤ 9)
  else if c = 102 then (decide (i = 0) || decide (bt p i < bt p ((i - 1 : Nat) : Int))) && decide (((n - 1 - i : Nat) : Int) ≤ bt p i - 48)
  else newTo p i i

theorem may_ev (c : Int) (p : ByteArray) (n i : Nat) (hi : p.size = i + 1) (hn : i + 1 ≤ n) (hn9 : n ≤ 9) (hd : ∀ j : Nat, j < p.size → 48 ≤ bt p j ∧ bt p j ≤ 57) :
    Ev (fun k => impl_may.f k c p (n : Int)) (mayAt c p n i) := by
  unfold impl_may.f mayAt
  have e1 : wrap64 ((p.size : Int) - 1) = (i : Int) := by rw [wrap_id (by omega) (by omega)]; omega
  have e2 : wrap64 (wrap64 ((n : Int) - 1) - (i : Int)) = ((n - 1 - i : Nat) : Int) := by rw [wrap_id (i := (n : Int) - 1) (by omega) (by omega), wrap_id (by omega) (by omega)]; omega
  have e3 : wrap64 ((n : Int) - (p.size : Int)) = ((n - 1 - i : Nat) : Int) := by rw [wrap_id (by omega) (by omega)]; omega
  have hdi := hd i (by omega)
  have e4 : (bt p i - 48) % 256 = bt p i - 48 := by omega
  simp only [e1, e2, e3, e4]
  refine Ev.pos (by omega) (Ev.pos (by omega) ?_)
  by_cases h1 : c = 97
  · refine Ev.pos h1 ?_
    rw [if_pos h1]
    exact Ev.pos (by omega) (Ev.now _)
  refine Ev.neg h1 ?_
  rw [if_neg h1]
  by_cases h2 : c = 109
  · refine Ev.pos h2 ?_
    rw [if_pos h2]
    by_cases h : i < n - 1 - i
    · exact Ev.pos (by omega) (Ev.eq (Ev.now _) (by simp [h]))
    · exact Ev.neg (by omega) (Ev.pos (by omega) (Ev.pos (by omega) (Ev.eq (Ev.now _) (by simp [h]))))
  refine Ev.neg h2 ?_
  rw [if_neg h2]
  by_cases h3 : c = 117
  · refine Ev.pos h3 (Ev.bind' (upside_ev _) ?_)
    rw [if_pos h3]
    by_cases hu : up (bt p i) = 0
    · exact Ev.pos hu (Ev.eq (Ev.now _) (by simp [hu]))
    · refine Ev.neg hu ?_
      have hu' : (up (bt p i) != 0) = true := by simpa using hu
      rw [hu', Bool.true_and]
      by_cases h : i < n - 1 - i
      · exact Ev.pos (by omega) (Ev.eq (Ev.now _) (by simp [h]))
      · exact Ev.neg (by omega) (Ev.pos (by omega) (Ev.pos (by omega) (Ev.bind' (upside_ev _) (Ev.eq (Ev.now _) (by simp [h])))))
  refine Ev.neg h3 ?_
  rw [if_neg h3]
  by_cases h4 : c = 114
  · refine Ev.pos h4 ?_
    rw [if_pos h4]
    by_cases h : i = 0
    · refine Ev.pos (by omega) (Ev.eq (Ev.now _) ?_)
      rw [wrap_id (by omega) (by omega)]; simp [h]
    · refine Ev.neg (by omega) ?_
      have e5 : wrap64 ((i : Int) - 1) = ((i - 1 : Nat) : Int) := by rw [wrap_id (by omega) (by omega)]; omega
      simp only [e5]
      refine Ev.pos (by omega) (Ev.pos (by omega) ?_)
      by_cases hl : bt p ((i - 1 : Nat) : Int) < bt p i
      · refine Ev.pos hl (Ev.eq (Ev.now _) ?_)
        rw [wrap_id (by omega) (by omega)]; simp [h, hl]
      · exact Ev.neg hl (Ev.eq (Ev.now _) (by simp [h, hl]))
  refine Ev.neg h4 ?_
  rw [if_neg h4]
  by_cases h5 : c = 102
  · refine Ev.pos h5 ?_
    rw [if_pos h5]
    by_cases h : i = 0
    · refine Ev.pos (by omega) (Ev.eq (Ev.now _) ?_)
      simp [h]
    · refine Ev.neg (by omega) ?_
      have e5 : wrap64 ((i : Int) - 1) = ((i - 1 : Nat) : Int) := by rw [wrap_id (by omega) (by omega)]; omega
      simp only [e5]
      refine Ev.pos (by omega) (Ev.pos (by omega) ?_)
      by_cases hl : bt p i < bt p ((i - 1 : Nat) : Int)
      · refine Ev.pos hl (Ev.eq (Ev.now _) ?_)
        simp [h, hl]
      · exact Ev.neg hl (Ev.eq (Ev.now _) (by simp [h, hl]))
  refine Ev.neg h5 (Ev.pos (by omega) ?_)
  rw [if_neg h5]
  unfold strings_IndexByte.f
  simp only [Option.bind_some]
  refine Ev.eq (Ev.now _) ?_
  rw [show ((i : Int)).toNat = i by omega]
  exact idx_new p i (by omega)

/-- what 'may' asks of a text's first digits it asks of the text -/
theorem newTo_extract (s : ByteArray) (m : Nat) (hm : m ≤ s.size) (i : Nat) (hi : i < m) : ∀ k, k ≤ i → newTo (s.extract 0 m) i k = newTo s i k
  | 0, _ => rfl
  | k + 1, h => by
    simp only [newTo]
    rw [newTo_extract s m hm i hi k (by omega), bt_extract0 s m hm k (by omega), bt_extract0 s m hm i hi]
theorem mayAt_extract (c : Int) (s : ByteArray) (n i : Nat) (hi : i < s.size) (hn : i + 1 ≤ n) : mayAt c (s.extract 0 (i + 1)) n i = mayAt c s n i := by
  unfold mayAt
  have b := fun (j : Nat) (hj : j < i + 1) => bt_extract0 s (i + 1) (by omega) j hj
  have b0 := b 0 (by omega)
  rw [b i (by omega), b (i - 1) (by omega), newTo_extract s (i + 1) (by omega) i (by omega) i (by omega)]
  rw [show ((0 : Nat) : Int) = 0 from rfl] at b0
  rw [b0]
  by_cases h : i < n - 1 - i
  · simp [h]
  · rw [b (n - 1 - i) (by omega)]

theorem isOf_ev (c : Int) (s : ByteArray) (h9 : s.size ≤ 9) (hd : ∀ j : Nat, j < s.size → 48 ≤ bt s j ∧ bt s j ≤ 57) :
    Ev (fun k => impl_isOf.f k c s) (allF (mayAt c s s.size) s.size 0) := by
  unfold impl_isOf.f
  have stop : Ev (fun k => impl_isOf.l0 k c s (s.size : Int) ((s.size : Nat) : Int)) true := by
    refine Ev.step (f := fun _ => some true) (fun k => ?_) (Ev.now _)
    simp only [impl_isOf.l0]
    rw [if_neg (by omega)]
  have m : ∀ i, i < s.size → Ev (fun k => impl_may.f k c (s.extract 0 (i + 1)) (s.size : Int)) (mayAt c s s.size i) := by
    intro i hi
    have := may_ev c (s.extract 0 (i + 1)) s.size i (size_extract0 _ _ (by omega)) (by omega) h9 (fun j hj => by
      rw [size_extract0 _ _ (by omega)] at hj
      rw [bt_extract0 _ _ (by omega) _ hj]
      exact hd j (by omega))
    rwa [mayAt_extract c s s.size i hi (by omega)] at this
  have round : ∀ i, i < s.size → ∀ (q : Bool), (if mayAt c s s.size i = true then Ev (fun k => impl_isOf.l0 k c s (s.size : Int) ((i + 1 : Nat) : Int)) q else q = false) → Ev (fun k => impl_isOf.l0 k c s (s.size : Int) (i : Int)) q := by
    intro i hi q hq
    have e1 : wrap64 ((i : Int) + 1) = ((i + 1 : Nat) : Int) := by rw [wrap_id (by omega) (by omega)]; rfl
    refine Ev.step (f := fun k => (impl_may.f k c (s.extract 0 (i + 1)) (s.size : Int)).bind fun t => if t = true then impl_isOf.l0 k c s (s.size : Int) ((i + 1 : Nat) : Int) else some false) (fun k => ?_) ?_
    · simp only [impl_isOf.l0]
      rw [if_pos (by omega), e1, if_pos (by omega), if_pos (by omega)]
      rfl
    · refine Ev.bind' (m i hi) ?_
      by_cases h : mayAt c s s.size i = true
      · rw [if_pos h] at hq
        exact Ev.pos h hq
      · rw [if_neg h] at hq
        exact Ev.neg h (hq ▸ Ev.now _)
  refine Ev.eq (Ev_all (l := fun k i => impl_isOf.l0 k c s (s.size : Int) (i : Int)) (p := mayAt c s s.size) stop ?_ ?_ s.size 0 (by omega)) (by simp)
  · intro i hi hp q hq
    exact round i hi q (by rw [if_pos hp]; exact hq)
  · intro i hi hp
    exact round i hi false (by rw [if_neg (by simp [hp])])

end Go.Proofs.Ytpdcjkiejglaiaa.Q

/- Laid by a program of this session (wip/tools/own_print.py) over the translation of this seat: contracts of the functions that the statement reaches. -/
namespace Go.Proofs.Ytpdcjkiejglaiaa.Q
open Go.RowKit Go.Proofs.YtpdcjkiejglaiaaW.PrintWords Go.Proofs.YtpdcjkiejglaiaaW.PrintLast Go.Proofs.YtpdcjkiejglaiaaW.PrintMore
attribute [local go_sem] max2_int min2_int max_two min_two max_three min_three max_four min_four   -- for this text's walks alone
set_option linter.unusedVariables false
set_option linter.unusedSimpArgs false

/-! ### spec_miTurn: function 59 -/
def spec_miTurn.l0 : Nat → ByteArray → ByteArray → Int → Option (ByteArray)
  | 0, _, _, _ => none
  | k + 1, x0, x3, x4 => if x4 ≥ 0 then (if 0 ≤ x4 then (if x4 ≤ (wrap64 (x4 + 1)) then (if (wrap64 (x4 + 1)) ≤ (x0.size : Int) then (if x3.size + (x0.extract (x4 : Int).toNat ((wrap64 (x4 + 1)) : Int).toNat).size ≤ 9223372036854775807 then (spec_miTurn.l0 k x0 (x3 ++ (x0.extract (x4 : Int).toNat ((wrap64 (x4 + 1)) : Int).toNat)) (wrap64 (x4 - 1))) else (none)) else (none)) else (none)) else (none)) else (some x3)
def spec_miTurn.f (k : Nat) (a0 : ByteArray) : Option (ByteArray) := spec_miTurn.l0 k a0 (⟨#[]⟩ : ByteArray) (wrap64 ((a0.size : Int) - 1))
theorem spec_miTurn.mono_l : ∀ k, (∀ y0 y1 y2, LeO (spec_miTurn.l0 k y0 y1 y2) (spec_miTurn.l0 (k + 1) y0 y1 y2))
  | 0 => fun _ _ _ r h => by simp [spec_miTurn.l0] at h
  | k + 1 => by
    have ih0 := spec_miTurn.mono_l k
    · intro y0 y1 y2
      unfold spec_miTurn.l0
      repeat' first
      | (with_reducible exact ih0 _ _ _)
      | (with_reducible exact LeO.refl _)
      | (with_reducible exact LeO.none _)
      | (with_reducible refine LeO.ite ?_ ?_)
      | (with_reducible refine LeO.bind ?_ (fun _ => ?_))
      | exact ih0 _ _ _
      | exact LeO.none _
      | refine LeO.ite ?_ ?_
      | refine LeO.bind ?_ (fun _ => ?_)
theorem spec_miTurn.mono : ∀ a0 k, LeO (spec_miTurn.f k a0) (spec_miTurn.f (k + 1) a0) := by
  intro a0 k
  have ih0 := spec_miTurn.mono_l k
  unfold spec_miTurn.f
  repeat' first
      | (with_reducible exact ih0 _ _ _)
      | (with_reducible exact LeO.refl _)
      | (with_reducible exact LeO.none _)
      | (with_reducible refine LeO.ite ?_ ?_)
      | (with_reducible refine LeO.bind ?_ (fun _ => ?_))
      | exact ih0 _ _ _
      | exact LeO.none _
      | refine LeO.ite ?_ ?_
      | refine LeO.bind ?_ (fun _ => ?_)
set_option maxHeartbeats 8000000 in
set_option maxRecDepth 100000 in
theorem spec_miTurn.calls (k : Nat) (a0 : ByteArray) (r : ByteArray) (w : World) (h : spec_miTurn.f k a0 = some r) :
    Calls Try.prog 59 #[.string a0] w fun e w' => e = .returned (.string r) ∧ Drawn0 w w' := by
  have H : (spec_miTurn.l0 k a0 (⟨#[]⟩ : ByteArray) (wrap64 ((a0.size : Int) - 1))) = some r := h
  clear h
  have H' := Aside0.mk H
  clear H
  go_enter Try.func59, Try.ntmps59
  go_wp2
  go_loopg [3, 4] k (fun kq v3 v4 w' => ∃ (x3_1 : ByteArray) (x4_1 : Int), v3 = .string x3_1 ∧ v4 = .int .i64 x4_1 ∧ Aside0 (spec_miTurn.l0 kq a0 x3_1 x4_1 = some r) ∧ Aside0 (kq ≤ k) ∧ Drawn0 w w')
  case atStart => exact ⟨((⟨#[]⟩ : ByteArray)), (wrap64 ((a0.size : Int) - 1)), (by first | rfl | (simp; done) | (simp [*]; done)), (by first | rfl | (simp; done) | (simp [*]; done)), H', ⟨Nat.le_refl _⟩, by repeat (first | exact Drawn0.refl _ | apply Drawn0.step)⟩
  case round =>
    clear H'
    obtain ⟨x3_1, x4_1, rfl, rfl, HA, HK1, ⟨m1, rfl⟩⟩ := hrel
    cases gk with
    | zero => exact absurd HA.out (by simp [spec_miTurn.l0])
    | succ k1 =>
      have H := HA.out
      clear HA
      simp only [spec_miTurn.l0] at H
      by_cases c2 : x4_1 ≥ 0
      · rw [if_pos c2] at H
        have c2b0 : decide (0 ≤ x4_1) = true := decide_eq_true c2
        clear c2
        by_cases c3 : 0 ≤ x4_1
        · rw [if_pos c3] at H
          have c3b0 := eq_true c3
          have c3b1 : decide (0 ≤ x4_1) = true := decide_eq_true c3
          clear c3
          by_cases c4 : x4_1 ≤ (wrap64 (x4_1 + 1))
          · rw [if_pos c4] at H
            have c4b0 := eq_true c4
            have c4b1 : decide (x4_1 ≤ (wrap64 (x4_1 + 1))) = true := decide_eq_true c4
            by_cases c5 : (wrap64 (x4_1 + 1)) ≤ (a0.size : Int)
            · rw [if_pos c5] at H
              have c5b0 := eq_true c5
              have c5b1 : decide ((wrap64 (x4_1 + 1)) ≤ (a0.size : Int)) = true := decide_eq_true c5
              by_cases c6 : x3_1.size + (a0.extract (x4_1 : Int).toNat ((wrap64 (x4_1 + 1)) : Int).toNat).size ≤ 9223372036854775807
              · rw [if_pos c6] at H
                have c6b0 := eq_true c6
                have c6b1 : decide (x3_1.size + (a0.extract (x4_1 : Int).toNat ((wrap64 (x4_1 + 1)) : Int).toNat).size ≤ 9223372036854775807) = true := decide_eq_true c6
                try have c6b2 : (9223372036854775807 < x3_1.size + (a0.extract (x4_1 : Int).toNat ((wrap64 (x4_1 + 1)) : Int).toNat).size) = False := eq_false (Nat.not_lt.2 c6)
                have H' := Aside0.mk H
                clear H
                go_wp2
                go_roundg k1
                case measure => have := HK1.out; omega
                case rel => exact ⟨(x3_1 ++ (a0.extract (x4_1 : Int).toNat ((wrap64 (x4_1 + 1)) : Int).toNat)), (wrap64 (x4_1 - 1)), (by first | rfl | (simp; done) | (simp [*]; done)), (by first | rfl | (simp; done) | (simp [*]; done)), H', ⟨by have := HK1.out; omega⟩, by repeat (first | exact Drawn0.refl _ | apply Drawn0.step)⟩
              · rw [if_neg c6] at H
                exact absurd H (by simp)
            · rw [if_neg c5] at H
              exact absurd H (by simp)
          · rw [if_neg c4] at H
            exact absurd H (by simp)
        · rw [if_neg c3] at H
          exact absurd H (by simp)
      · rw [if_neg c2] at H
        have c2b0 : decide (0 ≤ x4_1) = false := decide_eq_false c2
        clear c2
        obtain rfl := Option.some.inj H
        go_wp2
        go_ret
        exact ⟨by first | rfl | (simp; done) | (simp [*]; done), by repeat (first | exact Drawn0.refl _ | apply Drawn0.step)⟩

end Go.Proofs.Ytpdcjkiejglaiaa.Q

/- Laid by a program of this session (wip/tools/own_print.py) over the translation of this seat: contracts of the functions that the statement reaches. -/
namespace Go.Proofs.Ytpdcjkiejglaiaa.Q
open Go.RowKit Go.Proofs.YtpdcjkiejglaiaaW.PrintWords Go.Proofs.YtpdcjkiejglaiaaW.PrintLast Go.Proofs.YtpdcjkiejglaiaaW.PrintMore
attribute [local go_sem] max2_int min2_int max_two min_two max_three min_three max_four min_four   -- for this text's walks alone
set_option linter.unusedVariables false
set_option linter.unusedSimpArgs false

/-! ### spec_miUpside: function 60 -/
mutual
def spec_miUpside.l0 : Nat → ByteArray → ByteArray → Int → Option (ByteArray × Bool)
  | 0, _, _, _ => none
  | k + 1, x0, x4, x5 => if x5 ≥ 0 then (if 0 ≤ x5 then (if x5 < (x0.size : Int) then (if (bt x0 x5) = 48 then (spec_miUpside.j1 k x0 x4 x5 (bt x0 x5) ((bt x0 x5) == 48)) else (if (bt x0 x5) = 49 then (spec_miUpside.j1 k x0 x4 x5 (bt x0 x5) ((bt x0 x5) == 49)) else (spec_miUpside.j1 k x0 x4 x5 (bt x0 x5) ((bt x0 x5) == 56)))) else (none)) else (none)) else (some (x4, true))
def spec_miUpside.j1 : Nat → ByteArray → ByteArray → Int → Int → Bool → Option (ByteArray × Bool)
  | 0, _, _, _, _, _ => none
  | k + 1, x0, x4, x5, x15, x16 => if x16 = true then (if 0 ≤ x5 then (if x5 ≤ (wrap64 (x5 + 1)) then (if (wrap64 (x5 + 1)) ≤ (x0.size : Int) then (if x4.size + (x0.extract (x5 : Int).toNat ((wrap64 (x5 + 1)) : Int).toNat).size ≤ 9223372036854775807 then (spec_miUpside.l0 k x0 (x4 ++ (x0.extract (x5 : Int).toNat ((wrap64 (x5 + 1)) : Int).toNat)) (wrap64 (x5 - 1))) else (none)) else (none)) else (none)) else (none)) else (if x15 = 54 then (if x4.size + 1 ≤ 9223372036854775807 then (spec_miUpside.l0 k x0 (x4 ++ (⟨#[57]⟩ : ByteArray)) (wrap64 (x5 - 1))) else (none)) else (if x15 = 57 then (if x4.size + 1 ≤ 9223372036854775807 then (spec_miUpside.l0 k x0 (x4 ++ (⟨#[54]⟩ : ByteArray)) (wrap64 (x5 - 1))) else (none)) else (some ((⟨#[]⟩ : ByteArray), false))))
end
def spec_miUpside.f (k : Nat) (a0 : ByteArray) : Option (ByteArray × Bool) := spec_miUpside.l0 k a0 (⟨#[]⟩ : ByteArray) (wrap64 ((a0.size : Int) - 1))
theorem spec_miUpside.mono_l : ∀ k, (∀ y0 y1 y2, LeO (spec_miUpside.l0 k y0 y1 y2) (spec_miUpside.l0 (k + 1) y0 y1 y2)) ∧ (∀ y0 y1 y2 y3 y4, LeO (spec_miUpside.j1 k y0 y1 y2 y3 y4) (spec_miUpside.j1 (k + 1) y0 y1 y2 y3 y4))
  | 0 => ⟨fun _ _ _ r h => by simp [spec_miUpside.l0] at h, fun _ _ _ _ _ r h => by simp [spec_miUpside.j1] at h⟩
  | k + 1 => by
    obtain ⟨ih0, ih1⟩ := spec_miUpside.mono_l k
    refine ⟨?_, ?_⟩
    · intro y0 y1 y2
      unfold spec_miUpside.l0
      repeat' first
      | (with_reducible exact ih0 _ _ _)
      | (with_reducible exact ih1 _ _ _ _ _)
      | (with_reducible exact LeO.refl _)
      | (with_reducible exact LeO.none _)
      | (with_reducible refine LeO.ite ?_ ?_)
      | (with_reducible refine LeO.bind ?_ (fun _ => ?_))
      | exact ih0 _ _ _
      | exact ih1 _ _ _ _ _
      | exact LeO.none _
      | refine LeO.ite ?_ ?_
      | refine LeO.bind ?_ (fun _ => ?_)
    · intro y0 y1 y2 y3 y4
      unfold spec_miUpside.j1
      repeat' first
      | (with_reducible exact ih0 _ _ _)
      | (with_reducible exact ih1 _ _ _ _ _)
      | (with_reducible exact LeO.refl _)
      | (with_reducible exact LeO.none _)
      | (with_reducible refine LeO.ite ?_ ?_)
      | (with_reducible refine LeO.bind ?_ (fun _ => ?_))
      | exact ih0 _ _ _
      | exact ih1 _ _ _ _ _
      | exact LeO.none _
      | refine LeO.ite ?_ ?_
      | refine LeO.bind ?_ (fun _ => ?_)
theorem spec_miUpside.mono : ∀ a0 k, LeO (spec_miUpside.f k a0) (spec_miUpside.f (k + 1) a0) := by
  intro a0 k
  obtain ⟨ih0, ih1⟩ := spec_miUpside.mono_l k
  unfold spec_miUpside.f
  repeat' first
      | (with_reducible exact ih0 _ _ _)
      | (with_reducible exact ih1 _ _ _ _ _)
      | (with_reducible exact LeO.refl _)
      | (with_reducible exact LeO.none _)
      | (with_reducible refine LeO.ite ?_ ?_)
      | (with_reducible refine LeO.bind ?_ (fun _ => ?_))
      | exact ih0 _ _ _
      | exact ih1 _ _ _ _ _
      | exact LeO.none _
      | refine LeO.ite ?_ ?_
      | refine LeO.bind ?_ (fun _ => ?_)
set_option maxHeartbeats 8000000 in
set_option maxRecDepth 100000 in
theorem spec_miUpside.calls (k : Nat) (a0 : ByteArray) (r1 : ByteArray) (r2 : Bool) (w : World) (h : spec_miUpside.f k a0 = some (r1, r2)) :
    Calls Try.prog 60 #[.string a0] w fun e w' => e = .returned (.tuple #[.string r1, .bool r2]) ∧ Drawn0 w w' := by
  have H : (spec_miUpside.l0 k a0 (⟨#[]⟩ : ByteArray) (wrap64 ((a0.size : Int) - 1))) = some (r1, r2) := h
  clear h
  have H' := Aside0.mk H
  clear H
  go_enter Try.func60, Try.ntmps60
  go_wp2
  go_loopg [4, 5] k (fun kq v4 v5 w' => ∃ (x4_1 : ByteArray) (x5_1 : Int), v4 = .string x4_1 ∧ v5 = .int .i64 x5_1 ∧ Aside0 (spec_miUpside.l0 kq a0 x4_1 x5_1 = some (r1, r2)) ∧ Aside0 (kq ≤ k) ∧ Drawn0 w w')
  case atStart => exact ⟨((⟨#[]⟩ : ByteArray)), (wrap64 ((a0.size : Int) - 1)), (by first | rfl | (simp; done) | (simp [*]; done)), (by first | rfl | (simp; done) | (simp [*]; done)), H', ⟨Nat.le_refl _⟩, by repeat (first | exact Drawn0.refl _ | apply Drawn0.step)⟩
  case round =>
    clear H'
    obtain ⟨x4_1, x5_1, rfl, rfl, HA, HK1, ⟨m1, rfl⟩⟩ := hrel
    cases gk with
    | zero => exact absurd HA.out (by simp [spec_miUpside.l0])
    | succ k1 =>
      have H := HA.out
      clear HA
      simp only [spec_miUpside.l0] at H
      by_cases c2 : x5_1 ≥ 0
      · rw [if_pos c2] at H
        have c2b0 : decide (0 ≤ x5_1) = true := decide_eq_true c2
        clear c2
        by_cases c3 : 0 ≤ x5_1
        · rw [if_pos c3] at H
          have c3b0 : decide (0 ≤ x5_1) = true := decide_eq_true c3
          clear c3
          by_cases c4 : x5_1 < (a0.size : Int)
          · rw [if_pos c4] at H
            have c4b0 : decide (x5_1 < (a0.size : Int)) = true := decide_eq_true c4
            clear c4
            have HC6 := Aside0.mk H
            clear H
            have p5 : 0 ≤ (x5_1 : Int) := of_decide_eq_true (by first | (with_reducible assumption) | assumption)
            have q5 : x5_1 < (a0.size : Int) := of_decide_eq_true (by first | (with_reducible assumption) | assumption)
            have hx5 := bt_at a0 x5_1
            replace p5 := eq_true p5
            replace q5 := eq_true q5
            go_upto_if 16 with (fail)
            go_cut [16] (fun v16 wc => ∃ (kq : Nat) (x16_5 : Bool), v16 = .bool x16_5 ∧ Aside0 (spec_miUpside.j1 kq a0 x4_1 x5_1 (bt a0 x5_1) x16_5 = some (r1, r2)) ∧ Aside0 (kq ≤ k1) ∧ Drawn0 w wc)
            case first =>
              have H := HC6.out
              clear HC6
              by_cases c7 : (bt a0 x5_1) = 48
              · rw [if_pos c7] at H
                have c7b0 : ((bt a0 x5_1) == 48) = true := beq_iff_eq.mpr c7
                have c7b1 : ((bt a0 x5_1) != 48) = false := bne_eq_false_iff_eq.mpr c7
                clear c7
                (first | rw [c7b0] | (simp only [i64_w, i32_w]; rw [c7b0]) | skip)
                have H' := Aside0.mk H
                clear H
                go_wp2
                go_meet
                case rel => exact ⟨_, (((bt a0 x5_1) == 48)), (by first | rfl | (simp; done) | (simp [*]; done)), H', ⟨by have := HK1.out; first | omega | exact Nat.le_refl _⟩, by repeat (first | exact Drawn0.refl _ | apply Drawn0.step)⟩
              · rw [if_neg c7] at H
                have c7b0 : ((bt a0 x5_1) == 48) = false := beq_eq_false_iff_ne.mpr c7
                have c7b1 : ((bt a0 x5_1) != 48) = true := bne_iff_ne.mpr c7
                (first | rw [c7b0] | (simp only [i64_w, i32_w]; rw [c7b0]) | skip)
                by_cases c8 : (bt a0 x5_1) = 49
                · rw [if_pos c8] at H
                  have c8b0 : ((bt a0 x5_1) == 49) = true := beq_iff_eq.mpr c8
                  have c8b1 : ((bt a0 x5_1) != 49) = false := bne_eq_false_iff_eq.mpr c8
                  clear c8
                  have H' := Aside0.mk H
                  clear H
                  go_wp2
                  go_meet
                  case rel => exact ⟨_, (((bt a0 x5_1) == 49)), (by first | rfl | (simp; done) | (simp [*]; done)), H', ⟨by have := HK1.out; first | omega | exact Nat.le_refl _⟩, by repeat (first | exact Drawn0.refl _ | apply Drawn0.step)⟩
                · rw [if_neg c8] at H
                  have c8b0 : ((bt a0 x5_1) == 49) = false := beq_eq_false_iff_ne.mpr c8
                  have c8b1 : ((bt a0 x5_1) != 49) = true := bne_iff_ne.mpr c8
                  have H' := Aside0.mk H
                  clear H
                  go_wp2
                  go_meet
                  case rel => exact ⟨_, (((bt a0 x5_1) == 56)), (by first | rfl | (simp; done) | (simp [*]; done)), H', ⟨by have := HK1.out; first | omega | exact Nat.le_refl _⟩, by repeat (first | exact Drawn0.refl _ | apply Drawn0.step)⟩
            case rest =>
              clear HC6
              try clear c2
              try clear c2b0
              try clear p2
              try clear c3
              try clear c3b0
              try clear c4
              try clear c4b0
              try clear p5
              try clear q5
              try clear hx5
              try clear c6
              try clear p6
              try clear c7
              try clear c7b0
              try clear c7b1
              try clear c8
              try clear c8b0
              try clear c8b1
              try clear p5
              try clear q5
              obtain ⟨kq, x16_5, rfl, HA, HJ5, ⟨mc5, rfl⟩⟩ := hcut
              cases kq with
              | zero => exact absurd HA.out (by simp [spec_miUpside.j1])
              | succ kj5 =>
                have H := HA.out
                clear HA
                simp only [spec_miUpside.j1] at H
                by_cases c9 : x16_5 = true
                · subst c9
                  have H1 : (if 0 ≤ x5_1 then (if x5_1 ≤ (wrap64 (x5_1 + 1)) then (if (wrap64 (x5_1 + 1)) ≤ (a0.size : Int) then (if x4_1.size + (a0.extract (x5_1 : Int).toNat ((wrap64 (x5_1 + 1)) : Int).toNat).size ≤ 9223372036854775807 then (spec_miUpside.l0 kj5 a0 (x4_1 ++ (a0.extract (x5_1 : Int).toNat ((wrap64 (x5_1 + 1)) : Int).toNat)) (wrap64 (x5_1 - 1))) else (none)) else (none)) else (none)) else (none)) = some (r1, r2) := by rw [if_pos rfl] at H; exact H
                  clear H
                  have H := H1
                  clear H1
                  by_cases c10 : 0 ≤ x5_1
                  · rw [if_pos c10] at H
                    have c10b0 := eq_true c10
                    have c10b1 : decide (0 ≤ x5_1) = true := decide_eq_true c10
                    clear c10
                    by_cases c11 : x5_1 ≤ (wrap64 (x5_1 + 1))
                    · rw [if_pos c11] at H
                      have c11b0 := eq_true c11
                      have c11b1 : decide (x5_1 ≤ (wrap64 (x5_1 + 1))) = true := decide_eq_true c11
                      by_cases c12 : (wrap64 (x5_1 + 1)) ≤ (a0.size : Int)
                      · rw [if_pos c12] at H
                        have c12b0 := eq_true c12
                        have c12b1 : decide ((wrap64 (x5_1 + 1)) ≤ (a0.size : Int)) = true := decide_eq_true c12
                        by_cases c13 : x4_1.size + (a0.extract (x5_1 : Int).toNat ((wrap64 (x5_1 + 1)) : Int).toNat).size ≤ 9223372036854775807
                        · rw [if_pos c13] at H
                          have c13b0 := eq_true c13
                          have c13b1 : decide (x4_1.size + (a0.extract (x5_1 : Int).toNat ((wrap64 (x5_1 + 1)) : Int).toNat).size ≤ 9223372036854775807) = true := decide_eq_true c13
                          try have c13b2 : (9223372036854775807 < x4_1.size + (a0.extract (x5_1 : Int).toNat ((wrap64 (x5_1 + 1)) : Int).toNat).size) = False := eq_false (Nat.not_lt.2 c13)
                          have H' := Aside0.mk H
                          clear H
                          go_wp2
                          go_roundg kj5
                          case measure => have := HK1.out; have := HJ5.out; omega
                          case rel => exact ⟨(x4_1 ++ (a0.extract (x5_1 : Int).toNat ((wrap64 (x5_1 + 1)) : Int).toNat)), (wrap64 (x5_1 - 1)), (by first | rfl | (simp; done) | (simp [*]; done)), (by first | rfl | (simp; done) | (simp [*]; done)), H', ⟨by have := HK1.out; have := HJ5.out; omega⟩, by repeat (first | exact Drawn0.refl _ | apply Drawn0.step)⟩
                        · rw [if_neg c13] at H
                          exact absurd H (by simp)
                      · rw [if_neg c12] at H
                        exact absurd H (by simp)
                    · rw [if_neg c11] at H
                      exact absurd H (by simp)
                  · rw [if_neg c10] at H
                    exact absurd H (by simp)
                · replace c9 := Bool.eq_false_iff.mpr c9
                  subst c9
                  have H1 : (if (bt a0 x5_1) = 54 then (if x4_1.size + 1 ≤ 9223372036854775807 then (spec_miUpside.l0 kj5 a0 (x4_1 ++ (⟨#[57]⟩ : ByteArray)) (wrap64 (x5_1 - 1))) else (none)) else (if (bt a0 x5_1) = 57 then (if x4_1.size + 1 ≤ 9223372036854775807 then (spec_miUpside.l0 kj5 a0 (x4_1 ++ (⟨#[54]⟩ : ByteArray)) (wrap64 (x5_1 - 1))) else (none)) else (some ((⟨#[]⟩ : ByteArray), false)))) = some (r1, r2) := by rw [if_neg (show ¬ (false = true) by decide)] at H; exact H
                  clear H
                  have H := H1
                  clear H1
                  by_cases c14 : (bt a0 x5_1) = 54
                  · rw [if_pos c14] at H
                    have c14b0 : ((bt a0 x5_1) == 54) = true := beq_iff_eq.mpr c14
                    have c14b1 : ((bt a0 x5_1) != 54) = false := bne_eq_false_iff_eq.mpr c14
                    clear c14
                    by_cases c15 : x4_1.size + 1 ≤ 9223372036854775807
                    · rw [if_pos c15] at H
                      have c15b0 := eq_true c15
                      have c15b1 : decide (x4_1.size + 1 ≤ 9223372036854775807) = true := decide_eq_true c15
                      try have c15b2 : (9223372036854775807 < x4_1.size + 1) = False := eq_false (Nat.not_lt.2 c15)
                      have H' := Aside0.mk H
                      clear H
                      go_wp2
                      go_roundg kj5
                      case measure => have := HK1.out; have := HJ5.out; omega
                      case rel => exact ⟨(x4_1 ++ (⟨#[57]⟩ : ByteArray)), (wrap64 (x5_1 - 1)), (by first | rfl | (simp; done) | (simp [*]; done)), (by first | rfl | (simp; done) | (simp [*]; done)), H', ⟨by have := HK1.out; have := HJ5.out; omega⟩, by repeat (first | exact Drawn0.refl _ | apply Drawn0.step)⟩
                    · rw [if_neg c15] at H
                      exact absurd H (by simp)
                  · rw [if_neg c14] at H
                    have c14b0 : ((bt a0 x5_1) == 54) = false := beq_eq_false_iff_ne.mpr c14
                    have c14b1 : ((bt a0 x5_1) != 54) = true := bne_iff_ne.mpr c14
                    by_cases c16 : (bt a0 x5_1) = 57
                    · rw [if_pos c16] at H
                      have c16b0 : ((bt a0 x5_1) == 57) = true := beq_iff_eq.mpr c16
                      have c16b1 : ((bt a0 x5_1) != 57) = false := bne_eq_false_iff_eq.mpr c16
                      clear c16
                      by_cases c17 : x4_1.size + 1 ≤ 9223372036854775807
                      · rw [if_pos c17] at H
                        have c17b0 := eq_true c17
                        have c17b1 : decide (x4_1.size + 1 ≤ 9223372036854775807) = true := decide_eq_true c17
                        try have c17b2 : (9223372036854775807 < x4_1.size + 1) = False := eq_false (Nat.not_lt.2 c17)
                        have H' := Aside0.mk H
                        clear H
                        go_wp2
                        go_roundg kj5
                        case measure => have := HK1.out; have := HJ5.out; omega
                        case rel => exact ⟨(x4_1 ++ (⟨#[54]⟩ : ByteArray)), (wrap64 (x5_1 - 1)), (by first | rfl | (simp; done) | (simp [*]; done)), (by first | rfl | (simp; done) | (simp [*]; done)), H', ⟨by have := HK1.out; have := HJ5.out; omega⟩, by repeat (first | exact Drawn0.refl _ | apply Drawn0.step)⟩
                      · rw [if_neg c17] at H
                        exact absurd H (by simp)
                    · rw [if_neg c16] at H
                      have c16b0 : ((bt a0 x5_1) == 57) = false := beq_eq_false_iff_ne.mpr c16
                      have c16b1 : ((bt a0 x5_1) != 57) = true := bne_iff_ne.mpr c16
                      simp only [Option.some.injEq, Prod.mk.injEq] at H
                      obtain ⟨rfl, rfl⟩ := H
                      go_wp2
                      go_ret2
                      exact ⟨by first | rfl | (simp; done) | (simp [*]; done), by repeat (first | exact Drawn0.refl _ | apply Drawn0.step)⟩
          · rw [if_neg c4] at H
            exact absurd H (by simp)
        · rw [if_neg c3] at H
          exact absurd H (by simp)
      · rw [if_neg c2] at H
        have c2b0 : decide (0 ≤ x5_1) = false := decide_eq_false c2
        clear c2
        simp only [Option.some.injEq, Prod.mk.injEq] at H
        obtain ⟨rfl, rfl⟩ := H
        go_wp2
        go_ret2
        exact ⟨by first | rfl | (simp; done) | (simp [*]; done), by repeat (first | exact Drawn0.refl _ | apply Drawn0.step)⟩

end Go.Proofs.Ytpdcjkiejglaiaa.Q

/- Laid by a program of this session (wip/tools/own_print.py) over the translation of this seat: contracts of the functions that the statement reaches. -/
namespace Go.Proofs.Ytpdcjkiejglaiaa.Q
open Go.RowKit Go.Proofs.YtpdcjkiejglaiaaW.PrintWords Go.Proofs.YtpdcjkiejglaiaaW.PrintLast Go.Proofs.YtpdcjkiejglaiaaW.PrintMore
attribute [local go_sem] max2_int min2_int max_two min_two max_three min_three max_four min_four   -- for this text's walks alone
set_option linter.unusedVariables false
set_option linter.unusedSimpArgs false

/-! ### spec_miIs: function 35 -/
def spec_miIs.l0 : Nat → ByteArray → ByteArray → Int → Option (Bool)
  | 0, _, _, _ => none
  | k + 1, x0, x1, x7 => if x7 < (x0.size : Int) then (if x1.toList = ([114] : List UInt8) then (if 0 ≤ x7 then (if 0 ≤ (wrap64 (x7 - 1)) then (if (wrap64 (x7 - 1)) < (x0.size : Int) then (if (bt x0 x7) ≤ (bt x0 (wrap64 (x7 - 1))) then (some false) else (if x1.toList = ([102] : List UInt8) then (if (bt x0 x7) ≥ (bt x0 (wrap64 (x7 - 1))) then (some false) else (spec_miIs.l0 k x0 x1 (wrap64 (x7 + 1)))) else (spec_miIs.l0 k x0 x1 (wrap64 (x7 + 1))))) else (none)) else (none)) else (none)) else (if x1.toList = ([102] : List UInt8) then (if 0 ≤ x7 then (if 0 ≤ (wrap64 (x7 - 1)) then (if (wrap64 (x7 - 1)) < (x0.size : Int) then (if (bt x0 x7) ≥ (bt x0 (wrap64 (x7 - 1))) then (some false) else (spec_miIs.l0 k x0 x1 (wrap64 (x7 + 1)))) else (none)) else (none)) else (none)) else (spec_miIs.l0 k x0 x1 (wrap64 (x7 + 1))))) else (some true)
def spec_miIs.f (k : Nat) (a0 : ByteArray) (a1 : ByteArray) : Option (Bool) := if a1.toList = ([97] : List UInt8) then ((spec_miDigits.f a0).bind fun t101 => (some (t101 == 1))) else (if a1.toList = ([109] : List UInt8) then ((spec_miTurn.f k a0).bind fun t102 => (some (t102.toList == a0.toList))) else (if a1.toList = ([117] : List UInt8) then ((spec_miUpside.f k a0).bind fun bt103 => (if bt103.2 = true then (some (bt103.1.toList == a0.toList)) else (some false))) else (if a1.toList = ([100] : List UInt8) then ((spec_miDigits.f a0).bind fun t105 => (some (t105 == (a0.size : Int)))) else (spec_miIs.l0 k a0 a1 1))))
theorem spec_miIs.mono_l : ∀ k, (∀ y0 y1 y2, LeO (spec_miIs.l0 k y0 y1 y2) (spec_miIs.l0 (k + 1) y0 y1 y2))
  | 0 => fun _ _ _ r h => by simp [spec_miIs.l0] at h
  | k + 1 => by
    have ih0 := spec_miIs.mono_l k
    · intro y0 y1 y2
      unfold spec_miIs.l0
      repeat' first
      | (with_reducible exact ih0 _ _ _)
      | (with_reducible exact spec_miTurn.mono _ _)
      | (with_reducible exact spec_miUpside.mono _ _)
      | (with_reducible exact LeO.refl _)
      | (with_reducible exact LeO.none _)
      | (with_reducible refine LeO.ite ?_ ?_)
      | (with_reducible refine LeO.bind ?_ (fun _ => ?_))
      | exact ih0 _ _ _
      | exact spec_miTurn.mono _ _
      | exact spec_miUpside.mono _ _
      | exact LeO.none _
      | refine LeO.ite ?_ ?_
      | refine LeO.bind ?_ (fun _ => ?_)
theorem spec_miIs.mono : ∀ a0 a1 k, LeO (spec_miIs.f k a0 a1) (spec_miIs.f (k + 1) a0 a1) := by
  intro a0 a1 k
  have ih0 := spec_miIs.mono_l k
  unfold spec_miIs.f
  repeat' first
      | (with_reducible exact ih0 _ _ _)
      | (with_reducible exact spec_miTurn.mono _ _)
      | (with_reducible exact spec_miUpside.mono _ _)
      | (with_reducible exact LeO.refl _)
      | (with_reducible exact LeO.none _)
      | (with_reducible refine LeO.ite ?_ ?_)
      | (with_reducible refine LeO.bind ?_ (fun _ => ?_))
      | exact ih0 _ _ _
      | exact spec_miTurn.mono _ _
      | exact spec_miUpside.mono _ _
      | exact LeO.none _
      | refine LeO.ite ?_ ?_
      | refine LeO.bind ?_ (fun _ => ?_)
set_option maxHeartbeats 8000000 in
set_option maxRecDepth 100000 in
theorem spec_miIs.calls (k : Nat) (a0 : ByteArray) (a1 : ByteArray) (r : Bool) (w : World) (h : spec_miIs.f k a0 a1 = some r) :
    Calls Try.prog 35 #[.string a0, .string a1] w fun e w' => e = .returned (.bool r) ∧ Below w.heap.size w w' := by
  have HB := Aside0.mk (Below.refl w.heap.size w)
  have H : (if a1.toList = ([97] : List UInt8) then ((spec_miDigits.f a0).bind fun t101 => (some (t101 == 1))) else (if a1.toList = ([109] : List UInt8) then ((spec_miTurn.f k a0).bind fun t102 => (some (t102.toList == a0.toList))) else (if a1.toList = ([117] : List UInt8) then ((spec_miUpside.f k a0).bind fun bt103 => (if bt103.2 = true then (some (bt103.1.toList == a0.toList)) else (some false))) else (if a1.toList = ([100] : List UInt8) then ((spec_miDigits.f a0).bind fun t105 => (some (t105 == (a0.size : Int)))) else (spec_miIs.l0 k a0 a1 1))))) = some r := h
  clear h
  by_cases c3 : a1.toList = ([97] : List UInt8)
  · rw [if_pos c3] at H
    have c3b0 : (a1.toList == ([97] : List UInt8)) = true := beq_iff_eq.mpr c3
    have c3b1 : (a1.toList != ([97] : List UInt8)) = false := bne_eq_false_iff_eq.mpr c3
    clear c3
    replace H := Option.bind_eq_some_iff.mp H
    obtain ⟨t101, A40, H⟩ := H
    replace H : (some (t101 == 1)) = some r := H
    have A4 := Aside0.mk A40
    clear A40
    obtain rfl := Option.some.inj H
    go_enter Try.func35, Try.ntmps35
    go_wp2_with (first | (go_at_call 50; (with_reducible refine (spec_miDigits.calls a0 t101 _ A4.out).mono ?_); rintro e w5 ⟨rfl, hb⟩; have n0_ := Aside0.mk (below_step (by repeat (first | (with_reducible first | exact HB.out | apply below_alloc | apply pw_below_drewN | apply below_drew1) | exact HB.out)) hb); clear HB; have HB := n0_; clear n0_; (try clear hb); (try clear hb2); (try clear hk); (try clear hi)))
    repeat (go_quiet (first | (go_at_call 50; (with_reducible refine (spec_miDigits.calls a0 t101 _ A4.out).mono ?_); rintro e w5 ⟨rfl, hb⟩; have n0_ := Aside0.mk (below_step (by repeat (first | (with_reducible first | exact HB.out | apply below_alloc | apply pw_below_drewN | apply below_drew1) | exact HB.out)) hb); clear HB; have HB := n0_; clear n0_; (try clear hb); (try clear hb2); (try clear hk); (try clear hi))); try go_wp2_with (first | (go_at_call 50; (with_reducible refine (spec_miDigits.calls a0 t101 _ A4.out).mono ?_); rintro e w5 ⟨rfl, hb⟩; have n0_ := Aside0.mk (below_step (by repeat (first | (with_reducible first | exact HB.out | apply below_alloc | apply pw_below_drewN | apply below_drew1) | exact HB.out)) hb); clear HB; have HB := n0_; clear n0_; (try clear hb); (try clear hb2); (try clear hk); (try clear hi))))
    go_ret
    exact ⟨by first | rfl | (simp [errW_none, errW_some] <;> rfl) | (simp [*, errW_none, errW_some] <;> rfl), by repeat (first | (with_reducible first | exact HB.out | apply below_alloc | apply pw_below_drewN | apply below_drew1) | exact HB.out)⟩
  · rw [if_neg c3] at H
    have c3b0 : (a1.toList == ([97] : List UInt8)) = false := beq_eq_false_iff_ne.mpr c3
    have c3b1 : (a1.toList != ([97] : List UInt8)) = true := bne_iff_ne.mpr c3
    by_cases c6 : a1.toList = ([109] : List UInt8)
    · rw [if_pos c6] at H
      have c6b0 : (a1.toList == ([109] : List UInt8)) = true := beq_iff_eq.mpr c6
      have c6b1 : (a1.toList != ([109] : List UInt8)) = false := bne_eq_false_iff_eq.mpr c6
      clear c6
      replace H := Option.bind_eq_some_iff.mp H
      obtain ⟨t102, A70, H⟩ := H
      replace H : (some (t102.toList == a0.toList)) = some r := H
      have A7 := Aside0.mk A70
      clear A70
      obtain rfl := Option.some.inj H
      go_enter Try.func35, Try.ntmps35
      go_wp2_with (first | (go_at_call 59; (with_reducible refine (spec_miTurn.calls k a0 t102 _ A7.out).mono ?_); rintro e w' ⟨rfl, ⟨nd, rfl⟩⟩; (try first | exact ⟨rfl, _, World.drewN_drewN _ _ _⟩ | exact ⟨rfl, _, Eq.trans (World.drewN_drewN _ _ _) (congrArg (World.drewN _) (Nat.add_assoc _ _ _))⟩)))
      repeat (go_quiet (first | (go_at_call 59; (with_reducible refine (spec_miTurn.calls k a0 t102 _ A7.out).mono ?_); rintro e w' ⟨rfl, ⟨nd, rfl⟩⟩; (try first | exact ⟨rfl, _, World.drewN_drewN _ _ _⟩ | exact ⟨rfl, _, Eq.trans (World.drewN_drewN _ _ _) (congrArg (World.drewN _) (Nat.add_assoc _ _ _))⟩))); try go_wp2_with (first | (go_at_call 59; (with_reducible refine (spec_miTurn.calls k a0 t102 _ A7.out).mono ?_); rintro e w' ⟨rfl, ⟨nd, rfl⟩⟩; (try first | exact ⟨rfl, _, World.drewN_drewN _ _ _⟩ | exact ⟨rfl, _, Eq.trans (World.drewN_drewN _ _ _) (congrArg (World.drewN _) (Nat.add_assoc _ _ _))⟩))))
      go_ret
      exact ⟨by first | rfl | (simp [errW_none, errW_some] <;> rfl) | (simp [*, errW_none, errW_some] <;> rfl), by repeat (first | (with_reducible first | exact HB.out | apply below_alloc | apply pw_below_drewN | apply below_drew1) | exact HB.out)⟩
    · rw [if_neg c6] at H
      have c6b0 : (a1.toList == ([109] : List UInt8)) = false := beq_eq_false_iff_ne.mpr c6
      have c6b1 : (a1.toList != ([109] : List UInt8)) = true := bne_iff_ne.mpr c6
      by_cases c8 : a1.toList = ([117] : List UInt8)
      · rw [if_pos c8] at H
        have c8b0 : (a1.toList == ([117] : List UInt8)) = true := beq_iff_eq.mpr c8
        have c8b1 : (a1.toList != ([117] : List UInt8)) = false := bne_eq_false_iff_eq.mpr c8
        clear c8
        replace H := Option.bind_eq_some_iff.mp H
        obtain ⟨⟨t103, t104⟩, A90, H⟩ := H
        replace H : (if t104 = true then (some (t103.toList == a0.toList)) else (some false)) = some r := H
        have A9 := Aside0.mk A90
        clear A90
        by_cases c10 : t104 = true
        · subst c10
          have H1 : (some (t103.toList == a0.toList)) = some r := by rw [if_pos rfl] at H; exact H
          clear H
          have H := H1
          clear H1
          obtain rfl := Option.some.inj H
          go_enter Try.func35, Try.ntmps35
          go_wp2_with (first | (go_at_call 60; (with_reducible refine (spec_miUpside.calls k a0 t103 true _ A9.out).mono ?_); rintro e w' ⟨rfl, ⟨nd, rfl⟩⟩; (try first | exact ⟨rfl, _, World.drewN_drewN _ _ _⟩ | exact ⟨rfl, _, Eq.trans (World.drewN_drewN _ _ _) (congrArg (World.drewN _) (Nat.add_assoc _ _ _))⟩)))
          repeat (go_quiet (first | (go_at_call 60; (with_reducible refine (spec_miUpside.calls k a0 t103 true _ A9.out).mono ?_); rintro e w' ⟨rfl, ⟨nd, rfl⟩⟩; (try first | exact ⟨rfl, _, World.drewN_drewN _ _ _⟩ | exact ⟨rfl, _, Eq.trans (World.drewN_drewN _ _ _) (congrArg (World.drewN _) (Nat.add_assoc _ _ _))⟩))); try go_wp2_with (first | (go_at_call 60; (with_reducible refine (spec_miUpside.calls k a0 t103 true _ A9.out).mono ?_); rintro e w' ⟨rfl, ⟨nd, rfl⟩⟩; (try first | exact ⟨rfl, _, World.drewN_drewN _ _ _⟩ | exact ⟨rfl, _, Eq.trans (World.drewN_drewN _ _ _) (congrArg (World.drewN _) (Nat.add_assoc _ _ _))⟩))))
          go_ret
          exact ⟨by first | rfl | (simp [errW_none, errW_some] <;> rfl) | (simp [*, errW_none, errW_some] <;> rfl), by repeat (first | (with_reducible first | exact HB.out | apply below_alloc | apply pw_below_drewN | apply below_drew1) | exact HB.out)⟩
        · replace c10 := Bool.eq_false_iff.mpr c10
          subst c10
          have H1 : (some false) = some r := by rw [if_neg (show ¬ (false = true) by decide)] at H; exact H
          clear H
          have H := H1
          clear H1
          obtain rfl := Option.some.inj H
          go_enter Try.func35, Try.ntmps35
          go_wp2_with (first | (go_at_call 60; (with_reducible refine (spec_miUpside.calls k a0 t103 false _ A9.out).mono ?_); rintro e w' ⟨rfl, ⟨nd, rfl⟩⟩; (try first | exact ⟨rfl, _, World.drewN_drewN _ _ _⟩ | exact ⟨rfl, _, Eq.trans (World.drewN_drewN _ _ _) (congrArg (World.drewN _) (Nat.add_assoc _ _ _))⟩)))
          repeat (go_quiet (first | (go_at_call 60; (with_reducible refine (spec_miUpside.calls k a0 t103 false _ A9.out).mono ?_); rintro e w' ⟨rfl, ⟨nd, rfl⟩⟩; (try first | exact ⟨rfl, _, World.drewN_drewN _ _ _⟩ | exact ⟨rfl, _, Eq.trans (World.drewN_drewN _ _ _) (congrArg (World.drewN _) (Nat.add_assoc _ _ _))⟩))); try go_wp2_with (first | (go_at_call 60; (with_reducible refine (spec_miUpside.calls k a0 t103 false _ A9.out).mono ?_); rintro e w' ⟨rfl, ⟨nd, rfl⟩⟩; (try first | exact ⟨rfl, _, World.drewN_drewN _ _ _⟩ | exact ⟨rfl, _, Eq.trans (World.drewN_drewN _ _ _) (congrArg (World.drewN _) (Nat.add_assoc _ _ _))⟩))))
          go_ret
          exact ⟨by first | rfl | (simp [errW_none, errW_some] <;> rfl) | (simp [*, errW_none, errW_some] <;> rfl), by repeat (first | (with_reducible first | exact HB.out | apply below_alloc | apply pw_below_drewN | apply below_drew1) | exact HB.out)⟩
      · rw [if_neg c8] at H
        have c8b0 : (a1.toList == ([117] : List UInt8)) = false := beq_eq_false_iff_ne.mpr c8
        have c8b1 : (a1.toList != ([117] : List UInt8)) = true := bne_iff_ne.mpr c8
        by_cases c11 : a1.toList = ([100] : List UInt8)
        · rw [if_pos c11] at H
          have c11b0 : (a1.toList == ([100] : List UInt8)) = true := beq_iff_eq.mpr c11
          have c11b1 : (a1.toList != ([100] : List UInt8)) = false := bne_eq_false_iff_eq.mpr c11
          clear c11
          replace H := Option.bind_eq_some_iff.mp H
          obtain ⟨t105, A120, H⟩ := H
          replace H : (some (t105 == (a0.size : Int))) = some r := H
          have A12 := Aside0.mk A120
          clear A120
          obtain rfl := Option.some.inj H
          go_enter Try.func35, Try.ntmps35
          go_wp2_with (first | (go_at_call 50; (with_reducible refine (spec_miDigits.calls a0 t105 _ A12.out).mono ?_); rintro e w13 ⟨rfl, hb⟩; have n0_ := Aside0.mk (below_step (by repeat (first | (with_reducible first | exact HB.out | apply below_alloc | apply pw_below_drewN | apply below_drew1) | exact HB.out)) hb); clear HB; have HB := n0_; clear n0_; (try clear hb); (try clear hb2); (try clear hk); (try clear hi)))
          repeat (go_quiet (first | (go_at_call 50; (with_reducible refine (spec_miDigits.calls a0 t105 _ A12.out).mono ?_); rintro e w13 ⟨rfl, hb⟩; have n0_ := Aside0.mk (below_step (by repeat (first | (with_reducible first | exact HB.out | apply below_alloc | apply pw_below_drewN | apply below_drew1) | exact HB.out)) hb); clear HB; have HB := n0_; clear n0_; (try clear hb); (try clear hb2); (try clear hk); (try clear hi))); try go_wp2_with (first | (go_at_call 50; (with_reducible refine (spec_miDigits.calls a0 t105 _ A12.out).mono ?_); rintro e w13 ⟨rfl, hb⟩; have n0_ := Aside0.mk (below_step (by repeat (first | (with_reducible first | exact HB.out | apply below_alloc | apply pw_below_drewN | apply below_drew1) | exact HB.out)) hb); clear HB; have HB := n0_; clear n0_; (try clear hb); (try clear hb2); (try clear hk); (try clear hi))))
          go_ret
          exact ⟨by first | rfl | (simp [errW_none, errW_some] <;> rfl) | (simp [*, errW_none, errW_some] <;> rfl), by repeat (first | (with_reducible first | exact HB.out | apply below_alloc | apply pw_below_drewN | apply below_drew1) | exact HB.out)⟩
        · rw [if_neg c11] at H
          have c11b0 : (a1.toList == ([100] : List UInt8)) = false := beq_eq_false_iff_ne.mpr c11
          have c11b1 : (a1.toList != ([100] : List UInt8)) = true := bne_iff_ne.mpr c11
          have H' := Aside0.mk H
          clear H
          go_enter Try.func35, Try.ntmps35
          go_wp2
          repeat (go_quiet (fail); try go_wp2)
          go_loopg [7] k (fun kq v7 w' => ∃ (x7_1 : Int), v7 = .int .i64 x7_1 ∧ Aside0 (spec_miIs.l0 kq a0 a1 x7_1 = some r) ∧ Aside0 (kq ≤ k) ∧ Aside0 (Below w.heap.size w w'))
          case atStart => exact ⟨(1), (by first | rfl | (simp; done) | (simp [*]; done)), H', ⟨Nat.le_refl _⟩, ⟨by repeat (first | (with_reducible first | exact HB.out | apply below_alloc | apply pw_below_drewN | apply below_drew1) | exact HB.out)⟩⟩
          case round =>
            clear H'
            try clear c1
            try clear p2
            try clear c3
            try clear c3b0
            try clear c3b1
            try clear c6
            try clear c6b0
            try clear c6b1
            try clear c8
            try clear c8b0
            try clear c8b1
            try clear c10
            try clear c11
            try clear c11b0
            try clear c11b1
            obtain ⟨x7_1, rfl, HA, HK1, HB⟩ := hrel
            cases gk with
            | zero => exact absurd HA.out (by simp [spec_miIs.l0])
            | succ k1 =>
              have H := HA.out
              clear HA
              simp only [spec_miIs.l0] at H
              by_cases c14 : x7_1 < (a0.size : Int)
              · rw [if_pos c14] at H
                have c14b0 : decide (x7_1 < (a0.size : Int)) = true := decide_eq_true c14
                clear c14
                by_cases c15 : a1.toList = ([114] : List UInt8)
                · rw [if_pos c15] at H
                  have c15b0 : (a1.toList == ([114] : List UInt8)) = true := beq_iff_eq.mpr c15
                  have c15b1 : (a1.toList != ([114] : List UInt8)) = false := bne_eq_false_iff_eq.mpr c15
                  clear c15
                  by_cases c16 : 0 ≤ x7_1
                  · rw [if_pos c16] at H
                    have c16b0 : decide (0 ≤ x7_1) = true := decide_eq_true c16
                    clear c16
                    obtain ⟨ji18, hji18⟩ : ∃ j_ : Int, (wrap64 (x7_1 - 1)) = j_ := ⟨_, rfl⟩
                    replace H : (if 0 ≤ (ji18) then (if (ji18) < (a0.size : Int) then (if (bt a0 x7_1) ≤ (bt a0 (ji18)) then (some false) else (if a1.toList = ([102] : List UInt8) then (if (bt a0 x7_1) ≥ (bt a0 (ji18)) then (some false) else (spec_miIs.l0 k1 a0 a1 (wrap64 (x7_1 + 1)))) else (spec_miIs.l0 k1 a0 a1 (wrap64 (x7_1 + 1))))) else (none)) else (none)) = some r := by first | (rw [hji18] at H; exact H) | (simp only [hji18] at H ⊢; exact H)
                    have hji18w : (IntKind.i64.wrap (x7_1 - 1)) = ji18 := (i64_w _).trans hji18
                    by_cases c19 : 0 ≤ (ji18)
                    · rw [if_pos c19] at H
                      have c19b0 : decide (0 ≤ (ji18)) = true := decide_eq_true c19
                      clear c19
                      by_cases c20 : (ji18) < (a0.size : Int)
                      · rw [if_pos c20] at H
                        have c20b0 : decide ((ji18) < (a0.size : Int)) = true := decide_eq_true c20
                        clear c20
                        by_cases c22 : (bt a0 x7_1) ≤ (bt a0 (ji18))
                        · rw [if_pos c22] at H
                          have c22b0 : decide ((bt a0 x7_1) ≤ (bt a0 (ji18))) = true := decide_eq_true c22
                          clear c22
                          obtain rfl := Option.some.inj H
                          have p17 : 0 ≤ (x7_1 : Int) := of_decide_eq_true (by first | (with_reducible assumption) | assumption)
                          have q17 : x7_1 < (a0.size : Int) := of_decide_eq_true (by first | (with_reducible assumption) | assumption)
                          have hx17 := bt_at a0 x7_1
                          replace p17 := eq_true p17
                          replace q17 := eq_true q17
                          have p21 : 0 ≤ ((ji18) : Int) := of_decide_eq_true (by first | (with_reducible assumption) | assumption)
                          have q21 : (ji18) < (a0.size : Int) := of_decide_eq_true (by first | (with_reducible assumption) | assumption)
                          have hx21 := bt_at a0 (ji18)
                          replace p21 := eq_true p21
                          replace q21 := eq_true q21
                          go_wp2
                          repeat (go_quiet (fail); try go_wp2)
                          go_ret
                          exact ⟨by first | rfl | (simp [errW_none, errW_some] <;> rfl) | (simp only [← hji18]; first | rfl | (simp [errW_none, errW_some] <;> rfl)) | (simp [*, errW_none, errW_some] <;> rfl), by repeat (first | (with_reducible first | exact HB.out | apply below_alloc | apply pw_below_drewN | apply below_drew1) | exact HB.out)⟩
                        · rw [if_neg c22] at H
                          have c22b0 : decide ((bt a0 x7_1) ≤ (bt a0 (ji18))) = false := decide_eq_false c22
                          clear c22
                          by_cases c23 : a1.toList = ([102] : List UInt8)
                          · rw [if_pos c23] at H
                            have c23b0 : (a1.toList == ([102] : List UInt8)) = true := beq_iff_eq.mpr c23
                            have c23b1 : (a1.toList != ([102] : List UInt8)) = false := bne_eq_false_iff_eq.mpr c23
                            clear c23
                            by_cases c26 : (bt a0 x7_1) ≥ (bt a0 (ji18))
                            · rw [if_pos c26] at H
                              have c26b0 : decide ((bt a0 (ji18)) ≤ (bt a0 x7_1)) = true := decide_eq_true c26
                              clear c26
                              obtain rfl := Option.some.inj H
                              have p17 : 0 ≤ (x7_1 : Int) := of_decide_eq_true (by first | (with_reducible assumption) | assumption)
                              have q17 : x7_1 < (a0.size : Int) := of_decide_eq_true (by first | (with_reducible assumption) | assumption)
                              have hx17 := bt_at a0 x7_1
                              replace p17 := eq_true p17
                              replace q17 := eq_true q17
                              have p21 : 0 ≤ ((ji18) : Int) := of_decide_eq_true (by first | (with_reducible assumption) | assumption)
                              have q21 : (ji18) < (a0.size : Int) := of_decide_eq_true (by first | (with_reducible assumption) | assumption)
                              have hx21 := bt_at a0 (ji18)
                              replace p21 := eq_true p21
                              replace q21 := eq_true q21
                              have p24 : 0 ≤ (x7_1 : Int) := of_decide_eq_true (by first | (with_reducible assumption) | assumption)
                              have q24 : x7_1 < (a0.size : Int) := of_decide_eq_true (by first | (with_reducible assumption) | assumption)
                              have hx24 := bt_at a0 x7_1
                              replace p24 := eq_true p24
                              replace q24 := eq_true q24
                              have p25 : 0 ≤ ((ji18) : Int) := of_decide_eq_true (by first | (with_reducible assumption) | assumption)
                              have q25 : (ji18) < (a0.size : Int) := of_decide_eq_true (by first | (with_reducible assumption) | assumption)
                              have hx25 := bt_at a0 (ji18)
                              replace p25 := eq_true p25
                              replace q25 := eq_true q25
                              go_wp2
                              repeat (go_quiet (fail); try go_wp2)
                              go_ret
                              exact ⟨by first | rfl | (simp [errW_none, errW_some] <;> rfl) | (simp only [← hji18]; first | rfl | (simp [errW_none, errW_some] <;> rfl)) | (simp [*, errW_none, errW_some] <;> rfl), by repeat (first | (with_reducible first | exact HB.out | apply below_alloc | apply pw_below_drewN | apply below_drew1) | exact HB.out)⟩
                            · rw [if_neg c26] at H
                              have c26b0 : decide ((bt a0 (ji18)) ≤ (bt a0 x7_1)) = false := decide_eq_false c26
                              clear c26
                              have H' := Aside0.mk H
                              clear H
                              have p17 : 0 ≤ (x7_1 : Int) := of_decide_eq_true (by first | (with_reducible assumption) | assumption)
                              have q17 : x7_1 < (a0.size : Int) := of_decide_eq_true (by first | (with_reducible assumption) | assumption)
                              have hx17 := bt_at a0 x7_1
                              replace p17 := eq_true p17
                              replace q17 := eq_true q17
                              have p21 : 0 ≤ ((ji18) : Int) := of_decide_eq_true (by first | (with_reducible assumption) | assumption)
                              have q21 : (ji18) < (a0.size : Int) := of_decide_eq_true (by first | (with_reducible assumption) | assumption)
                              have hx21 := bt_at a0 (ji18)
                              replace p21 := eq_true p21
                              replace q21 := eq_true q21
                              have p24 : 0 ≤ (x7_1 : Int) := of_decide_eq_true (by first | (with_reducible assumption) | assumption)
                              have q24 : x7_1 < (a0.size : Int) := of_decide_eq_true (by first | (with_reducible assumption) | assumption)
                              have hx24 := bt_at a0 x7_1
                              replace p24 := eq_true p24
                              replace q24 := eq_true q24
                              have p25 : 0 ≤ ((ji18) : Int) := of_decide_eq_true (by first | (with_reducible assumption) | assumption)
                              have q25 : (ji18) < (a0.size : Int) := of_decide_eq_true (by first | (with_reducible assumption) | assumption)
                              have hx25 := bt_at a0 (ji18)
                              replace p25 := eq_true p25
                              replace q25 := eq_true q25
                              go_wp2
                              repeat (go_quiet (fail); try go_wp2)
                              go_roundg k1
                              case measure => have := HK1.out; omega
                              case rel => exact ⟨(wrap64 (x7_1 + 1)), (by first | rfl | (simp; done) | (simp [*]; done)), H', ⟨by have := HK1.out; omega⟩, ⟨by repeat (first | (with_reducible first | exact HB.out | apply below_alloc | apply pw_below_drewN | apply below_drew1) | exact HB.out)⟩⟩
                          · rw [if_neg c23] at H
                            have c23b0 : (a1.toList == ([102] : List UInt8)) = false := beq_eq_false_iff_ne.mpr c23
                            have c23b1 : (a1.toList != ([102] : List UInt8)) = true := bne_iff_ne.mpr c23
                            have H' := Aside0.mk H
                            clear H
                            have p17 : 0 ≤ (x7_1 : Int) := of_decide_eq_true (by first | (with_reducible assumption) | assumption)
                            have q17 : x7_1 < (a0.size : Int) := of_decide_eq_true (by first | (with_reducible assumption) | assumption)
                            have hx17 := bt_at a0 x7_1
                            replace p17 := eq_true p17
                            replace q17 := eq_true q17
                            have p21 : 0 ≤ ((ji18) : Int) := of_decide_eq_true (by first | (with_reducible assumption) | assumption)
                            have q21 : (ji18) < (a0.size : Int) := of_decide_eq_true (by first | (with_reducible assumption) | assumption)
                            have hx21 := bt_at a0 (ji18)
                            replace p21 := eq_true p21
                            replace q21 := eq_true q21
                            go_wp2
                            repeat (go_quiet (fail); try go_wp2)
                            go_roundg k1
                            case measure => have := HK1.out; omega
                            case rel => exact ⟨(wrap64 (x7_1 + 1)), (by first | rfl | (simp; done) | (simp [*]; done)), H', ⟨by have := HK1.out; omega⟩, ⟨by repeat (first | (with_reducible first | exact HB.out | apply below_alloc | apply pw_below_drewN | apply below_drew1) | exact HB.out)⟩⟩
                      · rw [if_neg c20] at H
                        exact absurd H (by simp)
                    · rw [if_neg c19] at H
                      exact absurd H (by simp)
                  · rw [if_neg c16] at H
                    exact absurd H (by simp)
                · rw [if_neg c15] at H
                  have c15b0 : (a1.toList == ([114] : List UInt8)) = false := beq_eq_false_iff_ne.mpr c15
                  have c15b1 : (a1.toList != ([114] : List UInt8)) = true := bne_iff_ne.mpr c15
                  by_cases c27 : a1.toList = ([102] : List UInt8)
                  · rw [if_pos c27] at H
                    have c27b0 : (a1.toList == ([102] : List UInt8)) = true := beq_iff_eq.mpr c27
                    have c27b1 : (a1.toList != ([102] : List UInt8)) = false := bne_eq_false_iff_eq.mpr c27
                    clear c27
                    by_cases c28 : 0 ≤ x7_1
                    · rw [if_pos c28] at H
                      have c28b0 : decide (0 ≤ x7_1) = true := decide_eq_true c28
                      clear c28
                      obtain ⟨ji30, hji30⟩ : ∃ j_ : Int, (wrap64 (x7_1 - 1)) = j_ := ⟨_, rfl⟩
                      replace H : (if 0 ≤ (ji30) then (if (ji30) < (a0.size : Int) then (if (bt a0 x7_1) ≥ (bt a0 (ji30)) then (some false) else (spec_miIs.l0 k1 a0 a1 (wrap64 (x7_1 + 1)))) else (none)) else (none)) = some r := by first | (rw [hji30] at H; exact H) | (simp only [hji30] at H ⊢; exact H)
                      have hji30w : (IntKind.i64.wrap (x7_1 - 1)) = ji30 := (i64_w _).trans hji30
                      by_cases c31 : 0 ≤ (ji30)
                      · rw [if_pos c31] at H
                        have c31b0 : decide (0 ≤ (ji30)) = true := decide_eq_true c31
                        clear c31
                        by_cases c32 : (ji30) < (a0.size : Int)
                        · rw [if_pos c32] at H
                          have c32b0 : decide ((ji30) < (a0.size : Int)) = true := decide_eq_true c32
                          clear c32
                          by_cases c34 : (bt a0 x7_1) ≥ (bt a0 (ji30))
                          · rw [if_pos c34] at H
                            have c34b0 : decide ((bt a0 (ji30)) ≤ (bt a0 x7_1)) = true := decide_eq_true c34
                            clear c34
                            obtain rfl := Option.some.inj H
                            have p29 : 0 ≤ (x7_1 : Int) := of_decide_eq_true (by first | (with_reducible assumption) | assumption)
                            have q29 : x7_1 < (a0.size : Int) := of_decide_eq_true (by first | (with_reducible assumption) | assumption)
                            have hx29 := bt_at a0 x7_1
                            replace p29 := eq_true p29
                            replace q29 := eq_true q29
                            have p33 : 0 ≤ ((ji30) : Int) := of_decide_eq_true (by first | (with_reducible assumption) | assumption)
                            have q33 : (ji30) < (a0.size : Int) := of_decide_eq_true (by first | (with_reducible assumption) | assumption)
                            have hx33 := bt_at a0 (ji30)
                            replace p33 := eq_true p33
                            replace q33 := eq_true q33
                            go_wp2
                            repeat (go_quiet (fail); try go_wp2)
                            go_ret
                            exact ⟨by first | rfl | (simp [errW_none, errW_some] <;> rfl) | (simp only [← hji30]; first | rfl | (simp [errW_none, errW_some] <;> rfl)) | (simp [*, errW_none, errW_some] <;> rfl), by repeat (first | (with_reducible first | exact HB.out | apply below_alloc | apply pw_below_drewN | apply below_drew1) | exact HB.out)⟩
                          · rw [if_neg c34] at H
                            have c34b0 : decide ((bt a0 (ji30)) ≤ (bt a0 x7_1)) = false := decide_eq_false c34
                            clear c34
                            have H' := Aside0.mk H
                            clear H
                            have p29 : 0 ≤ (x7_1 : Int) := of_decide_eq_true (by first | (with_reducible assumption) | assumption)
                            have q29 : x7_1 < (a0.size : Int) := of_decide_eq_true (by first | (with_reducible assumption) | assumption)
                            have hx29 := bt_at a0 x7_1
                            replace p29 := eq_true p29
                            replace q29 := eq_true q29
                            have p33 : 0 ≤ ((ji30) : Int) := of_decide_eq_true (by first | (with_reducible assumption) | assumption)
                            have q33 : (ji30) < (a0.size : Int) := of_decide_eq_true (by first | (with_reducible assumption) | assumption)
                            have hx33 := bt_at a0 (ji30)
                            replace p33 := eq_true p33
                            replace q33 := eq_true q33
                            go_wp2
                            repeat (go_quiet (fail); try go_wp2)
                            go_roundg k1
                            case measure => have := HK1.out; omega
                            case rel => exact ⟨(wrap64 (x7_1 + 1)), (by first | rfl | (simp; done) | (simp [*]; done)), H', ⟨by have := HK1.out; omega⟩, ⟨by repeat (first | (with_reducible first | exact HB.out | apply below_alloc | apply pw_below_drewN | apply below_drew1) | exact HB.out)⟩⟩
                        · rw [if_neg c32] at H
                          exact absurd H (by simp)
                      · rw [if_neg c31] at H
                        exact absurd H (by simp)
                    · rw [if_neg c28] at H
                      exact absurd H (by simp)
                  · rw [if_neg c27] at H
                    have c27b0 : (a1.toList == ([102] : List UInt8)) = false := beq_eq_false_iff_ne.mpr c27
                    have c27b1 : (a1.toList != ([102] : List UInt8)) = true := bne_iff_ne.mpr c27
                    have H' := Aside0.mk H
                    clear H
                    go_wp2
                    repeat (go_quiet (fail); try go_wp2)
                    go_roundg k1
                    case measure => have := HK1.out; omega
                    case rel => exact ⟨(wrap64 (x7_1 + 1)), (by first | rfl | (simp; done) | (simp [*]; done)), H', ⟨by have := HK1.out; omega⟩, ⟨by repeat (first | (with_reducible first | exact HB.out | apply below_alloc | apply pw_below_drewN | apply below_drew1) | exact HB.out)⟩⟩
              · rw [if_neg c14] at H
                have c14b0 : decide (x7_1 < (a0.size : Int)) = false := decide_eq_false c14
                clear c14
                obtain rfl := Option.some.inj H
                go_wp2
                repeat (go_quiet (fail); try go_wp2)
                go_ret
                exact ⟨by first | rfl | (simp [errW_none, errW_some] <;> rfl) | (simp [*, errW_none, errW_some] <;> rfl), by repeat (first | (with_reducible first | exact HB.out | apply below_alloc | apply pw_below_drewN | apply below_drew1) | exact HB.out)⟩

end Go.Proofs.Ytpdcjkiejglaiaa.Q

/-
  The reference's readings turned, upside down, and its test of a kind, in plain words: a reading is of a kind just if each of its digits may stand where it stands.
-/
namespace Go.Proofs.Ytpdcjkiejglaiaa.Q
open Go.RowKit Go.Proofs.YtpdcjkiejglaiaaW.PrintWords Go.Proofs.YtpdcjkiejglaiaaW.PrintLast Go.Proofs.YtpdcjkiejglaiaaW.PrintMore
set_option linter.unusedVariables false
set_option linter.unusedSimpArgs false

theorem li_one (s : ByteArray) (i : Nat) (hi : i < s.size) : li (s.extract i (i + 1)) = [bt s i] := by
  have h : i < (li s).length := by rw [li_length]; exact hi
  rw [li_extract, bt_li, show i + 1 - i = 1 by omega]
  have e : (li s).getD ((i : Int)).toNat 0 = (li s)[i] := by simp [List.getD_eq_getElem?_getD, h]
  rw [e, List.drop_eq_getElem_cons h]
  rfl
theorem li_take_succ (s : ByteArray) (i : Nat) (hi : i < s.size) : (li s).take (i + 1) = (li s).take i ++ [bt s i] := by
  have h : i < (li s).length := by rw [li_length]; exact hi
  rw [List.take_succ_eq_append_getElem h, bt_li]
  simp [List.getD_eq_getElem?_getD, h]
theorem getD_reverse (l : List Int) (i : Nat) (hi : i < l.length) : l.reverse.getD i 0 = l.getD (l.length - 1 - i) 0 := by
  have h2 : l.length - 1 - i < l.length := by omega
  simp [List.getD_eq_getElem?_getD, List.getElem?_reverse, hi, h2]

theorem turn_loop (s : ByteArray) (hs : s.size ≤ 140737488351232) : ∀ (i : Nat) (acc : ByteArray), i ≤ s.size → acc.size + i ≤ 281474976710656 →
    ∃ t, Ev (fun k => spec_miTurn.l0 k s acc ((i : Int) - 1)) t ∧ li t = li acc ++ ((li s).take i).reverse
  | 0, acc, _, _ => by
    refine ⟨acc, Ev.step (f := fun _ => some acc) (fun k => ?_) (Ev.now _), by simp⟩
    simp only [spec_miTurn.l0]
    rw [if_neg (by omega)]
  | i + 1, acc, hi, ha => by
    have hz : (s.extract i (i + 1)).size = 1 := by rw [ByteArray.size_extract]; omega
    obtain ⟨t, ht, hl⟩ := turn_loop s hs i (acc ++ s.extract i (i + 1)) (by omega) (by rw [ByteArray.size_append, hz]; omega)
    refine ⟨t, Ev.step (fun k => ?_) ht, ?_⟩
    · simp only [spec_miTurn.l0]
      have e0 : ((i + 1 : Nat) : Int) - 1 = (i : Int) := by omega
      rw [e0]
      have e1 : wrap64 ((i : Int) + 1) = ((i + 1 : Nat) : Int) := by rw [wrap_id (by omega) (by omega)]; rfl
      rw [e1, show ((i : Int)).toNat = i from rfl, show (((i + 1 : Nat) : Int)).toNat = i + 1 from rfl, hz]
      rw [if_pos (by omega), if_pos (by omega), if_pos (by omega), if_pos (by omega), if_pos (by omega), wrap_id (by omega) (by omega)]
    · rw [hl, li_append, li_one s i (by omega), li_take_succ s i (by omega)]
      simp
theorem miTurn_ev (s : ByteArray) (hs : s.size ≤ 140737488351232) : ∃ t, Ev (fun k => spec_miTurn.f k s) t ∧ li t = (li s).reverse := by
  obtain ⟨t, ht, hl⟩ := turn_loop s hs s.size ⟨#[]⟩ (Nat.le_refl _) (by show 0 + s.size ≤ _; omega)
  refine ⟨t, ?_, ?_⟩
  · unfold spec_miTurn.f
    rw [wrap_id (by omega) (by omega)]
    exact ht
  · rw [hl, List.take_of_length_le (by rw [li_length]; omega)]
    rfl

theorem li_lit1 (c : UInt8) : li ⟨#[c]⟩ = [(c.toNat : Int)] := rfl
theorem up_cases (x : Int) : (x = 48 ∨ x = 49 ∨ x = 56) ∧ up x = x ∨ x = 54 ∧ up x = 57 ∨ x = 57 ∧ up x = 54 ∨ x ≠ 48 ∧ x ≠ 49 ∧ x ≠ 56 ∧ x ≠ 54 ∧ x ≠ 57 ∧ up x = 0 := by
  unfold up
  by_cases h : x = 48 ∨ x = 49 ∨ x = 56
  · exact .inl ⟨h, by rw [if_pos h]⟩
  · rw [if_neg h]
    by_cases h4 : x = 54
    · subst h4; exact .inr (.inl ⟨rfl, by decide⟩)
    · by_cases h5 : x = 57
      · subst h5; exact .inr (.inr (.inl ⟨rfl, by decide⟩))
      · rw [if_neg h4, if_neg h5]
        exact .inr (.inr (.inr ⟨by omega, by omega, by omega, h4, h5, rfl⟩))
def upOk (s : ByteArray) (i : Nat) : Bool := up (bt s i) != 0
theorem up_loop (s : ByteArray) (hs : s.size ≤ 140737488351232) : ∀ (i : Nat) (acc : ByteArray), i ≤ s.size → acc.size + i ≤ 281474976710656 →
    ∃ t b, Ev (fun k => spec_miUpside.l0 k s acc ((i : Int) - 1)) (t, b) ∧ (b = true ↔ ∀ j : Nat, j < i → up (bt s j) ≠ 0) ∧ (b = true → li t = li acc ++ (((li s).take i).map up).reverse) ∧ (b = false → t = ⟨#[]⟩)
  | 0, acc, _, _ => by
    refine ⟨acc, true, Ev.step (f := fun _ => some (acc, true)) (fun k => ?_) (Ev.now _), by simp, by simp, by simp⟩
    simp only [spec_miUpside.l0]
    rw [if_neg (by omega)]
  | i + 1, acc, hi, ha => by
    have e0 : ((i + 1 : Nat) : Int) - 1 = (i : Int) := by omega
    have e1 : wrap64 ((i : Int) + 1) = ((i + 1 : Nat) : Int) := by rw [wrap_id (by omega) (by omega)]; rfl
    have hz : (s.extract i (i + 1)).size = 1 := by rw [ByteArray.size_extract]; omega
    have fin : ∀ (acc' : ByteArray), acc'.size = acc.size + 1 → li acc' = li acc ++ [up (bt s i)] → up (bt s i) ≠ 0 →
        (∀ q, Ev (fun k => spec_miUpside.l0 k s acc' ((i : Int) - 1)) q → Ev (fun k => spec_miUpside.l0 k s acc (i : Int)) q) →
        ∃ t b, Ev (fun k => spec_miUpside.l0 k s acc (i : Int)) (t, b) ∧ (b = true ↔ ∀ j : Nat, j < i + 1 → up (bt s j) ≠ 0) ∧ (b = true → li t = li acc ++ (((li s).take (i + 1)).map up).reverse) ∧ (b = false → t = ⟨#[]⟩) := by
      intro acc' hsz hl hu go
      obtain ⟨t, b, ht, h1, h2, h3⟩ := up_loop s hs i acc' (by omega) (by omega)
      refine ⟨t, b, go _ ht, ?_, ?_, h3⟩
      · rw [h1]
        constructor
        · intro h j hj
          by_cases e : j = i
          · rw [e]; exact hu
          · exact h j (by omega)
        · intro h j hj
          exact h j (by omega)
      · intro hb
        rw [h2 hb, hl, li_take_succ s i (by omega)]
        simp
    rw [e0]
    rcases up_cases (bt s i) with ⟨h, hu⟩ | ⟨h, hu⟩ | ⟨h, hu⟩ | ⟨h1, h2, h3, h4, h5, hu⟩
    · refine fin (acc ++ s.extract i (i + 1)) (by rw [ByteArray.size_append, hz]) (by rw [li_append, li_one s i (by omega), hu]) (by rw [hu]; omega) fun q hq => ?_
      have step : ∀ k, spec_miUpside.j1 (k + 1) s acc (i : Int) (bt s i) true = spec_miUpside.l0 k s (acc ++ s.extract i (i + 1)) ((i : Int) - 1) := by
        intro k
        simp only [spec_miUpside.j1]
        rw [if_true, e1, show ((i : Int)).toNat = i from rfl, show (((i + 1 : Nat) : Int)).toNat = i + 1 from rfl, hz]
        rw [if_pos (by omega), if_pos (by omega), if_pos (by omega), if_pos (by omega), wrap_id (by omega) (by omega)]
      refine Ev.step (f := fun k => spec_miUpside.j1 k s acc (i : Int) (bt s i) true) (fun k => ?_) (Ev.step step hq)
      simp only [spec_miUpside.l0]
      rw [if_pos (by omega), if_pos (by omega), if_pos (by omega)]
      by_cases h48 : bt s i = 48
      · rw [if_pos h48]; simp [h48]
      · rw [if_neg h48]
        by_cases h49 : bt s i = 49
        · rw [if_pos h49]; simp [h49]
        · rw [if_neg h49]
          have h56 : bt s i = 56 := by omega
          simp [h56]
    all_goals
      have j : ∀ k, spec_miUpside.l0 (k + 1) s acc (i : Int) = spec_miUpside.j1 k s acc (i : Int) (bt s i) false := by
        intro k
        simp only [spec_miUpside.l0]
        rw [if_pos (by omega), if_pos (by omega), if_pos (by omega), if_neg (by omega), if_neg (by omega)]
        have h56 : (bt s (i : Int) == 56) = false := by rw [beq_eq_false_iff_ne]; omega
        rw [h56]
    · refine fin (acc ++ ⟨#[57]⟩) (by rw [ByteArray.size_append]; rfl) (by rw [li_append, hu]; rfl) (by rw [hu]; decide) fun q hq => ?_
      refine Ev.step j (Ev.step (fun k => ?_) hq)
      simp only [spec_miUpside.j1]
      rw [if_neg (by decide), if_pos h, if_pos (by omega), wrap_id (by omega) (by omega)]
    · refine fin (acc ++ ⟨#[54]⟩) (by rw [ByteArray.size_append]; rfl) (by rw [li_append, hu]; rfl) (by rw [hu]; decide) fun q hq => ?_
      refine Ev.step j (Ev.step (fun k => ?_) hq)
      simp only [spec_miUpside.j1]
      rw [if_neg (by decide), if_neg (by omega), if_pos h, if_pos (by omega), wrap_id (by omega) (by omega)]
    · refine ⟨⟨#[]⟩, false, Ev.step j (Ev.step (f := fun _ => some (⟨#[]⟩, false)) (fun k => ?_) (Ev.now _)), ?_, by simp, by simp⟩
      · simp only [spec_miUpside.j1]
        rw [if_neg (by decide), if_neg h4, if_neg h5]
      · simp only [Bool.false_eq_true, false_iff]
        intro h
        exact h i (by omega) hu
theorem miUpside_ev (s : ByteArray) (hs : s.size ≤ 140737488351232) : ∃ t b, Ev (fun k => spec_miUpside.f k s) (t, b) ∧ (b = true ↔ ∀ j : Nat, j < s.size → up (bt s j) ≠ 0) ∧ (b = true → li t = ((li s).map up).reverse) ∧ (b = false → t = ⟨#[]⟩) := by
  obtain ⟨t, b, ht, h1, h2, h3⟩ := up_loop s hs s.size ⟨#[]⟩ (Nat.le_refl _) (by show 0 + s.size ≤ _; omega)
  refine ⟨t, b, ?_, h1, ?_, h3⟩
  · unfold spec_miUpside.f
    rw [wrap_id (by omega) (by omega)]
    exact ht
  · intro hb
    rw [h2 hb, List.take_of_length_le (by rw [li_length]; omega)]
    rfl

end Go.Proofs.Ytpdcjkiejglaiaa.Q

/- Laid by a program of this session (wip/tools/own_print.py) over the translation of this seat: contracts of the functions that the statement reaches. -/
namespace Go.Proofs.Ytpdcjkiejglaiaa.Q
open Go.RowKit Go.Proofs.YtpdcjkiejglaiaaW.PrintWords Go.Proofs.YtpdcjkiejglaiaaW.PrintLast Go.Proofs.YtpdcjkiejglaiaaW.PrintMore
attribute [local go_sem] max2_int min2_int max_two min_two max_three min_three max_four min_four   -- for this text's walks alone
set_option linter.unusedVariables false
set_option linter.unusedSimpArgs false

/-! ### spec_l1Num: function 33 -/
def spec_l1Num.f : Nat → Int → Option (ByteArray)
  | 0, _ => none
  | k + 1, a0 => if a0 < 10 then (some (strOfNums (([(wrap64 (48 + a0)) % 256] : List Int)))) else ((spec_l1Num.f k (wrap64 (Int.tdiv a0 10))).bind fun t104 => ((some (([(wrap64 (48 + (Int.tmod a0 10))) % 256] : List Int) : List Int)).bind fun y105 => (if t104.size + (strOfNums y105).size ≤ 9223372036854775807 then (some (t104 ++ (strOfNums y105))) else (none))))
theorem spec_l1Num.mono_l : ∀ k, (∀ y0, LeO (spec_l1Num.f k y0) (spec_l1Num.f (k + 1) y0))
  | 0 => fun _ r h => by simp [spec_l1Num.f] at h
  | k + 1 => by
    have ih0 := spec_l1Num.mono_l k
    · intro y0
      unfold spec_l1Num.f
      repeat' first
      | (with_reducible exact ih0 _)
      | (with_reducible exact LeO.refl _)
      | (with_reducible exact LeO.none _)
      | (with_reducible refine LeO.ite ?_ ?_)
      | (with_reducible refine LeO.bind ?_ (fun _ => ?_))
      | exact ih0 _
      | exact LeO.none _
      | refine LeO.ite ?_ ?_
      | refine LeO.bind ?_ (fun _ => ?_)
theorem spec_l1Num.mono : ∀ a0 k, LeO (spec_l1Num.f k a0) (spec_l1Num.f (k + 1) a0) := by
  intro a0 k
  have ih0 := spec_l1Num.mono_l k
  exact ih0 a0
def spec_l1Num.T3 : Bool × List (List Nat × List Nat) := (true, [([], []), ([0], [0]), ([1], [1]), ([], []), ([3], [3]), ([4], [4]), ([5], [5]), ([6], [6]), ([7], [7]), ([2, 8], [2, 8]), ([9, 2, 0, 1, 2, 3, 4, 5, 6, 7, 8, 9], [9])])
def spec_l1Num.B3 : List Nat := [0, 1, 3, 0, 8, 24, 56, 120, 248, 511, 1023]
theorem spec_l1Num.tab3 : rtab .any (opsOf Try.f33 3) = spec_l1Num.T3 := by kernel_rfl
theorem spec_l1Num.bits3 : waitsOk spec_l1Num.T3.2 spec_l1Num.B3 = true := by kernel_rfl
set_option maxHeartbeats 8000000 in
set_option maxRecDepth 100000 in
theorem spec_l1Num.calls (k : Nat) : ∀ (a0 : Int) (r : ByteArray) (w : World) (h : spec_l1Num.f k a0 = some r),
    Calls Try.prog 33 #[.int .i64 a0] w fun e w' => e = .returned (.string r) ∧ Below w.heap.size w w' := by
  induction k using Nat.strongRecOn with
  | _ k ih =>
  intro a0 r w h
  cases k with
  | zero => exact absurd h (by simp [spec_l1Num.f])
  | succ k =>
  simp only [spec_l1Num.f] at h
  have HB := Aside0.mk (Below.refl w.heap.size w)
  have H : (if a0 < 10 then (some (strOfNums (([(wrap64 (48 + a0)) % 256] : List Int)))) else ((spec_l1Num.f k (wrap64 (Int.tdiv a0 10))).bind fun t104 => ((some (([(wrap64 (48 + (Int.tmod a0 10))) % 256] : List Int) : List Int)).bind fun y105 => (if t104.size + (strOfNums y105).size ≤ 9223372036854775807 then (some (t104 ++ (strOfNums y105))) else (none))))) = some r := h
  clear h
  by_cases c2 : a0 < 10
  · rw [if_pos c2] at H
    have c2b0 : decide (a0 < 10) = true := decide_eq_true c2
    clear c2
    obtain ⟨y101, hy101⟩ : ∃ y_ : List Int, y_ = (([(wrap64 (48 + a0)) % 256] : List Int)) := ⟨_, rfl⟩
    replace H : (some (strOfNums y101)) = some r := by first | (rw [hy101]; with_reducible exact H) | (have H2_ := (Option.bind_some _ _).symm.trans H; rw [hy101]; with_reducible exact H2_) | (have H2_ := (Option.bind_some _ _).symm.trans H; with_reducible exact H2_) | with_reducible exact H | (rw [hy101]; exact H) | exact H
    have Ny101 := Aside0.mk hy101
    clear hy101
    obtain rfl := Option.some.inj H
    go_enter Try.func33, Try.ntmps33
    go_wp2_with (first | ((with_reducible refine gate_dst (N := 8) rfl ?_); refine Kd.R_lit (Kd.int .u8) _ 5 ?hg (N := 8) ?hd (xs := ([(wrap64 (48 + a0)) % 256] : List Int)) (inner := [.int .u8 ((wrap64 (48 + a0)) % 256)]) (ok := fun _ => True) (okp := fun _ => True) ?hr ?hp (fun _ hk => hk) trivial (Below.refl _ _) (Nat.le_refl _) (by simp) ?_; (case hd => rfl); (case hg => rfl); (case hr => first | (go_simp; done) | (go_simp; rfl)); (case hp => exact (Reps.one (show Kd.M (Kd.int .u8) _ _ _ ((wrap64 (48 + a0)) % 256) [.int .u8 ((wrap64 (48 + a0)) % 256)] from rfl) (Reps.none _ _))); intro v102 w3 ho4 hb hg_ hnew_; clear hg_ hnew_; (first | rw [← Ny101.out] at ho4 | (simp only [Int.reduceToNat] at ho4; rw [← Ny101.out] at ho4)); have n0_ := Aside0.mk (Kd.R_lower ho4 (below_size (by repeat (first | (with_reducible first | exact HB.out | apply below_alloc | apply pw_below_drewN | apply below_drew1) | exact HB.out)))); have n1_ := Aside0.mk (below_step (by repeat (first | (with_reducible first | exact HB.out | apply below_alloc | apply pw_below_drewN | apply below_drew1) | exact HB.out)) hb); clear HB; have HO103 := n0_; have HB := n1_; clear n0_ n1_; clear hb ho4; have hcv5 := own_string (P := Try.prog) Try.underlying39 Try.underlying5 Try.underlying9 (Kd.own_of_R HO103.out)))
    go_ret
    exact ⟨by first | rfl | (simp [errW_none, errW_some] <;> rfl) | (simp [*, errW_none, errW_some] <;> rfl), by repeat (first | (with_reducible first | exact HB.out | apply below_alloc | apply pw_below_drewN | apply below_drew1) | exact HB.out)⟩
  · rw [if_neg c2] at H
    have c2b0 : decide (a0 < 10) = false := decide_eq_false c2
    clear c2
    replace H := Option.bind_eq_some_iff.mp H
    obtain ⟨t104, A60, H⟩ := H
    replace H : ((some (([(wrap64 (48 + (Int.tmod a0 10))) % 256] : List Int) : List Int)).bind fun y105 => (if t104.size + (strOfNums y105).size ≤ 9223372036854775807 then (some (t104 ++ (strOfNums y105))) else (none))) = some r := H
    have A6 := Aside0.mk A60
    clear A60
    obtain ⟨y105, hy105⟩ : ∃ y_ : List Int, y_ = (([(wrap64 (48 + (Int.tmod a0 10))) % 256] : List Int)) := ⟨_, rfl⟩
    replace H : (if t104.size + (strOfNums y105).size ≤ 9223372036854775807 then (some (t104 ++ (strOfNums y105))) else (none)) = some r := by first | (rw [hy105]; with_reducible exact H) | (have H2_ := (Option.bind_some _ _).symm.trans H; rw [hy105]; with_reducible exact H2_) | (have H2_ := (Option.bind_some _ _).symm.trans H; with_reducible exact H2_) | with_reducible exact H | (rw [hy105]; exact H) | exact H
    have Ny105 := Aside0.mk hy105
    clear hy105
    by_cases c7 : t104.size + (strOfNums y105).size ≤ 9223372036854775807
    · rw [if_pos c7] at H
      have c7b0 := eq_true c7
      have c7b1 : decide (t104.size + (strOfNums y105).size ≤ 9223372036854775807) = true := decide_eq_true c7
      try have c7b2 : (9223372036854775807 < t104.size + (strOfNums y105).size) = False := eq_false (Nat.not_lt.2 c7)
      obtain rfl := Option.some.inj H
      go_enter Try.func33, Try.ntmps33
      try go_wp2
      have n0_ := Aside0.mk (below_drew1 HB.out)
      clear HB
      have HB := n0_
      clear n0_
      refine start_ (n := 11) (S := fun w' => True) (ds := []) #[false, false, false, false, false, false, false, false, false, false, false] (by kernel_rfl) rfl rfl trivial (fun hHeld => ?_); refine with_tabW spec_l1Num.tab3 spec_l1Num.bits3 (fun HT_ HW_ => ?_)
      generalize w.drew = w8 at HB hHeld ⊢
      refine pure_ (i := 0) (N := some 10) (v := ?_) (a' := ?_) #[true, false, false, false, false, false, false, false, false, false, false] rfl rfl (any_of HT_.out (by kernel_rfl)) (fun _ _ _ h => h) (Or.inl ⟨by rfl, ?_⟩) ?_ ?_
      rotate_left
      · intro w'
        go_simp
        with_reducible rfl
      rotate_left
      · simp only [Act.put, List.setIfInBounds_toArray, List.set_cons_zero, List.set_cons_succ, i64_w, i32_w]
        rfl
      refine pure_ (i := 1) (N := some 11) (v := ?_) (a' := ?_) #[true, true, false, false, false, false, false, false, false, false, false] rfl rfl (any_of HT_.out (by kernel_rfl)) (fun _ _ _ h => h) (Or.inl ⟨by rfl, ?_⟩) ?_ ?_
      rotate_left
      · intro w'
        go_simp
        with_reducible rfl
      rotate_left
      · simp only [Act.put, List.setIfInBounds_toArray, List.set_cons_zero, List.set_cons_succ, i64_w, i32_w]
        rfl
      refine pure_ (i := 3) (N := some 13) (v := ?_) (a' := ?_) #[true, true, false, true, false, false, false, false, false, false, false] rfl rfl (any_of HT_.out (by kernel_rfl)) (fun _ _ _ h => h) (Or.inl ⟨by rfl, ?_⟩) ?_ ?_
      rotate_left
      · intro w'
        go_simp
        with_reducible rfl
      rotate_left
      · simp only [Act.put, List.setIfInBounds_toArray, List.set_cons_zero, List.set_cons_succ, i64_w, i32_w]
        rfl
      refine pure_ (i := 4) (N := some 14) (v := ?_) (a' := ?_) #[true, true, false, true, true, false, false, false, false, false, false] rfl rfl (any_of HT_.out (by kernel_rfl)) (fun _ _ _ h => h) (Or.inl ⟨by rfl, ?_⟩) ?_ ?_
      rotate_left
      · intro w'
        go_simp
        with_reducible rfl
      rotate_left
      · simp only [Act.put, List.setIfInBounds_toArray, List.set_cons_zero, List.set_cons_succ, i64_w, i32_w]
        rfl
      refine pure_ (i := 5) (N := some 15) (v := ?_) (a' := ?_) #[true, true, false, true, true, true, false, false, false, false, false] rfl rfl (any_of HT_.out (by kernel_rfl)) (fun _ _ _ h => h) (Or.inl ⟨by rfl, ?_⟩) ?_ ?_
      rotate_left
      · intro w'
        go_simp
        with_reducible rfl
      rotate_left
      · simp only [Act.put, List.setIfInBounds_toArray, List.set_cons_zero, List.set_cons_succ, i64_w, i32_w]
        rfl
      refine pure_ (i := 6) (N := some 16) (v := ?_) (a' := ?_) #[true, true, false, true, true, true, true, false, false, false, false] rfl rfl (any_of HT_.out (by kernel_rfl)) (fun _ _ _ h => h) (Or.inl ⟨by rfl, ?_⟩) ?_ ?_
      rotate_left
      · intro w'
        go_simp
        with_reducible rfl
      rotate_left
      · simp only [Act.put, List.setIfInBounds_toArray, List.set_cons_zero, List.set_cons_succ, i64_w, i32_w]
        rfl
      refine join_ (σ := Value) 2 #[true, true, true, true, true, true, true, true, true, false, false] (fun s_ => [(12, .string t104), (17, s_), (18, .string (strOfNums y105))]) (fun s_ w' => (Kd.R (Kd.int .u8) 5 w' w.heap.size (fun _ => True) s_ y105) ∧ (Below w.heap.size w w')) ?_ ?_
      rotate_left
      · intro hCont
        refine two_ (i := 2) (j := 7) (Ni := some 12) (Nj := some 17) #[true, true, true, true, true, true, true, false, false, false, false] #[true, true, false, true, true, true, true, true, false, false, false] rfl rfl rfl rfl (two_of HT_.out (by kernel_rfl)) (by decide) (by decide) (fun K hK => ?_) (fun K hK => ?_)
        · skip
          refine goes_ Try.func33 (by kernel_rfl) rfl #[.int .i64 (wrap64 (Int.tdiv a0 10))] (by rfl) rfl rfl (by (try simp only [List.map_toArray, List.map_cons, List.map_nil]); first | done | rfl | (simp only [List.length_drop, List.length_take]; rfl)) ?_
          with_reducible refine (ih k (by omega) (wrap64 (Int.tdiv a0 10)) t104 _ A6.out).mono ?_
          rintro e w9 ⟨rfl, hb⟩
          refine ⟨_, rfl, ?_⟩
          have n0_ := Aside0.mk (below_step (by repeat (first | (with_reducible first | exact HB.out | apply below_alloc | apply pw_below_drewN | apply below_drew1) | exact HB.out)) hb)
          clear HB
          have HB := n0_
          clear n0_
          (try clear hb)
          (try clear hb2)
          (try clear hk)
          (try clear hi)
          refine hK.out _ _ trivial (fun hHeld => ?_)
          clear hK K
          refine norm_ (a' := ?_) ?_ ?_
          rotate_left
          · show Act.put _ (some 12) _ = _
            simp only [Act.put, List.setIfInBounds_toArray, List.set_cons_zero, List.set_cons_succ, i64_w, i32_w]
            rfl
          refine one_ (i := 7) (N := some 17) #[true, true, true, true, true, true, true, true, false, false, false] rfl rfl (one_of HT_.out (by kernel_rfl)) (by decide) (fun K hK => ?_)
          refine Kd.R_lit_step (Kd.int .u8) _ 5 ?hg (N := 17) ?hd (xs := ([(wrap64 (48 + (Int.tmod a0 10))) % 256] : List Int)) (inner := [.int .u8 ((wrap64 (48 + (Int.tmod a0 10))) % 256)]) (ok := fun _ => True) (okp := fun _ => True) ?hr ?hp (fun _ hk => hk) trivial (Below.refl _ _) (Nat.le_refl _) (by simp) ?_; (case hd => rfl); (case hg => rfl); (case hr => first | (go_simp; done) | (go_simp; rfl)); (case hp => exact (Reps.one (show Kd.M (Kd.int .u8) _ _ _ ((wrap64 (48 + (Int.tmod a0 10))) % 256) [.int .u8 ((wrap64 (48 + (Int.tmod a0 10))) % 256)] from rfl) (Reps.none _ _)))
          intro v106 w10 ho11 hb hg_ hnew_
          clear hg_ hnew_
          (first | rw [← Ny105.out] at ho11 | (simp only [Int.reduceToNat] at ho11; rw [← Ny105.out] at ho11))
          have n0_ := Aside0.mk (Kd.R_lower ho11 (below_size (by repeat (first | (with_reducible first | exact HB.out | apply below_alloc | apply pw_below_drewN | apply below_drew1) | exact HB.out))))
          have n1_ := Aside0.mk (below_step (by repeat (first | (with_reducible first | exact HB.out | apply below_alloc | apply pw_below_drewN | apply below_drew1) | exact HB.out)) hb)
          clear HB
          have HO107 := n0_
          have HB := n1_
          clear n0_ n1_
          clear hb ho11
          refine hK.out _ _ trivial (fun hHeld => ?_)
          clear hK K
          refine norm_ (a' := ?_) ?_ ?_
          rotate_left
          · show Act.put _ (some 17) _ = _
            simp only [Act.put, List.setIfInBounds_toArray, List.set_cons_zero, List.set_cons_succ, i64_w, i32_w]
            rfl
          refine one_ (i := 8) (N := some 18) #[true, true, true, true, true, true, true, true, true, false, false] rfl rfl (one_of HT_.out (by kernel_rfl)) (by decide) (fun K hK => ?_)
          have hcv12 := own_string (P := Try.prog) Try.underlying39 Try.underlying5 Try.underlying9 (Kd.own_of_R HO107.out)
          refine value_ (w1 := ?_) (v := ?_) (by rfl) rfl ?_ ?_
          rotate_left 2
          · go_simp
            constructor
            · rfl
            · rfl
          clear hcv12
          refine hK.out _ _ trivial (fun hHeld => ?_)
          clear hK K
          refine norm_ (a' := ?_) ?_ ?_
          rotate_left
          · show Act.put _ (some 18) _ = _
            simp only [Act.put, List.setIfInBounds_toArray, List.set_cons_zero, List.set_cons_succ, i64_w, i32_w]
            rfl
          exact norm_ (by simp only [putAll, Act.put, List.setIfInBounds_toArray, List.set_cons_zero, List.set_cons_succ]) (hCont (v106) _ ⟨(by (with_reducible repeat (first | apply Kd.R_alloc | apply Kd.R_drewN | apply Kd.R_drew)); exact HO107.out), (by repeat (first | (with_reducible first | exact HB.out | apply below_alloc | apply pw_below_drewN | apply below_drew1) | exact HB.out))⟩)
        · skip
          refine Kd.R_lit_step (Kd.int .u8) _ 5 ?hg (N := 17) ?hd (xs := ([(wrap64 (48 + (Int.tmod a0 10))) % 256] : List Int)) (inner := [.int .u8 ((wrap64 (48 + (Int.tmod a0 10))) % 256)]) (ok := fun _ => True) (okp := fun _ => True) ?hr ?hp (fun _ hk => hk) trivial (Below.refl _ _) (Nat.le_refl _) (by simp) ?_; (case hd => rfl); (case hg => rfl); (case hr => first | (go_simp; done) | (go_simp; rfl)); (case hp => exact (Reps.one (show Kd.M (Kd.int .u8) _ _ _ ((wrap64 (48 + (Int.tmod a0 10))) % 256) [.int .u8 ((wrap64 (48 + (Int.tmod a0 10))) % 256)] from rfl) (Reps.none _ _)))
          intro v106 w9 ho10 hb hg_ hnew_
          clear hg_ hnew_
          (first | rw [← Ny105.out] at ho10 | (simp only [Int.reduceToNat] at ho10; rw [← Ny105.out] at ho10))
          have n0_ := Aside0.mk (Kd.R_lower ho10 (below_size (by repeat (first | (with_reducible first | exact HB.out | apply below_alloc | apply pw_below_drewN | apply below_drew1) | exact HB.out))))
          have n1_ := Aside0.mk (below_step (by repeat (first | (with_reducible first | exact HB.out | apply below_alloc | apply pw_below_drewN | apply below_drew1) | exact HB.out)) hb)
          clear HB
          have HO107 := n0_
          have HB := n1_
          clear n0_ n1_
          clear hb ho10
          refine hK.out _ _ trivial (fun hHeld => ?_)
          clear hK K
          refine norm_ (a' := ?_) ?_ ?_
          rotate_left
          · show Act.put _ (some 17) _ = _
            simp only [Act.put, List.setIfInBounds_toArray, List.set_cons_zero, List.set_cons_succ, i64_w, i32_w]
            rfl
          refine two_ (i := 2) (j := 8) (Ni := some 12) (Nj := some 18) #[true, true, true, true, true, true, true, true, false, false, false] #[true, true, false, true, true, true, true, true, true, false, false] rfl rfl rfl rfl (two_of HT_.out (by kernel_rfl)) (by decide) (by decide) (fun K hK => ?_) (fun K hK => ?_)
          · skip
            refine goes_ Try.func33 (by kernel_rfl) rfl #[.int .i64 (wrap64 (Int.tdiv a0 10))] (by rfl) rfl rfl (by (try simp only [List.map_toArray, List.map_cons, List.map_nil]); first | done | rfl | (simp only [List.length_drop, List.length_take]; rfl)) ?_
            with_reducible refine (ih k (by omega) (wrap64 (Int.tdiv a0 10)) t104 _ A6.out).mono ?_
            rintro e w11 ⟨rfl, hb⟩
            refine ⟨_, rfl, ?_⟩
            have n0_ := Aside0.mk (Kd.R_below (by (with_reducible repeat (first | apply Kd.R_alloc | apply Kd.R_drewN | apply Kd.R_drew)); exact HO107.out) hb)
            have n1_ := Aside0.mk (below_step (by repeat (first | (with_reducible first | exact HB.out | apply below_alloc | apply pw_below_drewN | apply below_drew1) | exact HB.out)) hb)
            clear HO107
            clear HB
            have HO107 := n0_
            have HB := n1_
            clear n0_ n1_
            (try clear hb)
            (try clear hb2)
            (try clear hk)
            (try clear hi)
            refine hK.out _ _ trivial (fun hHeld => ?_)
            clear hK K
            refine norm_ (a' := ?_) ?_ ?_
            rotate_left
            · show Act.put _ (some 12) _ = _
              simp only [Act.put, List.setIfInBounds_toArray, List.set_cons_zero, List.set_cons_succ, i64_w, i32_w]
              rfl
            refine one_ (i := 8) (N := some 18) #[true, true, true, true, true, true, true, true, true, false, false] rfl rfl (one_of HT_.out (by kernel_rfl)) (by decide) (fun K hK => ?_)
            have hcv12 := own_string (P := Try.prog) Try.underlying39 Try.underlying5 Try.underlying9 (Kd.own_of_R HO107.out)
            refine value_ (w1 := ?_) (v := ?_) (by rfl) rfl ?_ ?_
            rotate_left 2
            · go_simp
              constructor
              · rfl
              · rfl
            clear hcv12
            refine hK.out _ _ trivial (fun hHeld => ?_)
            clear hK K
            refine norm_ (a' := ?_) ?_ ?_
            rotate_left
            · show Act.put _ (some 18) _ = _
              simp only [Act.put, List.setIfInBounds_toArray, List.set_cons_zero, List.set_cons_succ, i64_w, i32_w]
              rfl
            exact norm_ (by simp only [putAll, Act.put, List.setIfInBounds_toArray, List.set_cons_zero, List.set_cons_succ]) (hCont (v106) _ ⟨(by (with_reducible repeat (first | apply Kd.R_alloc | apply Kd.R_drewN | apply Kd.R_drew)); exact HO107.out), (by repeat (first | (with_reducible first | exact HB.out | apply below_alloc | apply pw_below_drewN | apply below_drew1) | exact HB.out))⟩)
          · skip
            have hcv11 := own_string (P := Try.prog) Try.underlying39 Try.underlying5 Try.underlying9 (Kd.own_of_R HO107.out)
            refine value_ (w1 := ?_) (v := ?_) (by rfl) rfl ?_ ?_
            rotate_left 2
            · go_simp
              constructor
              · rfl
              · rfl
            clear hcv11
            refine hK.out _ _ trivial (fun hHeld => ?_)
            clear hK K
            refine norm_ (a' := ?_) ?_ ?_
            rotate_left
            · show Act.put _ (some 18) _ = _
              simp only [Act.put, List.setIfInBounds_toArray, List.set_cons_zero, List.set_cons_succ, i64_w, i32_w]
              rfl
            refine one_ (i := 2) (N := some 12) #[true, true, true, true, true, true, true, true, true, false, false] rfl rfl (one_of HT_.out (by kernel_rfl)) (by decide) (fun K hK => ?_)
            refine goes_ Try.func33 (by kernel_rfl) rfl #[.int .i64 (wrap64 (Int.tdiv a0 10))] (by rfl) rfl rfl (by (try simp only [List.map_toArray, List.map_cons, List.map_nil]); first | done | rfl | (simp only [List.length_drop, List.length_take]; rfl)) ?_
            with_reducible refine (ih k (by omega) (wrap64 (Int.tdiv a0 10)) t104 _ A6.out).mono ?_
            rintro e w12 ⟨rfl, hb⟩
            refine ⟨_, rfl, ?_⟩
            have n0_ := Aside0.mk (Kd.R_below (by (with_reducible repeat (first | apply Kd.R_alloc | apply Kd.R_drewN | apply Kd.R_drew)); exact HO107.out) hb)
            have n1_ := Aside0.mk (below_step (by repeat (first | (with_reducible first | exact HB.out | apply below_alloc | apply pw_below_drewN | apply below_drew1) | exact HB.out)) hb)
            clear HO107
            clear HB
            have HO107 := n0_
            have HB := n1_
            clear n0_ n1_
            (try clear hb)
            (try clear hb2)
            (try clear hk)
            (try clear hi)
            refine hK.out _ _ trivial (fun hHeld => ?_)
            clear hK K
            refine norm_ (a' := ?_) ?_ ?_
            rotate_left
            · show Act.put _ (some 12) _ = _
              simp only [Act.put, List.setIfInBounds_toArray, List.set_cons_zero, List.set_cons_succ, i64_w, i32_w]
              rfl
            exact norm_ (by simp only [putAll, Act.put, List.setIfInBounds_toArray, List.set_cons_zero, List.set_cons_succ]) (hCont (v106) _ ⟨(by (with_reducible repeat (first | apply Kd.R_alloc | apply Kd.R_drewN | apply Kd.R_drew)); exact HO107.out), (by repeat (first | (with_reducible first | exact HB.out | apply below_alloc | apply pw_below_drewN | apply below_drew1) | exact HB.out))⟩)
      rintro v106 w13 ⟨h0_, h1_⟩
      have n0_ : Aside0 (Kd.R (Kd.int .u8) 5 w13 w.heap.size (fun _ => True) v106 y105) := ⟨h0_⟩
      have n1_ : Aside0 (Below w.heap.size w w13) := ⟨h1_⟩
      clear HB
      clear h0_ h1_
      have HO107 := n0_
      have HB := n1_
      clear n0_ n1_
      have hHeld := trivial
      refine norm_ (a' := ?_) ?_ ?_
      rotate_left
      · simp only [putAll, Act.put, List.setIfInBounds_toArray, List.set_cons_zero, List.set_cons_succ]
        rfl
      refine pure_ (i := 9) (N := some 19) (v := ?_) (a' := ?_) #[true, true, true, true, true, true, true, true, true, true, false] rfl rfl (any_of HT_.out (by kernel_rfl)) (fun _ _ _ h => h) (Or.inl ⟨by rfl, ?_⟩) ?_ ?_
      rotate_left
      · intro w'
        go_simp
        with_reducible rfl
      rotate_left
      · simp only [Act.put, List.setIfInBounds_toArray, List.set_cons_zero, List.set_cons_succ, i64_w, i32_w]
        rfl
      refine pure_ (i := 10) (N := some 2) (v := ?_) (a' := ?_) #[true, true, true, true, true, true, true, true, true, true, true] rfl rfl (any_of HT_.out (by kernel_rfl)) (fun _ _ _ h => h) (Or.inl ⟨by rfl, ?_⟩) ?_ ?_
      rotate_left
      · intro w'
        go_simp
        with_reducible rfl
      rotate_left
      · simp only [Act.put, List.setIfInBounds_toArray, List.set_cons_zero, List.set_cons_succ, i64_w, i32_w]
        rfl
      refine done_ (done_of HT_.out (by kernel_rfl)) ?_
      try go_wp2
      go_ret
      exact ⟨by first | rfl | (simp [errW_none, errW_some] <;> rfl) | (simp [*, errW_none, errW_some] <;> rfl), by repeat (first | (with_reducible first | exact HB.out | apply below_alloc | apply pw_below_drewN | apply below_drew1) | exact HB.out)⟩
    · rw [if_neg c7] at H
      exact absurd H (by simp)

end Go.Proofs.Ytpdcjkiejglaiaa.Q

/- Laid by a program of this session (wip/tools/own_print.py) over the translation of this seat: contracts of the functions that the statement reaches. -/
namespace Go.Proofs.Ytpdcjkiejglaiaa.Q
open Go.RowKit Go.Proofs.YtpdcjkiejglaiaaW.PrintWords Go.Proofs.YtpdcjkiejglaiaaW.PrintLast Go.Proofs.YtpdcjkiejglaiaaW.PrintMore
attribute [local go_sem] max2_int min2_int max_two min_two max_three min_three max_four min_four   -- for this text's walks alone
set_option linter.unusedVariables false
set_option linter.unusedSimpArgs false

/-! ### spec_miAll: function 40 -/
def spec_miAll.l0 : Nat → Int → Int → Option (Int)
  | 0, _, _ => none
  | k + 1, x0, x3 => if x0 > 0 then (spec_miAll.l0 k (wrap64 (x0 - 1)) (wrap64 (x3 * 10))) else (some x3)
def spec_miAll.f (k : Nat) (a0 : Int) : Option (Int) := spec_miAll.l0 k a0 1
theorem spec_miAll.mono_l : ∀ k, (∀ y0 y1, LeO (spec_miAll.l0 k y0 y1) (spec_miAll.l0 (k + 1) y0 y1))
  | 0 => fun _ _ r h => by simp [spec_miAll.l0] at h
  | k + 1 => by
    have ih0 := spec_miAll.mono_l k
    · intro y0 y1
      unfold spec_miAll.l0
      repeat' first
      | (with_reducible exact ih0 _ _)
      | (with_reducible exact LeO.refl _)
      | (with_reducible exact LeO.none _)
      | (with_reducible refine LeO.ite ?_ ?_)
      | (with_reducible refine LeO.bind ?_ (fun _ => ?_))
      | exact ih0 _ _
      | exact LeO.none _
      | refine LeO.ite ?_ ?_
      | refine LeO.bind ?_ (fun _ => ?_)
theorem spec_miAll.mono : ∀ a0 k, LeO (spec_miAll.f k a0) (spec_miAll.f (k + 1) a0) := by
  intro a0 k
  have ih0 := spec_miAll.mono_l k
  unfold spec_miAll.f
  repeat' first
      | (with_reducible exact ih0 _ _)
      | (with_reducible exact LeO.refl _)
      | (with_reducible exact LeO.none _)
      | (with_reducible refine LeO.ite ?_ ?_)
      | (with_reducible refine LeO.bind ?_ (fun _ => ?_))
      | exact ih0 _ _
      | exact LeO.none _
      | refine LeO.ite ?_ ?_
      | refine LeO.bind ?_ (fun _ => ?_)
set_option maxHeartbeats 8000000 in
set_option maxRecDepth 100000 in
theorem spec_miAll.calls (k : Nat) (a0 : Int) (r : Int) (w : World) (h : spec_miAll.f k a0 = some r) :
    Calls Try.prog 40 #[.int .i64 a0] w fun e w' => e = .returned (.int .i64 r) ∧ Drawn0 w w' := by
  have H : (spec_miAll.l0 k a0 1) = some r := h
  clear h
  have H' := Aside0.mk H
  clear H
  go_enter Try.func40, Try.ntmps40
  go_wp2
  go_loopg [0, 3] k (fun kq v0 v3 w' => ∃ (x0_1 : Int) (x3_1 : Int), v0 = .int .i64 x0_1 ∧ v3 = .int .i64 x3_1 ∧ Aside0 (spec_miAll.l0 kq x0_1 x3_1 = some r) ∧ Aside0 (kq ≤ k) ∧ Drawn0 w w')
  case atStart => exact ⟨(a0), (1), (by first | rfl | (simp; done) | (simp [*]; done)), (by first | rfl | (simp; done) | (simp [*]; done)), H', ⟨Nat.le_refl _⟩, by repeat (first | exact Drawn0.refl _ | apply Drawn0.step)⟩
  case round =>
    clear H'
    obtain ⟨x0_1, x3_1, rfl, rfl, HA, HK1, ⟨m1, rfl⟩⟩ := hrel
    cases gk with
    | zero => exact absurd HA.out (by simp [spec_miAll.l0])
    | succ k1 =>
      have H := HA.out
      clear HA
      simp only [spec_miAll.l0] at H
      by_cases c2 : x0_1 > 0
      · rw [if_pos c2] at H
        have c2b0 : decide (0 < x0_1) = true := decide_eq_true c2
        clear c2
        have H' := Aside0.mk H
        clear H
        go_wp2
        go_roundg k1
        case measure => have := HK1.out; omega
        case rel => exact ⟨(wrap64 (x0_1 - 1)), (wrap64 (x3_1 * 10)), (by first | rfl | (simp; done) | (simp [*]; done)), (by first | rfl | (simp; done) | (simp [*]; done)), H', ⟨by have := HK1.out; omega⟩, by repeat (first | exact Drawn0.refl _ | apply Drawn0.step)⟩
      · rw [if_neg c2] at H
        have c2b0 : decide (0 < x0_1) = false := decide_eq_false c2
        clear c2
        obtain rfl := Option.some.inj H
        go_wp2
        go_ret
        exact ⟨by first | rfl | (simp; done) | (simp [*]; done), by repeat (first | exact Drawn0.refl _ | apply Drawn0.step)⟩

end Go.Proofs.Ytpdcjkiejglaiaa.Q

/- Laid by a program of this session (wip/tools/own_print.py) over the translation of this seat: contracts of the functions that the statement reaches. -/
namespace Go.Proofs.Ytpdcjkiejglaiaa.Q
open Go.RowKit Go.Proofs.YtpdcjkiejglaiaaW.PrintWords Go.Proofs.YtpdcjkiejglaiaaW.PrintLast Go.Proofs.YtpdcjkiejglaiaaW.PrintMore
attribute [local go_sem] max2_int min2_int max_two min_two max_three min_three max_four min_four   -- for this text's walks alone
set_option linter.unusedVariables false
set_option linter.unusedSimpArgs false

/-! ### spec_tkNumber: function 42 -/
def spec_tkNumber.l0 : Nat → ByteArray → Int → Int → Option (Int)
  | 0, _, _, _ => none
  | k + 1, x0, x3, x4 => if x4 < (x0.size : Int) then (if 0 ≤ x4 then (spec_tkNumber.l0 k x0 (wrap64 ((wrap64 (x3 * 10)) + (((bt x0 x4) - 48) % 256))) (wrap64 (x4 + 1))) else (none)) else (some x3)
def spec_tkNumber.f (k : Nat) (a0 : ByteArray) : Option (Int) := spec_tkNumber.l0 k a0 0 0
theorem spec_tkNumber.mono_l : ∀ k, (∀ y0 y1 y2, LeO (spec_tkNumber.l0 k y0 y1 y2) (spec_tkNumber.l0 (k + 1) y0 y1 y2))
  | 0 => fun _ _ _ r h => by simp [spec_tkNumber.l0] at h
  | k + 1 => by
    have ih0 := spec_tkNumber.mono_l k
    · intro y0 y1 y2
      unfold spec_tkNumber.l0
      repeat' first
      | (with_reducible exact ih0 _ _ _)
      | (with_reducible exact LeO.refl _)
      | (with_reducible exact LeO.none _)
      | (with_reducible refine LeO.ite ?_ ?_)
      | (with_reducible refine LeO.bind ?_ (fun _ => ?_))
      | exact ih0 _ _ _
      | exact LeO.none _
      | refine LeO.ite ?_ ?_
      | refine LeO.bind ?_ (fun _ => ?_)
theorem spec_tkNumber.mono : ∀ a0 k, LeO (spec_tkNumber.f k a0) (spec_tkNumber.f (k + 1) a0) := by
  intro a0 k
  have ih0 := spec_tkNumber.mono_l k
  unfold spec_tkNumber.f
  repeat' first
      | (with_reducible exact ih0 _ _ _)
      | (with_reducible exact LeO.refl _)
      | (with_reducible exact LeO.none _)
      | (with_reducible refine LeO.ite ?_ ?_)
      | (with_reducible refine LeO.bind ?_ (fun _ => ?_))
      | exact ih0 _ _ _
      | exact LeO.none _
      | refine LeO.ite ?_ ?_
      | refine LeO.bind ?_ (fun _ => ?_)
set_option maxHeartbeats 8000000 in
set_option maxRecDepth 100000 in
theorem spec_tkNumber.calls (k : Nat) (a0 : ByteArray) (r : Int) (w : World) (h : spec_tkNumber.f k a0 = some r) :
    Calls Try.prog 42 #[.string a0] w fun e w' => e = .returned (.int .i64 r) ∧ Drawn0 w w' := by
  have H : (spec_tkNumber.l0 k a0 0 0) = some r := h
  clear h
  have H' := Aside0.mk H
  clear H
  go_enter Try.func42, Try.ntmps42
  go_wp2
  go_loopg [3, 4] k (fun kq v3 v4 w' => ∃ (x3_1 : Int) (x4_1 : Int), v3 = .int .i64 x3_1 ∧ v4 = .int .i64 x4_1 ∧ Aside0 (spec_tkNumber.l0 kq a0 x3_1 x4_1 = some r) ∧ Aside0 (kq ≤ k) ∧ Drawn0 w w')
  case atStart => exact ⟨(0), (0), (by first | rfl | (simp; done) | (simp [*]; done)), (by first | rfl | (simp; done) | (simp [*]; done)), H', ⟨Nat.le_refl _⟩, by repeat (first | exact Drawn0.refl _ | apply Drawn0.step)⟩
  case round =>
    clear H'
    obtain ⟨x3_1, x4_1, rfl, rfl, HA, HK1, ⟨m1, rfl⟩⟩ := hrel
    cases gk with
    | zero => exact absurd HA.out (by simp [spec_tkNumber.l0])
    | succ k1 =>
      have H := HA.out
      clear HA
      simp only [spec_tkNumber.l0] at H
      by_cases c2 : x4_1 < (a0.size : Int)
      · rw [if_pos c2] at H
        have c2b0 : decide (x4_1 < (a0.size : Int)) = true := decide_eq_true c2
        clear c2
        by_cases c3 : 0 ≤ x4_1
        · rw [if_pos c3] at H
          have c3b0 : decide (0 ≤ x4_1) = true := decide_eq_true c3
          clear c3
          have H' := Aside0.mk H
          clear H
          have p4 : 0 ≤ (x4_1 : Int) := of_decide_eq_true (by first | (with_reducible assumption) | assumption)
          have q4 : x4_1 < (a0.size : Int) := of_decide_eq_true (by first | (with_reducible assumption) | assumption)
          have hx4 := bt_at a0 x4_1
          replace p4 := eq_true p4
          replace q4 := eq_true q4
          go_wp2
          go_roundg k1
          case measure => have := HK1.out; omega
          case rel => exact ⟨(wrap64 ((wrap64 (x3_1 * 10)) + (((bt a0 x4_1) - 48) % 256))), (wrap64 (x4_1 + 1)), (by first | rfl | (simp; done) | (simp [*]; done)), (by first | rfl | (simp; done) | (simp [*]; done)), H', ⟨by have := HK1.out; omega⟩, by repeat (first | exact Drawn0.refl _ | apply Drawn0.step)⟩
        · rw [if_neg c3] at H
          exact absurd H (by simp)
      · rw [if_neg c2] at H
        have c2b0 : decide (x4_1 < (a0.size : Int)) = false := decide_eq_false c2
        clear c2
        obtain rfl := Option.some.inj H
        go_wp2
        go_ret
        exact ⟨by first | rfl | (simp; done) | (simp [*]; done), by repeat (first | exact Drawn0.refl _ | apply Drawn0.step)⟩

end Go.Proofs.Ytpdcjkiejglaiaa.Q

/- Laid by a program of this session (wip/tools/own_print.py) over the translation of this seat: contracts of the functions that the statement reaches. -/
namespace Go.Proofs.Ytpdcjkiejglaiaa.Q
open Go.RowKit Go.Proofs.YtpdcjkiejglaiaaW.PrintWords Go.Proofs.YtpdcjkiejglaiaaW.PrintLast Go.Proofs.YtpdcjkiejglaiaaW.PrintMore
attribute [local go_sem] max2_int min2_int max_two min_two max_three min_three max_four min_four   -- for this text's walks alone
set_option linter.unusedVariables false
set_option linter.unusedSimpArgs false

/-! ### spec_miTo: function 39 -/
def spec_miTo.f (k : Nat) (a0 : ByteArray) (a1 : ByteArray) : Option (Int) := (spec_miAll.f k (a0.size : Int)).bind fun t101 => ((spec_tkNumber.f k a1).bind fun t102 => ((spec_tkNumber.f k a0).bind fun t103 => (if t101 = 0 then (none) else (some (Int.tmod (wrap64 ((wrap64 (t102 - t103)) + t101)) t101)))))
theorem spec_miTo.mono : ∀ a0 a1 k, LeO (spec_miTo.f k a0 a1) (spec_miTo.f (k + 1) a0 a1) := by
  intro a0 a1 k
  unfold spec_miTo.f
  repeat' first
      | (with_reducible exact spec_miAll.mono _ _)
      | (with_reducible exact spec_tkNumber.mono _ _)
      | (with_reducible exact LeO.refl _)
      | (with_reducible exact LeO.none _)
      | (with_reducible refine LeO.ite ?_ ?_)
      | (with_reducible refine LeO.bind ?_ (fun _ => ?_))
      | exact spec_miAll.mono _ _
      | exact spec_tkNumber.mono _ _
      | exact LeO.none _
      | refine LeO.ite ?_ ?_
      | refine LeO.bind ?_ (fun _ => ?_)
set_option maxHeartbeats 8000000 in
set_option maxRecDepth 100000 in
theorem spec_miTo.calls (k : Nat) (a0 : ByteArray) (a1 : ByteArray) (r : Int) (w : World) (h : spec_miTo.f k a0 a1 = some r) :
    Calls Try.prog 39 #[.string a0, .string a1] w fun e w' => e = .returned (.int .i64 r) ∧ Drawn0 w w' := by
  have H : ((spec_miAll.f k (a0.size : Int)).bind fun t101 => ((spec_tkNumber.f k a1).bind fun t102 => ((spec_tkNumber.f k a0).bind fun t103 => (if t101 = 0 then (none) else (some (Int.tmod (wrap64 ((wrap64 (t102 - t103)) + t101)) t101)))))) = some r := h
  clear h
  replace H := Option.bind_eq_some_iff.mp H
  obtain ⟨t101, A30, H⟩ := H
  replace H : ((spec_tkNumber.f k a1).bind fun t102 => ((spec_tkNumber.f k a0).bind fun t103 => (if t101 = 0 then (none) else (some (Int.tmod (wrap64 ((wrap64 (t102 - t103)) + t101)) t101))))) = some r := H
  have A3 := Aside0.mk A30
  clear A30
  replace H := Option.bind_eq_some_iff.mp H
  obtain ⟨t102, A40, H⟩ := H
  replace H : ((spec_tkNumber.f k a0).bind fun t103 => (if t101 = 0 then (none) else (some (Int.tmod (wrap64 ((wrap64 (t102 - t103)) + t101)) t101)))) = some r := H
  have A4 := Aside0.mk A40
  clear A40
  replace H := Option.bind_eq_some_iff.mp H
  obtain ⟨t103, A50, H⟩ := H
  replace H : (if t101 = 0 then (none) else (some (Int.tmod (wrap64 ((wrap64 (t102 - t103)) + t101)) t101))) = some r := H
  have A5 := Aside0.mk A50
  clear A50
  by_cases c6 : t101 = 0
  · rw [if_pos c6] at H
    exact absurd H (by simp)
  · rw [if_neg c6] at H
    have c6b0 : (t101 == 0) = false := beq_eq_false_iff_ne.mpr c6
    have c6b1 : (t101 != 0) = true := bne_iff_ne.mpr c6
    obtain rfl := Option.some.inj H
    go_enter Try.func39, Try.ntmps39
    go_wp2_with (first | ((with_reducible refine gate_callee (f := 40) rfl ?_); refine goesL_ (some 8) rfl rfl Try.func40 (by kernel_rfl) rfl #[.int .i64 (a0.size : Int)] rfl (by (try simp only [List.map_toArray, List.map_cons, List.map_nil]); first | done | rfl | (simp only [List.length_drop, List.length_take]; rfl)) ?_; (with_reducible refine (spec_miAll.calls k (a0.size : Int) t101 _ A3.out).mono ?_); rintro e w' ⟨rfl, ⟨nd, rfl⟩⟩; refine ⟨_, rfl, ?_⟩) | ((with_reducible refine gate_callee (f := 42) rfl ?_); refine goesL_ (some 10) rfl rfl Try.func42 (by kernel_rfl) rfl #[.string a1] rfl (by (try simp only [List.map_toArray, List.map_cons, List.map_nil]); first | done | rfl | (simp only [List.length_drop, List.length_take]; rfl)) ?_; (with_reducible refine (spec_tkNumber.calls k a1 t102 _ A4.out).mono ?_); rintro e w' ⟨rfl, ⟨nd, rfl⟩⟩; refine ⟨_, rfl, ?_⟩) | ((with_reducible refine gate_callee (f := 42) rfl ?_); refine goesL_ (some 12) rfl rfl Try.func42 (by kernel_rfl) rfl #[.string a0] rfl (by (try simp only [List.map_toArray, List.map_cons, List.map_nil]); first | done | rfl | (simp only [List.length_drop, List.length_take]; rfl)) ?_; (with_reducible refine (spec_tkNumber.calls k a0 t103 _ A5.out).mono ?_); rintro e w' ⟨rfl, ⟨nd, rfl⟩⟩; refine ⟨_, rfl, ?_⟩))
    go_ret
    exact ⟨by first | rfl | (simp; done) | (simp [*]; done), by repeat (first | exact Drawn0.refl _ | apply Drawn0.step)⟩

end Go.Proofs.Ytpdcjkiejglaiaa.Q

/- Laid by a program of this session (wip/tools/own_print.py) over the translation of this seat: contracts of the functions that the statement reaches. -/
namespace Go.Proofs.Ytpdcjkiejglaiaa.Q
open Go.RowKit Go.Proofs.YtpdcjkiejglaiaaW.PrintWords Go.Proofs.YtpdcjkiejglaiaaW.PrintLast Go.Proofs.YtpdcjkiejglaiaaW.PrintMore
attribute [local go_sem] max2_int min2_int max_two min_two max_three min_three max_four min_four   -- for this text's walks alone
set_option linter.unusedVariables false
set_option linter.unusedSimpArgs false

/-! ### spec_miText: function 41 -/
def spec_miText.l0 : Nat → Int → Int → ByteArray → Int → Option (ByteArray)
  | 0, _, _, _, _ => none
  | k + 1, x0, x1, x5, x6 => if x6 < x0 then ((spec_l1Num.f k (Int.tmod x1 10)).bind fun t101 => (if t101.size + x5.size ≤ 9223372036854775807 then (spec_miText.l0 k x0 (wrap64 (Int.tdiv x1 10)) (t101 ++ x5) (wrap64 (x6 + 1))) else (none))) else (some x5)
def spec_miText.f (k : Nat) (a0 : Int) (a1 : Int) : Option (ByteArray) := spec_miText.l0 k a0 a1 (⟨#[]⟩ : ByteArray) 0
theorem spec_miText.mono_l : ∀ k, (∀ y0 y1 y2 y3, LeO (spec_miText.l0 k y0 y1 y2 y3) (spec_miText.l0 (k + 1) y0 y1 y2 y3))
  | 0 => fun _ _ _ _ r h => by simp [spec_miText.l0] at h
  | k + 1 => by
    have ih0 := spec_miText.mono_l k
    · intro y0 y1 y2 y3
      unfold spec_miText.l0
      repeat' first
      | (with_reducible exact ih0 _ _ _ _)
      | (with_reducible exact spec_l1Num.mono _ _)
      | (with_reducible exact LeO.refl _)
      | (with_reducible exact LeO.none _)
      | (with_reducible refine LeO.ite ?_ ?_)
      | (with_reducible refine LeO.bind ?_ (fun _ => ?_))
      | exact ih0 _ _ _ _
      | exact spec_l1Num.mono _ _
      | exact LeO.none _
      | refine LeO.ite ?_ ?_
      | refine LeO.bind ?_ (fun _ => ?_)
theorem spec_miText.mono : ∀ a0 a1 k, LeO (spec_miText.f k a0 a1) (spec_miText.f (k + 1) a0 a1) := by
  intro a0 a1 k
  have ih0 := spec_miText.mono_l k
  unfold spec_miText.f
  repeat' first
      | (with_reducible exact ih0 _ _ _ _)
      | (with_reducible exact spec_l1Num.mono _ _)
      | (with_reducible exact LeO.refl _)
      | (with_reducible exact LeO.none _)
      | (with_reducible refine LeO.ite ?_ ?_)
      | (with_reducible refine LeO.bind ?_ (fun _ => ?_))
      | exact ih0 _ _ _ _
      | exact spec_l1Num.mono _ _
      | exact LeO.none _
      | refine LeO.ite ?_ ?_
      | refine LeO.bind ?_ (fun _ => ?_)
set_option maxHeartbeats 8000000 in
set_option maxRecDepth 100000 in
theorem spec_miText.calls (k : Nat) (a0 : Int) (a1 : Int) (r : ByteArray) (w : World) (h : spec_miText.f k a0 a1 = some r) :
    Calls Try.prog 41 #[.int .i64 a0, .int .i64 a1] w fun e w' => e = .returned (.string r) ∧ Below w.heap.size w w' := by
  have HB := Aside0.mk (Below.refl w.heap.size w)
  have H : (spec_miText.l0 k a0 a1 (⟨#[]⟩ : ByteArray) 0) = some r := h
  clear h
  have H' := Aside0.mk H
  clear H
  go_enter Try.func41, Try.ntmps41
  go_wp2
  go_loopg [1, 5, 6] k (fun kq v1 v5 v6 w' => ∃ (x1_1 : Int) (x5_1 : ByteArray) (x6_1 : Int), v1 = .int .i64 x1_1 ∧ v5 = .string x5_1 ∧ v6 = .int .i64 x6_1 ∧ Aside0 (spec_miText.l0 kq a0 x1_1 x5_1 x6_1 = some r) ∧ Aside0 (kq ≤ k) ∧ Aside0 (Below w.heap.size w w'))
  case atStart => exact ⟨(a1), ((⟨#[]⟩ : ByteArray)), (0), (by first | rfl | (simp; done) | (simp [*]; done)), (by first | rfl | (simp; done) | (simp [*]; done)), (by first | rfl | (simp; done) | (simp [*]; done)), H', ⟨Nat.le_refl _⟩, ⟨by repeat (first | (with_reducible first | exact HB.out | apply below_alloc | apply pw_below_drewN | apply below_drew1) | exact HB.out)⟩⟩
  case round =>
    clear H'
    try clear p2
    obtain ⟨x1_1, x5_1, x6_1, rfl, rfl, rfl, HA, HK1, HB⟩ := hrel
    cases gk with
    | zero => exact absurd HA.out (by simp [spec_miText.l0])
    | succ k1 =>
      have H := HA.out
      clear HA
      simp only [spec_miText.l0] at H
      by_cases c3 : x6_1 < a0
      · rw [if_pos c3] at H
        have c3b0 : decide (x6_1 < a0) = true := decide_eq_true c3
        clear c3
        replace H := Option.bind_eq_some_iff.mp H
        obtain ⟨t101, A40, H⟩ := H
        replace H : (if t101.size + x5_1.size ≤ 9223372036854775807 then (spec_miText.l0 k1 a0 (wrap64 (Int.tdiv x1_1 10)) (t101 ++ x5_1) (wrap64 (x6_1 + 1))) else (none)) = some r := H
        have A4 := Aside0.mk A40
        clear A40
        by_cases c5 : t101.size + x5_1.size ≤ 9223372036854775807
        · rw [if_pos c5] at H
          have c5b0 := eq_true c5
          have c5b1 : decide (t101.size + x5_1.size ≤ 9223372036854775807) = true := decide_eq_true c5
          try have c5b2 : (9223372036854775807 < t101.size + x5_1.size) = False := eq_false (Nat.not_lt.2 c5)
          have H' := Aside0.mk H
          clear H
          go_wp2_with (first | ((with_reducible refine gate_callee (f := 33) rfl ?_); refine goesL_ (some 14) rfl rfl Try.func33 (by kernel_rfl) rfl #[.int .i64 (Int.tmod x1_1 10)] rfl (by (try simp only [List.map_toArray, List.map_cons, List.map_nil]); first | done | rfl | (simp only [List.length_drop, List.length_take]; rfl)) ?_; (with_reducible refine (spec_l1Num.calls k1 (Int.tmod x1_1 10) t101 _ A4.out).mono ?_); rintro e w6 ⟨rfl, hb⟩; refine ⟨_, rfl, ?_⟩; have n0_ := Aside0.mk (below_step (by repeat (first | (with_reducible first | exact HB.out | apply below_alloc | apply pw_below_drewN | apply below_drew1) | exact HB.out)) hb); clear HB; have HB := n0_; clear n0_; (try clear hb); (try clear hb2); (try clear hk); (try clear hi)))
          go_roundg k1
          case measure => have := HK1.out; omega
          case rel => exact ⟨(wrap64 (Int.tdiv x1_1 10)), (t101 ++ x5_1), (wrap64 (x6_1 + 1)), (by first | rfl | (simp; done) | (simp [*]; done)), (by first | rfl | (simp; done) | (simp [*]; done)), (by first | rfl | (simp; done) | (simp [*]; done)), H', ⟨by have := HK1.out; omega⟩, ⟨by repeat (first | (with_reducible first | exact HB.out | apply below_alloc | apply pw_below_drewN | apply below_drew1) | exact HB.out)⟩⟩
        · rw [if_neg c5] at H
          exact absurd H (by simp)
      · rw [if_neg c3] at H
        have c3b0 : decide (x6_1 < a0) = false := decide_eq_false c3
        clear c3
        obtain rfl := Option.some.inj H
        go_wp2
        go_ret
        exact ⟨by first | rfl | (simp [errW_none, errW_some] <;> rfl) | (simp [*, errW_none, errW_some] <;> rfl), by repeat (first | (with_reducible first | exact HB.out | apply below_alloc | apply pw_below_drewN | apply below_drew1) | exact HB.out)⟩

end Go.Proofs.Ytpdcjkiejglaiaa.Q

/- Laid by a program of this session (wip/tools/own_print.py) over the translation of this seat: contracts of the functions that the statement reaches. -/
namespace Go.Proofs.Ytpdcjkiejglaiaa.Q
open Go.RowKit Go.Proofs.YtpdcjkiejglaiaaW.PrintWords Go.Proofs.YtpdcjkiejglaiaaW.PrintLast Go.Proofs.YtpdcjkiejglaiaaW.PrintMore
attribute [local go_sem] max2_int min2_int max_two min_two max_three min_three max_four min_four   -- for this text's walks alone
set_option linter.unusedVariables false
set_option linter.unusedSimpArgs false

/-! ### impl_numberOf: function 43 -/
def impl_numberOf.l0 : Nat → ByteArray → Int → Int → Int → Option (Int)
  | 0, _, _, _, _ => none
  | k + 1, x0, x3, x6, x7 => if x7 < x6 then (if 0 ≤ x7 then (if x7 < (x0.size : Int) then (impl_numberOf.l0 k x0 (wrap64 ((wrap64 (10 * x3)) + (((bt x0 x7) - 48) % 256))) x6 (wrap64 (x7 + 1))) else (none)) else (none)) else (some x3)
def impl_numberOf.f (k : Nat) (a0 : ByteArray) : Option (Int) := impl_numberOf.l0 k a0 0 (a0.size : Int) 0
theorem impl_numberOf.mono_l : ∀ k, (∀ y0 y1 y2 y3, LeO (impl_numberOf.l0 k y0 y1 y2 y3) (impl_numberOf.l0 (k + 1) y0 y1 y2 y3))
  | 0 => fun _ _ _ _ r h => by simp [impl_numberOf.l0] at h
  | k + 1 => by
    have ih0 := impl_numberOf.mono_l k
    · intro y0 y1 y2 y3
      unfold impl_numberOf.l0
      repeat' first
      | (with_reducible exact ih0 _ _ _ _)
      | (with_reducible exact LeO.refl _)
      | (with_reducible exact LeO.none _)
      | (with_reducible refine LeO.ite ?_ ?_)
      | (with_reducible refine LeO.bind ?_ (fun _ => ?_))
      | exact ih0 _ _ _ _
      | exact LeO.none _
      | refine LeO.ite ?_ ?_
      | refine LeO.bind ?_ (fun _ => ?_)
theorem impl_numberOf.mono : ∀ a0 k, LeO (impl_numberOf.f k a0) (impl_numberOf.f (k + 1) a0) := by
  intro a0 k
  have ih0 := impl_numberOf.mono_l k
  unfold impl_numberOf.f
  repeat' first
      | (with_reducible exact ih0 _ _ _ _)
      | (with_reducible exact LeO.refl _)
      | (with_reducible exact LeO.none _)
      | (with_reducible refine LeO.ite ?_ ?_)
      | (with_reducible refine LeO.bind ?_ (fun _ => ?_))
      | exact ih0 _ _ _ _
      | exact LeO.none _
      | refine LeO.ite ?_ ?_
      | refine LeO.bind ?_ (fun _ => ?_)
set_option maxHeartbeats 8000000 in
set_option maxRecDepth 100000 in
theorem impl_numberOf.calls (k : Nat) (a0 : ByteArray) (r : Int) (w : World) (h : impl_numberOf.f k a0 = some r) :
    Calls Try.prog 43 #[.string a0] w fun e w' => e = .returned (.int .i64 r) ∧ Drawn0 w w' := by
  have H : (impl_numberOf.l0 k a0 0 (a0.size : Int) 0) = some r := h
  clear h
  have H' := Aside0.mk H
  clear H
  go_enter Try.func43, Try.ntmps43
  go_wp2
  go_loopg [3, 7] k (fun kq v3 v7 w' => ∃ (x3_1 : Int) (x7_1 : Int), v3 = .int .i64 x3_1 ∧ v7 = .int .i64 x7_1 ∧ Aside0 (impl_numberOf.l0 kq a0 x3_1 (a0.size : Int) x7_1 = some r) ∧ Aside0 (kq ≤ k) ∧ Drawn0 w w')
  case atStart => exact ⟨(0), (0), (by first | rfl | (simp; done) | (simp [*]; done)), (by first | rfl | (simp; done) | (simp [*]; done)), H', ⟨Nat.le_refl _⟩, by repeat (first | exact Drawn0.refl _ | apply Drawn0.step)⟩
  case round =>
    clear H'
    obtain ⟨x3_1, x7_1, rfl, rfl, HA, HK1, ⟨m1, rfl⟩⟩ := hrel
    cases gk with
    | zero => exact absurd HA.out (by simp [impl_numberOf.l0])
    | succ k1 =>
      have H := HA.out
      clear HA
      simp only [impl_numberOf.l0] at H
      by_cases c2 : x7_1 < (a0.size : Int)
      · rw [if_pos c2] at H
        have c2b0 : decide (x7_1 < (a0.size : Int)) = true := decide_eq_true c2
        clear c2
        by_cases c3 : 0 ≤ x7_1
        · rw [if_pos c3] at H
          have c3b0 : decide (0 ≤ x7_1) = true := decide_eq_true c3
          clear c3
          by_cases c4 : x7_1 < (a0.size : Int)
          · rw [if_pos c4] at H
            have c4b0 : decide (x7_1 < (a0.size : Int)) = true := decide_eq_true c4
            clear c4
            have H' := Aside0.mk H
            clear H
            have p5 : 0 ≤ (x7_1 : Int) := of_decide_eq_true (by first | (with_reducible assumption) | assumption)
            have q5 : x7_1 < (a0.size : Int) := of_decide_eq_true (by first | (with_reducible assumption) | assumption)
            have hx5 := bt_at a0 x7_1
            replace p5 := eq_true p5
            replace q5 := eq_true q5
            go_wp2
            go_roundg k1
            case measure => have := HK1.out; omega
            case rel => exact ⟨(wrap64 ((wrap64 (10 * x3_1)) + (((bt a0 x7_1) - 48) % 256))), (wrap64 (x7_1 + 1)), (by first | rfl | (simp; done) | (simp [*]; done)), (by first | rfl | (simp; done) | (simp [*]; done)), H', ⟨by have := HK1.out; omega⟩, by repeat (first | exact Drawn0.refl _ | apply Drawn0.step)⟩
          · rw [if_neg c4] at H
            exact absurd H (by simp)
        · rw [if_neg c3] at H
          exact absurd H (by simp)
      · rw [if_neg c2] at H
        have c2b0 : decide (x7_1 < (a0.size : Int)) = false := decide_eq_false c2
        clear c2
        obtain rfl := Option.some.inj H
        go_wp2
        go_ret
        exact ⟨by first | rfl | (simp; done) | (simp [*]; done), by repeat (first | exact Drawn0.refl _ | apply Drawn0.step)⟩

end Go.Proofs.Ytpdcjkiejglaiaa.Q

/- Laid by a program of this session (wip/tools/own_print.py) over the translation of this seat: contracts of the functions that the statement reaches. -/
namespace Go.Proofs.Ytpdcjkiejglaiaa.Q
open Go.RowKit Go.Proofs.YtpdcjkiejglaiaaW.PrintWords Go.Proofs.YtpdcjkiejglaiaaW.PrintLast Go.Proofs.YtpdcjkiejglaiaaW.PrintMore
attribute [local go_sem] max2_int min2_int max_two min_two max_three min_three max_four min_four   -- for this text's walks alone
set_option linter.unusedVariables false
set_option linter.unusedSimpArgs false

/-! ### impl_round: function 45 -/
def impl_round.l0 : Nat → Int → Int → Int → Option (Int)
  | 0, _, _, _ => none
  | k + 1, x3, x4, x5 => if x5 < x4 then (impl_round.l0 k (wrap64 (x3 * 10)) x4 (wrap64 (x5 + 1))) else (some x3)
def impl_round.f (k : Nat) (a0 : Int) : Option (Int) := impl_round.l0 k 1 a0 0
theorem impl_round.mono_l : ∀ k, (∀ y0 y1 y2, LeO (impl_round.l0 k y0 y1 y2) (impl_round.l0 (k + 1) y0 y1 y2))
  | 0 => fun _ _ _ r h => by simp [impl_round.l0] at h
  | k + 1 => by
    have ih0 := impl_round.mono_l k
    · intro y0 y1 y2
      unfold impl_round.l0
      repeat' first
      | (with_reducible exact ih0 _ _ _)
      | (with_reducible exact LeO.refl _)
      | (with_reducible exact LeO.none _)
      | (with_reducible refine LeO.ite ?_ ?_)
      | (with_reducible refine LeO.bind ?_ (fun _ => ?_))
      | exact ih0 _ _ _
      | exact LeO.none _
      | refine LeO.ite ?_ ?_
      | refine LeO.bind ?_ (fun _ => ?_)
theorem impl_round.mono : ∀ a0 k, LeO (impl_round.f k a0) (impl_round.f (k + 1) a0) := by
  intro a0 k
  have ih0 := impl_round.mono_l k
  unfold impl_round.f
  repeat' first
      | (with_reducible exact ih0 _ _ _)
      | (with_reducible exact LeO.refl _)
      | (with_reducible exact LeO.none _)
      | (with_reducible refine LeO.ite ?_ ?_)
      | (with_reducible refine LeO.bind ?_ (fun _ => ?_))
      | exact ih0 _ _ _
      | exact LeO.none _
      | refine LeO.ite ?_ ?_
      | refine LeO.bind ?_ (fun _ => ?_)
set_option maxHeartbeats 8000000 in
set_option maxRecDepth 100000 in
theorem impl_round.calls (k : Nat) (a0 : Int) (r : Int) (w : World) (h : impl_round.f k a0 = some r) :
    Calls Try.prog 45 #[.int .i64 a0] w fun e w' => e = .returned (.int .i64 r) ∧ Drawn0 w w' := by
  have H : (impl_round.l0 k 1 a0 0) = some r := h
  clear h
  have H' := Aside0.mk H
  clear H
  go_enter Try.func45, Try.ntmps45
  go_wp2
  go_loopg [3, 5] k (fun kq v3 v5 w' => ∃ (x3_1 : Int) (x5_1 : Int), v3 = .int .i64 x3_1 ∧ v5 = .int .i64 x5_1 ∧ Aside0 (impl_round.l0 kq x3_1 a0 x5_1 = some r) ∧ Aside0 (kq ≤ k) ∧ Drawn0 w w')
  case atStart => exact ⟨(1), (0), (by first | rfl | (simp; done) | (simp [*]; done)), (by first | rfl | (simp; done) | (simp [*]; done)), H', ⟨Nat.le_refl _⟩, by repeat (first | exact Drawn0.refl _ | apply Drawn0.step)⟩
  case round =>
    clear H'
    obtain ⟨x3_1, x5_1, rfl, rfl, HA, HK1, ⟨m1, rfl⟩⟩ := hrel
    cases gk with
    | zero => exact absurd HA.out (by simp [impl_round.l0])
    | succ k1 =>
      have H := HA.out
      clear HA
      simp only [impl_round.l0] at H
      by_cases c2 : x5_1 < a0
      · rw [if_pos c2] at H
        have c2b0 : decide (x5_1 < a0) = true := decide_eq_true c2
        clear c2
        have H' := Aside0.mk H
        clear H
        go_wp2
        go_roundg k1
        case measure => have := HK1.out; omega
        case rel => exact ⟨(wrap64 (x3_1 * 10)), (wrap64 (x5_1 + 1)), (by first | rfl | (simp; done) | (simp [*]; done)), (by first | rfl | (simp; done) | (simp [*]; done)), H', ⟨by have := HK1.out; omega⟩, by repeat (first | exact Drawn0.refl _ | apply Drawn0.step)⟩
      · rw [if_neg c2] at H
        have c2b0 : decide (x5_1 < a0) = false := decide_eq_false c2
        clear c2
        obtain rfl := Option.some.inj H
        go_wp2
        go_ret
        exact ⟨by first | rfl | (simp; done) | (simp [*]; done), by repeat (first | exact Drawn0.refl _ | apply Drawn0.step)⟩

end Go.Proofs.Ytpdcjkiejglaiaa.Q

/-
  Readings and their numbers: a text of so many digits tells a number, and each number below a power of ten has one such text.
-/
namespace Go.Proofs.Ytpdcjkiejglaiaa.Q
open Go.RowKit Go.Proofs.YtpdcjkiejglaiaaW.PrintWords Go.Proofs.YtpdcjkiejglaiaaW.PrintLast Go.Proofs.YtpdcjkiejglaiaaW.PrintMore
set_option linter.unusedVariables false
set_option linter.unusedSimpArgs false

theorem li_nums (l : List Int) (h : ∀ x ∈ l, 0 ≤ x ∧ x < 256) : li (strOfNums l) = l := by
  unfold li strOfNums
  simp only [List.map_map]
  rw [List.map_congr_left (g := id)]
  · simp
  · intro x hx
    have := h x hx
    simp [Nat.toUInt8]
    omega

/-- so many digits of a number -/
def dl : Nat → Nat → List Int
  | 0, _ => []
  | i + 1, v => dl i (v / 10) ++ [48 + ((v % 10 : Nat) : Int)]
def tx (i v : Nat) : ByteArray := strOfNums (dl i v)
theorem dl_length : ∀ i v, (dl i v).length = i
  | 0, _ => rfl
  | i + 1, v => by simp [dl, dl_length i]
theorem dl_dig : ∀ i v, ∀ x ∈ dl i v, 48 ≤ x ∧ x ≤ 57
  | 0, _, x, h => by simp [dl] at h
  | i + 1, v, x, h => by
    simp only [dl, List.mem_append, List.mem_singleton] at h
    rcases h with h | h
    · exact dl_dig i _ x h
    · omega
theorem li_tx (i v : Nat) : li (tx i v) = dl i v := li_nums _ (fun x hx => by have := dl_dig i v x hx; omega)
theorem tx_size (i v : Nat) : (tx i v).size = i := by rw [← li_length, li_tx, dl_length]
theorem dl_get : ∀ (i v j : Nat), j < i → (dl i v).getD j 0 = 48 + ((v / 10 ^ (i - 1 - j) % 10 : Nat) : Int)
  | 0, _, _, h => by omega
  | i + 1, v, j, h => by
    simp only [dl, List.getD_eq_getElem?_getD]
    by_cases e : j = i
    · subst e
      rw [List.getElem?_append_right (by rw [dl_length]; exact Nat.le_refl _)]
      simp [dl_length]
    · rw [List.getElem?_append_left (by rw [dl_length]; omega), ← List.getD_eq_getElem?_getD, dl_get i (v / 10) j (by omega), Nat.div_div_eq_div_mul, show i + 1 - 1 - j = (i - 1 - j) + 1 by omega, Nat.pow_succ, Nat.mul_comm 10]
theorem bt_tx (i v j : Nat) (h : j < i) : bt (tx i v) j = 48 + ((v / 10 ^ (i - 1 - j) % 10 : Nat) : Int) := by
  rw [bt_li, li_tx]
  exact dl_get i v j h
theorem tx_dig (i v : Nat) : ∀ j : Nat, j < (tx i v).size → 48 ≤ bt (tx i v) j ∧ bt (tx i v) j ≤ 57 := by
  intro j hj
  rw [tx_size] at hj
  rw [bt_tx i v j hj]
  omega
theorem tx_succ (i v d : Nat) (hd : d < 10) : tx (i + 1) (10 * v + d) = tx i v ++ strOfNums [48 + (d : Int)] := by
  apply li_inj
  rw [li_append, li_tx, li_tx, li_nums _ (by simp; omega)]
  simp only [dl]
  rw [show (10 * v + d) / 10 = v by omega, show (10 * v + d) % 10 = d by omega]
theorem tx_zero (v : Nat) : tx 0 v = ⟨#[]⟩ := rfl

/-- the number that digits tell -/
def val : List Int → Nat := List.foldl (fun a d => 10 * a + (d - 48).toNat) 0
theorem val_snoc (l : List Int) (d : Int) : val (l ++ [d]) = 10 * val l + (d - 48).toNat := by simp [val, List.foldl_append]
theorem val_lt (l : List Int) (h : ∀ x ∈ l, 48 ≤ x ∧ x ≤ 57) : val l < 10 ^ l.length := by
  have key : ∀ (n : Nat) (l : List Int), l.length = n → (∀ x ∈ l, 48 ≤ x ∧ x ≤ 57) → val l < 10 ^ n := by
    intro n
    induction n with
    | zero =>
      intro l hl _
      obtain rfl := List.eq_nil_of_length_eq_zero hl
      decide
    | succ n ih =>
      intro l hl h
      have hne : l ≠ [] := by intro e; rw [e] at hl; simp at hl
      obtain ⟨l', d, rfl⟩ : ∃ l' d, l = l' ++ [d] := ⟨l.dropLast, l.getLast hne, (List.dropLast_concat_getLast hne).symm⟩
      have h1 := ih l' (by simpa using hl) (fun x hx => h x (List.mem_append_left _ hx))
      have h2 := h d (by simp)
      rw [val_snoc, Nat.pow_succ]
      omega
  exact key _ l rfl h
theorem dl_val (l : List Int) (h : ∀ x ∈ l, 48 ≤ x ∧ x ≤ 57) : dl l.length (val l) = l := by
  have key : ∀ (n : Nat) (l : List Int), l.length = n → (∀ x ∈ l, 48 ≤ x ∧ x ≤ 57) → dl n (val l) = l := by
    intro n
    induction n with
    | zero =>
      intro l hl _
      obtain rfl := List.eq_nil_of_length_eq_zero hl
      rfl
    | succ n ih =>
      intro l hl h
      have hne : l ≠ [] := by intro e; rw [e] at hl; simp at hl
      obtain ⟨l', d, rfl⟩ : ∃ l' d, l = l' ++ [d] := ⟨l.dropLast, l.getLast hne, (List.dropLast_concat_getLast hne).symm⟩
      have h1 := ih l' (by simpa using hl) (fun x hx => h x (List.mem_append_left _ hx))
      have h2 := h d (by simp)
      simp only [dl]
      rw [val_snoc, show (10 * val l' + (d - 48).toNat) / 10 = val l' by omega, show (10 * val l' + (d - 48).toNat) % 10 = (d - 48).toNat by omega, h1]
      congr 2
      omega
  exact key _ l rfl h
theorem val_dl : ∀ (i v : Nat), val (dl i v) = v % 10 ^ i
  | 0, v => by rw [Nat.pow_zero, Nat.mod_one]; rfl
  | i + 1, v => by
    simp only [dl]
    rw [val_snoc, val_dl i (v / 10), Nat.pow_succ]
    have : (48 + ((v % 10 : Nat) : Int) - 48).toNat = v % 10 := by omega
    rw [this]
    have h1 := Nat.mod_mul (x := v) (a := 10) (b := 10 ^ i)
    rw [Nat.mul_comm (10 ^ i) 10, h1]
    omega
theorem good_tx {s : ByteArray} (h : good s = true) : ∃ v, v < 10 ^ s.size ∧ s = tx s.size v ∧ val (li s) = v := by
  obtain ⟨h1, h9, hd⟩ := good_at h
  have hds : ∀ x ∈ li s, 48 ≤ x ∧ x ≤ 57 := by
    intro x hx
    obtain ⟨j, hj, rfl⟩ := List.mem_iff_getElem.1 hx
    have := hd j (by rw [li_length] at hj; exact hj)
    rw [bt_li] at this
    simpa [List.getD_eq_getElem?_getD, hj] using this
  refine ⟨val (li s), by have := val_lt _ hds; rwa [li_length] at this, li_inj ?_, rfl⟩
  rw [li_tx]
  have := dl_val _ hds
  rw [li_length] at this
  exact this.symm
theorem pow_le {i : Nat} (h : i ≤ 9) : 10 ^ i ≤ 1000000000 := by
  have : 10 ^ i ≤ 10 ^ 9 := Nat.pow_le_pow_right (by decide) h
  simpa using this

theorem pow_step (p : Nat) (h : p ≤ 1000000000) : wrap64 ((p : Int) * 10) = ((p * 10 : Nat) : Int) := by rw [wrap_id (by omega) (by omega)]; omega

/-- a text's number, read by either text -/
theorem tk_ev (i v : Nat) (h9 : i ≤ 9) (hv : v < 10 ^ i) : Ev (fun k => spec_tkNumber.f k (tx i v)) (v : Int) := by
  have loop : ∀ (d j : Nat), j + d = i → Ev (fun k => spec_tkNumber.l0 k (tx i v) ((v / 10 ^ (i - j) : Nat) : Int) (j : Int)) (v : Int) := by
    intro d
    induction d with
    | zero =>
      intro j hj
      obtain rfl : j = i := by omega
      refine Ev.step (f := fun _ => some ((v : Nat) : Int)) (fun k => ?_) (Ev.now _)
      have c : ¬ (j : Int) < ((tx j v).size : Int) := by rw [tx_size]; omega
      simp only [spec_tkNumber.l0]
      rw [if_neg c]
      simp
    | succ d ih =>
      intro j hj
      refine Ev.step (fun k => ?_) (ih (j + 1) (by omega))
      have c : (j : Int) < ((tx i v).size : Int) := by rw [tx_size]; omega
      have c2 : 0 ≤ (j : Int) := by omega
      have hp := pow_le h9
      have hle : v / 10 ^ (i - j) ≤ v := Nat.div_le_self _ _
      have hb := bt_tx i v j (by omega)
      have e : 10 * (v / 10 ^ (i - j)) + v / 10 ^ (i - 1 - j) % 10 = v / 10 ^ (i - (j + 1)) := by
        rw [show i - j = (i - 1 - j) + 1 by omega, Nat.pow_succ, ← Nat.div_div_eq_div_mul, show i - (j + 1) = i - 1 - j by omega]
        omega
      have e2 : wrap64 (wrap64 (((v / 10 ^ (i - j) : Nat) : Int) * 10) + (bt (tx i v) (j : Int) - 48) % 256) = ((v / 10 ^ (i - (j + 1)) : Nat) : Int) := by
        rw [hb, wrap_id (i := ((v / 10 ^ (i - j) : Nat) : Int) * 10) (by omega) (by omega), wrap_id (by omega) (by omega)]
        omega
      have e1 : wrap64 ((j : Int) + 1) = ((j + 1 : Nat) : Int) := by rw [wrap_id (by omega) (by omega)]; rfl
      simp only [spec_tkNumber.l0]
      rw [if_pos c, if_pos c2, e2, e1]
  have := loop i 0 (by omega)
  rw [Nat.sub_zero, Nat.div_eq_of_lt hv] at this
  exact this
theorem number_ev (i v : Nat) (h9 : i ≤ 9) (hv : v < 10 ^ i) : Ev (fun k => impl_numberOf.f k (tx i v)) (v : Int) := by
  have loop : ∀ (d j : Nat), j + d = i → Ev (fun k => impl_numberOf.l0 k (tx i v) ((v / 10 ^ (i - j) : Nat) : Int) (i : Int) (j : Int)) (v : Int) := by
    intro d
    induction d with
    | zero =>
      intro j hj
      obtain rfl : j = i := by omega
      refine Ev.step (f := fun _ => some ((v : Nat) : Int)) (fun k => ?_) (Ev.now _)
      have c : ¬ (j : Int) < (j : Int) := by omega
      simp only [impl_numberOf.l0]
      rw [if_neg c]
      simp
    | succ d ih =>
      intro j hj
      refine Ev.step (fun k => ?_) (ih (j + 1) (by omega))
      have c : (j : Int) < ((tx i v).size : Int) := by rw [tx_size]; omega
      have c0 : (j : Int) < (i : Int) := by omega
      have c2 : 0 ≤ (j : Int) := by omega
      have hp := pow_le h9
      have hle : v / 10 ^ (i - j) ≤ v := Nat.div_le_self _ _
      have hb := bt_tx i v j (by omega)
      have e : 10 * (v / 10 ^ (i - j)) + v / 10 ^ (i - 1 - j) % 10 = v / 10 ^ (i - (j + 1)) := by
        rw [show i - j = (i - 1 - j) + 1 by omega, Nat.pow_succ, ← Nat.div_div_eq_div_mul, show i - (j + 1) = i - 1 - j by omega]
        omega
      have e2 : wrap64 (wrap64 (10 * ((v / 10 ^ (i - j) : Nat) : Int)) + (bt (tx i v) (j : Int) - 48) % 256) = ((v / 10 ^ (i - (j + 1)) : Nat) : Int) := by
        rw [hb, wrap_id (i := 10 * ((v / 10 ^ (i - j) : Nat) : Int)) (by omega) (by omega), wrap_id (by omega) (by omega)]
        omega
      have e1 : wrap64 ((j : Int) + 1) = ((j + 1 : Nat) : Int) := by rw [wrap_id (by omega) (by omega)]; rfl
      simp only [impl_numberOf.l0]
      rw [if_pos c0, if_pos c2, if_pos c, e2, e1]
  have := loop i 0 (by omega)
  rw [Nat.sub_zero, Nat.div_eq_of_lt hv] at this
  unfold impl_numberOf.f
  rw [tx_size]
  exact this
theorem miAll_ev (i : Nat) (h9 : i ≤ 9) : Ev (fun k => spec_miAll.f k (i : Int)) ((10 ^ i : Nat) : Int) := by
  have loop : ∀ (d j : Nat), j + d = i → Ev (fun k => spec_miAll.l0 k (d : Int) ((10 ^ j : Nat) : Int)) ((10 ^ i : Nat) : Int) := by
    intro d
    induction d with
    | zero =>
      intro j hj
      obtain rfl : j = i := by omega
      refine Ev.step (f := fun _ => some ((10 ^ j : Nat) : Int)) (fun k => ?_) (Ev.now _)
      simp only [spec_miAll.l0]
      rw [if_neg (by omega)]
    | succ d ih =>
      intro j hj
      refine Ev.step (fun k => ?_) (ih (j + 1) (by omega))
      have hp := pow_le (show j ≤ 9 by omega)
      have c : ((d + 1 : Nat) : Int) > 0 := by omega
      have e1 : wrap64 (((d + 1 : Nat) : Int) - 1) = (d : Int) := by rw [wrap_id (by omega) (by omega)]; omega
      have e2 := pow_step (10 ^ j) hp
      rw [← Nat.pow_succ] at e2
      simp only [spec_miAll.l0]
      rw [if_pos c, e1, e2]
  unfold spec_miAll.f
  have := loop i 0 (by omega)
  rw [Nat.pow_zero] at this
  exact this
theorem round_ev (i : Nat) (h9 : i ≤ 9) : Ev (fun k => impl_round.f k (i : Int)) ((10 ^ i : Nat) : Int) := by
  have loop : ∀ (d j : Nat), j + d = i → Ev (fun k => impl_round.l0 k ((10 ^ j : Nat) : Int) (i : Int) (j : Int)) ((10 ^ i : Nat) : Int) := by
    intro d
    induction d with
    | zero =>
      intro j hj
      obtain rfl : j = i := by omega
      refine Ev.step (f := fun _ => some ((10 ^ j : Nat) : Int)) (fun k => ?_) (Ev.now _)
      simp only [impl_round.l0]
      rw [if_neg (by omega)]
    | succ d ih =>
      intro j hj
      refine Ev.step (fun k => ?_) (ih (j + 1) (by omega))
      have hp := pow_le (show j ≤ 9 by omega)
      have c : (j : Int) < (i : Int) := by omega
      have e1 : wrap64 ((j : Int) + 1) = ((j + 1 : Nat) : Int) := by rw [wrap_id (by omega) (by omega)]; rfl
      have e2 := pow_step (10 ^ j) hp
      rw [← Nat.pow_succ] at e2
      simp only [impl_round.l0]
      rw [if_pos c, e1, e2]
  unfold impl_round.f
  have := loop i 0 (by omega)
  rw [Nat.pow_zero] at this
  exact this
theorem l1Num_ev (a : Nat) (h : a < 10) : Ev (fun k => spec_l1Num.f k (a : Int)) (strOfNums [48 + (a : Int)]) := by
  refine Ev.step (f := fun _ => some (strOfNums [48 + (a : Int)])) (fun k => ?_) (Ev.now _)
  have c : (a : Int) < 10 := by omega
  have e : wrap64 (48 + (a : Int)) % 256 = 48 + (a : Int) := by rw [wrap_id (by omega) (by omega)]; omega
  simp only [spec_l1Num.f]
  rw [if_pos c, e]
theorem miText_ev (i m : Nat) (h9 : i ≤ 9) (hm : m < 10000000000) : Ev (fun k => spec_miText.f k (i : Int) (m : Int)) (tx i m) := by
  have loop : ∀ (d j : Nat) (v : Nat) (acc : ByteArray), j + d = i → v < 10000000000 → acc.size = j → Ev (fun k => spec_miText.l0 k (i : Int) (v : Int) acc (j : Int)) (tx d v ++ acc) := by
    intro d
    induction d with
    | zero =>
      intro j v acc hj hv ha
      refine Ev.step (f := fun _ => some acc) (fun k => ?_) (Ev.eq (Ev.now _) (li_inj (by rw [li_append, li_tx]; rfl)))
      have c : ¬ (j : Int) < (i : Int) := by omega
      simp only [spec_miText.l0]
      rw [if_neg c]
    | succ d ih =>
      intro j v acc hj hv ha
      have hz : (strOfNums [48 + ((v % 10 : Nat) : Int)]).size = 1 := by rw [← li_length, li_nums _ (by simp; omega)]; rfl
      have hi := ih (j + 1) (v / 10) (strOfNums [48 + ((v % 10 : Nat) : Int)] ++ acc) (by omega) (by omega) (by rw [ByteArray.size_append, hz]; omega)
      have c : (j : Int) < (i : Int) := by omega
      have e1 : wrap64 ((j : Int) + 1) = ((j + 1 : Nat) : Int) := by rw [wrap_id (by omega) (by omega)]; rfl
      have e3 : Int.tmod (v : Int) 10 = ((v % 10 : Nat) : Int) := by rw [Int.tmod_eq_emod_of_nonneg (by omega)]; omega
      have e4 : wrap64 (Int.tdiv (v : Int) 10) = ((v / 10 : Nat) : Int) := by rw [Int.tdiv_eq_ediv_of_nonneg (by omega), wrap_id (by omega) (by omega)]; omega
      have body : ∀ k, spec_miText.l0 (k + 1) (i : Int) (v : Int) acc (j : Int) = (spec_l1Num.f k ((v % 10 : Nat) : Int)).bind fun t101 => (if t101.size + acc.size ≤ 9223372036854775807 then (spec_miText.l0 k (i : Int) ((v / 10 : Nat) : Int) (t101 ++ acc) ((j + 1 : Nat) : Int)) else (none)) := by
        intro k
        simp only [spec_miText.l0]
        rw [if_pos c, e3, e4, e1]
      clear e1 e3 e4
      have cz : (strOfNums [48 + ((v % 10 : Nat) : Int)]).size + acc.size ≤ 9223372036854775807 := by rw [hz, ha]; omega
      refine Ev.step body (Ev.bind' (l1Num_ev (v % 10) (by omega)) (Ev.pos cz (Ev.eq hi ?_)))
      apply li_inj
      rw [li_append, li_append, li_append, li_tx, li_tx, li_nums _ (by simp; omega)]
      simp only [dl, List.append_assoc]
  unfold spec_miText.f
  have := loop i 0 m ⟨#[]⟩ (by omega) hm rfl
  refine Ev.eq this (li_inj ?_)
  rw [li_append]
  show li (tx i m) ++ [] = _
  rw [List.append_nil]

end Go.Proofs.Ytpdcjkiejglaiaa.Q

/-
  A number told by a text of at most eighteen digits.
-/
namespace Go.Proofs.Ytpdcjkiejglaiaa.Q
open Go.RowKit Go.Proofs.YtpdcjkiejglaiaaW.PrintWords Go.Proofs.YtpdcjkiejglaiaaW.PrintLast Go.Proofs.YtpdcjkiejglaiaaW.PrintMore
set_option linter.unusedVariables false
set_option linter.unusedSimpArgs false

def digs (l : List Int) : Prop := ∀ x ∈ l, 48 ≤ x ∧ x ≤ 57
theorem pow17 {i : Nat} (h : i ≤ 17) : 10 ^ i ≤ 100000000000000000 := by
  have : 10 ^ i ≤ 10 ^ 17 := Nat.pow_le_pow_right (by decide) h
  simpa using this
theorem numberL_ev (l : List Int) (hd : digs l) (hl : l.length ≤ 18) : Ev (fun k => impl_numberOf.f k (strOfNums l)) (val l : Int) := by
  have hli : li (strOfNums l) = l := li_nums l fun x hx => by have := hd x hx; omega
  have hz : (strOfNums l).size = l.length := size_li hli
  have loop : ∀ (d j : Nat), j + d = l.length → Ev (fun k => impl_numberOf.l0 k (strOfNums l) ((val (l.take j) : Nat) : Int) (l.length : Int) (j : Int)) (val l : Int) := by
    intro d
    induction d with
    | zero =>
      intro j hj
      refine Ev.step (f := fun _ => some ((val l : Nat) : Int)) (fun k => ?_) (Ev.now _)
      simp only [impl_numberOf.l0]
      rw [if_neg (by omega), List.take_of_length_le (by omega)]
    | succ d ih =>
      intro j hj
      have hjl : j < l.length := by omega
      refine Ev.step (fun k => ?_) (ih (j + 1) (by omega))
      have hx := hd l[j] (List.getElem_mem hjl)
      have e0 : l.take (j + 1) = l.take j ++ [l[j]] := by rw [List.take_add_one, List.getElem?_eq_getElem hjl]; rfl
      have hr : bt (strOfNums l) (j : Int) = l[j] := by rw [bt_li, hli]; simp [List.getD_eq_getElem?_getD, hjl]
      have hv := val_lt (l.take j) (fun x hx => hd x (List.mem_of_mem_take hx))
      have hp := pow17 (i := (l.take j).length) (by rw [List.length_take]; omega)
      have e1 : wrap64 ((j : Int) + 1) = ((j + 1 : Nat) : Int) := by rw [wrap_id (by omega) (by omega)]; rfl
      have e2 : wrap64 (wrap64 (10 * ((val (l.take j) : Nat) : Int)) + (bt (strOfNums l) (j : Int) - 48) % 256) = ((val (l.take (j + 1)) : Nat) : Int) := by
        rw [e0, val_snoc, hr, wrap_id (i := 10 * ((val (l.take j) : Nat) : Int)) (by omega) (by omega), wrap_id (by omega) (by omega)]
        omega
      simp only [impl_numberOf.l0]
      rw [if_pos (by omega), if_pos (by omega), if_pos (by omega), e2, e1]
  have := loop l.length 0 (by omega)
  unfold impl_numberOf.f
  rw [hz]
  exact this


end Go.Proofs.Ytpdcjkiejglaiaa.Q

/-
  'asLeast': the number with digits in order; more than twelve of them: none. Conditions: 1 to 17 digits, in memory of their own.
-/
namespace Go.Proofs.Ytpdcjkiejglaiaa.Q
open Go.RowKit Go.Proofs.YtpdcjkiejglaiaaW.PrintWords Go.Proofs.YtpdcjkiejglaiaaW.PrintLast Go.Proofs.YtpdcjkiejglaiaaW.PrintMore
set_option linter.unusedVariables false
set_option linter.unusedSimpArgs false

theorem insInner_size (lt : Int → Int → Bool) (a : Nat) : ∀ (j : Nat) (d : Array Int), (Sort.insInner lt a j d).size = d.size
  | 0, d => rfl
  | j + 1, d => by
    unfold Sort.insInner
    split
    · rw [insInner_size lt a j, Sort.size_swp]
    · rfl
theorem insOuter_size (lt : Int → Int → Bool) (a b : Nat) : ∀ (r i : Nat) (d : Array Int), b - i ≤ r → (Sort.insOuter lt a b i d).size = d.size
  | 0, i, d, h => by rw [Sort.insOuter, if_neg (by omega)]
  | r + 1, i, d, h => by
    rw [Sort.insOuter]
    by_cases c : i < b
    · rw [if_pos c, insOuter_size lt a b r (i + 1) _ (by omega), insInner_size]
    · rw [if_neg c]
theorem Sort_ins_size (lt : Int → Int → Bool) (d : Array Int) (a b : Nat) (hd : d.size = b) : (Sort.insertionSort lt d a b).size = b := by
  unfold Sort.insertionSort
  rw [insOuter_size lt a b b (a + 1) d (by omega), hd]
def sorted8 (d : Array Int) : List Int := (Sort.insertionSort lt8 d 0 d.size).toList
def alRes (d : Array Int) : Int × Bool := if d.size ≤ 12 then ((val (sorted8 d) : Int), true) else (0, false)

set_option maxHeartbeats 4000000 in
set_option maxRecDepth 100000 in
theorem asLeast_any (g cap N : Nat) (d : Array Int) (w : World) (hH : Sort.Holds enc8 w g 0 d) (hd : d.size = N) (hg : g < w.heap.size) (h1 : 1 ≤ N) (hN : N ≤ 17) (hdig : digs (sorted8 d)) (r1 : Int) (r2 : Bool) (hr : alRes d = (r1, r2)) :
    Calls Try.prog 49 #[.slice (some ⟨g, 0, none⟩) N cap] w fun e w' => e = .returned (.tuple #[.int .i64 r1, .bool r2]) ∧ Mess g N w w' := by
  unfold alRes at hr
  rw [hd] at hr
  by_cases c : N ≤ 12
  · rw [if_pos c] at hr
    obtain ⟨hv, rfl⟩ := Prod.mk.inj hr
    have S := sort_small g cap N d w hH hd c
    have hs8 : sorted8 d = (Sort.insertionSort lt8 d 0 N).toList := by unfold sorted8; rw [hd]
    rw [hs8] at hdig hv
    have P : ∀ n, (Sort.insertionSort lt8 d 0 N).size = N → Mess g N w (Sort.putRow enc8 (Sort.ahead w n) g 0 (Sort.insertionSort lt8 d 0 N)) := fun n hs => (Mess.refl hH hd).put hH hd hs
    have CV : ∀ n, (Sort.insertionSort lt8 d 0 N).size = N → Sem.run Try.prog (convert 39 9 (.slice (some ⟨g, 0, none⟩) N cap)) (Sort.putRow enc8 (Sort.ahead w n) g 0 (Sort.insertionSort lt8 d 0 N)) = .ok (.string (strOfNums (Sort.insertionSort lt8 d 0 N).toList)) (Sort.putRow enc8 (Sort.ahead w n) g 0 (Sort.insertionSort lt8 d 0 N)) := by
      intro n hs
      refine run_convert_bytes_arg _ 39 5 Try.underlying39 Try.underlying5 g 0 N cap _ (by simpa using hs) (fun i hi => ?_) 9 Try.underlying9
      rw [Nat.zero_add, (put_cell hH hd hs rfl i hi).1]
      have hi2 : i < (Sort.insertionSort lt8 d 0 N).size := by omega
      rw [getElem!_pos _ i hi2]
      simp [List.getD_eq_getElem?_getD, hi2]
    obtain ⟨q, hq⟩ := (numberL_ev (Sort.insertionSort lt8 d 0 N).toList hdig (by
      have : (Sort.insertionSort lt8 d 0 N).size = N := Sort_ins_size lt8 d 0 N hd
      simp; omega)).rounds
    rw [hv] at hq
    have HGG := Aside0.mk hg
    have HS := Aside0.mk S
    have HP := Aside0.mk P
    have HQ := Aside0.mk hq
    have HCV := Aside0.mk CV
    have c12 : ¬ ((12 : Int) < (N : Int)) := by omega
    clear S P CV hq hr hH hd hg h1 hN hdig hv hs8 c
    generalize Sort.insertionSort lt8 d 0 N = D at *
    generalize hst : strOfNums D.toList = st at *
    go_enter Try.func49, Try.ntmps49
    go_wp2_with (first | (go_at_call 63; refine HS.out.mono ?_; rintro e w1 ⟨rfl, n, hs, rfl⟩; have hM := Aside0.mk (HP.out n hs); have hCV := HCV.out n hs; generalize Sort.putRow enc8 _ g 0 D = w2 at hM hCV ⊢) | (go_at_call 43; refine (impl_numberOf.calls q st r1 _ HQ.out).mono ?_; rintro e w3 ⟨rfl, ⟨nd, rfl⟩⟩))
    go_ret2
    exact ⟨rfl, hM.out.then_below (pw_below_drewN (Below.refl _ _) _) (Nat.lt_of_lt_of_le HGG.out hM.out.size) hM.out.size⟩
  · rw [if_neg c] at hr
    obtain ⟨rfl, rfl⟩ := Prod.mk.inj hr
    have S := sort_mess g cap N d w hH hd hg (by omega) hN
    have HS := Aside0.mk S
    have c12 : (12 : Int) < (N : Int) := by omega
    clear S hr hH hd hg h1 hN hdig c
    go_enter Try.func49, Try.ntmps49
    go_wp2_with (go_at_call 63; refine HS.out.mono ?_; rintro e w1 ⟨rfl, hm⟩)
    go_ret2
    exact ⟨rfl, hm⟩

end Go.Proofs.Ytpdcjkiejglaiaa.Q

/- Laid by a program of this session (wip/tools/own_print.py) over the translation of this seat: contracts of the functions that the statement reaches. -/
namespace Go.Proofs.Ytpdcjkiejglaiaa.Q
open Go.RowKit Go.Proofs.YtpdcjkiejglaiaaW.PrintWords Go.Proofs.YtpdcjkiejglaiaaW.PrintLast Go.Proofs.YtpdcjkiejglaiaaW.PrintMore
attribute [local go_sem] max2_int min2_int max_two min_two max_three min_three max_four min_four   -- for this text's walks alone
set_option linter.unusedVariables false
set_option linter.unusedSimpArgs false

/-! ### impl_isProduct: function 48 -/
def impl_isProduct.f (a0 : Int) : Option (Bool) := (impl_within.f a0 1 1000000000000).bind fun t101 => (some t101)
set_option maxHeartbeats 8000000 in
set_option maxRecDepth 100000 in
theorem impl_isProduct.calls (a0 : Int) (r : Bool) (w : World) (h : impl_isProduct.f a0 = some r) :
    Calls Try.prog 48 #[.int .i64 a0] w fun e w' => e = .returned (.bool r) ∧ Drawn0 w w' := by
  have H : ((impl_within.f a0 1 1000000000000).bind fun t101 => (some t101)) = some r := h
  clear h
  replace H := Option.bind_eq_some_iff.mp H
  obtain ⟨t101, A20, H⟩ := H
  replace H : (some t101) = some r := H
  have A2 := Aside0.mk A20
  clear A20
  obtain rfl := Option.some.inj H
  go_enter Try.func48, Try.ntmps48
  go_wp2_with (first | ((with_reducible refine gate_callee (f := 53) rfl ?_); refine goesL_ (some 4) rfl rfl Try.func53 (by kernel_rfl) rfl #[.int .i64 a0, .int .i64 1, .int .i64 1000000000000] rfl (by (try simp only [List.map_toArray, List.map_cons, List.map_nil]); first | done | rfl | (simp only [List.length_drop, List.length_take]; rfl)) ?_; (with_reducible refine (impl_within.calls a0 1 1000000000000 t101 _ A2.out).mono ?_); rintro e w' ⟨rfl, ⟨nd, rfl⟩⟩; refine ⟨_, rfl, ?_⟩))
  go_ret
  exact ⟨by first | rfl | (simp; done) | (simp [*]; done), by repeat (first | exact Drawn0.refl _ | apply Drawn0.step)⟩

end Go.Proofs.Ytpdcjkiejglaiaa.Q

/-
  'LeastWithProduct': the digits taken from the greatest on; the walk.
-/
namespace Go.Proofs.Ytpdcjkiejglaiaa.Q
open Go.RowKit Go.Proofs.YtpdcjkiejglaiaaW.PrintWords Go.Proofs.YtpdcjkiejglaiaaW.PrintLast Go.Proofs.YtpdcjkiejglaiaaW.PrintMore
set_option linter.unusedVariables false
set_option linter.unusedSimpArgs false

/-- the digits from d down, taken as often as they divide -/
def gp (d p : Nat) (acc : List Int) : Nat × List Int :=
  if h : d ≤ 1 then (p, acc) else if h2 : p % d = 0 ∧ 0 < p then gp d (p / d) (acc ++ [48 + (d : Int)]) else gp (d - 1) p acc
termination_by d + p
decreasing_by
  · have := Nat.div_lt_self h2.2 (show 1 < d by omega); omega
  · omega
theorem gp_stop {d p : Nat} {acc : List Int} (h : d ≤ 1) : gp d p acc = (p, acc) := by rw [gp, dif_pos h]
theorem gp_take {d p : Nat} {acc : List Int} (h : ¬ d ≤ 1) (h2 : p % d = 0) (h3 : 0 < p) : gp d p acc = gp d (p / d) (acc ++ [48 + (d : Int)]) := by rw [gp, dif_neg h, dif_pos ⟨h2, h3⟩]
theorem gp_next {d p : Nat} {acc : List Int} (h : ¬ d ≤ 1) (h2 : ¬ p % d = 0) : gp d p acc = gp (d - 1) p acc := by rw [gp, dif_neg h, dif_neg (fun x => h2 x.1)]
/-- what is taken: digits from 2 to 9, and no more of them than doublings -/
theorem gp_facts : ∀ (n d p : Nat) (acc : List Int) (r : Nat) (l : List Int), d + p ≤ n → d ≤ 9 → 0 < p → gp d p acc = (r, l) → 0 < r ∧ (∃ m, l = acc ++ m ∧ digs m ∧ 2 ^ m.length * r ≤ p)
  | 0, d, p, acc, r, l, hn, h9, hp, h => by omega
  | n + 1, d, p, acc, r, l, hn, h9, hp, h => by
    by_cases c1 : d ≤ 1
    · rw [gp_stop c1] at h
      obtain ⟨rfl, rfl⟩ := Prod.mk.inj h
      exact ⟨hp, [], by simp, fun x hx => by simp at hx, by simp⟩
    · by_cases c2 : p % d = 0
      · rw [gp_take c1 c2 hp] at h
        have hlt := Nat.div_lt_self hp (show 1 < d by omega)
        have hpos : 0 < p / d := Nat.div_pos (Nat.le_of_dvd hp (Nat.dvd_of_mod_eq_zero c2)) (by omega)
        obtain ⟨h1, m, h2, h3, h4⟩ := gp_facts n d (p / d) _ r l (by omega) h9 hpos h
        refine ⟨h1, (48 + (d : Int)) :: m, by rw [h2]; simp, ?_, ?_⟩
        · intro x hx
          rcases List.mem_cons.1 hx with rfl | hx
          · omega
          · exact h3 x hx
        · have e : d * (p / d) ≤ p := Nat.mul_div_le p d
          have e2 : 2 * (p / d) ≤ d * (p / d) := Nat.mul_le_mul_right _ (by omega)
          rw [List.length_cons, Nat.pow_succ]
          have e3 : 2 ^ m.length * 2 * r = 2 * (2 ^ m.length * r) := by rw [Nat.mul_comm (2 ^ m.length) 2, Nat.mul_assoc]
          rw [e3]
          omega
      · rw [gp_next c1 c2] at h
        exact gp_facts n (d - 1) p acc r l (by omega) (by omega) hp h

/-- a row of bytes, in the words of 'Holds' -/
theorem kd_holds {w : World} {base : Nat} {ok : Nat → Prop} {g n cap : Nat} {xs : List Int} (h : Kd.R (Kd.int .u8) 5 w base ok (.slice (some ⟨g, 0, none⟩) n cap) xs) : Sort.Holds enc8 w g 0 xs.toArray := by
  intro j hj
  have hj' : j < xs.length := by simpa using hj
  have hn := (Kd.R_reads' h).1
  have := Kd.R_celln 0 h (j : Int) (by omega) (by omega)
  rw [Int.toNat_natCast] at this
  rw [Nat.zero_add]
  refine ⟨this.1.trans ?_, this.2⟩
  simp [rdOf, List.getD_eq_getElem?_getD, hj', List.getElem!_eq_getElem?_getD]

end Go.Proofs.Ytpdcjkiejglaiaa.Q

/-
  'LeastWithProduct': the walk.
-/
namespace Go.Proofs.Ytpdcjkiejglaiaa.Q
open Go.RowKit Go.Proofs.YtpdcjkiejglaiaaW.PrintWords Go.Proofs.YtpdcjkiejglaiaaW.PrintLast Go.Proofs.YtpdcjkiejglaiaaW.PrintMore
set_option linter.unusedVariables false
set_option linter.unusedSimpArgs false

theorem R_bareB (W : World) (base g : Nat) (h : W.heap[g]? = some (.cells #[] 5 (0, 0))) (hb : base ≤ g) :
    Kd.R (Kd.int .u8) 5 W base (fun _ => True) (.slice (some ⟨g, 0, none⟩) 0 0) [] :=
  ⟨fun _ _ => trivial, [], ⟨by simp, .inr ⟨g, 0, #[], by simp, hb, h, by simp, by simp [maxLen], by simp, by simp⟩⟩, Reps.none _ _⟩
theorem lw_byte (d : Nat) (h : d ≤ 9) : wrap64 (48 + (d : Int)) = 48 + (d : Int) ∧ IntKind.u8.wrap (48 + (d : Int)) = 48 + (d : Int) := by
  refine ⟨wrap_id (by omega) (by omega), ?_⟩
  have h2 : (2 : Int) ^ IntKind.u8.bits = 256 := by decide
  unfold IntKind.wrap
  simp only [h2, IntKind.signed, Bool.false_and, Bool.false_eq_true, if_false]
  omega
theorem lw_quo (p d : Nat) (h : p ≤ 1000000000000) : Int.tdiv (p : Int) (d : Int) = ((p / d : Nat) : Int) ∧ wrap64 ((p / d : Nat) : Int) = ((p / d : Nat) : Int) := by
  have hq := Nat.div_le_self p d
  refine ⟨rfl, ?_⟩
  generalize p / d = q at hq ⊢
  exact wrap_id (by omega) (by omega)

set_option maxHeartbeats 8000000 in
set_option maxRecDepth 100000 in
theorem lw_loop (a : Nat) (w : World) (ha1 : 2 ≤ a) (ha : a ≤ 1000000000000) (R : Nat) (l : List Int) (hgp : gp 9 a [] = (R, l)) (h17 : l.length ≤ 17) (hne : R = 1 → 1 ≤ l.length) (hdig : digs (sorted8 l.toArray)) (r1 : Int) (r2 : Bool) (hr : (if 1 < R then (0, false) else alRes l.toArray) = (r1, r2)) :
    Calls Try.prog 22 #[.int .i64 (a : Int)] w fun e w' => e = .returned (.tuple #[.int .i64 r1, .bool r2]) ∧ Below w.heap.size w w' := by
  have hip : impl_isProduct.f (a : Int) = some true := by unfold impl_isProduct.f impl_within.f; rw [if_pos (by omega)]; simp; omega
  have a1 : ((a : Int) == 1) = false := beq_eq_false_iff_ne.mpr (by omega)
  have a1b : decide ((a : Int) = 1) = false := decide_eq_false (by omega)
  have HIP := Aside0.mk hip
  have HGP := Aside0.mk hgp
  have H17 := Aside0.mk h17
  have HA := Aside0.mk ha
  have HA1 := Aside0.mk ha1
  have HR := Aside0.mk hr
  have HDG := Aside0.mk hdig
  have HNE := Aside0.mk hne
  clear hip hgp h17 ha ha1 hr hdig hne
  go_enter Try.func22, Try.ntmps22
  go_wp2_with (go_at_call 48; with_reducible refine (impl_isProduct.calls (a : Int) true _ HIP.out).mono ?_; rintro e w1 ⟨rfl, ⟨nd, rfl⟩⟩)
  have HB0 : Aside0 (Below w.heap.size w ((w.drewN nd).alloc (.cells #[] 5))) := ⟨below_alloc (pw_below_drewN (Below.refl _ _) _) _⟩
  have HO0 : Aside0 (Kd.R (Kd.int .u8) 5 ((w.drewN nd).alloc (.cells #[] 5)) w.heap.size (fun _ => True) (.slice (some ⟨w.heap.size, 0, none⟩) 0 0) []) := ⟨R_bareB _ _ _ (heap_alloc_new (w.drewN nd) _) (Nat.le_refl _)⟩
  have PRE : ∀ (d p : Nat) (acc : List Int), d ≤ 9 → 0 < p → gp d p acc = (R, l) → acc.length ≤ 17 ∧ 0 < R := fun d p acc h9 hp h => by
    obtain ⟨h1, m, h2, _, _⟩ := gp_facts (d + p) d p acc R l (Nat.le_refl _) h9 hp h
    have h3 := H17.out
    rw [h2, List.length_append] at h3
    exact ⟨by omega, h1⟩
  have HPRE := Aside0.mk PRE
  clear PRE
  go_loopg [0, 4, 5] 9 (fun gk v0 v4 v5 wr => ∃ (p d : Nat) (acc : List Int) (zp zd : Int), v0 = .int .i64 zp ∧ v5 = .int .i64 zd ∧ Aside0 (zp = (p : Int)) ∧ Aside0 (zd = (d : Int)) ∧ Aside0 (0 < p ∧ p ≤ 1000000000000) ∧ Aside0 (d ≤ 9 ∧ gk = d) ∧ Aside0 (gp d p acc = (R, l)) ∧ Aside0 (Kd.R (Kd.int .u8) 5 wr w.heap.size (fun _ => True) v4 acc) ∧ Aside0 (Below w.heap.size w wr))
  case atStart => exact ⟨a, 9, [], _, _, rfl, rfl, ⟨rfl⟩, ⟨rfl⟩, ⟨by have := HA1.out; omega, HA.out⟩, ⟨Nat.le_refl _, rfl⟩, HGP, HO0, HB0⟩
  case round =>
    clear HO0 HB0
    obtain ⟨p, d, acc, zp, zd, rfl, rfl, hzp, hzd, hp, hd, hgp, HO, HB⟩ := hrel
    obtain rfl : zp = (p : Int) := hzp.out
    obtain rfl : zd = (d : Int) := hzd.out
    clear hzp hzd
    by_cases c1 : d ≤ 1
    · have c1z : ((1 : Int) < (d : Int)) = False := eq_false (by omega)
      have hfin := hgp.out
      rw [gp_stop c1] at hfin
      obtain ⟨rfl, rfl⟩ := Prod.mk.inj hfin
      clear hfin c1
      by_cases c2 : 1 < p
      · have hr := HR.out
        rw [if_pos c2] at hr
        obtain ⟨rfl, rfl⟩ : (0 : Int) = r1 ∧ false = r2 := Prod.mk.inj hr
        have c2z : (1 : Int) < (p : Int) := by omega
        clear c2 hr
        go_wp2
        go_ret2
        exact ⟨rfl, HB.out⟩
      · have hr := HR.out
        rw [if_neg c2] at hr
        have c2z : ((1 : Int) < (p : Int)) = False := eq_false (by omega)
        have hl1 : 1 ≤ acc.length := HNE.out (by have := hp.out; omega)
        obtain ⟨g, cap, hv, hbg, hgl, cells, hcell⟩ := Kd.R_form HO.out (by omega)
        subst hv
        have hH := kd_holds HO.out
        have AL := asLeast_any g cap acc.length acc.toArray _ hH rfl hgl hl1 H17.out HDG.out r1 r2 hr
        have HAL := Aside0.mk AL
        have HBG := Aside0.mk hbg
        clear AL hH hcell hgl hbg c2 hr hl1
        go_wp2_with (go_at_call 49; refine HAL.out.mono ?_; rintro e w2 ⟨rfl, hm⟩)
        go_ret2
        exact ⟨rfl, Below.trans HB.out (hm.toBelow HBG.out HB.out.size)⟩
    · have c1z : (1 : Int) < (d : Int) := by omega
      have hd0 : ((d : Int) == 0) = false := beq_eq_false_iff_ne.mpr (by omega)
      have HC1 := Aside0.mk c1
      clear c1
      go_wp2
      go_loopg [0, 4] p (fun gj v0 v4 wv => ∃ (p : Nat) (acc : List Int) (zp : Int), v0 = .int .i64 zp ∧ Aside0 (zp = (p : Int)) ∧ Aside0 (0 < p ∧ p ≤ 1000000000000) ∧ Aside0 (gj = p) ∧ Aside0 (gp d p acc = (R, l)) ∧ Aside0 (Kd.R (Kd.int .u8) 5 wv w.heap.size (fun _ => True) v4 acc) ∧ Aside0 (Below w.heap.size w wv))
      case atStart => exact ⟨p, acc, _, rfl, ⟨rfl⟩, hp, ⟨rfl⟩, hgp, HO, HB⟩
      case round =>
        clear HO HB hgp hp
        obtain ⟨p, acc, zp, rfl, hzp, hp, hgj, hgp, HO, HB⟩ := hrel
        obtain rfl : zp = (p : Int) := hzp.out
        clear hzp
        have eq1 := lw_quo p d hp.out.2
        have eb := lw_byte d hd.out.1
        have em : Int.tmod (p : Int) (d : Int) = ((p % d : Nat) : Int) := rfl
        by_cases c2 : p % d = 0
        · have hg2 := hgp.out
          rw [gp_take HC1.out c2 hp.out.1] at hg2
          have HG2 := Aside0.mk hg2
          have c2z : ((((p % d : Nat) : Int)) == 0) = true := by rw [c2]; rfl
          have hpos : 0 < p / d := Nat.div_pos (Nat.le_of_dvd hp.out.1 (Nat.dvd_of_mod_eq_zero c2)) (by have := HC1.out; omega)
          have hlt := Nat.div_lt_self hp.out.1 (show 1 < d by have := HC1.out; omega)
          have hle : p / d ≤ 1000000000000 := Nat.le_trans (Nat.div_le_self _ _) hp.out.2
          have HPOS := Aside0.mk hpos
          have HLT := Aside0.mk hlt
          have HLE := Aside0.mk hle
          have HAL := Aside0.mk (HPRE.out d p acc hd.out.1 hp.out.1 hgp.out).1
          clear hg2 hpos hlt hle c2
          go_wp2_with ((with_reducible refine gate_builtin (b := .append) (xs := #[.tmp 20, .tmp 24]) rfl ?_); at_builtin; refine Kd.R_append (Kd.int .u8) (w0 := w) w.heap.size rfl (.tmp 20) (.tmp 24) 39 5 (.int .u8 0) 1 rfl Try.underlying39 info5 rfl (by decide) (by omega) u4 acc (48 + (d : Int)) [.int .u8 (48 + (d : Int))] (fun _ => True) (fun _ => False) rfl rfl ?aP (fun _ hk => hk.elim) ?aF ?aO ?aB ?aS ?aL ?_; (case aP => exact rfl); (case aB => exact HB.out); (case aF => exact fun _ _ => trivial); (case aO => exact HO.out); (case aS => exact HB.out.size); (case aL => have := HAL.out; omega); intro v1 w15 ho hb hg hat; have HO2 := Aside0.mk ho; have HB2 := Aside0.mk hb; clear ho hb hg hat)
          go_roundg (p / d)
          case measure => have := hgj.out; have := HLT.out; omega
          case rel => exact ⟨p / d, acc ++ [48 + (d : Int)], _, rfl, ⟨by first | exact eq1.2 | rfl⟩, ⟨HPOS.out, HLE.out⟩, ⟨rfl⟩, HG2, HO2, HB2⟩
        · have hg2 := hgp.out
          rw [gp_next HC1.out c2] at hg2
          have HG2 := Aside0.mk hg2
          have c2z : ((((p % d : Nat) : Int)) == 0) = false := beq_eq_false_iff_ne.mpr (by omega)
          have c2y : ((((p % d : Nat) : Int)) = 0) = False := eq_false (by omega)
          have ed : wrap64 ((d : Int) - 1) = ((d - 1 : Nat) : Int) := wrapU (by have := HC1.out; omega) (by omega) (by have := hd.out; omega)
          have ED := Aside0.mk ed
          clear hg2 c2 ed
          go_wp2
          go_roundg (d - 1)
          case measure => have := hd.out; have := HC1.out; omega
          case rel => exact ⟨p, d - 1, acc, _, _, rfl, rfl, ⟨rfl⟩, ⟨by first | exact ED.out | rfl⟩, hp, ⟨by have := hd.out; omega, rfl⟩, HG2, HO, HB⟩

end Go.Proofs.Ytpdcjkiejglaiaa.Q

/-
  The digits that are taken of a product are at most seventeen.
-/
namespace Go.Proofs.Ytpdcjkiejglaiaa.Q
open Go.RowKit Go.Proofs.YtpdcjkiejglaiaaW.PrintWords Go.Proofs.YtpdcjkiejglaiaaW.PrintLast Go.Proofs.YtpdcjkiejglaiaaW.PrintMore
set_option linter.unusedVariables false
set_option linter.unusedSimpArgs false

theorem mod_div {p d k : Nat} (hd : p % d = 0) (hk : p % k ≠ 0) : (p / d) % k ≠ 0 := fun h => by
  obtain ⟨c, hc⟩ := Nat.dvd_of_mod_eq_zero hd
  obtain ⟨e, he⟩ := Nat.dvd_of_mod_eq_zero h
  apply hk
  rcases Nat.eq_zero_or_pos d with rfl | hpos
  · simp at hc; subst hc; simp
  · rw [hc, Nat.mul_div_cancel_left _ hpos] at he
    rw [hc, he, ← Nat.mul_assoc, Nat.mul_comm d k, Nat.mul_assoc]
    exact Nat.mul_mod_right _ _
theorem gp_down : ∀ (n d p : Nat) (acc : List Int) (R : Nat) (l : List Int), d + p ≤ n → 4 ≤ d → d ≤ 9 → 0 < p → (∀ k, d < k → k ≤ 9 → p % k ≠ 0) → gp d p acc = (R, l) →
    ∃ p' m, gp 4 p' (acc ++ m) = (R, l) ∧ 5 ^ m.length * p' ≤ p ∧ 0 < p' ∧ ∀ k, 4 < k → k ≤ 9 → p' % k ≠ 0
  | 0, d, p, acc, R, l, hn, h4, h9, hp, hk, h => by omega
  | n + 1, d, p, acc, R, l, hn, h4, h9, hp, hk, h => by
    by_cases c0 : d = 4
    · subst c0
      exact ⟨p, [], by simpa using h, by simp, hp, hk⟩
    · by_cases c2 : p % d = 0
      · rw [gp_take (by omega) c2 hp] at h
        have hlt := Nat.div_lt_self hp (show 1 < d by omega)
        have hpos : 0 < p / d := Nat.div_pos (Nat.le_of_dvd hp (Nat.dvd_of_mod_eq_zero c2)) (by omega)
        obtain ⟨p', m, h1, h2, h3, h5⟩ := gp_down n d (p / d) _ R l (by omega) h4 h9 hpos (fun k a b => mod_div c2 (hk k a b)) h
        refine ⟨p', (48 + (d : Int)) :: m, by simpa using h1, ?_, h3, h5⟩
        have e : d * (p / d) ≤ p := Nat.mul_div_le p d
        have e2 : 5 * (p / d) ≤ d * (p / d) := Nat.mul_le_mul_right _ (by omega)
        rw [List.length_cons, Nat.pow_succ, Nat.mul_comm (5 ^ m.length) 5, Nat.mul_assoc]
        omega
      · rw [gp_next (by omega) c2] at h
        refine gp_down n (d - 1) p acc R l (by omega) (by omega) (by omega) hp (fun k a b => ?_) h
        by_cases e : k = d
        · rw [e]; exact c2
        · exact hk k (by omega) b
theorem gp_low {p R : Nat} {acc l : List Int} (hp : 0 < p) (h6 : p % 6 ≠ 0) (h8 : p % 8 ≠ 0) (h9 : p % 9 ≠ 0) (h : gp 4 p acc = (R, l)) : l.length = acc.length ∨ (l.length = acc.length + 1 ∧ 2 ≤ p) := by
  by_cases c4 : p % 4 = 0
  · rw [gp_take (by omega) c4 hp, gp_next (by omega) (by omega), gp_next (by omega) (by omega), gp_next (by omega) (by omega), gp_stop (by omega)] at h
    obtain ⟨_, rfl⟩ := Prod.mk.inj h
    right
    exact ⟨by simp, by omega⟩
  · rw [gp_next (by omega) c4] at h
    by_cases c3 : p % 3 = 0
    · rw [gp_take (by omega) c3 hp, gp_next (by omega) (by omega), gp_next (by omega) (by omega), gp_stop (by omega)] at h
      obtain ⟨_, rfl⟩ := Prod.mk.inj h
      right
      exact ⟨by simp, by omega⟩
    · rw [gp_next (by omega) c3] at h
      by_cases c2 : p % 2 = 0
      · rw [gp_take (by omega) c2 hp, gp_next (by omega) (by omega), gp_stop (by omega)] at h
        obtain ⟨_, rfl⟩ := Prod.mk.inj h
        right
        exact ⟨by simp, by omega⟩
      · rw [gp_next (by omega) c2, gp_stop (by omega)] at h
        obtain ⟨_, rfl⟩ := Prod.mk.inj h
        exact .inl rfl
theorem gp_17 {a R : Nat} {l : List Int} (h1 : 1 ≤ a) (h2 : a ≤ 1000000000000) (h : gp 9 a [] = (R, l)) : l.length ≤ 17 := by
  obtain ⟨p', m, hg, hm, hp, hk⟩ := gp_down (9 + a) 9 a [] R l (Nat.le_refl _) (by omega) (by omega) (by omega) (fun k a b => by omega) h
  rw [List.nil_append] at hg
  have low := gp_low hp (hk 6 (by omega) (by omega)) (hk 8 (by omega) (by omega)) (hk 9 (by omega) (by omega)) hg
  have big : ∀ q, q ≤ m.length → 5 ^ q ≤ 5 ^ m.length := fun q hq => Nat.pow_le_pow_right (by decide) hq
  have one : 5 ^ m.length * 1 ≤ 5 ^ m.length * p' := Nat.mul_le_mul_left _ hp
  rcases low with hl | ⟨hl, hp2⟩
  · rw [hl]
    apply Classical.byContradiction
    intro hx
    have := big 18 (by omega)
    have e : (5 : Nat) ^ 18 = 3814697265625 := by decide
    rw [e] at this
    omega
  · have two : 5 ^ m.length * 2 ≤ 5 ^ m.length * p' := Nat.mul_le_mul_left _ hp2
    rw [hl]
    apply Classical.byContradiction
    intro hx
    have := big 17 (by omega)
    have e : (5 : Nat) ^ 17 = 762939453125 := by decide
    rw [e] at this
    omega

end Go.Proofs.Ytpdcjkiejglaiaa.Q

/-
  The digits that are taken fall; in order they are those from their end.
-/
namespace Go.Proofs.Ytpdcjkiejglaiaa.Q
open Go.RowKit Go.Proofs.YtpdcjkiejglaiaaW.PrintWords Go.Proofs.YtpdcjkiejglaiaaW.PrintLast Go.Proofs.YtpdcjkiejglaiaaW.PrintMore
set_option linter.unusedVariables false
set_option linter.unusedSimpArgs false

theorem gp_falls : ∀ (n d p : Nat) (acc : List Int) (R : Nat) (l : List Int), d + p ≤ n → 0 < p → gp d p acc = (R, l) → ∃ m, l = acc ++ m ∧ (∀ x ∈ m, x ≤ 48 + (d : Int)) ∧ m.Pairwise (fun x y => y ≤ x)
  | 0, d, p, acc, R, l, hn, hp, h => by omega
  | n + 1, d, p, acc, R, l, hn, hp, h => by
    by_cases c1 : d ≤ 1
    · rw [gp_stop c1] at h
      obtain ⟨rfl, rfl⟩ := Prod.mk.inj h
      exact ⟨[], by simp, by simp, List.Pairwise.nil⟩
    · by_cases c2 : p % d = 0
      · rw [gp_take c1 c2 hp] at h
        have hlt := Nat.div_lt_self hp (show 1 < d by omega)
        have hpos : 0 < p / d := Nat.div_pos (Nat.le_of_dvd hp (Nat.dvd_of_mod_eq_zero c2)) (by omega)
        obtain ⟨m, h1, h2, h3⟩ := gp_falls n d (p / d) _ R l (by omega) hpos h
        refine ⟨(48 + (d : Int)) :: m, by rw [h1]; simp, ?_, List.Pairwise.cons (fun x hx => h2 x hx) h3⟩
        intro x hx
        rcases List.mem_cons.1 hx with rfl | hx
        · omega
        · exact h2 x hx
      · rw [gp_next c1 c2] at h
        obtain ⟨m, h1, h2, h3⟩ := gp_falls n (d - 1) p acc R l (by omega) hp h
        exact ⟨m, h1, fun x hx => by have := h2 x hx; omega, h3⟩
theorem swo8 : Sort.SWO lt8 where
  irrefl x := by simp [lt8]
  trans x y z h1 h2 := by simp only [lt8, decide_eq_true_eq] at *; omega
  ntrans x y z h1 h2 := by simp only [lt8, decide_eq_false_iff_not] at *; omega
theorem sorted8_rev (l : List Int) (h : l.Pairwise (fun x y => y ≤ x)) : sorted8 l.toArray = l.reverse := by
  have hS := Sort.insertionSort_holds (lt := lt8) swo8 l.toArray 0 l.toArray.size (Nat.zero_le _) (Nat.le_refl _)
  have un : ∀ x y, lt8 x y = false → lt8 y x = false → x = y := fun x y h1 h2 => by simp only [lt8, decide_eq_false_iff_not] at *; omega
  have e1 := Sort.sorted_unique_holds (lt := lt8) swo8 un l.toArray _ hS.1 hS.2
  have hR : Sort.PermIn 0 l.toArray.size l.toArray l.reverse.toArray := by
    refine ⟨by simp, fun i hi => ?_, by simp; rw [List.take_of_length_le (by simp)]; exact List.reverse_perm l⟩
    have h1 : l.length ≤ i := by
      rcases hi with h | h
      · omega
      · simpa using h
    simp [getElem!_def, h1]
  have hR2 : Sort.SortedIn lt8 0 l.toArray.size l.reverse.toArray := by
    intro i j _ hij hj
    have hj' : j < l.length := by simpa using hj
    have p := List.pairwise_reverse.2 h
    have := List.pairwise_iff_getElem.1 p i j (by simp; omega) (by simp; omega) hij
    rw [getElem!_pos _ j (by simp; omega), getElem!_pos _ i (by simp; omega)]
    simp only [List.getElem_toArray, lt8, decide_eq_false_iff_not]
    omega
  have e2 := Sort.sorted_unique_holds (lt := lt8) swo8 un l.toArray _ hR hR2
  unfold sorted8
  rw [e1, ← e2]

end Go.Proofs.Ytpdcjkiejglaiaa.Q

/- Laid by a program of this session (wip/tools/own_print.py) over the translation of this seat: contracts of the functions that the statement reaches. -/
namespace Go.Proofs.Ytpdcjkiejglaiaa.Q
open Go.RowKit Go.Proofs.YtpdcjkiejglaiaaW.PrintWords Go.Proofs.YtpdcjkiejglaiaaW.PrintLast Go.Proofs.YtpdcjkiejglaiaaW.PrintMore
attribute [local go_sem] max2_int min2_int max_two min_two max_three min_three max_four min_four   -- for this text's walks alone
set_option linter.unusedVariables false
set_option linter.unusedSimpArgs false

/-! ### spec_l1Most: function 47 -/
def spec_l1Most.f (a0 : Int) (a1 : Int) : Option (Int) := if a0 > a1 then (some a0) else (some a1)
set_option maxHeartbeats 8000000 in
set_option maxRecDepth 100000 in
theorem spec_l1Most.calls (a0 : Int) (a1 : Int) (r : Int) (w : World) (h : spec_l1Most.f a0 a1 = some r) :
    Calls Try.prog 47 #[.int .i64 a0, .int .i64 a1] w fun e w' => e = .returned (.int .i64 r) ∧ Drawn0 w w' := by
  have H : (if a0 > a1 then (some a0) else (some a1)) = some r := h
  clear h
  by_cases c3 : a0 > a1
  · rw [if_pos c3] at H
    have c3b0 : decide (a1 < a0) = true := decide_eq_true c3
    clear c3
    obtain rfl := Option.some.inj H
    go_enter Try.func47, Try.ntmps47
    go_wp2
    go_ret
    exact ⟨by first | rfl | (simp; done) | (simp [*]; done), by repeat (first | exact Drawn0.refl _ | apply Drawn0.step)⟩
  · rw [if_neg c3] at H
    have c3b0 : decide (a1 < a0) = false := decide_eq_false c3
    clear c3
    obtain rfl := Option.some.inj H
    go_enter Try.func47, Try.ntmps47
    go_wp2
    go_ret
    exact ⟨by first | rfl | (simp; done) | (simp [*]; done), by repeat (first | exact Drawn0.refl _ | apply Drawn0.step)⟩

end Go.Proofs.Ytpdcjkiejglaiaa.Q

/- Laid by a program of this session (wip/tools/own_print.py) over the translation of this seat: contracts of the functions that the statement reaches. -/
namespace Go.Proofs.Ytpdcjkiejglaiaa.Q
open Go.RowKit Go.Proofs.YtpdcjkiejglaiaaW.PrintWords Go.Proofs.YtpdcjkiejglaiaaW.PrintLast Go.Proofs.YtpdcjkiejglaiaaW.PrintMore
attribute [local go_sem] max2_int min2_int max_two min_two max_three min_three max_four min_four   -- for this text's walks alone
set_option linter.unusedVariables false
set_option linter.unusedSimpArgs false

/-! ### spec_LeastWithProduct: function 21 -/
mutual
def spec_LeastWithProduct.l0 : Nat → Int → Int → Int → Int → Option (Int × Bool)
  | 0, _, _, _, _ => none
  | k + 1, x0, x4, x5, x6 => if x6 > 1 then (spec_LeastWithProduct.l1 k x0 x4 x5 x6) else (if x0 > 1 then (some (0, false)) else (if x4 > 1000000000000 then (some (0, false)) else ((spec_l1Most.f 1 x4).bind fun t102 => (some (t102, true)))))
def spec_LeastWithProduct.l1 : Nat → Int → Int → Int → Int → Option (Int × Bool)
  | 0, _, _, _, _ => none
  | k + 1, x0, x4, x5, x6 => if x6 = 0 then (none) else (if (Int.tmod x0 x6) = 0 then (spec_LeastWithProduct.l1 k (wrap64 (Int.tdiv x0 x6)) (wrap64 (x4 + (wrap64 (x6 * x5)))) (wrap64 (x5 * 10)) x6) else (spec_LeastWithProduct.l0 k x0 x4 x5 (wrap64 (x6 - 1))))
end
def spec_LeastWithProduct.f (k : Nat) (a0 : Int) : Option (Int × Bool) := (spec_l1In.f a0 1 1000000000000).bind fun t101 => (if t101 = true then (spec_LeastWithProduct.l0 k a0 0 1 9) else (some (0, false)))
theorem spec_LeastWithProduct.mono_l : ∀ k, (∀ y0 y1 y2 y3, LeO (spec_LeastWithProduct.l0 k y0 y1 y2 y3) (spec_LeastWithProduct.l0 (k + 1) y0 y1 y2 y3)) ∧ (∀ y0 y1 y2 y3, LeO (spec_LeastWithProduct.l1 k y0 y1 y2 y3) (spec_LeastWithProduct.l1 (k + 1) y0 y1 y2 y3))
  | 0 => ⟨fun _ _ _ _ r h => by simp [spec_LeastWithProduct.l0] at h, fun _ _ _ _ r h => by simp [spec_LeastWithProduct.l1] at h⟩
  | k + 1 => by
    obtain ⟨ih0, ih1⟩ := spec_LeastWithProduct.mono_l k
    refine ⟨?_, ?_⟩
    · intro y0 y1 y2 y3
      unfold spec_LeastWithProduct.l0
      repeat' first
      | (with_reducible exact ih0 _ _ _ _)
      | (with_reducible exact ih1 _ _ _ _)
      | (with_reducible exact LeO.refl _)
      | (with_reducible exact LeO.none _)
      | (with_reducible refine LeO.ite ?_ ?_)
      | (with_reducible refine LeO.bind ?_ (fun _ => ?_))
      | exact ih0 _ _ _ _
      | exact ih1 _ _ _ _
      | exact LeO.none _
      | refine LeO.ite ?_ ?_
      | refine LeO.bind ?_ (fun _ => ?_)
    · intro y0 y1 y2 y3
      unfold spec_LeastWithProduct.l1
      repeat' first
      | (with_reducible exact ih0 _ _ _ _)
      | (with_reducible exact ih1 _ _ _ _)
      | (with_reducible exact LeO.refl _)
      | (with_reducible exact LeO.none _)
      | (with_reducible refine LeO.ite ?_ ?_)
      | (with_reducible refine LeO.bind ?_ (fun _ => ?_))
      | exact ih0 _ _ _ _
      | exact ih1 _ _ _ _
      | exact LeO.none _
      | refine LeO.ite ?_ ?_
      | refine LeO.bind ?_ (fun _ => ?_)
theorem spec_LeastWithProduct.mono : ∀ a0 k, LeO (spec_LeastWithProduct.f k a0) (spec_LeastWithProduct.f (k + 1) a0) := by
  intro a0 k
  obtain ⟨ih0, ih1⟩ := spec_LeastWithProduct.mono_l k
  unfold spec_LeastWithProduct.f
  repeat' first
      | (with_reducible exact ih0 _ _ _ _)
      | (with_reducible exact ih1 _ _ _ _)
      | (with_reducible exact LeO.refl _)
      | (with_reducible exact LeO.none _)
      | (with_reducible refine LeO.ite ?_ ?_)
      | (with_reducible refine LeO.bind ?_ (fun _ => ?_))
      | exact ih0 _ _ _ _
      | exact ih1 _ _ _ _
      | exact LeO.none _
      | refine LeO.ite ?_ ?_
      | refine LeO.bind ?_ (fun _ => ?_)
set_option maxHeartbeats 8000000 in
set_option maxRecDepth 100000 in
theorem spec_LeastWithProduct.calls (k : Nat) (a0 : Int) (r1 : Int) (r2 : Bool) (w : World) (h : spec_LeastWithProduct.f k a0 = some (r1, r2)) :
    Calls Try.prog 21 #[.int .i64 a0] w fun e w' => e = .returned (.tuple #[.int .i64 r1, .bool r2]) ∧ Drawn0 w w' := by
  have H : ((spec_l1In.f a0 1 1000000000000).bind fun t101 => (if t101 = true then (spec_LeastWithProduct.l0 k a0 0 1 9) else (some (0, false)))) = some (r1, r2) := h
  clear h
  replace H := Option.bind_eq_some_iff.mp H
  obtain ⟨t101, A20, H⟩ := H
  replace H : (if t101 = true then (spec_LeastWithProduct.l0 k a0 0 1 9) else (some (0, false))) = some (r1, r2) := H
  have A2 := Aside0.mk A20
  clear A20
  by_cases c3 : t101 = true
  · subst c3
    have H1 : (spec_LeastWithProduct.l0 k a0 0 1 9) = some (r1, r2) := by rw [if_pos rfl] at H; exact H
    clear H
    have H := H1
    clear H1
    have H' := Aside0.mk H
    clear H
    go_enter Try.func21, Try.ntmps21
    go_wp2_with (first | ((with_reducible refine gate_callee (f := 46) rfl ?_); refine goesL_ (some 8) rfl rfl Try.func46 (by kernel_rfl) rfl #[.int .i64 a0, .int .i64 1, .int .i64 1000000000000] rfl (by (try simp only [List.map_toArray, List.map_cons, List.map_nil]); first | done | rfl | (simp only [List.length_drop, List.length_take]; rfl)) ?_; (with_reducible refine (spec_l1In.calls a0 1 1000000000000 true _ A2.out).mono ?_); rintro e w' ⟨rfl, ⟨nd, rfl⟩⟩; refine ⟨_, rfl, ?_⟩))
    go_loopg [0, 4, 5, 6] k (fun kq v0 v4 v5 v6 w' => ∃ (x0_1 : Int) (x4_1 : Int) (x5_1 : Int) (x6_1 : Int), v0 = .int .i64 x0_1 ∧ v4 = .int .i64 x4_1 ∧ v5 = .int .i64 x5_1 ∧ v6 = .int .i64 x6_1 ∧ Aside0 (spec_LeastWithProduct.l0 kq x0_1 x4_1 x5_1 x6_1 = some (r1, r2)) ∧ Aside0 (kq ≤ k) ∧ Drawn0 w w')
    case atStart => exact ⟨(a0), (0), (1), (9), (by first | rfl | (simp; done) | (simp [*]; done)), (by first | rfl | (simp; done) | (simp [*]; done)), (by first | rfl | (simp; done) | (simp [*]; done)), (by first | rfl | (simp; done) | (simp [*]; done)), H', ⟨Nat.le_refl _⟩, by repeat (first | exact Drawn0.refl _ | apply Drawn0.step)⟩
    case round =>
      clear H'
      try clear c2
      try clear p2
      try clear c3
      obtain ⟨x0_1, x4_1, x5_1, x6_1, rfl, rfl, rfl, rfl, HA, HK1, ⟨m1, rfl⟩⟩ := hrel
      cases gk with
      | zero => exact absurd HA.out (by simp [spec_LeastWithProduct.l0])
      | succ k1 =>
        have H := HA.out
        clear HA
        simp only [spec_LeastWithProduct.l0] at H
        by_cases c4 : x6_1 > 1
        · rw [if_pos c4] at H
          have c4b0 : decide (1 < x6_1) = true := decide_eq_true c4
          clear c4
          have H' := Aside0.mk H
          clear H
          go_wp2
          go_loopg [0, 4, 5] k1 (fun kq v0 v4 v5 w' => ∃ (x0_2 : Int) (x4_2 : Int) (x5_2 : Int), v0 = .int .i64 x0_2 ∧ v4 = .int .i64 x4_2 ∧ v5 = .int .i64 x5_2 ∧ Aside0 (spec_LeastWithProduct.l1 kq x0_2 x4_2 x5_2 x6_1 = some (r1, r2)) ∧ Aside0 (kq ≤ k1) ∧ Drawn0 w w')
          case atStart => exact ⟨(x0_1), (x4_1), (x5_1), (by first | rfl | (simp; done) | (simp [*]; done)), (by first | rfl | (simp; done) | (simp [*]; done)), (by first | rfl | (simp; done) | (simp [*]; done)), H', ⟨Nat.le_refl _⟩, by repeat (first | exact Drawn0.refl _ | apply Drawn0.step)⟩
          case round =>
            clear H'
            try clear c2
            try clear p2
            try clear c3
            try clear c4
            try clear c4b0
            try clear p2
            obtain ⟨x0_2, x4_2, x5_2, rfl, rfl, rfl, HA, HK2, ⟨m2, rfl⟩⟩ := hrel
            cases gk with
            | zero => exact absurd HA.out (by simp [spec_LeastWithProduct.l1])
            | succ k2 =>
              have H := HA.out
              clear HA
              simp only [spec_LeastWithProduct.l1] at H
              by_cases c5 : x6_1 = 0
              · rw [if_pos c5] at H
                exact absurd H (by simp)
              · rw [if_neg c5] at H
                have c5b0 : (x6_1 == 0) = false := beq_eq_false_iff_ne.mpr c5
                have c5b1 : (x6_1 != 0) = true := bne_iff_ne.mpr c5
                by_cases c6 : (Int.tmod x0_2 x6_1) = 0
                · rw [if_pos c6] at H
                  have c6b0 : ((Int.tmod x0_2 x6_1) == 0) = true := beq_iff_eq.mpr c6
                  have c6b1 : ((Int.tmod x0_2 x6_1) != 0) = false := bne_eq_false_iff_eq.mpr c6
                  clear c6
                  have H' := Aside0.mk H
                  clear H
                  go_wp2
                  go_roundg k2
                  case measure => have := HK1.out; have := HK2.out; omega
                  case rel => exact ⟨(wrap64 (Int.tdiv x0_2 x6_1)), (wrap64 (x4_2 + (wrap64 (x6_1 * x5_2)))), (wrap64 (x5_2 * 10)), (by first | rfl | (simp; done) | (simp [*]; done)), (by first | rfl | (simp; done) | (simp [*]; done)), (by first | rfl | (simp; done) | (simp [*]; done)), H', ⟨by have := HK1.out; have := HK2.out; omega⟩, by repeat (first | exact Drawn0.refl _ | apply Drawn0.step)⟩
                · rw [if_neg c6] at H
                  have c6b0 : ((Int.tmod x0_2 x6_1) == 0) = false := beq_eq_false_iff_ne.mpr c6
                  have c6b1 : ((Int.tmod x0_2 x6_1) != 0) = true := bne_iff_ne.mpr c6
                  have H' := Aside0.mk H
                  clear H
                  go_wp2
                  go_roundg k2
                  case measure => have := HK1.out; have := HK2.out; omega
                  case rel => exact ⟨(x0_2), (x4_2), (x5_2), (wrap64 (x6_1 - 1)), (by first | rfl | (simp; done) | (simp [*]; done)), (by first | rfl | (simp; done) | (simp [*]; done)), (by first | rfl | (simp; done) | (simp [*]; done)), (by first | rfl | (simp; done) | (simp [*]; done)), H', ⟨by have := HK1.out; have := HK2.out; omega⟩, by repeat (first | exact Drawn0.refl _ | apply Drawn0.step)⟩
        · rw [if_neg c4] at H
          have c4b0 : decide (1 < x6_1) = false := decide_eq_false c4
          clear c4
          by_cases c7 : x0_1 > 1
          · rw [if_pos c7] at H
            have c7b0 : decide (1 < x0_1) = true := decide_eq_true c7
            clear c7
            simp only [Option.some.injEq, Prod.mk.injEq] at H
            obtain ⟨rfl, rfl⟩ := H
            go_wp2
            go_ret2
            exact ⟨by first | rfl | (simp; done) | (simp [*]; done), by repeat (first | exact Drawn0.refl _ | apply Drawn0.step)⟩
          · rw [if_neg c7] at H
            have c7b0 : decide (1 < x0_1) = false := decide_eq_false c7
            clear c7
            by_cases c8 : x4_1 > 1000000000000
            · rw [if_pos c8] at H
              have c8b0 : decide (1000000000000 < x4_1) = true := decide_eq_true c8
              clear c8
              simp only [Option.some.injEq, Prod.mk.injEq] at H
              obtain ⟨rfl, rfl⟩ := H
              go_wp2
              go_ret2
              exact ⟨by first | rfl | (simp; done) | (simp [*]; done), by repeat (first | exact Drawn0.refl _ | apply Drawn0.step)⟩
            · rw [if_neg c8] at H
              have c8b0 : decide (1000000000000 < x4_1) = false := decide_eq_false c8
              clear c8
              replace H := Option.bind_eq_some_iff.mp H
              obtain ⟨t102, A90, H⟩ := H
              replace H : (some (t102, true)) = some (r1, r2) := H
              have A9 := Aside0.mk A90
              clear A90
              simp only [Option.some.injEq, Prod.mk.injEq] at H
              obtain ⟨rfl, rfl⟩ := H
              go_wp2_with (first | ((with_reducible refine gate_callee (f := 47) rfl ?_); refine goesL_ (some 35) rfl rfl Try.func47 (by kernel_rfl) rfl #[.int .i64 1, .int .i64 x4_1] rfl (by (try simp only [List.map_toArray, List.map_cons, List.map_nil]); first | done | rfl | (simp only [List.length_drop, List.length_take]; rfl)) ?_; (with_reducible refine (spec_l1Most.calls 1 x4_1 t102 _ A9.out).mono ?_); rintro e w' ⟨rfl, ⟨nd, rfl⟩⟩; refine ⟨_, rfl, ?_⟩))
              go_ret2
              exact ⟨by first | rfl | (simp; done) | (simp [*]; done), by repeat (first | exact Drawn0.refl _ | apply Drawn0.step)⟩
  · replace c3 := Bool.eq_false_iff.mpr c3
    subst c3
    have H1 : (some (0, false)) = some (r1, r2) := by rw [if_neg (show ¬ (false = true) by decide)] at H; exact H
    clear H
    have H := H1
    clear H1
    simp only [Option.some.injEq, Prod.mk.injEq] at H
    obtain ⟨rfl, rfl⟩ := H
    go_enter Try.func21, Try.ntmps21
    go_wp2_with (first | ((with_reducible refine gate_callee (f := 46) rfl ?_); refine goesL_ (some 8) rfl rfl Try.func46 (by kernel_rfl) rfl #[.int .i64 a0, .int .i64 1, .int .i64 1000000000000] rfl (by (try simp only [List.map_toArray, List.map_cons, List.map_nil]); first | done | rfl | (simp only [List.length_drop, List.length_take]; rfl)) ?_; (with_reducible refine (spec_l1In.calls a0 1 1000000000000 false _ A2.out).mono ?_); rintro e w' ⟨rfl, ⟨nd, rfl⟩⟩; refine ⟨_, rfl, ?_⟩))
    go_ret2
    exact ⟨by first | rfl | (simp; done) | (simp [*]; done), by repeat (first | exact Drawn0.refl _ | apply Drawn0.step)⟩

end Go.Proofs.Ytpdcjkiejglaiaa.Q

/-
  The reference's number of the digits that are taken.
-/
namespace Go.Proofs.Ytpdcjkiejglaiaa.Q
open Go.RowKit Go.Proofs.YtpdcjkiejglaiaaW.PrintWords Go.Proofs.YtpdcjkiejglaiaaW.PrintLast Go.Proofs.YtpdcjkiejglaiaaW.PrintMore
set_option linter.unusedVariables false
set_option linter.unusedSimpArgs false

theorem val_from : ∀ (L : List Int) (a : Nat), List.foldl (fun a d => 10 * a + (d - 48).toNat) a L = a * 10 ^ L.length + val L
  | [], a => by simp [val]
  | x :: L, a => by
    have h1 := val_from L (10 * a + (x - 48).toNat)
    have h2 := val_from L (10 * 0 + (x - 48).toNat)
    have e : val (x :: L) = List.foldl (fun a d => 10 * a + (d - 48).toNat) (10 * 0 + (x - 48).toNat) L := rfl
    rw [List.foldl_cons, h1, e, h2, List.length_cons, Nat.pow_succ, Nat.add_mul, Nat.add_mul, Nat.mul_comm 10 a, Nat.mul_assoc, Nat.mul_comm 10 (10 ^ L.length)]
    omega
theorem val_cons (c : Int) (L : List Int) : val (c :: L) = (c - 48).toNat * 10 ^ L.length + val L := by
  have h := val_from L (10 * 0 + (c - 48).toNat)
  have e : val (c :: L) = List.foldl (fun a d => 10 * a + (d - 48).toNat) (10 * 0 + (c - 48).toNat) L := rfl
  rw [e, h, Nat.mul_zero, Nat.zero_add]
theorem lw_arith (d k m : Nat) (hd : d ≤ 9) (hk : k ≤ 16) (hm : m < 10 ^ k) : wrap64 ((m : Int) + wrap64 ((d : Int) * ((10 ^ k : Nat) : Int))) = ((d * 10 ^ k + m : Nat) : Int) ∧ wrap64 (((10 ^ k : Nat) : Int) * 10) = ((10 ^ (k + 1) : Nat) : Int) := by
  have hp : 10 ^ k ≤ 10 ^ 16 := Nat.pow_le_pow_right (by decide) hk
  have hp2 : 10 ^ k ≤ 10000000000000000 := by simpa using hp
  have e : d * 10 ^ k ≤ 9 * 10 ^ k := Nat.mul_le_mul_right _ hd
  rw [Nat.pow_succ]
  have ec : ((d : Int) * ((10 ^ k : Nat) : Int)) = ((d * 10 ^ k : Nat) : Int) := by rw [Int.natCast_mul]
  rw [ec]
  generalize d * 10 ^ k = q at *
  generalize 10 ^ k = P at *
  refine ⟨?_, ?_⟩
  · rw [wrap_id (i := (q : Int)) (by omega) (by omega), wrap_id (by omega) (by omega)]
    omega
  · rw [wrap_id (by omega) (by omega)]
    omega
def lwSpec (R : Nat) (v : Nat) : Int × Bool := if 1 < R then (0, false) else if 1000000000000 < v then (0, false) else ((max 1 v : Nat), true)

theorem lw_both (R : Nat) (l : List Int) (h17 : l.length ≤ 17) : ∀ (n d p : Nat) (acc : List Int), d + p ≤ n → d ≤ 9 → 0 < p → p ≤ 1000000000000 → digs acc → gp d p acc = (R, l) →
    Ev (fun k => spec_LeastWithProduct.l0 k (p : Int) ((val acc.reverse : Nat) : Int) ((10 ^ acc.length : Nat) : Int) (d : Int)) (lwSpec R (val l.reverse)) ∧
    (2 ≤ d → Ev (fun k => spec_LeastWithProduct.l1 k (p : Int) ((val acc.reverse : Nat) : Int) ((10 ^ acc.length : Nat) : Int) (d : Int)) (lwSpec R (val l.reverse)))
  | 0, d, p, acc, hn, h9, hp, hp2, hd, h => by omega
  | n + 1, d, p, acc, hn, h9, hp, hp2, hd, h => by
    have L1 : 2 ≤ d → Ev (fun k => spec_LeastWithProduct.l1 k (p : Int) ((val acc.reverse : Nat) : Int) ((10 ^ acc.length : Nat) : Int) (d : Int)) (lwSpec R (val l.reverse)) := by
      intro h2
      have em : Int.tmod (p : Int) (d : Int) = ((p % d : Nat) : Int) := rfl
      by_cases c2 : p % d = 0
      · have hg := h
        rw [gp_take (by omega) c2 hp] at hg
        have hlt := Nat.div_lt_self hp (show 1 < d by omega)
        have hpos : 0 < p / d := Nat.div_pos (Nat.le_of_dvd hp (Nat.dvd_of_mod_eq_zero c2)) (by omega)
        have hle := Nat.div_le_self p d
        obtain ⟨_, m, hm, _, _⟩ := gp_facts (d + p / d) d (p / d) _ R l (Nat.le_refl _) h9 hpos hg
        have hl16 : acc.length ≤ 16 := by
          have := congrArg List.length hm
          simp at this
          omega
        have hdig : digs (acc ++ [48 + (d : Int)]) := by
          intro x hx
          rcases List.mem_append.1 hx with hx | hx
          · exact hd x hx
          · have := List.mem_singleton.1 hx; omega
        have ih := (lw_both R l h17 n d (p / d) _ (by omega) h9 hpos (by omega) hdig hg).2 h2
        have hv : val (acc ++ [48 + (d : Int)]).reverse = d * 10 ^ acc.length + val acc.reverse := by
          rw [List.reverse_append, List.reverse_singleton, List.singleton_append, val_cons, List.length_reverse]
          congr 2
          omega
        have hlen : (acc ++ [48 + (d : Int)]).length = acc.length + 1 := by simp
        have hvl : val acc.reverse < 10 ^ acc.length := by
          have := val_lt acc.reverse (fun x hx => hd x (List.mem_reverse.1 hx))
          rwa [List.length_reverse] at this
        have ar := lw_arith d acc.length (val acc.reverse) h9 hl16 hvl
        rw [hv, hlen, ← ar.1, ← ar.2] at ih
        have eq1 : wrap64 (Int.tdiv (p : Int) (d : Int)) = ((p / d : Nat) : Int) := by
          rw [show Int.tdiv (p : Int) (d : Int) = ((p / d : Nat) : Int) from rfl]
          generalize p / d = q at hle ⊢
          exact wrap_id (by omega) (by omega)
        rw [← eq1] at ih
        refine Ev.step (fun k => ?_) ih
        simp only [spec_LeastWithProduct.l1]
        rw [if_neg (by omega), em, if_pos (by rw [c2]; rfl)]
      · have hg := h
        rw [gp_next (by omega) c2] at hg
        have ih := (lw_both R l h17 n (d - 1) p acc (by omega) (by omega) hp hp2 hd hg).1
        have ed : wrap64 ((d : Int) - 1) = ((d - 1 : Nat) : Int) := wrapU (by omega) (by omega) (by omega)
        rw [← ed] at ih
        refine Ev.step (fun k => ?_) ih
        simp only [spec_LeastWithProduct.l1]
        rw [if_neg (by omega), em, if_neg (by omega)]
    refine ⟨?_, L1⟩
    by_cases c1 : d ≤ 1
    · rw [gp_stop c1] at h
      obtain ⟨rfl, rfl⟩ := Prod.mk.inj h
      unfold lwSpec
      by_cases r1 : 1 < p
      · rw [if_pos r1]
        refine Ev.step (f := fun _ => some (0, false)) (fun k => ?_) (Ev.now _)
        simp only [spec_LeastWithProduct.l0]
        rw [if_neg (by omega), if_pos (by omega)]
      · rw [if_neg r1]
        by_cases r2 : 1000000000000 < val acc.reverse
        · rw [if_pos r2]
          refine Ev.step (f := fun _ => some (0, false)) (fun k => ?_) (Ev.now _)
          simp only [spec_LeastWithProduct.l0]
          rw [if_neg (by omega), if_neg (by omega), if_pos (by omega)]
        · rw [if_neg r2]
          refine Ev.step (f := fun _ => some (((max 1 (val acc.reverse) : Nat) : Int), true)) (fun k => ?_) (Ev.now _)
          simp only [spec_LeastWithProduct.l0, spec_l1Most.f]
          rw [if_neg (by omega), if_neg (by omega), if_neg (by omega)]
          by_cases c : (1 : Int) > ((val acc.reverse : Nat) : Int)
          · rw [if_pos c]
            simp only [Option.bind_some]
            congr 2
            omega
          · rw [if_neg c]
            simp only [Option.bind_some]
            congr 2
            omega
    · refine Ev.step (fun k => ?_) (L1 (by omega))
      simp only [spec_LeastWithProduct.l0]
      rw [if_pos (by omega)]

end Go.Proofs.Ytpdcjkiejglaiaa.Q

/-
  'LeastWithProduct': its contract, and that both tell the same.
-/
namespace Go.Proofs.Ytpdcjkiejglaiaa.Q
open Go.RowKit Go.Proofs.YtpdcjkiejglaiaaW.PrintWords Go.Proofs.YtpdcjkiejglaiaaW.PrintLast Go.Proofs.YtpdcjkiejglaiaaW.PrintMore
set_option linter.unusedVariables false
set_option linter.unusedSimpArgs false

theorem gp_more : ∀ (n d p : Nat) (acc : List Int) (R : Nat) (l : List Int), d + p ≤ n → 0 < p → gp d p acc = (R, l) → (∃ m, l = acc ++ m ∧ (∀ x ∈ m, 50 ≤ x) ∧ (m = [] → R = p))
  | 0, d, p, acc, R, l, hn, hp, h => by omega
  | n + 1, d, p, acc, R, l, hn, hp, h => by
    by_cases c1 : d ≤ 1
    · rw [gp_stop c1] at h
      obtain ⟨rfl, rfl⟩ := Prod.mk.inj h
      exact ⟨[], by simp, by simp, fun _ => rfl⟩
    · by_cases c2 : p % d = 0
      · rw [gp_take c1 c2 hp] at h
        have hlt := Nat.div_lt_self hp (show 1 < d by omega)
        have hpos : 0 < p / d := Nat.div_pos (Nat.le_of_dvd hp (Nat.dvd_of_mod_eq_zero c2)) (by omega)
        obtain ⟨m, h1, h2, _⟩ := gp_more n d (p / d) _ R l (by omega) hpos h
        refine ⟨(48 + (d : Int)) :: m, by rw [h1]; simp, ?_, fun e => by cases e⟩
        intro x hx
        rcases List.mem_cons.1 hx with rfl | hx
        · omega
        · exact h2 x hx
      · rw [gp_next c1 c2] at h
        exact gp_more n (d - 1) p acc R l (by omega) hp h

structure Taken (a R : Nat) (l : List Int) : Prop where
  pos : 0 < R
  dig : digs l
  two : ∀ x ∈ l, 50 ≤ x
  nil : l = [] → R = a
  le : 2 ^ l.length * R ≤ a
  l17 : l.length ≤ 17
  srt : sorted8 l.toArray = l.reverse
theorem taken {a R : Nat} {l : List Int} (h1 : 1 ≤ a) (h2 : a ≤ 1000000000000) (h : gp 9 a [] = (R, l)) : Taken a R l := by
  obtain ⟨p1, m, e1, p2, p3⟩ := gp_facts (9 + a) 9 a [] R l (Nat.le_refl _) (by omega) (by omega) h
  obtain ⟨m2, e2, q1, q2⟩ := gp_more (9 + a) 9 a [] R l (Nat.le_refl _) (by omega) h
  obtain ⟨m3, e3, _, r1⟩ := gp_falls (9 + a) 9 a [] R l (Nat.le_refl _) (by omega) h
  rw [List.nil_append] at e1 e2 e3
  subst e1
  subst e2
  subst e3
  exact ⟨p1, p2, q1, q2, p3, gp_17 h1 h2 h, sorted8_rev _ r1⟩
theorem val_big (l : List Int) (hne : l ≠ []) (h : ∀ x ∈ l, 50 ≤ x) : 2 * 10 ^ (l.length - 1) ≤ val l.reverse := by
  have hr : l.reverse ≠ [] := by simpa using hne
  cases hc : l.reverse with
  | nil => exact absurd hc hr
  | cons c L =>
    have hm : c ∈ l := by rw [← List.mem_reverse, hc]; exact List.mem_cons_self ..
    have hl : l.length = L.length + 1 := by rw [← List.length_reverse, hc]; rfl
    have h50 := h c hm
    rw [val_cons, hl, Nat.add_sub_cancel]
    have : 2 * 10 ^ L.length ≤ (c - 48).toNat * 10 ^ L.length := Nat.mul_le_mul_right _ (by omega)
    omega

def lwImpl (a0 : Int) : Int × Bool :=
  if 1 ≤ a0 ∧ a0 ≤ 1000000000000 then (if a0 = 1 then (1, true) else (if 1 < (gp 9 a0.toNat []).1 then (0, false) else alRes (gp 9 a0.toNat []).2.toArray)) else (0, false)
theorem lw_same (a : Nat) (h1 : 1 ≤ a) (h2 : a ≤ 1000000000000) : lwImpl (a : Int) = lwSpec (gp 9 a []).1 (val (gp 9 a []).2.reverse) := by
  obtain ⟨R, l, h⟩ : ∃ R l, gp 9 a [] = (R, l) := ⟨_, _, rfl⟩
  have t := taken h1 h2 h
  unfold lwImpl lwSpec
  rw [if_pos (by omega), Int.toNat_natCast, h]
  dsimp only
  by_cases c1 : a = 1
  · subst c1
    have hl : l.length = 0 := by
      apply Classical.byContradiction
      intro hx
      have e : 2 ^ 1 ≤ 2 ^ l.length := Nat.pow_le_pow_right (by decide) (by omega)
      have e2 := Nat.mul_le_mul_left (2 ^ l.length) t.pos
      have := t.le
      omega
    have hnil := List.eq_nil_of_length_eq_zero hl
    have hR := t.nil hnil
    subst hnil
    subst hR
    rfl
  · rw [if_neg (by omega)]
    by_cases c2 : 1 < R
    · rw [if_pos c2, if_pos c2]
    · rw [if_neg c2, if_neg c2]
      have hne : l ≠ [] := fun e => by have := t.nil e; have := t.pos; omega
      have hb := val_big l hne t.two
      have hvl : val l.reverse < 10 ^ l.length := by
        have := val_lt l.reverse (fun x hx => t.dig x (List.mem_reverse.1 hx))
        rwa [List.length_reverse] at this
      unfold alRes
      rw [t.srt]
      have hsz : l.toArray.size = l.length := rfl
      rw [hsz]
      by_cases c3 : l.length ≤ 12
      · have hp : 10 ^ l.length ≤ 10 ^ 12 := Nat.pow_le_pow_right (by decide) c3
        have hp2 : 0 < 10 ^ (l.length - 1) := Nat.pow_pos (by decide)
        have e12 : (10 : Nat) ^ 12 = 1000000000000 := by decide
        rw [if_pos c3, if_neg (by omega), Nat.max_eq_right (by omega)]
      · have hp : 10 ^ 12 ≤ 10 ^ (l.length - 1) := Nat.pow_le_pow_right (by decide) (by omega)
        have e12 : (10 : Nat) ^ 12 = 1000000000000 := by decide
        rw [if_neg c3, if_pos (by omega)]

set_option maxHeartbeats 4000000 in
set_option maxRecDepth 100000 in
theorem lw_any (a0 : Int) (w : World) (r1 : Int) (r2 : Bool) (hr : lwImpl a0 = (r1, r2)) :
    Calls Try.prog 22 #[.int .i64 a0] w fun e w' => e = .returned (.tuple #[.int .i64 r1, .bool r2]) ∧ Below w.heap.size w w' := by
  unfold lwImpl at hr
  by_cases g : 1 ≤ a0 ∧ a0 ≤ 1000000000000
  · rw [if_pos g] at hr
    by_cases c1 : a0 = 1
    · subst c1
      rw [if_pos rfl] at hr
      obtain ⟨rfl, rfl⟩ : (1 : Int) = r1 ∧ true = r2 := Prod.mk.inj hr
      have HIP : Aside0 (impl_isProduct.f 1 = some true) := ⟨by decide⟩
      clear hr g
      go_enter Try.func22, Try.ntmps22
      go_wp2_with (go_at_call 48; with_reducible refine (impl_isProduct.calls 1 true _ HIP.out).mono ?_; rintro e w1 ⟨rfl, ⟨nd, rfl⟩⟩)
      go_ret2
      exact ⟨rfl, pw_below_drewN (Below.refl _ _) _⟩
    · rw [if_neg c1] at hr
      obtain ⟨a, rfl⟩ : ∃ a : Nat, a0 = (a : Int) := ⟨a0.toNat, by omega⟩
      rw [Int.toNat_natCast] at hr
      obtain ⟨R, l, h⟩ : ∃ R l, gp 9 a [] = (R, l) := ⟨_, _, rfl⟩
      rw [h] at hr
      have t := taken (by omega) (by omega) h
      refine lw_loop a w (by omega) (by omega) R l h t.l17 (fun e => ?_) (by rw [t.srt]; exact fun x hx => t.dig x (List.mem_reverse.1 hx)) r1 r2 hr
      cases l with
      | nil => have := t.nil rfl; omega
      | cons x l => simp
  · rw [if_neg g] at hr
    obtain ⟨rfl, rfl⟩ : (0 : Int) = r1 ∧ false = r2 := Prod.mk.inj hr
    have HIP : Aside0 (impl_isProduct.f a0 = some false) := ⟨by
      unfold impl_isProduct.f impl_within.f
      by_cases c : 1 ≤ a0
      · rw [if_pos c, decide_eq_false (fun h => g ⟨c, h⟩)]; rfl
      · rw [if_neg c]; rfl⟩
    clear hr g
    go_enter Try.func22, Try.ntmps22
    go_wp2_with (go_at_call 48; with_reducible refine (impl_isProduct.calls a0 false _ HIP.out).mono ?_; rintro e w1 ⟨rfl, ⟨nd, rfl⟩⟩)
    go_ret2
    exact ⟨rfl, pw_below_drewN (Below.refl _ _) _⟩

/-- 'LeastWithProduct' -/
def impl_LeastWithProduct.f (a0 : Int) : Option (Int × Bool) := some (lwImpl a0)
theorem impl_LeastWithProduct.calls (a0 : Int) (r1 : Int) (r2 : Bool) (w : World) (h : impl_LeastWithProduct.f a0 = some (r1, r2)) :
    Calls Try.prog 22 #[.int .i64 a0] w fun e w' => e = .returned (.tuple #[.int .i64 r1, .bool r2]) ∧ Below w.heap.size w w' := lw_any a0 w r1 r2 (Option.some.inj h)

end Go.Proofs.Ytpdcjkiejglaiaa.Q

/- Laid by a program of this session (wip/tools/own_print.py) over the translation of this seat: contracts of the functions that the statement reaches. -/
namespace Go.Proofs.Ytpdcjkiejglaiaa.Q
open Go.RowKit Go.Proofs.YtpdcjkiejglaiaaW.PrintWords Go.Proofs.YtpdcjkiejglaiaaW.PrintLast Go.Proofs.YtpdcjkiejglaiaaW.PrintMore
attribute [local go_sem] max2_int min2_int max_two min_two max_three min_three max_four min_four   -- for this text's walks alone
set_option linter.unusedVariables false
set_option linter.unusedSimpArgs false

/-! ### laws_FnExactLeastWithProduct: function 8 -/
def laws_FnExactLeastWithProduct.f (k : Nat) (a0 : Int) : Option (Bool) := (spec_LeastWithProduct.f k a0).bind fun bt101 => ((impl_LeastWithProduct.f a0).bind fun bt103 => (if bt103.1 = bt101.1 then (if (bt103.2 != bt101.2) = true then (some false) else (some true)) else (some false)))
theorem laws_FnExactLeastWithProduct.mono : ∀ a0 k, LeO (laws_FnExactLeastWithProduct.f k a0) (laws_FnExactLeastWithProduct.f (k + 1) a0) := by
  intro a0 k
  unfold laws_FnExactLeastWithProduct.f
  repeat' first
      | (with_reducible exact spec_LeastWithProduct.mono _ _)
      | (with_reducible exact LeO.refl _)
      | (with_reducible exact LeO.none _)
      | (with_reducible refine LeO.ite ?_ ?_)
      | (with_reducible refine LeO.bind ?_ (fun _ => ?_))
      | exact spec_LeastWithProduct.mono _ _
      | exact LeO.none _
      | refine LeO.ite ?_ ?_
      | refine LeO.bind ?_ (fun _ => ?_)
set_option maxHeartbeats 8000000 in
set_option maxRecDepth 100000 in
theorem laws_FnExactLeastWithProduct.calls (k : Nat) (a0 : Int) (r : Bool) (w : World) (h : laws_FnExactLeastWithProduct.f k a0 = some r) :
    Calls Try.prog 8 #[.int .i64 a0] w fun e w' => e = .returned (.bool r) ∧ Below w.heap.size w w' := by
  have HB := Aside0.mk (Below.refl w.heap.size w)
  have H : ((spec_LeastWithProduct.f k a0).bind fun bt101 => ((impl_LeastWithProduct.f a0).bind fun bt103 => (if bt103.1 = bt101.1 then (if (bt103.2 != bt101.2) = true then (some false) else (some true)) else (some false)))) = some r := h
  clear h
  replace H := Option.bind_eq_some_iff.mp H
  obtain ⟨⟨t101, t102⟩, A20, H⟩ := H
  replace H : ((impl_LeastWithProduct.f a0).bind fun bt103 => (if bt103.1 = t101 then (if (bt103.2 != t102) = true then (some false) else (some true)) else (some false))) = some r := H
  have A2 := Aside0.mk A20
  clear A20
  replace H := Option.bind_eq_some_iff.mp H
  obtain ⟨⟨t103, t104⟩, A30, H⟩ := H
  replace H : (if t103 = t101 then (if (t104 != t102) = true then (some false) else (some true)) else (some false)) = some r := H
  have A3 := Aside0.mk A30
  clear A30
  by_cases c4 : t103 = t101
  · rw [if_pos c4] at H
    have c4b0 : (t103 == t101) = true := beq_iff_eq.mpr c4
    have c4b1 : (t103 != t101) = false := bne_eq_false_iff_eq.mpr c4
    clear c4
    by_cases c5 : (t104 != t102) = true
    · rw [if_pos c5] at H
      have c5b0 : (t104 != t102) = true := c5
      (try (have c5b1 : decide (t104 = t102) = false := by simpa using c5))
      (try (have c5b2 : (t104 == t102) = false := by simpa using c5))
      (try (have c5b3 : ¬ (t104 = t102) := by simpa using c5))
      clear c5
      obtain rfl := Option.some.inj H
      go_enter Try.func8, Try.ntmps8
      go_wp2_with (first | ((with_reducible refine gate_callee (f := 21) rfl ?_); refine goesL_ (some 9) rfl rfl Try.func21 (by kernel_rfl) rfl #[.int .i64 a0] rfl (by (try simp only [List.map_toArray, List.map_cons, List.map_nil]); first | done | rfl | (simp only [List.length_drop, List.length_take]; rfl)) ?_; (with_reducible refine (spec_LeastWithProduct.calls k a0 t101 t102 _ A2.out).mono ?_); rintro e w' ⟨rfl, ⟨nd, rfl⟩⟩; refine ⟨_, rfl, ?_⟩) | ((with_reducible refine gate_callee (f := 22) rfl ?_); refine goesL_ (some 14) rfl rfl Try.func22 (by kernel_rfl) rfl #[.int .i64 a0] rfl (by (try simp only [List.map_toArray, List.map_cons, List.map_nil]); first | done | rfl | (simp only [List.length_drop, List.length_take]; rfl)) ?_; (with_reducible refine (impl_LeastWithProduct.calls a0 t103 t104 _ A3.out).mono ?_); rintro e w6 ⟨rfl, hb⟩; refine ⟨_, rfl, ?_⟩; have n0_ := Aside0.mk (below_step (by repeat (first | (with_reducible first | exact HB.out | apply below_alloc | apply pw_below_drewN | apply below_drew1) | exact HB.out)) hb); clear HB; have HB := n0_; clear n0_; (try clear hb); (try clear hb2); (try clear hk); (try clear hi)))
      go_ret
      exact ⟨by first | rfl | (simp [errW_none, errW_some] <;> rfl) | (simp [*, errW_none, errW_some] <;> rfl), by repeat (first | (with_reducible first | exact HB.out | apply below_alloc | apply pw_below_drewN | apply below_drew1) | exact HB.out)⟩
    · rw [if_neg c5] at H
      have c5b0 : (t104 != t102) = false := by simpa using c5
      (try (have c5b1 : decide (t104 = t102) = true := by simpa using c5))
      (try (have c5b2 : (t104 == t102) = true := by simpa using c5))
      clear c5
      obtain rfl := Option.some.inj H
      go_enter Try.func8, Try.ntmps8
      go_wp2_with (first | ((with_reducible refine gate_callee (f := 21) rfl ?_); refine goesL_ (some 9) rfl rfl Try.func21 (by kernel_rfl) rfl #[.int .i64 a0] rfl (by (try simp only [List.map_toArray, List.map_cons, List.map_nil]); first | done | rfl | (simp only [List.length_drop, List.length_take]; rfl)) ?_; (with_reducible refine (spec_LeastWithProduct.calls k a0 t101 t102 _ A2.out).mono ?_); rintro e w' ⟨rfl, ⟨nd, rfl⟩⟩; refine ⟨_, rfl, ?_⟩) | ((with_reducible refine gate_callee (f := 22) rfl ?_); refine goesL_ (some 14) rfl rfl Try.func22 (by kernel_rfl) rfl #[.int .i64 a0] rfl (by (try simp only [List.map_toArray, List.map_cons, List.map_nil]); first | done | rfl | (simp only [List.length_drop, List.length_take]; rfl)) ?_; (with_reducible refine (impl_LeastWithProduct.calls a0 t103 t104 _ A3.out).mono ?_); rintro e w7 ⟨rfl, hb⟩; refine ⟨_, rfl, ?_⟩; have n0_ := Aside0.mk (below_step (by repeat (first | (with_reducible first | exact HB.out | apply below_alloc | apply pw_below_drewN | apply below_drew1) | exact HB.out)) hb); clear HB; have HB := n0_; clear n0_; (try clear hb); (try clear hb2); (try clear hk); (try clear hi)))
      go_ret
      exact ⟨by first | rfl | (simp [errW_none, errW_some] <;> rfl) | (simp [*, errW_none, errW_some] <;> rfl), by repeat (first | (with_reducible first | exact HB.out | apply below_alloc | apply pw_below_drewN | apply below_drew1) | exact HB.out)⟩
  · rw [if_neg c4] at H
    have c4b0 : (t103 == t101) = false := beq_eq_false_iff_ne.mpr c4
    have c4b1 : (t103 != t101) = true := bne_iff_ne.mpr c4
    obtain rfl := Option.some.inj H
    go_enter Try.func8, Try.ntmps8
    go_wp2_with (first | ((with_reducible refine gate_callee (f := 21) rfl ?_); refine goesL_ (some 9) rfl rfl Try.func21 (by kernel_rfl) rfl #[.int .i64 a0] rfl (by (try simp only [List.map_toArray, List.map_cons, List.map_nil]); first | done | rfl | (simp only [List.length_drop, List.length_take]; rfl)) ?_; (with_reducible refine (spec_LeastWithProduct.calls k a0 t101 t102 _ A2.out).mono ?_); rintro e w' ⟨rfl, ⟨nd, rfl⟩⟩; refine ⟨_, rfl, ?_⟩) | ((with_reducible refine gate_callee (f := 22) rfl ?_); refine goesL_ (some 14) rfl rfl Try.func22 (by kernel_rfl) rfl #[.int .i64 a0] rfl (by (try simp only [List.map_toArray, List.map_cons, List.map_nil]); first | done | rfl | (simp only [List.length_drop, List.length_take]; rfl)) ?_; (with_reducible refine (impl_LeastWithProduct.calls a0 t103 t104 _ A3.out).mono ?_); rintro e w8 ⟨rfl, hb⟩; refine ⟨_, rfl, ?_⟩; have n0_ := Aside0.mk (below_step (by repeat (first | (with_reducible first | exact HB.out | apply below_alloc | apply pw_below_drewN | apply below_drew1) | exact HB.out)) hb); clear HB; have HB := n0_; clear n0_; (try clear hb); (try clear hb2); (try clear hk); (try clear hi)))
    go_ret
    exact ⟨by first | rfl | (simp [errW_none, errW_some] <;> rfl) | (simp [*, errW_none, errW_some] <;> rfl), by repeat (first | (with_reducible first | exact HB.out | apply below_alloc | apply pw_below_drewN | apply below_drew1) | exact HB.out)⟩

/-- THE ONE PURE STATEMENT of laws_FnExactLeastWithProduct: yours. -/
def laws_FnExactLeastWithProduct.Pure : Prop := ∀ (a0 : Int), (Lit.int .i64 a0).wf = true → ∃ k, laws_FnExactLeastWithProduct.f k a0 = some true
theorem laws_FnExactLeastWithProduct.walk (P : laws_FnExactLeastWithProduct.Pure) (a0 : Int) (w : World) (w0 : (Lit.int .i64 a0).wf = true) :
    Calls Try.prog 8 #[.int .i64 a0] w fun e w' => e = .returned (.bool true) ∧ Below w.heap.size w w' := by
  obtain ⟨k, h⟩ := P a0 w0
  refine (laws_FnExactLeastWithProduct.calls k a0 true w h).mono ?_
  rintro e w' ⟨rfl, hd⟩
  exact ⟨rfl, hd⟩

end Go.Proofs.Ytpdcjkiejglaiaa.Q

namespace Go.Proofs.Ytpdcjkiejglaiaa.Pure
open Go.RowKit Go.Proofs.Ytpdcjkiejglaiaa.Q Go.Proofs.YtpdcjkiejglaiaaW.PrintWords Go.Proofs.YtpdcjkiejglaiaaW.PrintLast
set_option linter.unusedVariables false

theorem spec_lw_ev (a0 : Int) : Ev (fun k => spec_LeastWithProduct.f k a0) (lwImpl a0) := by
  unfold spec_LeastWithProduct.f spec_l1In.f
  by_cases g : 1 ≤ a0 ∧ a0 ≤ 1000000000000
  · rw [if_pos (show a0 ≥ 1 from g.1), decide_eq_true g.2]
    obtain ⟨a, rfl⟩ : ∃ a : Nat, a0 = (a : Int) := ⟨a0.toNat, by omega⟩
    obtain ⟨R, l, h⟩ : ∃ R l, gp 9 a [] = (R, l) := ⟨_, _, rfl⟩
    have t := taken (by omega) (by omega) h
    have key := (lw_both R l t.l17 (9 + a) 9 a [] (Nat.le_refl _) (by omega) (by omega) (by omega) (fun x hx => by simp at hx) h).1
    rw [lw_same a (by omega) (by omega), h]
    exact Ev.bind' (Ev.now _) (Ev.pos rfl key)
  · have hf : (if a0 ≥ 1 then (some (decide (a0 ≤ 1000000000000))) else (some false)) = some false := by
      by_cases c : a0 ≥ 1
      · rw [if_pos c, decide_eq_false (fun h => g ⟨c, h⟩)]
      · rw [if_neg c]
    rw [hf]
    unfold lwImpl
    rw [if_neg g]
    exact Ev.bind' (Ev.now _) (Ev.neg (by decide) (Ev.now _))
theorem FnExactLeastWithProduct : laws_FnExactLeastWithProduct.Pure := by
  intro a0 h0
  apply Ev.rounds
  unfold laws_FnExactLeastWithProduct.f impl_LeastWithProduct.f
  refine Ev.bind' (spec_lw_ev a0) (Ev.bind' (Ev.now _) (Ev.pos rfl (Ev.neg ?_ (Ev.now _))))
  simp

end Go.Proofs.Ytpdcjkiejglaiaa.Pure
