/-
  Texts of this claim, joined in their build order: the contracts of the functions that the statement reaches, and plain lemmas.
-/
import Derived.Test.YtpdcjkiejglaiaaJFnExactMilesToDigits1
import Derived.Test.YtpdcjkiejglaiaaJFnExactMilesToDigits0
import Derived.OneCell

/-
  The reference's test of a beginning, all six kinds.
-/
namespace Go.Proofs.Ytpdcjkiejglaiaa.Q
open Go.RowKit Go.Proofs.YtpdcjkiejglaiaaW.PrintWords Go.Proofs.YtpdcjkiejglaiaaW.PrintLast Go.Proofs.YtpdcjkiejglaiaaW.PrintMore
set_option linter.unusedVariables false
set_option linter.unusedSimpArgs false

theorem can_ev (c : UInt8) (hc : isLetter c) (n i v : Nat) (h1 : 1 ≤ n) (h9 : n ≤ 9) (hi : i ≤ n) (hv : v < 10 ^ i) :
    ∃ b, Ev (fun k => spec_miCan.f k (n : Int) (tx i v) (kt c)) b ∧ (i = n → b = K (c.toNat : Int) n v) ∧
      ((∃ m, m / 10 ^ (n - i) = v ∧ K (c.toNat : Int) n m = true) → b = true) := by
  have hz := tx_size i v
  have hd := tx_dig i v
  have ne : ∀ {a b : UInt8}, a ≠ b → ¬ ([a] : List UInt8) = [b] := fun h e => h (by simpa using e)
  unfold spec_miCan.f
  simp only [kt_toList]
  by_cases hin : i = n
  · subst hin
    refine ⟨K (c.toNat : Int) i v, Ev.pos (by rw [hz]) (Ev.bind' (miIs_ev c hc _ (by omega) (by omega) hd) (Ev.eq (Ev.now _) (by unfold K; rw [hz]))), fun _ => rfl, ?_⟩
    rintro ⟨m, hm, hk⟩
    rw [Nat.sub_self, Nat.pow_zero, Nat.div_one] at hm
    rw [← hm]; exact hk
  · have hlt : i < n := by omega
    have hs : ¬ ((tx i v).size : Int) = (n : Int) := by rw [hz]; omega
    have pb : ∀ m j, m / 10 ^ (n - i) = v → j < i → bt (tx n m) j = bt (tx i v) j := fun m j hm hj => by rw [pre_bt n i m j hi hj, hm]
    -- what it is to be of the kind
    have cl : ∀ (g : Bool) , (∃ b, Ev (fun k => if ([c] : List UInt8) = ([97] : List UInt8) then ((spec_miDigits.f (tx i v)).bind fun t102 => (some (decide (t102 ≤ 1)))) else (if ([c] : List UInt8) = ([100] : List UInt8) then ((spec_miDigits.f (tx i v)).bind fun t103 => (some (t103 == ((tx i v).size : Int)))) else (if ([c] : List UInt8) = ([114] : List UInt8) then ((spec_miIs.f k (tx i v) (⟨#[114]⟩ : ByteArray)).bind fun t104 => (if t104 = true then (if ((tx i v).size : Int) = 0 then (some true) else (if 0 ≤ (wrap64 (((tx i v).size : Int) - 1)) then (if (wrap64 (((tx i v).size : Int) - 1)) < ((tx i v).size : Int) then (some (decide (((57 - (bt (tx i v) (wrap64 (((tx i v).size : Int) - 1)))) % 256) ≥ (wrap64 ((n : Int) - ((tx i v).size : Int)))))) else (none)) else (none))) else (some false))) else (if ([c] : List UInt8) = ([102] : List UInt8) then ((spec_miIs.f k (tx i v) (⟨#[102]⟩ : ByteArray)).bind fun t105 => (if t105 = true then (if ((tx i v).size : Int) = 0 then (some true) else (if 0 ≤ (wrap64 (((tx i v).size : Int) - 1)) then (if (wrap64 (((tx i v).size : Int) - 1)) < ((tx i v).size : Int) then (some (decide ((((bt (tx i v) (wrap64 (((tx i v).size : Int) - 1))) - 48) % 256) ≥ (wrap64 ((n : Int) - ((tx i v).size : Int)))))) else (none)) else (none))) else (some false))) else (spec_miCan.l0 k (n : Int) (tx i v) (kt c) ((tx i v).size : Int) 0))))) b ∧ ((∃ m, m / 10 ^ (n - i) = v ∧ K (c.toNat : Int) n m = true) → b = true)) →
        ∃ b, Ev (fun k => if ((tx i v).size : Int) = (n : Int) then ((spec_miIs.f k (tx i v) (kt c)).bind fun t101 => (some t101)) else (if ([c] : List UInt8) = ([97] : List UInt8) then ((spec_miDigits.f (tx i v)).bind fun t102 => (some (decide (t102 ≤ 1)))) else (if ([c] : List UInt8) = ([100] : List UInt8) then ((spec_miDigits.f (tx i v)).bind fun t103 => (some (t103 == ((tx i v).size : Int)))) else (if ([c] : List UInt8) = ([114] : List UInt8) then ((spec_miIs.f k (tx i v) (⟨#[114]⟩ : ByteArray)).bind fun t104 => (if t104 = true then (if ((tx i v).size : Int) = 0 then (some true) else (if 0 ≤ (wrap64 (((tx i v).size : Int) - 1)) then (if (wrap64 (((tx i v).size : Int) - 1)) < ((tx i v).size : Int) then (some (decide (((57 - (bt (tx i v) (wrap64 (((tx i v).size : Int) - 1)))) % 256) ≥ (wrap64 ((n : Int) - ((tx i v).size : Int)))))) else (none)) else (none))) else (some false))) else (if ([c] : List UInt8) = ([102] : List UInt8) then ((spec_miIs.f k (tx i v) (⟨#[102]⟩ : ByteArray)).bind fun t105 => (if t105 = true then (if ((tx i v).size : Int) = 0 then (some true) else (if 0 ≤ (wrap64 (((tx i v).size : Int) - 1)) then (if (wrap64 (((tx i v).size : Int) - 1)) < ((tx i v).size : Int) then (some (decide ((((bt (tx i v) (wrap64 (((tx i v).size : Int) - 1))) - 48) % 256) ≥ (wrap64 ((n : Int) - ((tx i v).size : Int)))))) else (none)) else (none))) else (some false))) else (spec_miCan.l0 k (n : Int) (tx i v) (kt c) ((tx i v).size : Int) 0)))))) b ∧ (i = n → b = K (c.toNat : Int) n v) ∧ ((∃ m, m / 10 ^ (n - i) = v ∧ K (c.toNat : Int) n m = true) → b = true) := by
      rintro g ⟨b, hb, hk⟩
      exact ⟨b, Ev.neg hs hb, fun h => absurd h hin, hk⟩
    refine cl true ?_
    clear cl
    rcases hc with rfl | rfl | rfl | rfl | rfl | rfl
    · -- all alike
      have hmd := miDigits_dig (s := tx i v) (by omega) hd
      refine ⟨_, Ev.pos rfl (Ev.some_of fun k => by rw [hmd]; rfl), ?_⟩
      rintro ⟨m, hm, hk⟩
      rw [decide_eq_true_eq, hz]
      by_cases h0 : i = 0
      · subst h0; show (0 : Int) ≤ 1; omega
      · have hka := kind_a (tx i v) (by omega)
        rw [hz] at hka
        have : allF (mayAt 97 (tx i v) i) i 0 = true := by
          rw [allF_iff]
          intro j _ hj
          have := (K_iff _ _ _).1 hk j (by omega)
          have e : ∀ (s : ByteArray) (q : Nat), (mayAt 97 s q j = true ↔ bt s j = bt s ((0 : Nat) : Int)) := fun s q => by simp [mayAt]
          rw [show (((97 : UInt8).toNat : Nat) : Int) = 97 from rfl] at this
          rw [e] at this ⊢
          rw [← pb m j hm (by omega), ← pb m 0 hm (by omega)]
          exact this
        rw [this, beq_iff_eq] at hka
        omega
    · -- mirrored
      refine ⟨_, Ev.neg (ne (by decide)) (Ev.neg (ne (by decide)) (Ev.neg (ne (by decide)) (Ev.neg (ne (by decide)) (can_m n (tx i v) h9 (by omega))))), ?_⟩
      rintro ⟨m, hm, hk⟩
      rw [hz, allF_iff]
      intro j _ hj
      have e : ∀ j, (mayAt 109 (tx n m) n j = true ↔ j < n - 1 - j ∨ bt (tx n m) ((n - 1 - j : Nat) : Int) = bt (tx n m) j) := fun j => by simp [mayAt]
      simp only [canM, Bool.or_eq_true, decide_eq_true_eq, beq_iff_eq, hz]
      by_cases c : n - 1 - j < i
      · right
        rw [← pb m j hm (by omega), ← pb m _ hm c]
        by_cases d : j < n - 1 - j
        · have := (e (n - 1 - j)).1 ((K_iff _ _ _).1 hk _ (by omega))
          rw [show n - 1 - (n - 1 - j) = j by omega] at this
          rcases this with h | h
          · omega
          · exact h.symm
        · rcases (e j).1 ((K_iff _ _ _).1 hk j (by omega)) with h | h
          · exact absurd h d
          · exact h
      · exact .inl c
    · -- upside down
      refine ⟨_, Ev.neg (ne (by decide)) (Ev.neg (ne (by decide)) (Ev.neg (ne (by decide)) (Ev.neg (ne (by decide)) (can_u n (tx i v) h9 (by omega))))), ?_⟩
      rintro ⟨m, hm, hk⟩
      rw [hz, allF_iff]
      intro j _ hj
      have e : ∀ j, (mayAt 117 (tx n m) n j = true ↔ up (bt (tx n m) j) ≠ 0 ∧ (j < n - 1 - j ∨ bt (tx n m) ((n - 1 - j : Nat) : Int) = up (bt (tx n m) j))) := fun j => by simp [mayAt]
      have hj' := (e j).1 ((K_iff _ _ _).1 hk j (by omega))
      simp only [canU, Bool.and_eq_true, Bool.or_eq_true, decide_eq_true_eq, beq_iff_eq, bne_iff_ne, hz]
      rw [← pb m j hm (by omega)]
      refine ⟨⟨hj'.1, ?_⟩, ?_⟩
      · by_cases c : 2 * j + 1 = n
        · right
          rcases hj'.2 with h | h
          · omega
          · rw [show n - 1 - j = j by omega] at h; exact h.symm
        · exact .inl c
      · by_cases c : n - 1 - j < i
        · right
          rw [← pb m _ hm c]
          by_cases d : j < n - 1 - j
          · have := ((e (n - 1 - j)).1 ((K_iff _ _ _).1 hk _ (by omega)))
            rw [show n - 1 - (n - 1 - j) = j by omega] at this
            rcases this.2 with h | h
            · omega
            · rw [h, up_up this.1]
          · rcases hj'.2 with h | h
            · exact absurd h d
            · exact h
        · exact .inl c
    · -- rising
      have e : ∀ (m j : Nat), (mayAt 114 (tx n m) n j = true ↔ (j = 0 ∨ bt (tx n m) ((j - 1 : Nat) : Int) < bt (tx n m) j) ∧ bt (tx n m) j - 48 + ((n - 1 - j : Nat) : Int) ≤ 9) := fun m j => by simp [mayAt]
      refine ⟨if i = 0 then true else allF (riseAt (tx i v)) (i - 1) 1 && decide ((57 - (bt (tx i v) ((i - 1 : Nat) : Int))) % 256 ≥ ((n - i : Nat) : Int)), Ev.neg (ne (by decide)) (Ev.neg (ne (by decide)) (Ev.pos rfl ?_)), ?_⟩
      · by_cases h0 : i = 0
        · subst h0
          have : Ev (fun k => spec_miIs.f k (tx 0 v) (⟨#[114]⟩ : ByteArray)) true := by
            unfold spec_miIs.f
            have e0 : (⟨#[114]⟩ : ByteArray).toList = [114] := kt_toList 114
            simp only [e0]
            refine Ev.neg (ne (by decide)) (Ev.neg (ne (by decide)) (Ev.neg (ne (by decide)) (Ev.neg (ne (by decide)) ?_)))
            refine Ev.step (f := fun _ => some true) (fun k => ?_) (Ev.now _)
            simp only [spec_miIs.l0]
            rw [if_neg (by rw [hz]; omega)]
          exact Ev.bind' this (Ev.pos rfl (Ev.pos (by rw [hz]; rfl) (Ev.now _)))
        · rw [if_neg h0]
          have h2 := miIs_ev 114 (by simp [isLetter]) (tx i v) (by omega) (by omega) hd
          rw [show ((UInt8.toNat 114 : Nat) : Int) = 114 from rfl, ← kind_r _ (by omega) hd, hz] at h2
          refine Ev.bind' h2 ?_
          have w1 : wrap64 (((tx i v).size : Int) - 1) = ((i - 1 : Nat) : Int) := by rw [hz, wrap_id (by omega) (by omega)]; omega
          have w2 : wrap64 ((n : Int) - ((tx i v).size : Int)) = ((n - i : Nat) : Int) := by rw [hz, wrap_id (by omega) (by omega)]; omega
          rw [w1, w2, hz]
          by_cases hr : allF (riseAt (tx i v)) (i - 1) 1 = true
          · exact Ev.pos hr (Ev.neg (by omega) (Ev.pos (by omega) (Ev.pos (by omega) (Ev.eq (Ev.now _) (by rw [hr, Bool.true_and])))))
          · refine Ev.neg hr (Ev.eq (Ev.now _) ?_)
            rw [Bool.not_eq_true] at hr
            rw [hr, Bool.false_and]
      · rintro ⟨m, hm, hk⟩
        by_cases h0 : i = 0
        · rw [if_pos h0]
        · rw [if_neg h0, Bool.and_eq_true, allF_iff, decide_eq_true_eq]
          constructor
          · intro j hj1 hj2
            rcases ((e m j).1 ((K_iff _ _ _).1 hk j (by omega))).1 with h | h
            · omega
            · rw [riseAt, decide_eq_true_eq, ← pb m j hm (by omega), ← pb m _ hm (by omega)]
              exact h
          · have := ((e m (i - 1)).1 ((K_iff _ _ _).1 hk (i - 1) (by omega))).2
            rw [pb m _ hm (by omega)] at this
            have := hd (i - 1) (by omega)
            omega
    · -- falling
      have e : ∀ (m j : Nat), (mayAt 102 (tx n m) n j = true ↔ (j = 0 ∨ bt (tx n m) j < bt (tx n m) ((j - 1 : Nat) : Int)) ∧ ((n - 1 - j : Nat) : Int) ≤ bt (tx n m) j - 48) := fun m j => by simp [mayAt]
      refine ⟨if i = 0 then true else allF (fallAt (tx i v)) (i - 1) 1 && decide ((bt (tx i v) ((i - 1 : Nat) : Int) - 48) % 256 ≥ ((n - i : Nat) : Int)), Ev.neg (ne (by decide)) (Ev.neg (ne (by decide)) (Ev.neg (ne (by decide)) (Ev.pos rfl ?_))), ?_⟩
      · by_cases h0 : i = 0
        · subst h0
          have : Ev (fun k => spec_miIs.f k (tx 0 v) (⟨#[102]⟩ : ByteArray)) true := by
            unfold spec_miIs.f
            have e0 : (⟨#[102]⟩ : ByteArray).toList = [102] := kt_toList 102
            simp only [e0]
            refine Ev.neg (ne (by decide)) (Ev.neg (ne (by decide)) (Ev.neg (ne (by decide)) (Ev.neg (ne (by decide)) ?_)))
            refine Ev.step (f := fun _ => some true) (fun k => ?_) (Ev.now _)
            simp only [spec_miIs.l0]
            rw [if_neg (by rw [hz]; omega)]
          exact Ev.bind' this (Ev.pos rfl (Ev.pos (by rw [hz]; rfl) (Ev.now _)))
        · rw [if_neg h0]
          have h2 := miIs_ev 102 (by simp [isLetter]) (tx i v) (by omega) (by omega) hd
          rw [show ((UInt8.toNat 102 : Nat) : Int) = 102 from rfl, ← kind_f _ (by omega) hd, hz] at h2
          refine Ev.bind' h2 ?_
          have w1 : wrap64 (((tx i v).size : Int) - 1) = ((i - 1 : Nat) : Int) := by rw [hz, wrap_id (by omega) (by omega)]; omega
          have w2 : wrap64 ((n : Int) - ((tx i v).size : Int)) = ((n - i : Nat) : Int) := by rw [hz, wrap_id (by omega) (by omega)]; omega
          rw [w1, w2, hz]
          by_cases hr : allF (fallAt (tx i v)) (i - 1) 1 = true
          · exact Ev.pos hr (Ev.neg (by omega) (Ev.pos (by omega) (Ev.pos (by omega) (Ev.eq (Ev.now _) (by rw [hr, Bool.true_and])))))
          · refine Ev.neg hr (Ev.eq (Ev.now _) ?_)
            rw [Bool.not_eq_true] at hr
            rw [hr, Bool.false_and]
      · rintro ⟨m, hm, hk⟩
        by_cases h0 : i = 0
        · rw [if_pos h0]
        · rw [if_neg h0, Bool.and_eq_true, allF_iff, decide_eq_true_eq]
          constructor
          · intro j hj1 hj2
            rcases ((e m j).1 ((K_iff _ _ _).1 hk j (by omega))).1 with h | h
            · omega
            · rw [fallAt, decide_eq_true_eq, ← pb m j hm (by omega), ← pb m _ hm (by omega)]
              exact h
          · have := ((e m (i - 1)).1 ((K_iff _ _ _).1 hk (i - 1) (by omega))).2
            rw [pb m _ hm (by omega)] at this
            have := hd (i - 1) (by omega)
            omega
    · -- all different
      have hmd := miDigits_dig (s := tx i v) (by omega) hd
      refine ⟨_, Ev.neg (ne (by decide)) (Ev.pos rfl (Ev.some_of fun k => by rw [hmd]; rfl)), ?_⟩
      rintro ⟨m, hm, hk⟩
      have e : ∀ (s : ByteArray) (q j : Nat), mayAt 100 s q j = newTo s j j := fun s q j => by simp [mayAt]
      rw [kind_d, allF_iff]
      intro j _ hj
      rw [hz] at hj
      have := (K_iff _ _ _).1 hk j (by omega)
      rw [show (((100 : UInt8).toNat : Nat) : Int) = 100 from rfl] at this
      rw [e, newTo_iff] at this ⊢
      intro q hq
      rw [← pb m j hm (by omega), ← pb m q hm (by omega)]
      exact this q hq

end Go.Proofs.Ytpdcjkiejglaiaa.Q

/- Began as the print of our own driver (YtpdcjkiejglaiaaQf62); the comparison <= of two strings, which the printed walk left standing, was given by hand. -/
namespace Go.Proofs.Ytpdcjkiejglaiaa.Q
open Go.RowKit Go.Proofs.YtpdcjkiejglaiaaW.PrintWords Go.Proofs.YtpdcjkiejglaiaaW.PrintLast Go.Proofs.YtpdcjkiejglaiaaW.PrintMore
attribute [local go_sem] max2_int min2_int max_two min_two max_three min_three max_four min_four   -- for this text's walks alone
set_option linter.unusedVariables false
set_option linter.unusedSimpArgs false

theorem asym_leq (a b : List UInt8) : (Op.bytesLess a b || a == b) = !(Op.bytesLess b a) := by
  induction a generalizing b with
  | nil => cases b <;> simp [Op.bytesLess]
  | cons x a ih =>
    cases b with
    | nil => simp [Op.bytesLess]
    | cons y b =>
      have := ih b
      simp only [Op.bytesLess]
      by_cases h1 : x < y
      · have h2 : ¬ y < x := UInt8.not_lt.2 (UInt8.le_of_lt h1)
        have h3 : ¬ y = x := by intro e; rw [e] at h1; exact UInt8.lt_irrefl _ h1
        simp [h1, h2, h3]
      · by_cases h2 : y < x
        · have h3 : ¬ x = y := by intro e; rw [e] at h2; exact UInt8.lt_irrefl _ h2
          simp [h1, h2, h3]
        · have h3 : x = y := UInt8.le_antisymm (UInt8.not_lt.1 h2) (UInt8.not_lt.1 h1)
          subst h3
          simpa [h1] using this
@[local go_sem] theorem binOp_string_leq_q (t : TypeId) (a b : ByteArray) : binOp .leq t (.string a) (.string b) = pure (.bool !(Op.bytesLess b.toList a.toList)) := by rw [← asym_leq]; simp [binOp, Op.stringOp]

/-! ### spec_miFirst: function 62 -/
mutual
def spec_miFirst.j0 : Nat → Int → ByteArray → ByteArray → ByteArray → Bool → Option (ByteArray)
  | 0, _, _, _, _, _ => none
  | k + 1, x0, x1, x2, x3, x27 => if x27 = true then (some (⟨#[]⟩ : ByteArray)) else (if (x1.size : Int) = x0 then (if x3.toList = ([] : List UInt8) then (some x1) else (if ((Op.bytesLess x3.toList x1.toList) = true) then (some x1) else (some (⟨#[]⟩ : ByteArray)))) else (spec_miFirst.l0 k x0 x1 x2 x3 0))
def spec_miFirst.l0 : Nat → Int → ByteArray → ByteArray → ByteArray → Int → Option (ByteArray)
  | 0, _, _, _, _, _ => none
  | k + 1, x0, x1, x2, x3, x9 => if x9 < 10 then ((spec_l1Num.f k x9).bind fun t102 => (if x1.size + t102.size ≤ 9223372036854775807 then ((spec_miFirst.f k x0 (x1 ++ t102) x2 x3).bind fun t103 => (if t103.toList = ([] : List UInt8) then (spec_miFirst.l0 k x0 x1 x2 x3 (wrap64 (x9 + 1))) else (some t103))) else (none))) else (some (⟨#[]⟩ : ByteArray))
def spec_miFirst.f : Nat → Int → ByteArray → ByteArray → ByteArray → Option (ByteArray)
  | 0, _, _, _, _ => none
  | k + 1, a0, a1, a2, a3 => (spec_miCan.f k a0 a1 a2).bind fun t101 => (if t101 = true then (if a3.toList = ([] : List UInt8) then (spec_miFirst.j0 k a0 a1 a2 a3 false) else (if 0 ≤ (a1.size : Int) then (if (a1.size : Int) ≤ (a3.size : Int) then (spec_miFirst.j0 k a0 a1 a2 a3 (Op.bytesLess a1.toList ((a3.extract 0 ((a1.size : Int) : Int).toNat).toList))) else (none)) else (none))) else (spec_miFirst.j0 k a0 a1 a2 a3 true))
end
theorem spec_miFirst.mono_l : ∀ k, (∀ y0 y1 y2 y3, LeO (spec_miFirst.f k y0 y1 y2 y3) (spec_miFirst.f (k + 1) y0 y1 y2 y3)) ∧ (∀ y0 y1 y2 y3 y4, LeO (spec_miFirst.j0 k y0 y1 y2 y3 y4) (spec_miFirst.j0 (k + 1) y0 y1 y2 y3 y4)) ∧ (∀ y0 y1 y2 y3 y4, LeO (spec_miFirst.l0 k y0 y1 y2 y3 y4) (spec_miFirst.l0 (k + 1) y0 y1 y2 y3 y4))
  | 0 => ⟨fun _ _ _ _ r h => by simp [spec_miFirst.f] at h, fun _ _ _ _ _ r h => by simp [spec_miFirst.j0] at h, fun _ _ _ _ _ r h => by simp [spec_miFirst.l0] at h⟩
  | k + 1 => by
    obtain ⟨ih0, ih1, ih2⟩ := spec_miFirst.mono_l k
    refine ⟨?_, ?_, ?_⟩
    · intro y0 y1 y2 y3
      unfold spec_miFirst.f
      repeat' first
      | (with_reducible exact ih0 _ _ _ _)
      | (with_reducible exact ih1 _ _ _ _ _)
      | (with_reducible exact ih2 _ _ _ _ _)
      | (with_reducible exact spec_l1Num.mono _ _)
      | (with_reducible exact spec_miCan.mono _ _ _ _)
      | (with_reducible exact LeO.refl _)
      | (with_reducible exact LeO.none _)
      | (with_reducible refine LeO.ite ?_ ?_)
      | (with_reducible refine LeO.bind ?_ (fun _ => ?_))
      | exact ih0 _ _ _ _
      | exact ih1 _ _ _ _ _
      | exact ih2 _ _ _ _ _
      | exact spec_l1Num.mono _ _
      | exact spec_miCan.mono _ _ _ _
      | exact LeO.none _
      | refine LeO.ite ?_ ?_
      | refine LeO.bind ?_ (fun _ => ?_)
    · intro y0 y1 y2 y3 y4
      unfold spec_miFirst.j0
      repeat' first
      | (with_reducible exact ih0 _ _ _ _)
      | (with_reducible exact ih1 _ _ _ _ _)
      | (with_reducible exact ih2 _ _ _ _ _)
      | (with_reducible exact spec_l1Num.mono _ _)
      | (with_reducible exact spec_miCan.mono _ _ _ _)
      | (with_reducible exact LeO.refl _)
      | (with_reducible exact LeO.none _)
      | (with_reducible refine LeO.ite ?_ ?_)
      | (with_reducible refine LeO.bind ?_ (fun _ => ?_))
      | exact ih0 _ _ _ _
      | exact ih1 _ _ _ _ _
      | exact ih2 _ _ _ _ _
      | exact spec_l1Num.mono _ _
      | exact spec_miCan.mono _ _ _ _
      | exact LeO.none _
      | refine LeO.ite ?_ ?_
      | refine LeO.bind ?_ (fun _ => ?_)
    · intro y0 y1 y2 y3 y4
      unfold spec_miFirst.l0
      repeat' first
      | (with_reducible exact ih0 _ _ _ _)
      | (with_reducible exact ih1 _ _ _ _ _)
      | (with_reducible exact ih2 _ _ _ _ _)
      | (with_reducible exact spec_l1Num.mono _ _)
      | (with_reducible exact spec_miCan.mono _ _ _ _)
      | (with_reducible exact LeO.refl _)
      | (with_reducible exact LeO.none _)
      | (with_reducible refine LeO.ite ?_ ?_)
      | (with_reducible refine LeO.bind ?_ (fun _ => ?_))
      | exact ih0 _ _ _ _
      | exact ih1 _ _ _ _ _
      | exact ih2 _ _ _ _ _
      | exact spec_l1Num.mono _ _
      | exact spec_miCan.mono _ _ _ _
      | exact LeO.none _
      | refine LeO.ite ?_ ?_
      | refine LeO.bind ?_ (fun _ => ?_)
theorem spec_miFirst.mono : ∀ a0 a1 a2 a3 k, LeO (spec_miFirst.f k a0 a1 a2 a3) (spec_miFirst.f (k + 1) a0 a1 a2 a3) := by
  intro a0 a1 a2 a3 k
  obtain ⟨ih0, ih1, ih2⟩ := spec_miFirst.mono_l k
  exact ih0 a0 a1 a2 a3
set_option maxHeartbeats 8000000 in
set_option maxRecDepth 100000 in
theorem spec_miFirst.calls (k : Nat) : ∀ (a0 : Int) (a1 : ByteArray) (a2 : ByteArray) (a3 : ByteArray) (r : ByteArray) (w : World) (h : spec_miFirst.f k a0 a1 a2 a3 = some r),
    Calls Try.prog 62 #[.int .i64 a0, .string a1, .string a2, .string a3] w fun e w' => e = .returned (.string r) ∧ Below w.heap.size w w' := by
  induction k using Nat.strongRecOn with
  | _ k ih =>
  intro a0 a1 a2 a3 r w h
  cases k with
  | zero => exact absurd h (by simp [spec_miFirst.f])
  | succ k =>
  simp only [spec_miFirst.f] at h
  have HB := Aside0.mk (Below.refl w.heap.size w)
  have H : ((spec_miCan.f k a0 a1 a2).bind fun t101 => (if t101 = true then (if a3.toList = ([] : List UInt8) then (spec_miFirst.j0 k a0 a1 a2 a3 false) else (if 0 ≤ (a1.size : Int) then (if (a1.size : Int) ≤ (a3.size : Int) then (spec_miFirst.j0 k a0 a1 a2 a3 (Op.bytesLess a1.toList ((a3.extract 0 ((a1.size : Int) : Int).toNat).toList))) else (none)) else (none))) else (spec_miFirst.j0 k a0 a1 a2 a3 true))) = some r := h
  clear h
  have HC5 := Aside0.mk H
  clear H
  go_enter Try.func62, Try.ntmps62
  go_upto_region 1 with (fail)
  go_cut [27] (fun v27 wc => ∃ (kq : Nat) (x27_4 : Bool), v27 = .bool x27_4 ∧ Aside0 (spec_miFirst.j0 kq a0 a1 a2 a3 x27_4 = some r) ∧ Aside0 (kq ≤ k) ∧ Aside0 (Below w.heap.size w wc))
  case first =>
    have H := HC5.out
    clear HC5
    replace H := Option.bind_eq_some_iff.mp H
    obtain ⟨t101, A60, H⟩ := H
    replace H : (if t101 = true then (if a3.toList = ([] : List UInt8) then (spec_miFirst.j0 k a0 a1 a2 a3 false) else (if 0 ≤ (a1.size : Int) then (if (a1.size : Int) ≤ (a3.size : Int) then (spec_miFirst.j0 k a0 a1 a2 a3 (Op.bytesLess a1.toList ((a3.extract 0 ((a1.size : Int) : Int).toNat).toList))) else (none)) else (none))) else (spec_miFirst.j0 k a0 a1 a2 a3 true)) = some r := H
    have A6 := Aside0.mk A60
    clear A60
    by_cases c7 : t101 = true
    · subst c7
      have H1 : (if a3.toList = ([] : List UInt8) then (spec_miFirst.j0 k a0 a1 a2 a3 false) else (if 0 ≤ (a1.size : Int) then (if (a1.size : Int) ≤ (a3.size : Int) then (spec_miFirst.j0 k a0 a1 a2 a3 (Op.bytesLess a1.toList ((a3.extract 0 ((a1.size : Int) : Int).toNat).toList))) else (none)) else (none))) = some r := by rw [if_pos rfl] at H; exact H
      clear H
      have H := H1
      clear H1
      by_cases c8 : a3.toList = ([] : List UInt8)
      · rw [if_pos c8] at H
        have c8b0 : (a3.toList == ([] : List UInt8)) = true := beq_iff_eq.mpr c8
        have c8b1 : (a3.toList != ([] : List UInt8)) = false := bne_eq_false_iff_eq.mpr c8
        clear c8
        (first | rw [c8b0] | (simp only [i64_w, i32_w]; rw [c8b0]) | skip)
        have H' := Aside0.mk H
        clear H
        go_wp2_with (first | ((with_reducible refine gate_callee (f := 69) rfl ?_); refine goesL_ (some 14) rfl rfl Try.func69 (by kernel_rfl) rfl #[.int .i64 a0, .string a1, .string a2] rfl (by (try simp only [List.map_toArray, List.map_cons, List.map_nil]); first | done | rfl | (simp only [List.length_drop, List.length_take]; rfl)) ?_; (with_reducible refine (spec_miCan.calls k a0 a1 a2 true _ A6.out).mono ?_); rintro e w9 ⟨rfl, hb⟩; refine ⟨_, rfl, ?_⟩; have n0_ := Aside0.mk (below_step (by repeat (first | (with_reducible first | exact HB.out | apply below_alloc | apply pw_below_drewN | apply below_drew1) | exact HB.out)) hb); clear HB; have HB := n0_; clear n0_; (try clear hb); (try clear hb2); (try clear hk); (try clear hi)))
        go_meet
        case rel => exact ⟨_, (false), (by first | rfl | (simp; done) | (simp [*]; done)), H', ⟨by first | omega | exact Nat.le_refl _⟩, ⟨by repeat (first | (with_reducible first | exact HB.out | apply below_alloc | apply pw_below_drewN | apply below_drew1) | exact HB.out)⟩⟩
      · rw [if_neg c8] at H
        have c8b0 : (a3.toList == ([] : List UInt8)) = false := beq_eq_false_iff_ne.mpr c8
        have c8b1 : (a3.toList != ([] : List UInt8)) = true := bne_iff_ne.mpr c8
        (first | rw [c8b0] | (simp only [i64_w, i32_w]; rw [c8b0]) | skip)
        by_cases c10 : 0 ≤ (a1.size : Int)
        · rw [if_pos c10] at H
          have c10b0 := eq_true c10
          have c10b1 : decide (0 ≤ (a1.size : Int)) = true := decide_eq_true c10
          clear c10
          by_cases c11 : (a1.size : Int) ≤ (a3.size : Int)
          · rw [if_pos c11] at H
            have c11b0 := eq_true c11
            have c11b1 : decide ((a1.size : Int) ≤ (a3.size : Int)) = true := decide_eq_true c11
            clear c11
            have H' := Aside0.mk H
            clear H
            go_wp2_with (first | ((with_reducible refine gate_callee (f := 69) rfl ?_); refine goesL_ (some 14) rfl rfl Try.func69 (by kernel_rfl) rfl #[.int .i64 a0, .string a1, .string a2] rfl (by (try simp only [List.map_toArray, List.map_cons, List.map_nil]); first | done | rfl | (simp only [List.length_drop, List.length_take]; rfl)) ?_; (with_reducible refine (spec_miCan.calls k a0 a1 a2 true _ A6.out).mono ?_); rintro e w12 ⟨rfl, hb⟩; refine ⟨_, rfl, ?_⟩; have n0_ := Aside0.mk (below_step (by repeat (first | (with_reducible first | exact HB.out | apply below_alloc | apply pw_below_drewN | apply below_drew1) | exact HB.out)) hb); clear HB; have HB := n0_; clear n0_; (try clear hb); (try clear hb2); (try clear hk); (try clear hi)))
            go_meet
            case rel => exact ⟨_, ((Op.bytesLess a1.toList ((a3.extract 0 ((a1.size : Int) : Int).toNat).toList))), (by first | rfl | (simp; done) | (simp [*]; done)), H', ⟨by first | omega | exact Nat.le_refl _⟩, ⟨by repeat (first | (with_reducible first | exact HB.out | apply below_alloc | apply pw_below_drewN | apply below_drew1) | exact HB.out)⟩⟩
          · rw [if_neg c11] at H
            exact absurd H (by simp)
        · rw [if_neg c10] at H
          exact absurd H (by simp)
    · replace c7 := Bool.eq_false_iff.mpr c7
      subst c7
      have H1 : (spec_miFirst.j0 k a0 a1 a2 a3 true) = some r := by rw [if_neg (show ¬ (false = true) by decide)] at H; exact H
      clear H
      have H := H1
      clear H1
      have H' := Aside0.mk H
      clear H
      go_wp2_with (first | ((with_reducible refine gate_callee (f := 69) rfl ?_); refine goesL_ (some 14) rfl rfl Try.func69 (by kernel_rfl) rfl #[.int .i64 a0, .string a1, .string a2] rfl (by (try simp only [List.map_toArray, List.map_cons, List.map_nil]); first | done | rfl | (simp only [List.length_drop, List.length_take]; rfl)) ?_; (with_reducible refine (spec_miCan.calls k a0 a1 a2 false _ A6.out).mono ?_); rintro e w13 ⟨rfl, hb⟩; refine ⟨_, rfl, ?_⟩; have n0_ := Aside0.mk (below_step (by repeat (first | (with_reducible first | exact HB.out | apply below_alloc | apply pw_below_drewN | apply below_drew1) | exact HB.out)) hb); clear HB; have HB := n0_; clear n0_; (try clear hb); (try clear hb2); (try clear hk); (try clear hi)))
      go_meet
      case rel => exact ⟨_, (true), (by first | rfl | (simp; done) | (simp [*]; done)), H', ⟨by first | omega | exact Nat.le_refl _⟩, ⟨by repeat (first | (with_reducible first | exact HB.out | apply below_alloc | apply pw_below_drewN | apply below_drew1) | exact HB.out)⟩⟩
  case rest =>
    clear HC5
    try clear c1
    try clear p2
    try clear c6
    try clear c7
    try clear c8
    try clear c8b0
    try clear c8b1
    try clear c10
    try clear c10b0
    try clear c10b1
    try clear c11
    try clear c11b0
    try clear c11b1
    obtain ⟨kq, x27_4, rfl, HA, HJ4, HB⟩ := hcut
    cases kq with
    | zero => exact absurd HA.out (by simp [spec_miFirst.j0])
    | succ kj4 =>
      have H := HA.out
      clear HA
      simp only [spec_miFirst.j0] at H
      by_cases c14 : x27_4 = true
      · subst c14
        have H1 : (some (⟨#[]⟩ : ByteArray)) = some r := by rw [if_pos rfl] at H; exact H
        clear H
        have H := H1
        clear H1
        obtain rfl := Option.some.inj H
        go_wp2
        go_ret
        exact ⟨by first | rfl | (simp [errW_none, errW_some] <;> rfl) | (simp [*, errW_none, errW_some] <;> rfl), by repeat (first | (with_reducible first | exact HB.out | apply below_alloc | apply pw_below_drewN | apply below_drew1) | exact HB.out)⟩
      · replace c14 := Bool.eq_false_iff.mpr c14
        subst c14
        have H1 : (if (a1.size : Int) = a0 then (if a3.toList = ([] : List UInt8) then (some a1) else (if ((Op.bytesLess a3.toList a1.toList) = true) then (some a1) else (some (⟨#[]⟩ : ByteArray)))) else (spec_miFirst.l0 kj4 a0 a1 a2 a3 0)) = some r := by rw [if_neg (show ¬ (false = true) by decide)] at H; exact H
        clear H
        have H := H1
        clear H1
        by_cases c15 : (a1.size : Int) = a0
        · rw [if_pos c15] at H
          have c15b0 : ((a1.size : Int) == a0) = true := beq_iff_eq.mpr c15
          have c15b1 : ((a1.size : Int) != a0) = false := bne_eq_false_iff_eq.mpr c15
          clear c15
          by_cases c16 : a3.toList = ([] : List UInt8)
          · rw [if_pos c16] at H
            have c16b0 : (a3.toList == ([] : List UInt8)) = true := beq_iff_eq.mpr c16
            have c16b1 : (a3.toList != ([] : List UInt8)) = false := bne_eq_false_iff_eq.mpr c16
            clear c16
            obtain rfl := Option.some.inj H
            go_wp2
            go_ret
            exact ⟨by first | rfl | (simp [errW_none, errW_some] <;> rfl) | (simp [*, errW_none, errW_some] <;> rfl), by repeat (first | (with_reducible first | exact HB.out | apply below_alloc | apply pw_below_drewN | apply below_drew1) | exact HB.out)⟩
          · rw [if_neg c16] at H
            have c16b0 : (a3.toList == ([] : List UInt8)) = false := beq_eq_false_iff_ne.mpr c16
            have c16b1 : (a3.toList != ([] : List UInt8)) = true := bne_iff_ne.mpr c16
            by_cases c17 : ((Op.bytesLess a3.toList a1.toList) = true)
            · rw [if_pos c17] at H
              have c17b0 : (Op.bytesLess a3.toList a1.toList) = true := c17
              clear c17
              obtain rfl := Option.some.inj H
              go_wp2
              go_ret
              exact ⟨by first | rfl | (simp [errW_none, errW_some] <;> rfl) | (simp [*, errW_none, errW_some] <;> rfl), by repeat (first | (with_reducible first | exact HB.out | apply below_alloc | apply pw_below_drewN | apply below_drew1) | exact HB.out)⟩
            · rw [if_neg c17] at H
              have c17b0 : (Op.bytesLess a3.toList a1.toList) = false := by simpa using c17
              clear c17
              obtain rfl := Option.some.inj H
              go_wp2
              go_ret
              exact ⟨by first | rfl | (simp [errW_none, errW_some] <;> rfl) | (simp [*, errW_none, errW_some] <;> rfl), by repeat (first | (with_reducible first | exact HB.out | apply below_alloc | apply pw_below_drewN | apply below_drew1) | exact HB.out)⟩
        · rw [if_neg c15] at H
          have c15b0 : ((a1.size : Int) == a0) = false := beq_eq_false_iff_ne.mpr c15
          have c15b1 : ((a1.size : Int) != a0) = true := bne_iff_ne.mpr c15
          have H' := Aside0.mk H
          clear H
          go_wp2
          go_loopg [9] kj4 (fun kq v9 w' => ∃ (x9_2 : Int), v9 = .int .i64 x9_2 ∧ Aside0 (spec_miFirst.l0 kq a0 a1 a2 a3 x9_2 = some r) ∧ Aside0 (kq ≤ kj4) ∧ Aside0 (Below w.heap.size w w'))
          case atStart => exact ⟨(0), (by first | rfl | (simp; done) | (simp [*]; done)), H', ⟨Nat.le_refl _⟩, ⟨by repeat (first | (with_reducible first | exact HB.out | apply below_alloc | apply pw_below_drewN | apply below_drew1) | exact HB.out)⟩⟩
          case round =>
            clear H'
            try clear c1
            try clear p2
            try clear c6
            try clear c7
            try clear c8
            try clear c8b0
            try clear c8b1
            try clear c10
            try clear c10b0
            try clear c10b1
            try clear c11
            try clear c11b0
            try clear c11b1
            try clear c14
            try clear c15
            try clear c15b0
            try clear c15b1
            try clear c16
            try clear c16b0
            try clear c16b1
            try clear c17
            try clear c17b0
            try clear p2
            obtain ⟨x9_2, rfl, HA, HK2, HB⟩ := hrel
            cases gk with
            | zero => exact absurd HA.out (by simp [spec_miFirst.l0])
            | succ k2 =>
              have H := HA.out
              clear HA
              simp only [spec_miFirst.l0] at H
              by_cases c18 : x9_2 < 10
              · rw [if_pos c18] at H
                have c18b0 : decide (x9_2 < 10) = true := decide_eq_true c18
                clear c18
                replace H := Option.bind_eq_some_iff.mp H
                obtain ⟨t102, A190, H⟩ := H
                replace H : (if a1.size + t102.size ≤ 9223372036854775807 then ((spec_miFirst.f k2 a0 (a1 ++ t102) a2 a3).bind fun t103 => (if t103.toList = ([] : List UInt8) then (spec_miFirst.l0 k2 a0 a1 a2 a3 (wrap64 (x9_2 + 1))) else (some t103))) else (none)) = some r := H
                have A19 := Aside0.mk A190
                clear A190
                by_cases c20 : a1.size + t102.size ≤ 9223372036854775807
                · rw [if_pos c20] at H
                  have c20b0 := eq_true c20
                  have c20b1 : decide (a1.size + t102.size ≤ 9223372036854775807) = true := decide_eq_true c20
                  try have c20b2 : (9223372036854775807 < a1.size + t102.size) = False := eq_false (Nat.not_lt.2 c20)
                  replace H := Option.bind_eq_some_iff.mp H
                  obtain ⟨t103, A210, H⟩ := H
                  replace H : (if t103.toList = ([] : List UInt8) then (spec_miFirst.l0 k2 a0 a1 a2 a3 (wrap64 (x9_2 + 1))) else (some t103)) = some r := H
                  have A21 := Aside0.mk A210
                  clear A210
                  by_cases c22 : t103.toList = ([] : List UInt8)
                  · rw [if_pos c22] at H
                    have c22b0 : (t103.toList == ([] : List UInt8)) = true := beq_iff_eq.mpr c22
                    have c22b1 : (t103.toList != ([] : List UInt8)) = false := bne_eq_false_iff_eq.mpr c22
                    clear c22
                    have H' := Aside0.mk H
                    clear H
                    go_wp2_with (first | ((with_reducible refine gate_callee (f := 33) rfl ?_); refine goesL_ (some 47) rfl rfl Try.func33 (by kernel_rfl) rfl #[.int .i64 x9_2] rfl (by (try simp only [List.map_toArray, List.map_cons, List.map_nil]); first | done | rfl | (simp only [List.length_drop, List.length_take]; rfl)) ?_; (with_reducible refine (spec_l1Num.calls k2 x9_2 t102 _ A19.out).mono ?_); rintro e w23 ⟨rfl, hb⟩; refine ⟨_, rfl, ?_⟩; have n0_ := Aside0.mk (below_step (by repeat (first | (with_reducible first | exact HB.out | apply below_alloc | apply pw_below_drewN | apply below_drew1) | exact HB.out)) hb); clear HB; have HB := n0_; clear n0_; (try clear hb); (try clear hb2); (try clear hk); (try clear hi)) | ((with_reducible refine gate_callee (f := 62) rfl ?_); refine goesL_ (some 51) rfl rfl Try.func62 (by kernel_rfl) rfl #[.int .i64 a0, .string (a1 ++ t102), .string a2, .string a3] rfl (by (try simp only [List.map_toArray, List.map_cons, List.map_nil]); first | done | rfl | (simp only [List.length_drop, List.length_take]; rfl)) ?_; (with_reducible refine (ih k2 (by have := HJ4.out; have := HK2.out; omega) a0 (a1 ++ t102) a2 a3 t103 _ A21.out).mono ?_); rintro e w24 ⟨rfl, hb⟩; refine ⟨_, rfl, ?_⟩; have n0_ := Aside0.mk (below_step (by repeat (first | (with_reducible first | exact HB.out | apply below_alloc | apply pw_below_drewN | apply below_drew1) | exact HB.out)) hb); clear HB; have HB := n0_; clear n0_; (try clear hb); (try clear hb2); (try clear hk); (try clear hi)))
                    go_roundg k2
                    case measure => have := HJ4.out; have := HK2.out; omega
                    case rel => exact ⟨(wrap64 (x9_2 + 1)), (by first | rfl | (simp; done) | (simp [*]; done)), H', ⟨by have := HJ4.out; have := HK2.out; omega⟩, ⟨by repeat (first | (with_reducible first | exact HB.out | apply below_alloc | apply pw_below_drewN | apply below_drew1) | exact HB.out)⟩⟩
                  · rw [if_neg c22] at H
                    have c22b0 : (t103.toList == ([] : List UInt8)) = false := beq_eq_false_iff_ne.mpr c22
                    have c22b1 : (t103.toList != ([] : List UInt8)) = true := bne_iff_ne.mpr c22
                    obtain rfl := Option.some.inj H
                    go_wp2_with (first | ((with_reducible refine gate_callee (f := 33) rfl ?_); refine goesL_ (some 47) rfl rfl Try.func33 (by kernel_rfl) rfl #[.int .i64 x9_2] rfl (by (try simp only [List.map_toArray, List.map_cons, List.map_nil]); first | done | rfl | (simp only [List.length_drop, List.length_take]; rfl)) ?_; (with_reducible refine (spec_l1Num.calls k2 x9_2 t102 _ A19.out).mono ?_); rintro e w25 ⟨rfl, hb⟩; refine ⟨_, rfl, ?_⟩; have n0_ := Aside0.mk (below_step (by repeat (first | (with_reducible first | exact HB.out | apply below_alloc | apply pw_below_drewN | apply below_drew1) | exact HB.out)) hb); clear HB; have HB := n0_; clear n0_; (try clear hb); (try clear hb2); (try clear hk); (try clear hi)) | ((with_reducible refine gate_callee (f := 62) rfl ?_); refine goesL_ (some 51) rfl rfl Try.func62 (by kernel_rfl) rfl #[.int .i64 a0, .string (a1 ++ t102), .string a2, .string a3] rfl (by (try simp only [List.map_toArray, List.map_cons, List.map_nil]); first | done | rfl | (simp only [List.length_drop, List.length_take]; rfl)) ?_; (with_reducible refine (ih k2 (by have := HJ4.out; have := HK2.out; omega) a0 (a1 ++ t102) a2 a3 t103 _ A21.out).mono ?_); rintro e w26 ⟨rfl, hb⟩; refine ⟨_, rfl, ?_⟩; have n0_ := Aside0.mk (below_step (by repeat (first | (with_reducible first | exact HB.out | apply below_alloc | apply pw_below_drewN | apply below_drew1) | exact HB.out)) hb); clear HB; have HB := n0_; clear n0_; (try clear hb); (try clear hb2); (try clear hk); (try clear hi)))
                    go_ret
                    exact ⟨by first | rfl | (simp [errW_none, errW_some] <;> rfl) | (simp [*, errW_none, errW_some] <;> rfl), by repeat (first | (with_reducible first | exact HB.out | apply below_alloc | apply pw_below_drewN | apply below_drew1) | exact HB.out)⟩
                · rw [if_neg c20] at H
                  exact absurd H (by simp)
              · rw [if_neg c18] at H
                have c18b0 : decide (x9_2 < 10) = false := decide_eq_false c18
                clear c18
                obtain rfl := Option.some.inj H
                go_wp2
                go_ret
                exact ⟨by first | rfl | (simp [errW_none, errW_some] <;> rfl) | (simp [*, errW_none, errW_some] <;> rfl), by repeat (first | (with_reducible first | exact HB.out | apply below_alloc | apply pw_below_drewN | apply below_drew1) | exact HB.out)⟩

end Go.Proofs.Ytpdcjkiejglaiaa.Q

/- Laid by a program of this session (wip/tools/own_print.py) over the translation of this seat: contracts of the functions that the statement reaches. -/
namespace Go.Proofs.Ytpdcjkiejglaiaa.Q
open Go.RowKit Go.Proofs.YtpdcjkiejglaiaaW.PrintWords Go.Proofs.YtpdcjkiejglaiaaW.PrintLast Go.Proofs.YtpdcjkiejglaiaaW.PrintMore
attribute [local go_sem] max2_int min2_int max_two min_two max_three min_three max_four min_four   -- for this text's walks alone
set_option linter.unusedVariables false
set_option linter.unusedSimpArgs false

/-! ### spec_miNext: function 38 -/
def spec_miNext.f (k : Nat) (a0 : ByteArray) (a1 : ByteArray) : Option (ByteArray) := (spec_miFirst.f k (a0.size : Int) (⟨#[]⟩ : ByteArray) a1 a0).bind fun t101 => (if t101.toList = ([] : List UInt8) then ((spec_miFirst.f k (a0.size : Int) (⟨#[]⟩ : ByteArray) a1 (⟨#[]⟩ : ByteArray)).bind fun t102 => (some t102)) else (some t101))
theorem spec_miNext.mono : ∀ a0 a1 k, LeO (spec_miNext.f k a0 a1) (spec_miNext.f (k + 1) a0 a1) := by
  intro a0 a1 k
  unfold spec_miNext.f
  repeat' first
      | (with_reducible exact spec_miFirst.mono _ _ _ _ _)
      | (with_reducible exact LeO.refl _)
      | (with_reducible exact LeO.none _)
      | (with_reducible refine LeO.ite ?_ ?_)
      | (with_reducible refine LeO.bind ?_ (fun _ => ?_))
      | exact spec_miFirst.mono _ _ _ _ _
      | exact LeO.none _
      | refine LeO.ite ?_ ?_
      | refine LeO.bind ?_ (fun _ => ?_)
set_option maxHeartbeats 8000000 in
set_option maxRecDepth 100000 in
theorem spec_miNext.calls (k : Nat) (a0 : ByteArray) (a1 : ByteArray) (r : ByteArray) (w : World) (h : spec_miNext.f k a0 a1 = some r) :
    Calls Try.prog 38 #[.string a0, .string a1] w fun e w' => e = .returned (.string r) ∧ Below w.heap.size w w' := by
  have HB := Aside0.mk (Below.refl w.heap.size w)
  have H : ((spec_miFirst.f k (a0.size : Int) (⟨#[]⟩ : ByteArray) a1 a0).bind fun t101 => (if t101.toList = ([] : List UInt8) then ((spec_miFirst.f k (a0.size : Int) (⟨#[]⟩ : ByteArray) a1 (⟨#[]⟩ : ByteArray)).bind fun t102 => (some t102)) else (some t101))) = some r := h
  clear h
  replace H := Option.bind_eq_some_iff.mp H
  obtain ⟨t101, A30, H⟩ := H
  replace H : (if t101.toList = ([] : List UInt8) then ((spec_miFirst.f k (a0.size : Int) (⟨#[]⟩ : ByteArray) a1 (⟨#[]⟩ : ByteArray)).bind fun t102 => (some t102)) else (some t101)) = some r := H
  have A3 := Aside0.mk A30
  clear A30
  by_cases c4 : t101.toList = ([] : List UInt8)
  · rw [if_pos c4] at H
    have c4b0 : (t101.toList == ([] : List UInt8)) = true := beq_iff_eq.mpr c4
    have c4b1 : (t101.toList != ([] : List UInt8)) = false := bne_eq_false_iff_eq.mpr c4
    clear c4
    replace H := Option.bind_eq_some_iff.mp H
    obtain ⟨t102, A50, H⟩ := H
    replace H : (some t102) = some r := H
    have A5 := Aside0.mk A50
    clear A50
    obtain rfl := Option.some.inj H
    go_enter Try.func38, Try.ntmps38
    go_wp2_with (first | ((with_reducible refine gate_callee (f := 62) rfl ?_); refine goesL_ (some 10) rfl rfl Try.func62 (by kernel_rfl) rfl #[.int .i64 (a0.size : Int), .string (⟨#[]⟩ : ByteArray), .string a1, .string a0] rfl (by (try simp only [List.map_toArray, List.map_cons, List.map_nil]); first | done | rfl | (simp only [List.length_drop, List.length_take]; rfl)) ?_; (with_reducible refine (spec_miFirst.calls k (a0.size : Int) (⟨#[]⟩ : ByteArray) a1 a0 t101 _ A3.out).mono ?_); rintro e w6 ⟨rfl, hb⟩; refine ⟨_, rfl, ?_⟩; have n0_ := Aside0.mk (below_step (by repeat (first | (with_reducible first | exact HB.out | apply below_alloc | apply pw_below_drewN | apply below_drew1) | exact HB.out)) hb); clear HB; have HB := n0_; clear n0_; (try clear hb); (try clear hb2); (try clear hk); (try clear hi)) | ((with_reducible refine gate_callee (f := 62) rfl ?_); refine goesL_ (some 16) rfl rfl Try.func62 (by kernel_rfl) rfl #[.int .i64 (a0.size : Int), .string (⟨#[]⟩ : ByteArray), .string a1, .string (⟨#[]⟩ : ByteArray)] rfl (by (try simp only [List.map_toArray, List.map_cons, List.map_nil]); first | done | rfl | (simp only [List.length_drop, List.length_take]; rfl)) ?_; (with_reducible refine (spec_miFirst.calls k (a0.size : Int) (⟨#[]⟩ : ByteArray) a1 (⟨#[]⟩ : ByteArray) t102 _ A5.out).mono ?_); rintro e w7 ⟨rfl, hb⟩; refine ⟨_, rfl, ?_⟩; have n0_ := Aside0.mk (below_step (by repeat (first | (with_reducible first | exact HB.out | apply below_alloc | apply pw_below_drewN | apply below_drew1) | exact HB.out)) hb); clear HB; have HB := n0_; clear n0_; (try clear hb); (try clear hb2); (try clear hk); (try clear hi)))
    go_ret
    exact ⟨by first | rfl | (simp [errW_none, errW_some] <;> rfl) | (simp [*, errW_none, errW_some] <;> rfl), by repeat (first | (with_reducible first | exact HB.out | apply below_alloc | apply pw_below_drewN | apply below_drew1) | exact HB.out)⟩
  · rw [if_neg c4] at H
    have c4b0 : (t101.toList == ([] : List UInt8)) = false := beq_eq_false_iff_ne.mpr c4
    have c4b1 : (t101.toList != ([] : List UInt8)) = true := bne_iff_ne.mpr c4
    obtain rfl := Option.some.inj H
    go_enter Try.func38, Try.ntmps38
    go_wp2_with (first | ((with_reducible refine gate_callee (f := 62) rfl ?_); refine goesL_ (some 10) rfl rfl Try.func62 (by kernel_rfl) rfl #[.int .i64 (a0.size : Int), .string (⟨#[]⟩ : ByteArray), .string a1, .string a0] rfl (by (try simp only [List.map_toArray, List.map_cons, List.map_nil]); first | done | rfl | (simp only [List.length_drop, List.length_take]; rfl)) ?_; (with_reducible refine (spec_miFirst.calls k (a0.size : Int) (⟨#[]⟩ : ByteArray) a1 a0 t101 _ A3.out).mono ?_); rintro e w8 ⟨rfl, hb⟩; refine ⟨_, rfl, ?_⟩; have n0_ := Aside0.mk (below_step (by repeat (first | (with_reducible first | exact HB.out | apply below_alloc | apply pw_below_drewN | apply below_drew1) | exact HB.out)) hb); clear HB; have HB := n0_; clear n0_; (try clear hb); (try clear hb2); (try clear hk); (try clear hi)))
    go_ret
    exact ⟨by first | rfl | (simp [errW_none, errW_some] <;> rfl) | (simp [*, errW_none, errW_some] <;> rfl), by repeat (first | (with_reducible first | exact HB.out | apply below_alloc | apply pw_below_drewN | apply below_drew1) | exact HB.out)⟩

end Go.Proofs.Ytpdcjkiejglaiaa.Q

/-
  The reference's search of the first reading of a kind behind another: it finds the least number.
-/
namespace Go.Proofs.Ytpdcjkiejglaiaa.Q
open Go.RowKit Go.Proofs.YtpdcjkiejglaiaaW.PrintWords Go.Proofs.YtpdcjkiejglaiaaW.PrintLast Go.Proofs.YtpdcjkiejglaiaaW.PrintMore
set_option linter.unusedVariables false
set_option linter.unusedSimpArgs false

theorem toList_nil (s : ByteArray) : s.toList = ([] : List UInt8) ↔ s.size = 0 := by
  rw [ByteArray.toList_eq, ← li_length]
  unfold li
  rw [List.length_map, List.length_eq_zero_iff]
/-- the text behind which a search goes: none, or a reading -/
def btx (n : Nat) : Option Nat → ByteArray
  | none => ⟨#[]⟩
  | some b => tx n b
def okB (c : Int) (n : Nat) (bh : Option Nat) (m : Nat) : Bool := K c n m && (match bh with | none => true | some b => decide (b < m))
def Least (c : Int) (n : Nat) (bh : Option Nat) (S : Nat → Prop) (t : ByteArray) : Prop :=
  (∃ m, S m ∧ okB c n bh m = true ∧ (∀ m', S m' → m' < m → okB c n bh m' = false) ∧ t = tx n m) ∨ (t = ⟨#[]⟩ ∧ ∀ m', S m' → okB c n bh m' = false)
theorem Least.iff {c : Int} {n : Nat} {bh : Option Nat} {S T : Nat → Prop} {t : ByteArray} (h : Least c n bh S t) (e : ∀ m, S m ↔ T m) : Least c n bh T t := by
  rcases h with ⟨m, h1, h2, h3, h4⟩ | ⟨h1, h2⟩
  · exact .inl ⟨m, (e m).1 h1, h2, fun m' hm => h3 m' ((e m').2 hm), h4⟩
  · exact .inr ⟨h1, fun m' hm => h2 m' ((e m').2 hm)⟩
theorem div_lt_of {a b P : Nat} (h : a / P < b / P) : a < b := by
  apply Classical.byContradiction
  intro hx
  have := Nat.div_le_div_right (c := P) (Nat.le_of_not_lt hx)
  omega

theorem first_f (x0 : Int) (x1 x2 x3 : ByteArray) (k : Nat) : spec_miFirst.f (k + 1) x0 x1 x2 x3 = (spec_miCan.f k x0 x1 x2).bind fun t101 => (if t101 = true then (if x3.toList = ([] : List UInt8) then (spec_miFirst.j0 k x0 x1 x2 x3 false) else (if 0 ≤ (x1.size : Int) then (if (x1.size : Int) ≤ (x3.size : Int) then (spec_miFirst.j0 k x0 x1 x2 x3 (Op.bytesLess x1.toList ((x3.extract 0 ((x1.size : Int) : Int).toNat).toList))) else (none)) else (none))) else (spec_miFirst.j0 k x0 x1 x2 x3 true)) := by simp only [spec_miFirst.f]
theorem first_l (x0 : Int) (x1 x2 x3 : ByteArray) (x9 : Int) (k : Nat) : spec_miFirst.l0 (k + 1) x0 x1 x2 x3 x9 = if x9 < 10 then ((spec_l1Num.f k x9).bind fun t102 => (if x1.size + t102.size ≤ 9223372036854775807 then ((spec_miFirst.f k x0 (x1 ++ t102) x2 x3).bind fun t103 => (if t103.toList = ([] : List UInt8) then (spec_miFirst.l0 k x0 x1 x2 x3 (wrap64 (x9 + 1))) else (some t103))) else (none))) else (some (⟨#[]⟩ : ByteArray)) := by simp only [spec_miFirst.l0]

theorem wrap_next (x : Nat) (h : x < 10) : wrap64 ((x : Int) + 1) = ((x + 1 : Nat) : Int) := by rw [wrap_id (by omega) (by omega)]; rfl

set_option maxHeartbeats 1000000 in
theorem first_ev (c : UInt8) (hc : isLetter c) (n : Nat) (h1 : 1 ≤ n) (h9 : n ≤ 9) (bh : Option Nat) (hbh : ∀ b, bh = some b → b < 10 ^ n) :
    ∀ d i v, i + d = n → v < 10 ^ i → ∃ t, Ev (fun k => spec_miFirst.f k (n : Int) (tx i v) (kt c) (btx n bh)) t ∧ Least (c.toNat : Int) n bh (fun m => m / 10 ^ d = v) t := by
  intro d
  induction d with
  | zero =>
    intro i v hd hv
    obtain rfl : i = n := by omega
    obtain ⟨b, hb, he, _⟩ := can_ev c hc i i v h1 h9 (Nat.le_refl _) hv
    have he := he rfl
    have no : okB (c.toNat : Int) i bh v = false → Least (c.toNat : Int) i bh (fun m => m / 10 ^ 0 = v) ⟨#[]⟩ := fun h => .inr ⟨rfl, fun m hm => by rw [Nat.pow_zero, Nat.div_one] at hm; rw [hm]; exact h⟩
    have yes : okB (c.toNat : Int) i bh v = true → Least (c.toNat : Int) i bh (fun m => m / 10 ^ 0 = v) (tx i v) := fun h => .inl ⟨v, by show v / 10 ^ 0 = v; rw [Nat.pow_zero, Nat.div_one], h, fun m' hm hlt => by rw [Nat.pow_zero, Nat.div_one] at hm; omega, rfl⟩
    have jt : Ev (fun k => spec_miFirst.j0 k (i : Int) (tx i v) (kt c) (btx i bh) true) ⟨#[]⟩ := Ev.step (f := fun _ => some ⟨#[]⟩) (fun k => by simp only [spec_miFirst.j0]; rw [if_true]) (Ev.now _)
    have hz := tx_size i v
    by_cases hk : b = true
    · subst hk
      cases bh with
      | none =>
        have e0 : (btx i none).toList = [] := (toList_nil _).2 rfl
        refine ⟨tx i v, ?_, yes (by simp [okB, ← he])⟩
        refine Ev.step (first_f _ _ _ _) (Ev.bind' hb (Ev.pos rfl (Ev.pos e0 ?_)))
        refine Ev.step (f := fun _ => some (tx i v)) (fun k => ?_) (Ev.now _)
        simp only [spec_miFirst.j0]
        rw [if_neg (by decide), if_pos (by rw [hz]), if_pos e0]
      | some q =>
        have hq := hbh q rfl
        have hzq := tx_size i q
        have e0 : ¬ (btx i (some q)).toList = [] := fun h => by have := (toList_nil _).1 h; simp only [btx] at this; omega
        have ex : (btx i (some q)).extract 0 (((tx i v).size : Int)).toNat = tx i q := by
          rw [hz, Int.toNat_natCast]
          show (tx i q).extract 0 i = _
          rw [pre_txt i i q (Nat.le_refl _), Nat.sub_self, Nat.pow_zero, Nat.div_one]
        have l1 := (less_tx i v q hv hq).1
        have l2 := (less_tx i q v hq hv).1
        have start : ∀ t, Ev (fun k => spec_miFirst.j0 k (i : Int) (tx i v) (kt c) (btx i (some q)) (decide (v < q))) t → Ev (fun k => spec_miFirst.f k (i : Int) (tx i v) (kt c) (btx i (some q))) t := by
          intro t ht
          refine Ev.step (first_f _ _ _ _) (Ev.bind' hb (Ev.pos rfl (Ev.neg e0 (Ev.pos (by omega) (Ev.pos (show ((tx i v).size : Int) ≤ ((tx i q).size : Int) by omega) ?_)))))
          rw [ex, l1]
          exact ht
        by_cases hlt : q < v
        · refine ⟨tx i v, start _ ?_, yes (by simp [okB, ← he, hlt])⟩
          refine Ev.step (f := fun _ => some (tx i v)) (fun k => ?_) (Ev.now _)
          simp only [spec_miFirst.j0]
          rw [if_neg (by simp; omega), if_pos (by rw [hz]), if_neg e0, if_pos (by show Op.bytesLess (tx i q).toList _ = true; rw [l2]; simp [hlt])]
        · refine ⟨⟨#[]⟩, start _ ?_, no (by simp [okB, hlt])⟩
          by_cases hlt2 : v < q
          · rw [decide_eq_true hlt2]; exact jt
          · refine Ev.step (f := fun _ => some ⟨#[]⟩) (fun k => ?_) (Ev.now _)
            simp only [spec_miFirst.j0]
            rw [if_neg (by simp; omega), if_pos (by rw [hz]), if_neg e0, if_neg (by show ¬ Op.bytesLess (tx i q).toList _ = true; rw [l2]; simp [hlt])]
    · refine ⟨⟨#[]⟩, Ev.step (first_f _ _ _ _) (Ev.bind' hb (Ev.neg hk jt)), no ?_⟩
      rw [Bool.not_eq_true] at hk
      simp [okB, ← he, hk]
  | succ d ih =>
    intro i v hd hv
    have hi : i ≤ n := by omega
    have hni : n - i = d + 1 := by omega
    obtain ⟨b, hb, _, he⟩ := can_ev c hc n i v h1 h9 hi hv
    rw [hni] at he
    have hz := tx_size i v
    have jt : Ev (fun k => spec_miFirst.j0 k (n : Int) (tx i v) (kt c) (btx n bh) true) ⟨#[]⟩ := Ev.step (f := fun _ => some ⟨#[]⟩) (fun k => by simp only [spec_miFirst.j0]; rw [if_true]) (Ev.now _)
    have dv : ∀ m, m / 10 ^ (d + 1) = m / 10 ^ d / 10 := fun m => by rw [Nat.pow_succ, Nat.div_div_eq_div_mul]
    -- the ten digits
    have loop : ∀ (r x : Nat), x + r = 10 → ∃ t, Ev (fun k => spec_miFirst.l0 k (n : Int) (tx i v) (kt c) (btx n bh) (x : Int)) t ∧ Least (c.toNat : Int) n bh (fun m => m / 10 ^ d / 10 = v ∧ 10 * v + x ≤ m / 10 ^ d) t := by
      intro r
      induction r with
      | zero =>
        intro x hx
        refine ⟨⟨#[]⟩, Ev.step (f := fun _ => some ⟨#[]⟩) (fun k => ?_) (Ev.now _), .inr ⟨rfl, fun m hm => by omega⟩⟩
        simp only [spec_miFirst.l0]
        rw [if_neg (by omega)]
      | succ r ihr =>
        intro x hx
        have hx10 : x < 10 := by omega
        obtain ⟨t, ht, hl⟩ := ihr (x + 1) (by omega)
        obtain ⟨s, hs, hsl⟩ := ih (i + 1) (10 * v + x) (by omega) (by rw [Nat.pow_succ]; omega)
        have hone : (strOfNums [48 + (x : Int)]).size = 1 := by rw [← li_length, li_nums _ (by simp; omega)]; rfl
        have c10 : (x : Int) < 10 := by omega
        have cz : (tx i v).size + (strOfNums [48 + (x : Int)]).size ≤ 9223372036854775807 := by rw [hz, hone]; omega
        have go : ∀ q, (if s.toList = ([] : List UInt8) then q = t else q = s) → Ev (fun k => spec_miFirst.l0 k (n : Int) (tx i v) (kt c) (btx n bh) (x : Int)) q := by
          intro q hq
          refine Ev.step (first_l _ _ _ _ _) (Ev.pos c10 (Ev.bind' (l1Num_ev x hx10) (Ev.pos cz ?_)))
          rw [← tx_succ i v x hx10]
          refine Ev.bind' hs ?_
          by_cases he : s.toList = ([] : List UInt8)
          · rw [if_pos he] at hq; subst hq; rw [← wrap_next x hx10] at ht; exact Ev.pos he ht
          · rw [if_neg he] at hq; subst hq; exact Ev.neg he (Ev.now _)
        rcases hsl with ⟨m, h1', h2, h3, rfl⟩ | ⟨rfl, h2⟩
        · refine ⟨tx n m, go _ ?_, .inl ⟨m, ⟨by omega, by omega⟩, h2, ?_, rfl⟩⟩
          · rw [if_neg (fun h => by have := (toList_nil _).1 h; rw [tx_size] at this; omega)]
          · intro m' hm' hlt
            refine h3 m' ?_ hlt
            have := Nat.div_le_div_right (c := 10 ^ d) (Nat.le_of_lt hlt)
            omega
        · refine ⟨t, go _ (by rw [if_pos ((toList_nil _).2 rfl)]), ?_⟩
          rcases hl with ⟨m, h1', h2', h3, rfl⟩ | ⟨rfl, h3⟩
          · refine .inl ⟨m, ⟨h1'.1, by omega⟩, h2', ?_, rfl⟩
            intro m' hm' hlt
            by_cases e : m' / 10 ^ d = 10 * v + x
            · exact h2 m' e
            · exact h3 m' ⟨hm'.1, by omega⟩ hlt
          · refine .inr ⟨rfl, fun m' hm' => ?_⟩
            by_cases e : m' / 10 ^ d = 10 * v + x
            · exact h2 m' e
            · exact h3 m' ⟨hm'.1, by omega⟩
    obtain ⟨t, ht, hl⟩ := loop 10 0 rfl
    have hl := Least.iff (T := fun m => m / 10 ^ (d + 1) = v) hl (fun m => by rw [dv]; omega)
    have jf : Ev (fun k => spec_miFirst.j0 k (n : Int) (tx i v) (kt c) (btx n bh) false) t := by
      refine Ev.step (fun k => ?_) ht
      simp only [spec_miFirst.j0]
      rw [if_neg (by decide), if_neg (by rw [hz]; omega)]
      first | done | rfl
    by_cases hk : b = true
    · subst hk
      cases bh with
      | none =>
        have e0 : (btx n none).toList = [] := (toList_nil _).2 rfl
        exact ⟨t, Ev.step (first_f _ _ _ _) (Ev.bind' hb (Ev.pos rfl (Ev.pos e0 jf))), hl⟩
      | some q =>
        have hq := hbh q rfl
        have hzq := tx_size n q
        have e0 : ¬ (btx n (some q)).toList = [] := fun h => by have := (toList_nil _).1 h; simp only [btx] at this; omega
        have ex : (btx n (some q)).extract 0 (((tx i v).size : Int)).toNat = tx i (q / 10 ^ (d + 1)) := by
          rw [hz, Int.toNat_natCast]
          show (tx n q).extract 0 i = _
          rw [pre_txt n i q hi, hni]
        have hq2 : q / 10 ^ (d + 1) < 10 ^ i := by
          rw [Nat.div_lt_iff_lt_mul (Nat.pow_pos (by decide)), ← Nat.pow_add, hd]
          exact hq
        have l1 := (less_tx i v _ hv hq2).1
        have start : ∀ t, Ev (fun k => spec_miFirst.j0 k (n : Int) (tx i v) (kt c) (btx n (some q)) (decide (v < q / 10 ^ (d + 1)))) t → Ev (fun k => spec_miFirst.f k (n : Int) (tx i v) (kt c) (btx n (some q))) t := by
          intro t ht
          refine Ev.step (first_f _ _ _ _) (Ev.bind' hb (Ev.pos rfl (Ev.neg e0 (Ev.pos (by omega) (Ev.pos (show ((tx i v).size : Int) ≤ ((tx n q).size : Int) by omega) ?_)))))
          rw [ex, l1]
          exact ht
        by_cases hlt : v < q / 10 ^ (d + 1)
        · refine ⟨⟨#[]⟩, start _ (by rw [decide_eq_true hlt]; exact jt), .inr ⟨rfl, fun m hm => ?_⟩⟩
          have : m < q := div_lt_of (P := 10 ^ (d + 1)) (by rw [hm]; exact hlt)
          simp only [okB, Bool.and_eq_false_iff, decide_eq_false_iff_not]
          right; omega
        · exact ⟨t, start _ (by rw [decide_eq_false hlt]; exact jf), hl⟩
    · refine ⟨⟨#[]⟩, Ev.step (first_f _ _ _ _) (Ev.bind' hb (Ev.neg hk jt)), .inr ⟨rfl, fun m hm => ?_⟩⟩
      simp only [okB, Bool.and_eq_false_iff]
      left
      cases hkk : K (c.toNat : Int) n m with
      | false => rfl
      | true => exact absurd (he ⟨m, hm, hkk⟩) hk

/-- the next reading of a kind, going round -/
theorem next_ev (c : UInt8) (hc : isLetter c) (n v : Nat) (h1 : 1 ≤ n) (h9 : n ≤ 9) (hv : v < 10 ^ n) :
    ∃ t, Ev (fun k => spec_miNext.f k (tx n v) (kt c)) t ∧
      ((∃ st, 1 ≤ st ∧ st ≤ 10 ^ n ∧ K (c.toNat : Int) n ((v + st) % 10 ^ n) = true ∧ (∀ j, 1 ≤ j → j < st → K (c.toNat : Int) n ((v + j) % 10 ^ n) = false) ∧ t = tx n ((v + st) % 10 ^ n)) ∨
       (t = ⟨#[]⟩ ∧ ∀ m, m < 10 ^ n → K (c.toNat : Int) n m = false)) := by
  have hz := tx_size n v
  obtain ⟨t1, e1, l1⟩ := first_ev c hc n h1 h9 (some v) (fun b hb => by cases hb; exact hv) n 0 0 (by omega) (by simp)
  obtain ⟨t2, e2, l2⟩ := first_ev c hc n h1 h9 none (fun b hb => by cases hb) n 0 0 (by omega) (by simp)
  have dl0 : ∀ m, m / 10 ^ n = 0 ↔ m < 10 ^ n := fun m => by rw [Nat.div_eq_zero_iff]; have := Nat.pow_pos (n := n) (show 0 < 10 by decide); omega
  have l1 := l1.iff dl0
  have l2 := l2.iff dl0
  generalize 10 ^ n = P at *
  unfold spec_miNext.f
  rw [hz]
  rcases l1 with ⟨m, h2, h3, h4, rfl⟩ | ⟨rfl, h3⟩
  · have hne : ¬ (tx n m).toList = ([] : List UInt8) := fun h => by have := (toList_nil _).1 h; rw [tx_size] at this; omega
    refine ⟨tx n m, Ev.bind' e1 (Ev.neg hne (Ev.now _)), .inl ⟨m - v, ?_⟩⟩
    simp only [okB, Bool.and_eq_true, decide_eq_true_eq] at h3
    have e : (v + (m - v)) % P = m := by rw [show v + (m - v) = m by omega]; exact Nat.mod_eq_of_lt h2
    refine ⟨by omega, by omega, by rw [e]; exact h3.1, fun j hj1 hj2 => ?_, by rw [e]⟩
    have e' : (v + j) % P = v + j := Nat.mod_eq_of_lt (by omega)
    rw [e']
    have := h4 (v + j) (by omega) (by omega)
    simp only [okB, Bool.and_eq_false_iff, decide_eq_false_iff_not] at this
    rcases this with h | h
    · exact h
    · omega
  · have hn : ((⟨#[]⟩ : ByteArray).toList) = ([] : List UInt8) := (toList_nil _).2 rfl
    refine ⟨t2, Ev.bind' e1 (Ev.pos hn (Ev.bind' e2 (Ev.now _))), ?_⟩
    have up : ∀ m, v < m → m < P → K (c.toNat : Int) n m = false := by
      intro m a b
      have := h3 m b
      simp only [okB, Bool.and_eq_false_iff, decide_eq_false_iff_not] at this
      rcases this with h | h
      · exact h
      · omega
    rcases l2 with ⟨m, h2, h3', h4, rfl⟩ | ⟨rfl, h4⟩
    · simp only [okB, Bool.and_true] at h3' h4
      have hmv : m ≤ v := by
        apply Classical.byContradiction
        intro hx
        rw [up m (by omega) h2] at h3'
        cases h3'
      have e : (v + (m + P - v)) % P = m := by rw [show v + (m + P - v) = m + P by omega, Nat.add_mod_right]; exact Nat.mod_eq_of_lt h2
      refine .inl ⟨m + P - v, by omega, by omega, by rw [e]; exact h3', fun j hj1 hj2 => ?_, by rw [e]⟩
      by_cases c : v + j < P
      · rw [Nat.mod_eq_of_lt c]; exact up _ (by omega) c
      · rw [show v + j = (v + j - P) + P by omega, Nat.add_mod_right, Nat.mod_eq_of_lt (by omega)]
        exact h4 _ (by omega) (by omega)
    · refine .inr ⟨rfl, fun m hm => ?_⟩
      have := h4 m hm
      simpa [okB] using this

end Go.Proofs.Ytpdcjkiejglaiaa.Q

/-
  'isMirrored': whether the digits of a number, so many of them, are the same from the other end. Conditions: a number of 0 to 10000000000, 0 to 9 digits.
-/
namespace Go.Proofs.Ytpdcjkiejglaiaa.Q
open Go.RowKit Go.Proofs.YtpdcjkiejglaiaaW.PrintWords Go.Proofs.YtpdcjkiejglaiaaW.PrintLast Go.Proofs.YtpdcjkiejglaiaaW.PrintMore
set_option linter.unusedVariables false
set_option linter.unusedSimpArgs false

/-- a digit of a number, counted from its end -/
def dgt (N j : Nat) : Int := ((N / 10 ^ j % 10 : Nat) : Int)
def mirB (N D : Nat) : Bool := allF (fun i => dgt N i == dgt N (D - 1 - i)) (D / 2) 0
theorem dgt_cast (N i : Nat) : ((N / 10 ^ i : Nat) : Int) % 10 = dgt N i := by unfold dgt; omega
theorem dgt_next (N i : Nat) : ((N / 10 ^ i : Nat) : Int) / 10 = ((N / 10 ^ (i + 1) : Nat) : Int) := by
  rw [Nat.pow_succ, ← Nat.div_div_eq_div_mul]
  omega
theorem arr_cell {W : World} {b : Nat} {xs : List Int} (h : W.heap[b]? = some (.cells (nums .i64 xs).toArray 62 (0, 0))) (j : Nat) (hj : j < xs.length) : W.cell? ⟨b, j, none⟩ = some (.int .i64 (xs.getD j 0)) := by
  rw [cell_of_row W b _ _ 62 (0, 0) h]
  simp [nums, List.getD_eq_getElem?_getD, hj]
theorem arr_set {W : World} {b : Nat} {xs : List Int} (h : W.heap[b]? = some (.cells (nums .i64 xs).toArray 62 (0, 0))) (j : Nat) (v : Int) : (W.setCell ⟨b, j, none⟩ (.int .i64 v)).heap[b]? = some (.cells (nums .i64 (xs.set j v)).toArray 62 (0, 0)) := by
  rw [blk_set h]
  simp [nums, List.map_set]

set_option maxHeartbeats 2000000 in
theorem isMirrored_any (N : Nat) (D : Nat) (w : World) (h1 : D ≤ 9) (hN : (N : Int) ≤ 10000000000) (r : Bool) (hr : mirB N D = r) :
    Calls Try.prog 44 #[.int .i64 N, .int .i64 D] w fun e w' => e = .returned (.bool r) ∧ Below w.heap.size w w' := by
  have HR := Aside0.mk hr
  clear hr
  go_enter Try.func44, Try.ntmps44
  go_wp2
  go_loopg [0, 10] (D) (fun g v0 v10 wr => ∃ (i M : Nat) (xs : List Int), v0 = .int .i64 M ∧ v10 = .int .i64 i ∧ Aside0 (M = N / 10 ^ i) ∧ Aside0 (i + g = D) ∧ Aside0 (xs.length = 9 ∧ ∀ j : Nat, j < i → xs.getD j 0 = dgt N j) ∧ Aside0 (wr.heap[w.heap.size]? = some (.cells (nums .i64 xs).toArray 62 (0, 0))) ∧ Aside0 (Below w.heap.size w wr))
  case atStart => exact ⟨0, N, List.replicate 9 0, rfl, rfl, ⟨by simp⟩, ⟨by omega⟩, ⟨rfl, fun j hj => by omega⟩, ⟨heap_alloc_new _ _⟩, ⟨below_alloc (Below.refl _ _) _⟩⟩
  case round =>
    obtain ⟨i, M, xs, rfl, rfl, hM, hg, hx, hh, hb⟩ := hrel
    have hMN : (M : Int) ≤ 10000000000 := by have : M ≤ N := by rw [hM.out]; exact Nat.div_le_self _ _
                                             omega
    by_cases hi : i < D
    · have hcell := arr_cell hh.out i (by rw [hx.out.1]; omega)
      have hfree := blk_frozen hh.out i
      have hx9 : i < 9 := by omega
      obtain ⟨v, hv⟩ : ∃ v, v = xs.getD i 0 := ⟨_, rfl⟩
      rw [← hv] at hcell
      clear hv
      go_wp2_with (fail)
      go_roundg (gk - 1)
      case measure => have := hg.out; omega
      case rel =>
        refine ⟨i + 1, M / 10, xs.set i (M % 10 : Int), by go_num, by go_num, ⟨?_⟩, ⟨by have := hg.out; omega⟩, ⟨by rw [List.length_set]; exact hx.out.1, ?_⟩, ⟨arr_set hh.out _ _⟩, ⟨below_set hb.out (Nat.le_refl _)⟩⟩
        · rw [hM.out, Nat.pow_succ, Nat.div_div_eq_div_mul]
        · intro j hj
          rw [List.getD_eq_getElem?_getD]
          by_cases e : j = i
          · subst e
            rw [List.getElem?_set_self (by rw [hx.out.1]; omega), hM.out]
            exact dgt_cast N j
          · rw [List.getElem?_set_ne (by omega), ← List.getD_eq_getElem?_getD]
            exact hx.out.2 j (by omega)
    · obtain rfl : i = D := by have := hg.out; omega
      obtain ⟨w1, hw1⟩ : ∃ x, x = wr := ⟨_, rfl⟩
      subst hw1
      go_wp2
      go_loopg [22] (i / 2) (fun g v22 w2 => ∃ (j : Nat), v22 = .int .i64 j ∧ Aside0 (j + g = i / 2) ∧ Aside0 (allF (fun q => dgt N q == dgt N (i - 1 - q)) g j = r) ∧ ∃ n, w2 = w1.drewN n)
      case atStart => exact ⟨0, rfl, ⟨by omega⟩, HR, 0, rfl⟩
      case round =>
        obtain ⟨j, rfl, hgj, hR, n, rfl⟩ := hrel
        by_cases hj : j < i / 2
        · obtain ⟨g, rfl⟩ : ∃ g, gk = g + 1 := ⟨gk - 1, by have := hgj.out; omega⟩
          have c1 := arr_cell hh.out j (by rw [hx.out.1]; omega)
          have c2 := arr_cell hh.out (i - 1 - j) (by rw [hx.out.1]; omega)
          rw [hx.out.2 j (by omega)] at c1
          rw [hx.out.2 (i - 1 - j) (by omega)] at c2
          obtain ⟨t, ht⟩ : ∃ t : Int, (i : Int) - 1 - (j : Int) = t := ⟨_, rfl⟩
          have c3 : w1.cell? ⟨w.heap.size, t.toNat, none⟩ = some (.int .i64 (dgt N (i - 1 - j))) := by rw [show t.toNat = i - 1 - j by omega]; exact c2
          clear c2
          obtain ⟨a, ha⟩ : ∃ a, a = dgt N j := ⟨_, rfl⟩
          obtain ⟨b, hb2⟩ : ∃ b, b = dgt N (i - 1 - j) := ⟨_, rfl⟩
          rw [← ha] at c1
          rw [← hb2] at c3
          have HA := Aside0.mk ha
          have HB2 := Aside0.mk hb2
          have b1 : ((j : Int) < 9) = True := eq_true (by omega)
          have b0 : (0 ≤ (j : Int)) = True := eq_true (by omega)
          have b2 : (0 ≤ t) = True := eq_true (by omega)
          have b3 : (t < 9) = True := eq_true (by omega)
          have w0_ : IntKind.i64.wrap ((i : Int) - 1) = (i : Int) - 1 := (i64_w _).trans (wrap_id (by omega) (by omega))
          have w1_ : IntKind.i64.wrap ((i : Int) - 1 - (j : Int)) = t := (i64_w _).trans ((wrap_id (by omega) (by omega)).trans ht)
          clear ht
          have hR' := hR.out
          simp only [allF] at hR'
          clear hR
          rw [← ha, ← hb2] at hR'
          clear ha hb2
          by_cases heq : a = b
          · have hq : (a != b) = false := by simp [heq]
            have hR2 : allF (fun q => dgt N q == dgt N (i - 1 - q)) g (j + 1) = r := by rw [← hR']; simp [heq]
            have HR2 := Aside0.mk hR2
            clear hR2 hR' heq
            go_wp2
            go_quiet (fail)
            clear w0_ w1_ b0 b1 b2 b3
            go_wp2
            go_roundg g
            case measure => omega
            case rel => exact ⟨j + 1, by go_num, ⟨by have := hgj.out; omega⟩, HR2, _, rfl⟩
          · have hq : (a != b) = true := by simpa using heq
            have hR2 : r = false := by rw [← hR']; simp [heq]
            subst hR2
            clear hR' heq
            go_wp2
            go_quiet (fail)
            go_wp2
            go_ret
            exact ⟨rfl, pw_below_drewN (pw_below_drewN hb.out _) _⟩
        · have h0 : gk = 0 := by have := hgj.out; omega
          subst h0
          have hR2 : true = r := hR.out
          subst hR2
          clear hR
          go_wp2
          go_ret
          exact ⟨rfl, pw_below_drewN hb.out _⟩

def impl_isMirrored.f (a0 a1 : Int) : Option Bool := if 0 ≤ a0 ∧ a0 ≤ 10000000000 ∧ 0 ≤ a1 ∧ a1 ≤ 9 then some (mirB a0.toNat a1.toNat) else none
theorem impl_isMirrored.calls (a0 a1 : Int) (r : Bool) (w : World) (h : impl_isMirrored.f a0 a1 = some r) :
    Calls Try.prog 44 #[.int .i64 a0, .int .i64 a1] w fun e w' => e = .returned (.bool r) ∧ Below w.heap.size w w' := by
  unfold impl_isMirrored.f at h
  split at h
  · rename_i hc
    obtain ⟨h1, h2, h3, h4⟩ := hc
    obtain ⟨n, rfl⟩ := Int.eq_ofNat_of_zero_le h1
    obtain ⟨d, rfl⟩ := Int.eq_ofNat_of_zero_le h3
    exact isMirrored_any n d w (by omega) h2 r (Option.some.inj h)
  · cases h

end Go.Proofs.Ytpdcjkiejglaiaa.Q

/- Laid by a program of this session (wip/tools/own_print.py) over the translation of this seat: contracts of the functions that the statement reaches. -/
namespace Go.Proofs.Ytpdcjkiejglaiaa.Q
open Go.RowKit Go.Proofs.YtpdcjkiejglaiaaW.PrintWords Go.Proofs.YtpdcjkiejglaiaaW.PrintLast Go.Proofs.YtpdcjkiejglaiaaW.PrintMore
attribute [local go_sem] max2_int min2_int max_two min_two max_three min_three max_four min_four   -- for this text's walks alone
set_option linter.unusedVariables false
set_option linter.unusedSimpArgs false

/-! ### spec_BothMirrored: function 19 -/
mutual
def spec_BothMirrored.j0 : Nat → ByteArray → ByteArray → Bool → Option (Int × Bool)
  | 0, _, _, _ => none
  | k + 1, x0, x1, x18 => if x18 = true then (some (0, false)) else (spec_BothMirrored.l0 k x1 0 x0)
def spec_BothMirrored.l0 : Nat → ByteArray → Int → ByteArray → Option (Int × Bool)
  | 0, _, _, _ => none
  | k + 1, x1, x6, x7 => (spec_miNext.f k x7 (⟨#[109]⟩ : ByteArray)).bind fun t103 => ((spec_miTo.f k x7 t103).bind fun t104 => (if t104 = 0 then ((spec_miAll.f k (x7.size : Int)).bind fun t105 => (spec_BothMirrored.j2 k x1 x6 t103 t105)) else (spec_BothMirrored.j2 k x1 x6 t103 t104)))
def spec_BothMirrored.j2 : Nat → ByteArray → Int → ByteArray → Int → Option (Int × Bool)
  | 0, _, _, _, _ => none
  | k + 1, x1, x6, x8, x9 => if (wrap64 (x6 + x9)) > 1000000 then (some (0, false)) else ((spec_tkNumber.f k x1).bind fun t106 => ((spec_miAll.f k (x1.size : Int)).bind fun t107 => (if t107 = 0 then (none) else ((spec_miText.f k (x1.size : Int) (Int.tmod (wrap64 (t106 + (wrap64 (x6 + x9)))) t107)).bind fun t108 => ((spec_miIs.f k t108 (⟨#[109]⟩ : ByteArray)).bind fun t109 => (if t109 = true then (some (wrap64 (x6 + x9), true)) else (spec_BothMirrored.l0 k x1 (wrap64 (x6 + x9)) x8)))))))
end
def spec_BothMirrored.f (k : Nat) (a0 : ByteArray) (a1 : ByteArray) : Option (Int × Bool) := (spec_miGood.f k a0).bind fun t101 => (if t101 = true then ((spec_miGood.f k a1).bind fun t102 => (spec_BothMirrored.j0 k a0 a1 (!t102))) else (spec_BothMirrored.j0 k a0 a1 true))
theorem spec_BothMirrored.mono_l : ∀ k, (∀ y0 y1 y2, LeO (spec_BothMirrored.j0 k y0 y1 y2) (spec_BothMirrored.j0 (k + 1) y0 y1 y2)) ∧ (∀ y0 y1 y2, LeO (spec_BothMirrored.l0 k y0 y1 y2) (spec_BothMirrored.l0 (k + 1) y0 y1 y2)) ∧ (∀ y0 y1 y2 y3, LeO (spec_BothMirrored.j2 k y0 y1 y2 y3) (spec_BothMirrored.j2 (k + 1) y0 y1 y2 y3))
  | 0 => ⟨fun _ _ _ r h => by simp [spec_BothMirrored.j0] at h, fun _ _ _ r h => by simp [spec_BothMirrored.l0] at h, fun _ _ _ _ r h => by simp [spec_BothMirrored.j2] at h⟩
  | k + 1 => by
    obtain ⟨ih0, ih1, ih2⟩ := spec_BothMirrored.mono_l k
    refine ⟨?_, ?_, ?_⟩
    · intro y0 y1 y2
      unfold spec_BothMirrored.j0
      repeat' first
      | (with_reducible exact ih0 _ _ _)
      | (with_reducible exact ih1 _ _ _)
      | (with_reducible exact ih2 _ _ _ _)
      | (with_reducible exact spec_miAll.mono _ _)
      | (with_reducible exact spec_miGood.mono _ _)
      | (with_reducible exact spec_miIs.mono _ _ _)
      | (with_reducible exact spec_miNext.mono _ _ _)
      | (with_reducible exact spec_miText.mono _ _ _)
      | (with_reducible exact spec_miTo.mono _ _ _)
      | (with_reducible exact spec_tkNumber.mono _ _)
      | (with_reducible exact LeO.refl _)
      | (with_reducible exact LeO.none _)
      | (with_reducible refine LeO.ite ?_ ?_)
      | (with_reducible refine LeO.bind ?_ (fun _ => ?_))
      | exact ih0 _ _ _
      | exact ih1 _ _ _
      | exact ih2 _ _ _ _
      | exact spec_miAll.mono _ _
      | exact spec_miGood.mono _ _
      | exact spec_miIs.mono _ _ _
      | exact spec_miNext.mono _ _ _
      | exact spec_miText.mono _ _ _
      | exact spec_miTo.mono _ _ _
      | exact spec_tkNumber.mono _ _
      | exact LeO.none _
      | refine LeO.ite ?_ ?_
      | refine LeO.bind ?_ (fun _ => ?_)
    · intro y0 y1 y2
      unfold spec_BothMirrored.l0
      repeat' first
      | (with_reducible exact ih0 _ _ _)
      | (with_reducible exact ih1 _ _ _)
      | (with_reducible exact ih2 _ _ _ _)
      | (with_reducible exact spec_miAll.mono _ _)
      | (with_reducible exact spec_miGood.mono _ _)
      | (with_reducible exact spec_miIs.mono _ _ _)
      | (with_reducible exact spec_miNext.mono _ _ _)
      | (with_reducible exact spec_miText.mono _ _ _)
      | (with_reducible exact spec_miTo.mono _ _ _)
      | (with_reducible exact spec_tkNumber.mono _ _)
      | (with_reducible exact LeO.refl _)
      | (with_reducible exact LeO.none _)
      | (with_reducible refine LeO.ite ?_ ?_)
      | (with_reducible refine LeO.bind ?_ (fun _ => ?_))
      | exact ih0 _ _ _
      | exact ih1 _ _ _
      | exact ih2 _ _ _ _
      | exact spec_miAll.mono _ _
      | exact spec_miGood.mono _ _
      | exact spec_miIs.mono _ _ _
      | exact spec_miNext.mono _ _ _
      | exact spec_miText.mono _ _ _
      | exact spec_miTo.mono _ _ _
      | exact spec_tkNumber.mono _ _
      | exact LeO.none _
      | refine LeO.ite ?_ ?_
      | refine LeO.bind ?_ (fun _ => ?_)
    · intro y0 y1 y2 y3
      unfold spec_BothMirrored.j2
      repeat' first
      | (with_reducible exact ih0 _ _ _)
      | (with_reducible exact ih1 _ _ _)
      | (with_reducible exact ih2 _ _ _ _)
      | (with_reducible exact spec_miAll.mono _ _)
      | (with_reducible exact spec_miGood.mono _ _)
      | (with_reducible exact spec_miIs.mono _ _ _)
      | (with_reducible exact spec_miNext.mono _ _ _)
      | (with_reducible exact spec_miText.mono _ _ _)
      | (with_reducible exact spec_miTo.mono _ _ _)
      | (with_reducible exact spec_tkNumber.mono _ _)
      | (with_reducible exact LeO.refl _)
      | (with_reducible exact LeO.none _)
      | (with_reducible refine LeO.ite ?_ ?_)
      | (with_reducible refine LeO.bind ?_ (fun _ => ?_))
      | exact ih0 _ _ _
      | exact ih1 _ _ _
      | exact ih2 _ _ _ _
      | exact spec_miAll.mono _ _
      | exact spec_miGood.mono _ _
      | exact spec_miIs.mono _ _ _
      | exact spec_miNext.mono _ _ _
      | exact spec_miText.mono _ _ _
      | exact spec_miTo.mono _ _ _
      | exact spec_tkNumber.mono _ _
      | exact LeO.none _
      | refine LeO.ite ?_ ?_
      | refine LeO.bind ?_ (fun _ => ?_)
theorem spec_BothMirrored.mono : ∀ a0 a1 k, LeO (spec_BothMirrored.f k a0 a1) (spec_BothMirrored.f (k + 1) a0 a1) := by
  intro a0 a1 k
  obtain ⟨ih0, ih1, ih2⟩ := spec_BothMirrored.mono_l k
  unfold spec_BothMirrored.f
  repeat' first
      | (with_reducible exact ih0 _ _ _)
      | (with_reducible exact ih1 _ _ _)
      | (with_reducible exact ih2 _ _ _ _)
      | (with_reducible exact spec_miAll.mono _ _)
      | (with_reducible exact spec_miGood.mono _ _)
      | (with_reducible exact spec_miIs.mono _ _ _)
      | (with_reducible exact spec_miNext.mono _ _ _)
      | (with_reducible exact spec_miText.mono _ _ _)
      | (with_reducible exact spec_miTo.mono _ _ _)
      | (with_reducible exact spec_tkNumber.mono _ _)
      | (with_reducible exact LeO.refl _)
      | (with_reducible exact LeO.none _)
      | (with_reducible refine LeO.ite ?_ ?_)
      | (with_reducible refine LeO.bind ?_ (fun _ => ?_))
      | exact ih0 _ _ _
      | exact ih1 _ _ _
      | exact ih2 _ _ _ _
      | exact spec_miAll.mono _ _
      | exact spec_miGood.mono _ _
      | exact spec_miIs.mono _ _ _
      | exact spec_miNext.mono _ _ _
      | exact spec_miText.mono _ _ _
      | exact spec_miTo.mono _ _ _
      | exact spec_tkNumber.mono _ _
      | exact LeO.none _
      | refine LeO.ite ?_ ?_
      | refine LeO.bind ?_ (fun _ => ?_)
set_option maxHeartbeats 8000000 in
set_option maxRecDepth 100000 in
theorem spec_BothMirrored.calls (k : Nat) (a0 : ByteArray) (a1 : ByteArray) (r1 : Int) (r2 : Bool) (w : World) (h : spec_BothMirrored.f k a0 a1 = some (r1, r2)) :
    Calls Try.prog 19 #[.string a0, .string a1] w fun e w' => e = .returned (.tuple #[.int .i64 r1, .bool r2]) ∧ Below w.heap.size w w' := by
  have HB := Aside0.mk (Below.refl w.heap.size w)
  have H : ((spec_miGood.f k a0).bind fun t101 => (if t101 = true then ((spec_miGood.f k a1).bind fun t102 => (spec_BothMirrored.j0 k a0 a1 (!t102))) else (spec_BothMirrored.j0 k a0 a1 true))) = some (r1, r2) := h
  clear h
  have HC3 := Aside0.mk H
  clear H
  go_enter Try.func19, Try.ntmps19
  go_upto_region 1 with (fail)
  go_cut [18] (fun v18 wc => ∃ (kq : Nat) (x18_2 : Bool), v18 = .bool x18_2 ∧ Aside0 (spec_BothMirrored.j0 kq a0 a1 x18_2 = some (r1, r2)) ∧ Aside0 (kq ≤ k) ∧ Aside0 (Below w.heap.size w wc))
  case first =>
    have H := HC3.out
    clear HC3
    replace H := Option.bind_eq_some_iff.mp H
    obtain ⟨t101, A40, H⟩ := H
    replace H : (if t101 = true then ((spec_miGood.f k a1).bind fun t102 => (spec_BothMirrored.j0 k a0 a1 (!t102))) else (spec_BothMirrored.j0 k a0 a1 true)) = some (r1, r2) := H
    have A4 := Aside0.mk A40
    clear A40
    by_cases c5 : t101 = true
    · subst c5
      have H1 : ((spec_miGood.f k a1).bind fun t102 => (spec_BothMirrored.j0 k a0 a1 (!t102))) = some (r1, r2) := by rw [if_pos rfl] at H; exact H
      clear H
      have H := H1
      clear H1
      replace H := Option.bind_eq_some_iff.mp H
      obtain ⟨t102, A60, H⟩ := H
      replace H : (spec_BothMirrored.j0 k a0 a1 (!t102)) = some (r1, r2) := H
      have A6 := Aside0.mk A60
      clear A60
      have H' := Aside0.mk H
      clear H
      go_wp2_with (first | ((with_reducible refine gate_callee (f := 34) rfl ?_); refine goesL_ (some 12) rfl rfl Try.func34 (by kernel_rfl) rfl #[.string a0] rfl (by (try simp only [List.map_toArray, List.map_cons, List.map_nil]); first | done | rfl | (simp only [List.length_drop, List.length_take]; rfl)) ?_; (with_reducible refine (spec_miGood.calls k a0 true _ A4.out).mono ?_); rintro e w' ⟨rfl, ⟨nd, rfl⟩⟩; refine ⟨_, rfl, ?_⟩) | (go_at_call 34; (with_reducible refine (spec_miGood.calls k a1 t102 _ A6.out).mono ?_); rintro e w' ⟨rfl, ⟨nd, rfl⟩⟩))
      go_meet
      case rel => exact ⟨_, (!t102), (by first | rfl | (simp; done) | (simp [*]; done)), H', ⟨by first | omega | exact Nat.le_refl _⟩, ⟨by repeat (first | (with_reducible first | exact HB.out | apply below_alloc | apply pw_below_drewN | apply below_drew1) | exact HB.out)⟩⟩
    · replace c5 := Bool.eq_false_iff.mpr c5
      subst c5
      have H1 : (spec_BothMirrored.j0 k a0 a1 true) = some (r1, r2) := by rw [if_neg (show ¬ (false = true) by decide)] at H; exact H
      clear H
      have H := H1
      clear H1
      have H' := Aside0.mk H
      clear H
      go_wp2_with (first | ((with_reducible refine gate_callee (f := 34) rfl ?_); refine goesL_ (some 12) rfl rfl Try.func34 (by kernel_rfl) rfl #[.string a0] rfl (by (try simp only [List.map_toArray, List.map_cons, List.map_nil]); first | done | rfl | (simp only [List.length_drop, List.length_take]; rfl)) ?_; (with_reducible refine (spec_miGood.calls k a0 false _ A4.out).mono ?_); rintro e w' ⟨rfl, ⟨nd, rfl⟩⟩; refine ⟨_, rfl, ?_⟩))
      go_meet
      case rel => exact ⟨_, (true), (by first | rfl | (simp; done) | (simp [*]; done)), H', ⟨by first | omega | exact Nat.le_refl _⟩, ⟨by repeat (first | (with_reducible first | exact HB.out | apply below_alloc | apply pw_below_drewN | apply below_drew1) | exact HB.out)⟩⟩
  case rest =>
    clear HC3
    try clear c1
    try clear p2
    try clear c3
    try clear c5
    obtain ⟨kq, x18_2, rfl, HA, HJ2, HB⟩ := hcut
    cases kq with
    | zero => exact absurd HA.out (by simp [spec_BothMirrored.j0])
    | succ kj2 =>
      have H := HA.out
      clear HA
      simp only [spec_BothMirrored.j0] at H
      by_cases c7 : x18_2 = true
      · subst c7
        have H1 : (some (0, false)) = some (r1, r2) := by rw [if_pos rfl] at H; exact H
        clear H
        have H := H1
        clear H1
        simp only [Option.some.injEq, Prod.mk.injEq] at H
        obtain ⟨rfl, rfl⟩ := H
        go_wp2
        go_ret2
        exact ⟨by first | rfl | (simp [errW_none, errW_some] <;> rfl) | (simp [*, errW_none, errW_some] <;> rfl), by repeat (first | (with_reducible first | exact HB.out | apply below_alloc | apply pw_below_drewN | apply below_drew1) | exact HB.out)⟩
      · replace c7 := Bool.eq_false_iff.mpr c7
        subst c7
        have H1 : (spec_BothMirrored.l0 kj2 a1 0 a0) = some (r1, r2) := by rw [if_neg (show ¬ (false = true) by decide)] at H; exact H
        clear H
        have H := H1
        clear H1
        have H' := Aside0.mk H
        clear H
        go_wp2
        go_loopg [6, 7] kj2 (fun kq v6 v7 w' => ∃ (x6_2 : Int) (x7_2 : ByteArray), v6 = .int .i64 x6_2 ∧ v7 = .string x7_2 ∧ Aside0 (spec_BothMirrored.l0 kq a1 x6_2 x7_2 = some (r1, r2)) ∧ Aside0 (kq ≤ kj2) ∧ Aside0 (Below w.heap.size w w'))
        case atStart => exact ⟨(0), (a0), (by first | rfl | (simp; done) | (simp [*]; done)), (by first | rfl | (simp; done) | (simp [*]; done)), H', ⟨Nat.le_refl _⟩, ⟨by repeat (first | (with_reducible first | exact HB.out | apply below_alloc | apply pw_below_drewN | apply below_drew1) | exact HB.out)⟩⟩
        case round =>
          clear H'
          try clear c1
          try clear p2
          try clear c3
          try clear c5
          try clear c7
          try clear p2
          obtain ⟨x6_2, x7_2, rfl, rfl, HA, HK2, HB⟩ := hrel
          cases gk with
          | zero => exact absurd HA.out (by simp [spec_BothMirrored.l0])
          | succ k2 =>
            have H := HA.out
            clear HA
            simp only [spec_BothMirrored.l0] at H
            replace H := Option.bind_eq_some_iff.mp H
            obtain ⟨t103, A80, H⟩ := H
            replace H : ((spec_miTo.f k2 x7_2 t103).bind fun t104 => (if t104 = 0 then ((spec_miAll.f k2 (x7_2.size : Int)).bind fun t105 => (spec_BothMirrored.j2 k2 a1 x6_2 t103 t105)) else (spec_BothMirrored.j2 k2 a1 x6_2 t103 t104))) = some (r1, r2) := H
            have A8 := Aside0.mk A80
            clear A80
            replace H := Option.bind_eq_some_iff.mp H
            obtain ⟨t104, A90, H⟩ := H
            replace H : (if t104 = 0 then ((spec_miAll.f k2 (x7_2.size : Int)).bind fun t105 => (spec_BothMirrored.j2 k2 a1 x6_2 t103 t105)) else (spec_BothMirrored.j2 k2 a1 x6_2 t103 t104)) = some (r1, r2) := H
            have A9 := Aside0.mk A90
            clear A90
            have HC10 := Aside0.mk H
            clear H
            go_upto_if 26 with (first | ((with_reducible refine gate_callee (f := 38) rfl ?_); refine goesL_ (some 21) rfl rfl Try.func38 (by kernel_rfl) rfl #[.string x7_2, .string (⟨#[109]⟩ : ByteArray)] rfl (by (try simp only [List.map_toArray, List.map_cons, List.map_nil]); first | done | rfl | (simp only [List.length_drop, List.length_take]; rfl)) ?_; (with_reducible refine (spec_miNext.calls k2 x7_2 (⟨#[109]⟩ : ByteArray) t103 _ A8.out).mono ?_); rintro e w11 ⟨rfl, hb⟩; refine ⟨_, rfl, ?_⟩; have n0_ := Aside0.mk (below_step (by repeat (first | (with_reducible first | exact HB.out | apply below_alloc | apply pw_below_drewN | apply below_drew1) | exact HB.out)) hb); clear HB; have HB := n0_; clear n0_; (try clear hb); (try clear hb2); (try clear hk); (try clear hi)) | ((with_reducible refine gate_callee (f := 39) rfl ?_); refine goesL_ (some 24) rfl rfl Try.func39 (by kernel_rfl) rfl #[.string x7_2, .string t103] rfl (by (try simp only [List.map_toArray, List.map_cons, List.map_nil]); first | done | rfl | (simp only [List.length_drop, List.length_take]; rfl)) ?_; (with_reducible refine (spec_miTo.calls k2 x7_2 t103 t104 _ A9.out).mono ?_); rintro e w' ⟨rfl, ⟨nd, rfl⟩⟩; refine ⟨_, rfl, ?_⟩))
            (try simp only [Act.put, List.setIfInBounds_toArray, List.set_cons_zero, List.set_cons_succ])
            go_cut [9] (fun v9 wc => ∃ (kq : Nat) (x9_9 : Int), v9 = .int .i64 x9_9 ∧ Aside0 (spec_BothMirrored.j2 kq a1 x6_2 t103 x9_9 = some (r1, r2)) ∧ Aside0 (kq ≤ k2) ∧ Aside0 (Below w.heap.size w wc))
            case first =>
              have H := HC10.out
              clear HC10
              by_cases c12 : t104 = 0
              · rw [if_pos c12] at H
                have c12b0 : (t104 == 0) = true := beq_iff_eq.mpr c12
                have c12b1 : (t104 != 0) = false := bne_eq_false_iff_eq.mpr c12
                clear c12
                (first | rw [c12b0] | (simp only [i64_w, i32_w]; rw [c12b0]) | skip)
                replace H := Option.bind_eq_some_iff.mp H
                obtain ⟨t105, A130, H⟩ := H
                replace H : (spec_BothMirrored.j2 k2 a1 x6_2 t103 t105) = some (r1, r2) := H
                have A13 := Aside0.mk A130
                clear A130
                have H' := Aside0.mk H
                clear H
                go_wp2_with (first | ((with_reducible refine gate_callee (f := 40) rfl ?_); refine goesL_ (some 29) rfl rfl Try.func40 (by kernel_rfl) rfl #[.int .i64 (x7_2.size : Int)] rfl (by (try simp only [List.map_toArray, List.map_cons, List.map_nil]); first | done | rfl | (simp only [List.length_drop, List.length_take]; rfl)) ?_; (with_reducible refine (spec_miAll.calls k2 (x7_2.size : Int) t105 _ A13.out).mono ?_); rintro e w' ⟨rfl, ⟨nd, rfl⟩⟩; refine ⟨_, rfl, ?_⟩))
                go_meet
                case rel => exact ⟨_, (t105), (by first | rfl | (simp; done) | (simp [*]; done)), H', ⟨by have := HJ2.out; have := HK2.out; first | omega | exact Nat.le_refl _⟩, ⟨by repeat (first | (with_reducible first | exact HB.out | apply below_alloc | apply pw_below_drewN | apply below_drew1) | exact HB.out)⟩⟩
              · rw [if_neg c12] at H
                have c12b0 : (t104 == 0) = false := beq_eq_false_iff_ne.mpr c12
                have c12b1 : (t104 != 0) = true := bne_iff_ne.mpr c12
                (first | rw [c12b0] | (simp only [i64_w, i32_w]; rw [c12b0]) | skip)
                have H' := Aside0.mk H
                clear H
                go_wp2
                go_meet
                case rel => exact ⟨_, (t104), (by first | rfl | (simp; done) | (simp [*]; done)), H', ⟨by have := HJ2.out; have := HK2.out; first | omega | exact Nat.le_refl _⟩, ⟨by repeat (first | (with_reducible first | exact HB.out | apply below_alloc | apply pw_below_drewN | apply below_drew1) | exact HB.out)⟩⟩
            case rest =>
              clear HC10
              try clear c1
              try clear p2
              try clear c3
              try clear c4
              try clear c5
              try clear c7
              try clear c12
              try clear c12b0
              try clear c12b1
              try clear p2
              obtain ⟨kq, x9_9, rfl, HA, HJ9, HB⟩ := hcut
              cases kq with
              | zero => exact absurd HA.out (by simp [spec_BothMirrored.j2])
              | succ kj9 =>
                have H := HA.out
                clear HA
                simp only [spec_BothMirrored.j2] at H
                by_cases c14 : (wrap64 (x6_2 + x9_9)) > 1000000
                · rw [if_pos c14] at H
                  have c14b0 : decide (1000000 < (wrap64 (x6_2 + x9_9))) = true := decide_eq_true c14
                  clear c14
                  simp only [Option.some.injEq, Prod.mk.injEq] at H
                  obtain ⟨rfl, rfl⟩ := H
                  go_wp2
                  go_ret2
                  exact ⟨by first | rfl | (simp [errW_none, errW_some] <;> rfl) | (simp [*, errW_none, errW_some] <;> rfl), by repeat (first | (with_reducible first | exact HB.out | apply below_alloc | apply pw_below_drewN | apply below_drew1) | exact HB.out)⟩
                · rw [if_neg c14] at H
                  have c14b0 : decide (1000000 < (wrap64 (x6_2 + x9_9))) = false := decide_eq_false c14
                  clear c14
                  replace H := Option.bind_eq_some_iff.mp H
                  obtain ⟨t106, A150, H⟩ := H
                  replace H : ((spec_miAll.f kj9 (a1.size : Int)).bind fun t107 => (if t107 = 0 then (none) else ((spec_miText.f kj9 (a1.size : Int) (Int.tmod (wrap64 (t106 + (wrap64 (x6_2 + x9_9)))) t107)).bind fun t108 => ((spec_miIs.f kj9 t108 (⟨#[109]⟩ : ByteArray)).bind fun t109 => (if t109 = true then (some (wrap64 (x6_2 + x9_9), true)) else (spec_BothMirrored.l0 kj9 a1 (wrap64 (x6_2 + x9_9)) t103)))))) = some (r1, r2) := H
                  have A15 := Aside0.mk A150
                  clear A150
                  replace H := Option.bind_eq_some_iff.mp H
                  obtain ⟨t107, A160, H⟩ := H
                  replace H : (if t107 = 0 then (none) else ((spec_miText.f kj9 (a1.size : Int) (Int.tmod (wrap64 (t106 + (wrap64 (x6_2 + x9_9)))) t107)).bind fun t108 => ((spec_miIs.f kj9 t108 (⟨#[109]⟩ : ByteArray)).bind fun t109 => (if t109 = true then (some (wrap64 (x6_2 + x9_9), true)) else (spec_BothMirrored.l0 kj9 a1 (wrap64 (x6_2 + x9_9)) t103))))) = some (r1, r2) := H
                  have A16 := Aside0.mk A160
                  clear A160
                  by_cases c17 : t107 = 0
                  · rw [if_pos c17] at H
                    exact absurd H (by simp)
                  · rw [if_neg c17] at H
                    have c17b0 : (t107 == 0) = false := beq_eq_false_iff_ne.mpr c17
                    have c17b1 : (t107 != 0) = true := bne_iff_ne.mpr c17
                    replace H := Option.bind_eq_some_iff.mp H
                    obtain ⟨t108, A180, H⟩ := H
                    replace H : ((spec_miIs.f kj9 t108 (⟨#[109]⟩ : ByteArray)).bind fun t109 => (if t109 = true then (some (wrap64 (x6_2 + x9_9), true)) else (spec_BothMirrored.l0 kj9 a1 (wrap64 (x6_2 + x9_9)) t103))) = some (r1, r2) := H
                    have A18 := Aside0.mk A180
                    clear A180
                    replace H := Option.bind_eq_some_iff.mp H
                    obtain ⟨t109, A190, H⟩ := H
                    replace H : (if t109 = true then (some (wrap64 (x6_2 + x9_9), true)) else (spec_BothMirrored.l0 kj9 a1 (wrap64 (x6_2 + x9_9)) t103)) = some (r1, r2) := H
                    have A19 := Aside0.mk A190
                    clear A190
                    by_cases c20 : t109 = true
                    · subst c20
                      have H1 : (some (wrap64 (x6_2 + x9_9), true)) = some (r1, r2) := by rw [if_pos rfl] at H; exact H
                      clear H
                      have H := H1
                      clear H1
                      simp only [Option.some.injEq, Prod.mk.injEq] at H
                      obtain ⟨rfl, rfl⟩ := H
                      go_wp2_with (first | ((with_reducible refine gate_callee (f := 42) rfl ?_); refine goesL_ (some 38) rfl rfl Try.func42 (by kernel_rfl) rfl #[.string a1] rfl (by (try simp only [List.map_toArray, List.map_cons, List.map_nil]); first | done | rfl | (simp only [List.length_drop, List.length_take]; rfl)) ?_; (with_reducible refine (spec_tkNumber.calls kj9 a1 t106 _ A15.out).mono ?_); rintro e w' ⟨rfl, ⟨nd, rfl⟩⟩; refine ⟨_, rfl, ?_⟩) | ((with_reducible refine gate_callee (f := 40) rfl ?_); refine goesL_ (some 43) rfl rfl Try.func40 (by kernel_rfl) rfl #[.int .i64 (a1.size : Int)] rfl (by (try simp only [List.map_toArray, List.map_cons, List.map_nil]); first | done | rfl | (simp only [List.length_drop, List.length_take]; rfl)) ?_; (with_reducible refine (spec_miAll.calls kj9 (a1.size : Int) t107 _ A16.out).mono ?_); rintro e w' ⟨rfl, ⟨nd, rfl⟩⟩; refine ⟨_, rfl, ?_⟩) | ((with_reducible refine gate_callee (f := 41) rfl ?_); refine goesL_ (some 45) rfl rfl Try.func41 (by kernel_rfl) rfl #[.int .i64 (a1.size : Int), .int .i64 (Int.tmod (wrap64 (t106 + (wrap64 (x6_2 + x9_9)))) t107)] rfl (by (try simp only [List.map_toArray, List.map_cons, List.map_nil]); first | done | rfl | (simp only [List.length_drop, List.length_take]; rfl)) ?_; (with_reducible refine (spec_miText.calls kj9 (a1.size : Int) (Int.tmod (wrap64 (t106 + (wrap64 (x6_2 + x9_9)))) t107) t108 _ A18.out).mono ?_); rintro e w21 ⟨rfl, hb⟩; refine ⟨_, rfl, ?_⟩; have n0_ := Aside0.mk (below_step (by repeat (first | (with_reducible first | exact HB.out | apply below_alloc | apply pw_below_drewN | apply below_drew1) | exact HB.out)) hb); clear HB; have HB := n0_; clear n0_; (try clear hb); (try clear hb2); (try clear hk); (try clear hi)) | ((with_reducible refine gate_callee (f := 35) rfl ?_); refine goesL_ (some 47) rfl rfl Try.func35 (by kernel_rfl) rfl #[.string t108, .string (⟨#[109]⟩ : ByteArray)] rfl (by (try simp only [List.map_toArray, List.map_cons, List.map_nil]); first | done | rfl | (simp only [List.length_drop, List.length_take]; rfl)) ?_; (with_reducible refine (spec_miIs.calls kj9 t108 (⟨#[109]⟩ : ByteArray) true _ A19.out).mono ?_); rintro e w22 ⟨rfl, hb⟩; refine ⟨_, rfl, ?_⟩; have n0_ := Aside0.mk (below_step (by repeat (first | (with_reducible first | exact HB.out | apply below_alloc | apply pw_below_drewN | apply below_drew1) | exact HB.out)) hb); clear HB; have HB := n0_; clear n0_; (try clear hb); (try clear hb2); (try clear hk); (try clear hi)))
                      go_ret2
                      exact ⟨by first | rfl | (simp [errW_none, errW_some] <;> rfl) | (simp [*, errW_none, errW_some] <;> rfl), by repeat (first | (with_reducible first | exact HB.out | apply below_alloc | apply pw_below_drewN | apply below_drew1) | exact HB.out)⟩
                    · replace c20 := Bool.eq_false_iff.mpr c20
                      subst c20
                      have H1 : (spec_BothMirrored.l0 kj9 a1 (wrap64 (x6_2 + x9_9)) t103) = some (r1, r2) := by rw [if_neg (show ¬ (false = true) by decide)] at H; exact H
                      clear H
                      have H := H1
                      clear H1
                      have H' := Aside0.mk H
                      clear H
                      go_wp2_with (first | ((with_reducible refine gate_callee (f := 42) rfl ?_); refine goesL_ (some 38) rfl rfl Try.func42 (by kernel_rfl) rfl #[.string a1] rfl (by (try simp only [List.map_toArray, List.map_cons, List.map_nil]); first | done | rfl | (simp only [List.length_drop, List.length_take]; rfl)) ?_; (with_reducible refine (spec_tkNumber.calls kj9 a1 t106 _ A15.out).mono ?_); rintro e w' ⟨rfl, ⟨nd, rfl⟩⟩; refine ⟨_, rfl, ?_⟩) | ((with_reducible refine gate_callee (f := 40) rfl ?_); refine goesL_ (some 43) rfl rfl Try.func40 (by kernel_rfl) rfl #[.int .i64 (a1.size : Int)] rfl (by (try simp only [List.map_toArray, List.map_cons, List.map_nil]); first | done | rfl | (simp only [List.length_drop, List.length_take]; rfl)) ?_; (with_reducible refine (spec_miAll.calls kj9 (a1.size : Int) t107 _ A16.out).mono ?_); rintro e w' ⟨rfl, ⟨nd, rfl⟩⟩; refine ⟨_, rfl, ?_⟩) | ((with_reducible refine gate_callee (f := 41) rfl ?_); refine goesL_ (some 45) rfl rfl Try.func41 (by kernel_rfl) rfl #[.int .i64 (a1.size : Int), .int .i64 (Int.tmod (wrap64 (t106 + (wrap64 (x6_2 + x9_9)))) t107)] rfl (by (try simp only [List.map_toArray, List.map_cons, List.map_nil]); first | done | rfl | (simp only [List.length_drop, List.length_take]; rfl)) ?_; (with_reducible refine (spec_miText.calls kj9 (a1.size : Int) (Int.tmod (wrap64 (t106 + (wrap64 (x6_2 + x9_9)))) t107) t108 _ A18.out).mono ?_); rintro e w23 ⟨rfl, hb⟩; refine ⟨_, rfl, ?_⟩; have n0_ := Aside0.mk (below_step (by repeat (first | (with_reducible first | exact HB.out | apply below_alloc | apply pw_below_drewN | apply below_drew1) | exact HB.out)) hb); clear HB; have HB := n0_; clear n0_; (try clear hb); (try clear hb2); (try clear hk); (try clear hi)) | ((with_reducible refine gate_callee (f := 35) rfl ?_); refine goesL_ (some 47) rfl rfl Try.func35 (by kernel_rfl) rfl #[.string t108, .string (⟨#[109]⟩ : ByteArray)] rfl (by (try simp only [List.map_toArray, List.map_cons, List.map_nil]); first | done | rfl | (simp only [List.length_drop, List.length_take]; rfl)) ?_; (with_reducible refine (spec_miIs.calls kj9 t108 (⟨#[109]⟩ : ByteArray) false _ A19.out).mono ?_); rintro e w24 ⟨rfl, hb⟩; refine ⟨_, rfl, ?_⟩; have n0_ := Aside0.mk (below_step (by repeat (first | (with_reducible first | exact HB.out | apply below_alloc | apply pw_below_drewN | apply below_drew1) | exact HB.out)) hb); clear HB; have HB := n0_; clear n0_; (try clear hb); (try clear hb2); (try clear hk); (try clear hi)))
                      go_roundg kj9
                      case measure => have := HJ2.out; have := HK2.out; have := HJ9.out; omega
                      case rel => exact ⟨(wrap64 (x6_2 + x9_9)), (t103), (by first | rfl | (simp; done) | (simp [*]; done)), (by first | rfl | (simp; done) | (simp [*]; done)), H', ⟨by have := HJ2.out; have := HK2.out; have := HJ9.out; omega⟩, ⟨by repeat (first | (with_reducible first | exact HB.out | apply below_alloc | apply pw_below_drewN | apply below_drew1) | exact HB.out)⟩⟩

end Go.Proofs.Ytpdcjkiejglaiaa.Q

/- Laid by a program of this session (wip/tools/own_print.py) over the translation of this seat: contracts of the functions that the statement reaches. -/
namespace Go.Proofs.Ytpdcjkiejglaiaa.Q
open Go.RowKit Go.Proofs.YtpdcjkiejglaiaaW.PrintWords Go.Proofs.YtpdcjkiejglaiaaW.PrintLast Go.Proofs.YtpdcjkiejglaiaaW.PrintMore
attribute [local go_sem] max2_int min2_int max_two min_two max_three min_three max_four min_four   -- for this text's walks alone
set_option linter.unusedVariables false
set_option linter.unusedSimpArgs false

/-! ### impl_BothMirrored: function 20 -/
mutual
def impl_BothMirrored.j0 : Nat → ByteArray → ByteArray → Bool → Option (Int × Bool)
  | 0, _, _, _ => none
  | k + 1, x0, x1, x16 => if x16 = true then (some (0, false)) else ((impl_numberOf.f k x0).bind fun t103 => ((impl_numberOf.f k x1).bind fun t104 => (impl_BothMirrored.l0 k x0 x1 t103 t104 1)))
def impl_BothMirrored.l0 : Nat → ByteArray → ByteArray → Int → Int → Int → Option (Int × Bool)
  | 0, _, _, _, _, _ => none
  | k + 1, x0, x1, x6, x7, x8 => if x8 ≤ 1000000 then ((impl_round.f k (x0.size : Int)).bind fun t105 => (if t105 = 0 then (none) else ((impl_isMirrored.f (Int.tmod (wrap64 (x6 + x8)) t105) (x0.size : Int)).bind fun t106 => (if t106 = true then ((impl_round.f k (x1.size : Int)).bind fun t107 => (if t107 = 0 then (none) else ((impl_isMirrored.f (Int.tmod (wrap64 (x7 + x8)) t107) (x1.size : Int)).bind fun t108 => (if t108 = true then (some (x8, true)) else (impl_BothMirrored.l0 k x0 x1 x6 x7 (wrap64 (x8 + 1))))))) else (impl_BothMirrored.l0 k x0 x1 x6 x7 (wrap64 (x8 + 1))))))) else (some (0, false))
end
def impl_BothMirrored.f (k : Nat) (a0 : ByteArray) (a1 : ByteArray) : Option (Int × Bool) := (impl_IsReading.f k a0).bind fun t101 => (if t101 = true then ((impl_IsReading.f k a1).bind fun t102 => (impl_BothMirrored.j0 k a0 a1 (!t102))) else (impl_BothMirrored.j0 k a0 a1 true))
theorem impl_BothMirrored.mono_l : ∀ k, (∀ y0 y1 y2, LeO (impl_BothMirrored.j0 k y0 y1 y2) (impl_BothMirrored.j0 (k + 1) y0 y1 y2)) ∧ (∀ y0 y1 y2 y3 y4, LeO (impl_BothMirrored.l0 k y0 y1 y2 y3 y4) (impl_BothMirrored.l0 (k + 1) y0 y1 y2 y3 y4))
  | 0 => ⟨fun _ _ _ r h => by simp [impl_BothMirrored.j0] at h, fun _ _ _ _ _ r h => by simp [impl_BothMirrored.l0] at h⟩
  | k + 1 => by
    obtain ⟨ih0, ih1⟩ := impl_BothMirrored.mono_l k
    refine ⟨?_, ?_⟩
    · intro y0 y1 y2
      unfold impl_BothMirrored.j0
      repeat' first
      | (with_reducible exact ih0 _ _ _)
      | (with_reducible exact ih1 _ _ _ _ _)
      | (with_reducible exact impl_IsReading.mono _ _)
      | (with_reducible exact impl_numberOf.mono _ _)
      | (with_reducible exact impl_round.mono _ _)
      | (with_reducible exact LeO.refl _)
      | (with_reducible exact LeO.none _)
      | (with_reducible refine LeO.ite ?_ ?_)
      | (with_reducible refine LeO.bind ?_ (fun _ => ?_))
      | exact ih0 _ _ _
      | exact ih1 _ _ _ _ _
      | exact impl_IsReading.mono _ _
      | exact impl_numberOf.mono _ _
      | exact impl_round.mono _ _
      | exact LeO.none _
      | refine LeO.ite ?_ ?_
      | refine LeO.bind ?_ (fun _ => ?_)
    · intro y0 y1 y2 y3 y4
      unfold impl_BothMirrored.l0
      repeat' first
      | (with_reducible exact ih0 _ _ _)
      | (with_reducible exact ih1 _ _ _ _ _)
      | (with_reducible exact impl_IsReading.mono _ _)
      | (with_reducible exact impl_numberOf.mono _ _)
      | (with_reducible exact impl_round.mono _ _)
      | (with_reducible exact LeO.refl _)
      | (with_reducible exact LeO.none _)
      | (with_reducible refine LeO.ite ?_ ?_)
      | (with_reducible refine LeO.bind ?_ (fun _ => ?_))
      | exact ih0 _ _ _
      | exact ih1 _ _ _ _ _
      | exact impl_IsReading.mono _ _
      | exact impl_numberOf.mono _ _
      | exact impl_round.mono _ _
      | exact LeO.none _
      | refine LeO.ite ?_ ?_
      | refine LeO.bind ?_ (fun _ => ?_)
theorem impl_BothMirrored.mono : ∀ a0 a1 k, LeO (impl_BothMirrored.f k a0 a1) (impl_BothMirrored.f (k + 1) a0 a1) := by
  intro a0 a1 k
  obtain ⟨ih0, ih1⟩ := impl_BothMirrored.mono_l k
  unfold impl_BothMirrored.f
  repeat' first
      | (with_reducible exact ih0 _ _ _)
      | (with_reducible exact ih1 _ _ _ _ _)
      | (with_reducible exact impl_IsReading.mono _ _)
      | (with_reducible exact impl_numberOf.mono _ _)
      | (with_reducible exact impl_round.mono _ _)
      | (with_reducible exact LeO.refl _)
      | (with_reducible exact LeO.none _)
      | (with_reducible refine LeO.ite ?_ ?_)
      | (with_reducible refine LeO.bind ?_ (fun _ => ?_))
      | exact ih0 _ _ _
      | exact ih1 _ _ _ _ _
      | exact impl_IsReading.mono _ _
      | exact impl_numberOf.mono _ _
      | exact impl_round.mono _ _
      | exact LeO.none _
      | refine LeO.ite ?_ ?_
      | refine LeO.bind ?_ (fun _ => ?_)
set_option maxHeartbeats 8000000 in
set_option maxRecDepth 100000 in
theorem impl_BothMirrored.calls (k : Nat) (a0 : ByteArray) (a1 : ByteArray) (r1 : Int) (r2 : Bool) (w : World) (h : impl_BothMirrored.f k a0 a1 = some (r1, r2)) :
    Calls Try.prog 20 #[.string a0, .string a1] w fun e w' => e = .returned (.tuple #[.int .i64 r1, .bool r2]) ∧ Below w.heap.size w w' := by
  have HB := Aside0.mk (Below.refl w.heap.size w)
  have H : ((impl_IsReading.f k a0).bind fun t101 => (if t101 = true then ((impl_IsReading.f k a1).bind fun t102 => (impl_BothMirrored.j0 k a0 a1 (!t102))) else (impl_BothMirrored.j0 k a0 a1 true))) = some (r1, r2) := h
  clear h
  have HC3 := Aside0.mk H
  clear H
  go_enter Try.func20, Try.ntmps20
  go_upto_region 1 with (fail)
  go_cut [16] (fun v16 wc => ∃ (kq : Nat) (x16_2 : Bool), v16 = .bool x16_2 ∧ Aside0 (impl_BothMirrored.j0 kq a0 a1 x16_2 = some (r1, r2)) ∧ Aside0 (kq ≤ k) ∧ Aside0 (Below w.heap.size w wc))
  case first =>
    have H := HC3.out
    clear HC3
    replace H := Option.bind_eq_some_iff.mp H
    obtain ⟨t101, A40, H⟩ := H
    replace H : (if t101 = true then ((impl_IsReading.f k a1).bind fun t102 => (impl_BothMirrored.j0 k a0 a1 (!t102))) else (impl_BothMirrored.j0 k a0 a1 true)) = some (r1, r2) := H
    have A4 := Aside0.mk A40
    clear A40
    by_cases c5 : t101 = true
    · subst c5
      have H1 : ((impl_IsReading.f k a1).bind fun t102 => (impl_BothMirrored.j0 k a0 a1 (!t102))) = some (r1, r2) := by rw [if_pos rfl] at H; exact H
      clear H
      have H := H1
      clear H1
      replace H := Option.bind_eq_some_iff.mp H
      obtain ⟨t102, A60, H⟩ := H
      replace H : (impl_BothMirrored.j0 k a0 a1 (!t102)) = some (r1, r2) := H
      have A6 := Aside0.mk A60
      clear A60
      have H' := Aside0.mk H
      clear H
      go_wp2_with (first | ((with_reducible refine gate_callee (f := 36) rfl ?_); refine goesL_ (some 10) rfl rfl Try.func36 (by kernel_rfl) rfl #[.string a0] rfl (by (try simp only [List.map_toArray, List.map_cons, List.map_nil]); first | done | rfl | (simp only [List.length_drop, List.length_take]; rfl)) ?_; (with_reducible refine (impl_IsReading.calls k a0 true _ A4.out).mono ?_); rintro e w' ⟨rfl, ⟨nd, rfl⟩⟩; refine ⟨_, rfl, ?_⟩) | (go_at_call 36; (with_reducible refine (impl_IsReading.calls k a1 t102 _ A6.out).mono ?_); rintro e w' ⟨rfl, ⟨nd, rfl⟩⟩))
      go_meet
      case rel => exact ⟨_, (!t102), (by first | rfl | (simp; done) | (simp [*]; done)), H', ⟨by first | omega | exact Nat.le_refl _⟩, ⟨by repeat (first | (with_reducible first | exact HB.out | apply below_alloc | apply pw_below_drewN | apply below_drew1) | exact HB.out)⟩⟩
    · replace c5 := Bool.eq_false_iff.mpr c5
      subst c5
      have H1 : (impl_BothMirrored.j0 k a0 a1 true) = some (r1, r2) := by rw [if_neg (show ¬ (false = true) by decide)] at H; exact H
      clear H
      have H := H1
      clear H1
      have H' := Aside0.mk H
      clear H
      go_wp2_with (first | ((with_reducible refine gate_callee (f := 36) rfl ?_); refine goesL_ (some 10) rfl rfl Try.func36 (by kernel_rfl) rfl #[.string a0] rfl (by (try simp only [List.map_toArray, List.map_cons, List.map_nil]); first | done | rfl | (simp only [List.length_drop, List.length_take]; rfl)) ?_; (with_reducible refine (impl_IsReading.calls k a0 false _ A4.out).mono ?_); rintro e w' ⟨rfl, ⟨nd, rfl⟩⟩; refine ⟨_, rfl, ?_⟩))
      go_meet
      case rel => exact ⟨_, (true), (by first | rfl | (simp; done) | (simp [*]; done)), H', ⟨by first | omega | exact Nat.le_refl _⟩, ⟨by repeat (first | (with_reducible first | exact HB.out | apply below_alloc | apply pw_below_drewN | apply below_drew1) | exact HB.out)⟩⟩
  case rest =>
    clear HC3
    try clear c2
    try clear p2
    try clear c3
    try clear c5
    obtain ⟨kq, x16_2, rfl, HA, HJ2, HB⟩ := hcut
    cases kq with
    | zero => exact absurd HA.out (by simp [impl_BothMirrored.j0])
    | succ kj2 =>
      have H := HA.out
      clear HA
      simp only [impl_BothMirrored.j0] at H
      by_cases c7 : x16_2 = true
      · subst c7
        have H1 : (some (0, false)) = some (r1, r2) := by rw [if_pos rfl] at H; exact H
        clear H
        have H := H1
        clear H1
        simp only [Option.some.injEq, Prod.mk.injEq] at H
        obtain ⟨rfl, rfl⟩ := H
        go_wp2
        go_ret2
        exact ⟨by first | rfl | (simp [errW_none, errW_some] <;> rfl) | (simp [*, errW_none, errW_some] <;> rfl), by repeat (first | (with_reducible first | exact HB.out | apply below_alloc | apply pw_below_drewN | apply below_drew1) | exact HB.out)⟩
      · replace c7 := Bool.eq_false_iff.mpr c7
        subst c7
        have H1 : ((impl_numberOf.f kj2 a0).bind fun t103 => ((impl_numberOf.f kj2 a1).bind fun t104 => (impl_BothMirrored.l0 kj2 a0 a1 t103 t104 1))) = some (r1, r2) := by rw [if_neg (show ¬ (false = true) by decide)] at H; exact H
        clear H
        have H := H1
        clear H1
        replace H := Option.bind_eq_some_iff.mp H
        obtain ⟨t103, A80, H⟩ := H
        replace H : ((impl_numberOf.f kj2 a1).bind fun t104 => (impl_BothMirrored.l0 kj2 a0 a1 t103 t104 1)) = some (r1, r2) := H
        have A8 := Aside0.mk A80
        clear A80
        replace H := Option.bind_eq_some_iff.mp H
        obtain ⟨t104, A90, H⟩ := H
        replace H : (impl_BothMirrored.l0 kj2 a0 a1 t103 t104 1) = some (r1, r2) := H
        have A9 := Aside0.mk A90
        clear A90
        have H' := Aside0.mk H
        clear H
        go_wp2_with (first | ((with_reducible refine gate_callee (f := 43) rfl ?_); refine goesL_ (some 18) rfl rfl Try.func43 (by kernel_rfl) rfl #[.string a0] rfl (by (try simp only [List.map_toArray, List.map_cons, List.map_nil]); first | done | rfl | (simp only [List.length_drop, List.length_take]; rfl)) ?_; (with_reducible refine (impl_numberOf.calls kj2 a0 t103 _ A8.out).mono ?_); rintro e w' ⟨rfl, ⟨nd, rfl⟩⟩; refine ⟨_, rfl, ?_⟩) | ((with_reducible refine gate_callee (f := 43) rfl ?_); refine goesL_ (some 20) rfl rfl Try.func43 (by kernel_rfl) rfl #[.string a1] rfl (by (try simp only [List.map_toArray, List.map_cons, List.map_nil]); first | done | rfl | (simp only [List.length_drop, List.length_take]; rfl)) ?_; (with_reducible refine (impl_numberOf.calls kj2 a1 t104 _ A9.out).mono ?_); rintro e w' ⟨rfl, ⟨nd, rfl⟩⟩; refine ⟨_, rfl, ?_⟩))
        go_loopg [8] kj2 (fun kq v8 w' => ∃ (x8_2 : Int), v8 = .int .i64 x8_2 ∧ Aside0 (impl_BothMirrored.l0 kq a0 a1 t103 t104 x8_2 = some (r1, r2)) ∧ Aside0 (kq ≤ kj2) ∧ Aside0 (Below w.heap.size w w'))
        case atStart => exact ⟨(1), (by first | rfl | (simp; done) | (simp [*]; done)), H', ⟨Nat.le_refl _⟩, ⟨by repeat (first | (with_reducible first | exact HB.out | apply below_alloc | apply pw_below_drewN | apply below_drew1) | exact HB.out)⟩⟩
        case round =>
          clear H'
          try clear c2
          try clear p2
          try clear c3
          try clear c4
          try clear c5
          try clear c7
          try clear p2
          obtain ⟨x8_2, rfl, HA, HK2, HB⟩ := hrel
          cases gk with
          | zero => exact absurd HA.out (by simp [impl_BothMirrored.l0])
          | succ k2 =>
            have H := HA.out
            clear HA
            simp only [impl_BothMirrored.l0] at H
            by_cases c10 : x8_2 ≤ 1000000
            · rw [if_pos c10] at H
              have c10b0 : decide (x8_2 ≤ 1000000) = true := decide_eq_true c10
              clear c10
              replace H := Option.bind_eq_some_iff.mp H
              obtain ⟨t105, A110, H⟩ := H
              replace H : (if t105 = 0 then (none) else ((impl_isMirrored.f (Int.tmod (wrap64 (t103 + x8_2)) t105) (a0.size : Int)).bind fun t106 => (if t106 = true then ((impl_round.f k2 (a1.size : Int)).bind fun t107 => (if t107 = 0 then (none) else ((impl_isMirrored.f (Int.tmod (wrap64 (t104 + x8_2)) t107) (a1.size : Int)).bind fun t108 => (if t108 = true then (some (x8_2, true)) else (impl_BothMirrored.l0 k2 a0 a1 t103 t104 (wrap64 (x8_2 + 1))))))) else (impl_BothMirrored.l0 k2 a0 a1 t103 t104 (wrap64 (x8_2 + 1)))))) = some (r1, r2) := H
              have A11 := Aside0.mk A110
              clear A110
              by_cases c12 : t105 = 0
              · rw [if_pos c12] at H
                exact absurd H (by simp)
              · rw [if_neg c12] at H
                have c12b0 : (t105 == 0) = false := beq_eq_false_iff_ne.mpr c12
                have c12b1 : (t105 != 0) = true := bne_iff_ne.mpr c12
                replace H := Option.bind_eq_some_iff.mp H
                obtain ⟨t106, A130, H⟩ := H
                replace H : (if t106 = true then ((impl_round.f k2 (a1.size : Int)).bind fun t107 => (if t107 = 0 then (none) else ((impl_isMirrored.f (Int.tmod (wrap64 (t104 + x8_2)) t107) (a1.size : Int)).bind fun t108 => (if t108 = true then (some (x8_2, true)) else (impl_BothMirrored.l0 k2 a0 a1 t103 t104 (wrap64 (x8_2 + 1))))))) else (impl_BothMirrored.l0 k2 a0 a1 t103 t104 (wrap64 (x8_2 + 1)))) = some (r1, r2) := H
                have A13 := Aside0.mk A130
                clear A130
                by_cases c14 : t106 = true
                · subst c14
                  have H1 : ((impl_round.f k2 (a1.size : Int)).bind fun t107 => (if t107 = 0 then (none) else ((impl_isMirrored.f (Int.tmod (wrap64 (t104 + x8_2)) t107) (a1.size : Int)).bind fun t108 => (if t108 = true then (some (x8_2, true)) else (impl_BothMirrored.l0 k2 a0 a1 t103 t104 (wrap64 (x8_2 + 1))))))) = some (r1, r2) := by rw [if_pos rfl] at H; exact H
                  clear H
                  have H := H1
                  clear H1
                  replace H := Option.bind_eq_some_iff.mp H
                  obtain ⟨t107, A150, H⟩ := H
                  replace H : (if t107 = 0 then (none) else ((impl_isMirrored.f (Int.tmod (wrap64 (t104 + x8_2)) t107) (a1.size : Int)).bind fun t108 => (if t108 = true then (some (x8_2, true)) else (impl_BothMirrored.l0 k2 a0 a1 t103 t104 (wrap64 (x8_2 + 1)))))) = some (r1, r2) := H
                  have A15 := Aside0.mk A150
                  clear A150
                  by_cases c16 : t107 = 0
                  · rw [if_pos c16] at H
                    exact absurd H (by simp)
                  · rw [if_neg c16] at H
                    have c16b0 : (t107 == 0) = false := beq_eq_false_iff_ne.mpr c16
                    have c16b1 : (t107 != 0) = true := bne_iff_ne.mpr c16
                    replace H := Option.bind_eq_some_iff.mp H
                    obtain ⟨t108, A170, H⟩ := H
                    replace H : (if t108 = true then (some (x8_2, true)) else (impl_BothMirrored.l0 k2 a0 a1 t103 t104 (wrap64 (x8_2 + 1)))) = some (r1, r2) := H
                    have A17 := Aside0.mk A170
                    clear A170
                    by_cases c18 : t108 = true
                    · subst c18
                      have H1 : (some (x8_2, true)) = some (r1, r2) := by rw [if_pos rfl] at H; exact H
                      clear H
                      have H := H1
                      clear H1
                      simp only [Option.some.injEq, Prod.mk.injEq] at H
                      obtain ⟨rfl, rfl⟩ := H
                      go_wp2_with (first | ((with_reducible refine gate_callee (f := 45) rfl ?_); refine goesL_ (some 30) rfl rfl Try.func45 (by kernel_rfl) rfl #[.int .i64 (a0.size : Int)] rfl (by (try simp only [List.map_toArray, List.map_cons, List.map_nil]); first | done | rfl | (simp only [List.length_drop, List.length_take]; rfl)) ?_; (with_reducible refine (impl_round.calls k2 (a0.size : Int) t105 _ A11.out).mono ?_); rintro e w' ⟨rfl, ⟨nd, rfl⟩⟩; refine ⟨_, rfl, ?_⟩) | ((with_reducible refine gate_callee (f := 44) rfl ?_); refine goesL_ (some 34) rfl rfl Try.func44 (by kernel_rfl) rfl #[.int .i64 (Int.tmod (wrap64 (t103 + x8_2)) t105), .int .i64 (a0.size : Int)] rfl (by (try simp only [List.map_toArray, List.map_cons, List.map_nil]); first | done | rfl | (simp only [List.length_drop, List.length_take]; rfl)) ?_; (with_reducible refine (impl_isMirrored.calls (Int.tmod (wrap64 (t103 + x8_2)) t105) (a0.size : Int) true _ A13.out).mono ?_); rintro e w19 ⟨rfl, hb⟩; refine ⟨_, rfl, ?_⟩; have n0_ := Aside0.mk (below_step (by repeat (first | (with_reducible first | exact HB.out | apply below_alloc | apply pw_below_drewN | apply below_drew1) | exact HB.out)) hb); clear HB; have HB := n0_; clear n0_; (try clear hb); (try clear hb2); (try clear hk); (try clear hi)) | (go_at_call 45; (with_reducible refine (impl_round.calls k2 (a1.size : Int) t107 _ A15.out).mono ?_); rintro e w' ⟨rfl, ⟨nd, rfl⟩⟩) | (go_at_call 44; (with_reducible refine (impl_isMirrored.calls (Int.tmod (wrap64 (t104 + x8_2)) t107) (a1.size : Int) true _ A17.out).mono ?_); rintro e w20 ⟨rfl, hb⟩; have n0_ := Aside0.mk (below_step (by repeat (first | (with_reducible first | exact HB.out | apply below_alloc | apply pw_below_drewN | apply below_drew1) | exact HB.out)) hb); clear HB; have HB := n0_; clear n0_; (try clear hb); (try clear hb2); (try clear hk); (try clear hi)))
                      go_ret2
                      exact ⟨by first | rfl | (simp [errW_none, errW_some] <;> rfl) | (simp [*, errW_none, errW_some] <;> rfl), by repeat (first | (with_reducible first | exact HB.out | apply below_alloc | apply pw_below_drewN | apply below_drew1) | exact HB.out)⟩
                    · replace c18 := Bool.eq_false_iff.mpr c18
                      subst c18
                      have H1 : (impl_BothMirrored.l0 k2 a0 a1 t103 t104 (wrap64 (x8_2 + 1))) = some (r1, r2) := by rw [if_neg (show ¬ (false = true) by decide)] at H; exact H
                      clear H
                      have H := H1
                      clear H1
                      have H' := Aside0.mk H
                      clear H
                      go_wp2_with (first | ((with_reducible refine gate_callee (f := 45) rfl ?_); refine goesL_ (some 30) rfl rfl Try.func45 (by kernel_rfl) rfl #[.int .i64 (a0.size : Int)] rfl (by (try simp only [List.map_toArray, List.map_cons, List.map_nil]); first | done | rfl | (simp only [List.length_drop, List.length_take]; rfl)) ?_; (with_reducible refine (impl_round.calls k2 (a0.size : Int) t105 _ A11.out).mono ?_); rintro e w' ⟨rfl, ⟨nd, rfl⟩⟩; refine ⟨_, rfl, ?_⟩) | ((with_reducible refine gate_callee (f := 44) rfl ?_); refine goesL_ (some 34) rfl rfl Try.func44 (by kernel_rfl) rfl #[.int .i64 (Int.tmod (wrap64 (t103 + x8_2)) t105), .int .i64 (a0.size : Int)] rfl (by (try simp only [List.map_toArray, List.map_cons, List.map_nil]); first | done | rfl | (simp only [List.length_drop, List.length_take]; rfl)) ?_; (with_reducible refine (impl_isMirrored.calls (Int.tmod (wrap64 (t103 + x8_2)) t105) (a0.size : Int) true _ A13.out).mono ?_); rintro e w21 ⟨rfl, hb⟩; refine ⟨_, rfl, ?_⟩; have n0_ := Aside0.mk (below_step (by repeat (first | (with_reducible first | exact HB.out | apply below_alloc | apply pw_below_drewN | apply below_drew1) | exact HB.out)) hb); clear HB; have HB := n0_; clear n0_; (try clear hb); (try clear hb2); (try clear hk); (try clear hi)) | (go_at_call 45; (with_reducible refine (impl_round.calls k2 (a1.size : Int) t107 _ A15.out).mono ?_); rintro e w' ⟨rfl, ⟨nd, rfl⟩⟩) | (go_at_call 44; (with_reducible refine (impl_isMirrored.calls (Int.tmod (wrap64 (t104 + x8_2)) t107) (a1.size : Int) false _ A17.out).mono ?_); rintro e w22 ⟨rfl, hb⟩; have n0_ := Aside0.mk (below_step (by repeat (first | (with_reducible first | exact HB.out | apply below_alloc | apply pw_below_drewN | apply below_drew1) | exact HB.out)) hb); clear HB; have HB := n0_; clear n0_; (try clear hb); (try clear hb2); (try clear hk); (try clear hi)))
                      go_roundg k2
                      case measure => have := HJ2.out; have := HK2.out; omega
                      case rel => exact ⟨(wrap64 (x8_2 + 1)), (by first | rfl | (simp; done) | (simp [*]; done)), H', ⟨by have := HJ2.out; have := HK2.out; omega⟩, ⟨by repeat (first | (with_reducible first | exact HB.out | apply below_alloc | apply pw_below_drewN | apply below_drew1) | exact HB.out)⟩⟩
                · replace c14 := Bool.eq_false_iff.mpr c14
                  subst c14
                  have H1 : (impl_BothMirrored.l0 k2 a0 a1 t103 t104 (wrap64 (x8_2 + 1))) = some (r1, r2) := by rw [if_neg (show ¬ (false = true) by decide)] at H; exact H
                  clear H
                  have H := H1
                  clear H1
                  have H' := Aside0.mk H
                  clear H
                  go_wp2_with (first | ((with_reducible refine gate_callee (f := 45) rfl ?_); refine goesL_ (some 30) rfl rfl Try.func45 (by kernel_rfl) rfl #[.int .i64 (a0.size : Int)] rfl (by (try simp only [List.map_toArray, List.map_cons, List.map_nil]); first | done | rfl | (simp only [List.length_drop, List.length_take]; rfl)) ?_; (with_reducible refine (impl_round.calls k2 (a0.size : Int) t105 _ A11.out).mono ?_); rintro e w' ⟨rfl, ⟨nd, rfl⟩⟩; refine ⟨_, rfl, ?_⟩) | ((with_reducible refine gate_callee (f := 44) rfl ?_); refine goesL_ (some 34) rfl rfl Try.func44 (by kernel_rfl) rfl #[.int .i64 (Int.tmod (wrap64 (t103 + x8_2)) t105), .int .i64 (a0.size : Int)] rfl (by (try simp only [List.map_toArray, List.map_cons, List.map_nil]); first | done | rfl | (simp only [List.length_drop, List.length_take]; rfl)) ?_; (with_reducible refine (impl_isMirrored.calls (Int.tmod (wrap64 (t103 + x8_2)) t105) (a0.size : Int) false _ A13.out).mono ?_); rintro e w23 ⟨rfl, hb⟩; refine ⟨_, rfl, ?_⟩; have n0_ := Aside0.mk (below_step (by repeat (first | (with_reducible first | exact HB.out | apply below_alloc | apply pw_below_drewN | apply below_drew1) | exact HB.out)) hb); clear HB; have HB := n0_; clear n0_; (try clear hb); (try clear hb2); (try clear hk); (try clear hi)))
                  go_roundg k2
                  case measure => have := HJ2.out; have := HK2.out; omega
                  case rel => exact ⟨(wrap64 (x8_2 + 1)), (by first | rfl | (simp; done) | (simp [*]; done)), H', ⟨by have := HJ2.out; have := HK2.out; omega⟩, ⟨by repeat (first | (with_reducible first | exact HB.out | apply below_alloc | apply pw_below_drewN | apply below_drew1) | exact HB.out)⟩⟩
            · rw [if_neg c10] at H
              have c10b0 : decide (x8_2 ≤ 1000000) = false := decide_eq_false c10
              clear c10
              simp only [Option.some.injEq, Prod.mk.injEq] at H
              obtain ⟨rfl, rfl⟩ := H
              go_wp2
              go_ret2
              exact ⟨by first | rfl | (simp [errW_none, errW_some] <;> rfl) | (simp [*, errW_none, errW_some] <;> rfl), by repeat (first | (with_reducible first | exact HB.out | apply below_alloc | apply pw_below_drewN | apply below_drew1) | exact HB.out)⟩

end Go.Proofs.Ytpdcjkiejglaiaa.Q

/-
  Both counters mirrored: the reference goes from one mirrored reading of the first to the next, the program mile by mile.
-/
namespace Go.Proofs.Ytpdcjkiejglaiaa.Q
open Go.RowKit Go.Proofs.YtpdcjkiejglaiaaW.PrintWords Go.Proofs.YtpdcjkiejglaiaaW.PrintLast Go.Proofs.YtpdcjkiejglaiaaW.PrintMore
set_option linter.unusedVariables false
set_option linter.unusedSimpArgs false

theorem tmod_nat (a b : Nat) : Int.tmod (a : Int) (b : Int) = ((a % b : Nat) : Int) := rfl
theorem bt_dgt (n m j : Nat) (hj : j < n) : bt (tx n m) j = 48 + dgt m (n - 1 - j) := bt_tx n m j hj
theorem mirB_K (n m : Nat) : mirB m n = K 109 n m := by
  have e : ∀ j, (mayAt 109 (tx n m) n j = true ↔ j < n - 1 - j ∨ bt (tx n m) ((n - 1 - j : Nat) : Int) = bt (tx n m) j) := fun j => by simp [mayAt]
  rw [Bool.eq_iff_iff, K_iff]
  unfold mirB
  rw [allF_iff]
  constructor
  · intro h j hj
    rw [e]
    by_cases c : j < n - 1 - j
    · exact .inl c
    · right
      rw [bt_dgt n m j hj, bt_dgt n m _ (by omega), show n - 1 - (n - 1 - j) = j by omega]
      by_cases d : n - 1 - j < n / 2
      · have := h (n - 1 - j) (by omega) (by omega)
        rw [beq_iff_eq, show n - 1 - (n - 1 - j) = j by omega] at this
        rw [this]
      · rw [show n - 1 - j = j by omega]
  · intro h j _ hj
    rw [beq_iff_eq]
    have := (e (n - 1 - j)).1 (h (n - 1 - j) (by omega))
    rw [show n - 1 - (n - 1 - j) = j by omega] at this
    have h1 := bt_dgt n m j (by omega)
    have h2 := bt_dgt n m (n - 1 - j) (by omega)
    rw [show n - 1 - (n - 1 - j) = j by omega] at h2
    rcases this with h | h
    · omega
    · omega
theorem K_zero (n : Nat) : K 109 n 0 = true := by
  rw [K_iff]
  intro j hj
  have e : (mayAt 109 (tx n 0) n j = true ↔ j < n - 1 - j ∨ bt (tx n 0) ((n - 1 - j : Nat) : Int) = bt (tx n 0) j) := by simp [mayAt]
  rw [e]
  right
  rw [bt_tx n 0 j hj, bt_tx n 0 _ (by omega)]
  simp

theorem miTo_arith (P m v : Nat) (hP : 0 < P) (hP9 : P ≤ 1000000000) (hm : m < P) (hv : v < P) : Int.tmod (wrap64 (wrap64 ((m : Int) - (v : Int)) + (P : Int))) (P : Int) = (((m + P - v) % P : Nat) : Int) := by
  rw [wrap_id (i := (m : Int) - v) (by omega) (by omega), wrap_id (by omega) (by omega), show (m : Int) - v + P = ((m + P - v : Nat) : Int) by omega]
  rfl
theorem miTo_ev (n v m : Nat) (h9 : n ≤ 9) (hv : v < 10 ^ n) (hm : m < 10 ^ n) : Ev (fun k => spec_miTo.f k (tx n v) (tx n m)) (((m + 10 ^ n - v) % 10 ^ n : Nat) : Int) := by
  unfold spec_miTo.f
  have hp := pow_le h9
  have hp0 : 0 < 10 ^ n := Nat.pow_pos (by decide)
  have hA := miAll_ev n h9
  rw [← tx_size n v] at hA
  rw [tx_size n v] at hA
  rw [tx_size n v]
  refine Ev.bind' hA (Ev.bind' (tk_ev n m h9 hm) (Ev.bind' (tk_ev n v h9 hv) (Ev.neg (by omega) (Ev.eq (Ev.now _) ?_))))
  exact miTo_arith _ _ _ hp0 hp hm hv
theorem step_arith (P v st : Nat) (hP : 0 < P) (hv : v < P) (h1 : 1 ≤ st) (h2 : st ≤ P) : ((v + st) % P + P - v) % P = st % P := by
  by_cases c : v + st < P
  · rw [Nat.mod_eq_of_lt c, show v + st + P - v = st + P by omega, Nat.add_mod_right]
  · have : (v + st) % P = v + st - P := by
      have h := Nat.add_mod_right (v + st - P) P
      rw [show v + st - P + P = v + st by omega, Nat.mod_eq_of_lt (a := v + st - P) (by omega)] at h
      exact h
    rw [this, show v + st - P + P - v = st by omega]

/-- mile by mile -/
def scan (A B : Nat → Bool) : Nat → Nat → Int × Bool
  | 0, _ => (0, false)
  | d + 1, M => if A M && B M then ((M : Int), true) else scan A B d (M + 1)
theorem scan_none (A B : Nat → Bool) : ∀ d M, (∀ j, M ≤ j → j < M + d → A j = false) → scan A B d M = (0, false)
  | 0, _, _ => rfl
  | d + 1, M, h => by
    have := h M (by omega) (by omega)
    simp only [scan, this, Bool.false_and, Bool.false_eq_true, if_false]
    exact scan_none A B d (M + 1) (fun j a b => h j (by omega) (by omega))
theorem scan_skip (A B : Nat → Bool) : ∀ e d M, (∀ j, M ≤ j → j < M + e → A j = false) → scan A B (d + e) M = scan A B d (M + e)
  | 0, _, _, _ => rfl
  | e + 1, d, M, h => by
    have := h M (by omega) (by omega)
    rw [← Nat.add_assoc]
    simp only [scan, this, Bool.false_and, Bool.false_eq_true, if_false]
    rw [scan_skip A B e d (M + 1) (fun j a b => h j (by omega) (by omega)), show M + 1 + e = M + (e + 1) by omega]

theorem tm_step (P v M : Nat) (hP : 0 < P) (hP9 : P ≤ 1000000000) (hv : v < P) (hM : M ≤ 1000000) : Int.tmod (wrap64 ((v : Int) + (M : Int))) (P : Int) = (((v + M) % P : Nat) : Int) := by
  rw [wrap_id (by omega) (by omega), show (v : Int) + M = ((v + M : Nat) : Int) by omega]
  rfl
theorem isM_ev (n m : Nat) (h9 : n ≤ 9) (hm : m < 10 ^ n) : impl_isMirrored.f (m : Int) (n : Int) = some (K 109 n m) := by
  have hp := pow_le h9
  unfold impl_isMirrored.f
  rw [if_pos ⟨by omega, by omega, by omega, by omega⟩, Int.toNat_natCast, Int.toNat_natCast, mirB_K]
theorem mile_next (M : Nat) (h : M ≤ 1000000) : wrap64 ((M : Int) + 1) = ((M + 1 : Nat) : Int) := by rw [wrap_id (by omega) (by omega)]; rfl

theorem implBoth_ev (n n' v v' : Nat) (h9 : n ≤ 9) (h9' : n' ≤ 9) (hv : v < 10 ^ n) (hv' : v' < 10 ^ n') :
    ∀ (d M : Nat), M + d = 1000001 → Ev (fun k => impl_BothMirrored.l0 k (tx n v) (tx n' v') (v : Int) (v' : Int) (M : Int)) (scan (fun M => K 109 n ((v + M) % 10 ^ n)) (fun M => K 109 n' ((v' + M) % 10 ^ n')) d M) := by
  have hp := pow_le h9
  have hp' := pow_le h9'
  have hp0 : 0 < 10 ^ n := Nat.pow_pos (by decide)
  have hp0' : 0 < 10 ^ n' := Nat.pow_pos (by decide)
  have R := round_ev n h9
  have R' := round_ev n' h9'
  intro d
  induction d with
  | zero =>
    intro M hM
    refine Ev.step (f := fun _ => some (0, false)) (fun k => ?_) (Ev.now _)
    simp only [impl_BothMirrored.l0]
    rw [if_neg (by omega)]
  | succ d ih =>
    intro M hM
    have hi := ih (M + 1) (by omega)
    rw [← mile_next M (by omega)] at hi
    have body : ∀ k, impl_BothMirrored.l0 (k + 1) (tx n v) (tx n' v') (v : Int) (v' : Int) (M : Int) = ((impl_round.f k (n : Int)).bind fun t105 => (if t105 = 0 then (none) else ((impl_isMirrored.f (Int.tmod (wrap64 ((v : Int) + (M : Int))) t105) (n : Int)).bind fun t106 => (if t106 = true then ((impl_round.f k (n' : Int)).bind fun t107 => (if t107 = 0 then (none) else ((impl_isMirrored.f (Int.tmod (wrap64 ((v' : Int) + (M : Int))) t107) (n' : Int)).bind fun t108 => (if t108 = true then (some ((M : Int), true)) else (impl_BothMirrored.l0 k (tx n v) (tx n' v') (v : Int) (v' : Int) (wrap64 ((M : Int) + 1))))))) else (impl_BothMirrored.l0 k (tx n v) (tx n' v') (v : Int) (v' : Int) (wrap64 ((M : Int) + 1))))))) := by
      intro k
      simp only [impl_BothMirrored.l0, tx_size]
      rw [if_pos (by omega)]
    refine Ev.step body (Ev.bind' R (Ev.neg (by omega) ?_))
    have i1 := isM_ev n ((v + M) % 10 ^ n) h9 (Nat.mod_lt _ hp0)
    have i2 := isM_ev n' ((v' + M) % 10 ^ n') h9' (Nat.mod_lt _ hp0')
    simp only [scan]
    rw [tm_step _ v M hp0 hp hv (by omega), i1]
    refine Ev.bind' (Ev.now _) ?_
    by_cases c : K 109 n ((v + M) % 10 ^ n) = true
    · refine Ev.pos c (Ev.bind' R' (Ev.neg (by omega) ?_))
      rw [tm_step _ v' M hp0' hp' hv' (by omega), i2]
      refine Ev.bind' (Ev.now _) ?_
      by_cases c' : K 109 n' ((v' + M) % 10 ^ n') = true
      · exact Ev.pos c' (Ev.eq (Ev.now _) (by simp [c, c']))
      · refine Ev.neg c' (Ev.eq hi ?_)
        rw [if_neg (by simp [c'])]
    · refine Ev.neg c (Ev.eq hi ?_)
      rw [if_neg (by simp [c])]

theorem wrap_sum (a b : Nat) (ha : a ≤ 1000000) (hb : b ≤ 1000000000) : wrap64 ((a : Int) + (b : Int)) = ((a + b : Nat) : Int) := by rw [wrap_id (by omega) (by omega)]; rfl
theorem specBoth_ev (n n' v v' : Nat) (h1 : 1 ≤ n) (h1' : 1 ≤ n') (h9 : n ≤ 9) (h9' : n' ≤ 9) (hv : v < 10 ^ n) (hv' : v' < 10 ^ n') :
    ∀ (d M : Nat), M + 1 + d = 1000001 → Ev (fun k => spec_BothMirrored.l0 k (tx n' v') (M : Int) (tx n ((v + M) % 10 ^ n))) (scan (fun M => K 109 n ((v + M) % 10 ^ n)) (fun M => K 109 n' ((v' + M) % 10 ^ n')) d (M + 1)) := by
  have hp := pow_le h9
  have hp' := pow_le h9'
  have hp0 : 0 < 10 ^ n := Nat.pow_pos (by decide)
  have hp0' : 0 < 10 ^ n' := Nat.pow_pos (by decide)
  have letter : isLetter 109 := by simp [isLetter]
  intro d
  induction d using Nat.strongRecOn with
  | _ d ih =>
  intro M hM
  obtain ⟨t, ht, hh⟩ := next_ev 109 letter n ((v + M) % 10 ^ n) h1 h9 (Nat.mod_lt _ hp0)
  obtain ⟨st, s1, s2, s3, s4, rfl⟩ := hh.resolve_right (fun hx => by
    have := hx.2 0 hp0
    rw [show (((109 : UInt8).toNat : Nat) : Int) = 109 from rfl, K_zero] at this
    cases this)
  rw [show (((109 : UInt8).toNat : Nat) : Int) = 109 from rfl] at s3 s4
  have sh : ∀ j, ((v + M) % 10 ^ n + j) % 10 ^ n = (v + (M + j)) % 10 ^ n := fun j => by rw [Nat.mod_add_mod, Nat.add_assoc]
  rw [sh] at s3 ht
  have hto := miTo_ev n ((v + M) % 10 ^ n) ((v + (M + st)) % 10 ^ n) h9 (Nat.mod_lt _ hp0) (Nat.mod_lt _ hp0)
  rw [← sh st, step_arith _ _ st hp0 (Nat.mod_lt _ hp0) s1 s2, sh st] at hto
  have hA := miAll_ev n h9
  obtain ⟨R, hR⟩ : ∃ R, R = scan (fun M => K 109 n ((v + M) % 10 ^ n)) (fun M => K 109 n' ((v' + M) % 10 ^ n')) d (M + 1) := ⟨_, rfl⟩
  rw [← hR]
  -- the rest, at the step
  have rest : Ev (fun k => spec_BothMirrored.j2 k (tx n' v') (M : Int) (tx n ((v + (M + st)) % 10 ^ n)) (st : Int)) R := by
    have hws := wrap_sum M st (by omega) (by omega)
    have body : ∀ k, spec_BothMirrored.j2 (k + 1) (tx n' v') (M : Int) (tx n ((v + (M + st)) % 10 ^ n)) (st : Int) = if ((M + st : Nat) : Int) > 1000000 then (some (0, false)) else ((spec_tkNumber.f k (tx n' v')).bind fun t106 => ((spec_miAll.f k (n' : Int)).bind fun t107 => (if t107 = 0 then (none) else ((spec_miText.f k (n' : Int) (Int.tmod (wrap64 (t106 + ((M + st : Nat) : Int))) t107)).bind fun t108 => ((spec_miIs.f k t108 (⟨#[109]⟩ : ByteArray)).bind fun t109 => (if t109 = true then (some (((M + st : Nat) : Int), true)) else (spec_BothMirrored.l0 k (tx n' v') ((M + st : Nat) : Int) (tx n ((v + (M + st)) % 10 ^ n))))))))) := by
      intro k
      simp only [spec_BothMirrored.j2, tx_size, hws]
    clear hws
    refine Ev.step body ?_
    by_cases c : M + st > 1000000
    · refine Ev.pos (by omega) (Ev.eq (Ev.now _) ?_)
      rw [hR, scan_none]
      intro j j1 j2
      have := s4 (j - M) (by omega) (by omega)
      rw [sh, show M + (j - M) = j by omega] at this
      exact this
    · have hsk : scan (fun M => K 109 n ((v + M) % 10 ^ n)) (fun M => K 109 n' ((v' + M) % 10 ^ n')) d (M + 1) = scan (fun M => K 109 n ((v + M) % 10 ^ n)) (fun M => K 109 n' ((v' + M) % 10 ^ n')) (d - st + 1) (M + st) := by
        have := scan_skip (fun M => K 109 n ((v + M) % 10 ^ n)) (fun M => K 109 n' ((v' + M) % 10 ^ n')) (st - 1) (d - st + 1) (M + 1) ?_
        · rw [show d - st + 1 + (st - 1) = d by omega, show M + 1 + (st - 1) = M + st by omega] at this
          exact this
        · intro j j1 j2
          have := s4 (j - M) (by omega) (by omega)
          rw [sh, show M + (j - M) = j by omega] at this
          exact this
      have hi := ih (d - st) (by omega) (M + st) (by omega)
      have htx := miText_ev n' ((v' + (M + st)) % 10 ^ n') h9' (by have := Nat.mod_lt (v' + (M + st)) hp0'; omega)
      refine Ev.neg (by omega) (Ev.bind' (tk_ev n' v' h9' hv') (Ev.bind' (miAll_ev n' h9') (Ev.neg (by omega) ?_)))
      rw [tm_step _ v' (M + st) hp0' hp' hv' (by omega)]
      refine Ev.bind' htx ?_
      have hz' := tx_size n' ((v' + (M + st)) % 10 ^ n')
      have his := miIs_ev 109 letter (tx n' ((v' + (M + st)) % 10 ^ n')) (by omega) (by omega) (tx_dig _ _)
      rw [show (((109 : UInt8).toNat : Nat) : Int) = 109 from rfl, hz'] at his
      refine Ev.bind' his ?_
      rw [hR, hsk]
      simp only [scan]
      change Ev _ (if (K 109 n ((v + (M + st)) % 10 ^ n) && K 109 n' ((v' + (M + st)) % 10 ^ n')) = true then _ else _)
      rw [s3, Bool.true_and]
      by_cases c' : K 109 n' ((v' + (M + st)) % 10 ^ n') = true
      · exact Ev.pos c' (Ev.eq (Ev.now _) (by rw [if_pos c']))
      · exact Ev.neg c' (Ev.eq hi (by rw [if_neg c']))
  have body : ∀ k, spec_BothMirrored.l0 (k + 1) (tx n' v') (M : Int) (tx n ((v + M) % 10 ^ n)) = (spec_miNext.f k (tx n ((v + M) % 10 ^ n)) (kt 109)).bind fun t103 => ((spec_miTo.f k (tx n ((v + M) % 10 ^ n)) t103).bind fun t104 => (if t104 = 0 then ((spec_miAll.f k (n : Int)).bind fun t105 => (spec_BothMirrored.j2 k (tx n' v') (M : Int) t103 t105)) else (spec_BothMirrored.j2 k (tx n' v') (M : Int) t103 t104))) := by
    intro k
    simp only [spec_BothMirrored.l0, tx_size]
    rfl
  refine Ev.step body (Ev.bind' ht (Ev.bind' hto ?_))
  by_cases c : st = 10 ^ n
  · refine Ev.pos (by rw [c, Nat.mod_self]; rfl) (Ev.bind' hA ?_)
    rw [← c]
    rw [← c] at rest
    exact rest
  · rw [Nat.mod_eq_of_lt (by omega)]
    exact Ev.neg (by omega) rest

end Go.Proofs.Ytpdcjkiejglaiaa.Q

/- Laid by a program of this session (wip/tools/own_print.py) over the translation of this seat: contracts of the functions that the statement reaches. -/
namespace Go.Proofs.Ytpdcjkiejglaiaa.Q
open Go.RowKit Go.Proofs.YtpdcjkiejglaiaaW.PrintWords Go.Proofs.YtpdcjkiejglaiaaW.PrintLast Go.Proofs.YtpdcjkiejglaiaaW.PrintMore
attribute [local go_sem] max2_int min2_int max_two min_two max_three min_three max_four min_four   -- for this text's walks alone
set_option linter.unusedVariables false
set_option linter.unusedSimpArgs false

/-! ### impl_milesTo: function 56 -/
def impl_milesTo.f (k : Nat) (a0 : ByteArray) (a1 : ByteArray) : Option (Int) := (impl_round.f k (a0.size : Int)).bind fun t101 => ((impl_numberOf.f k a1).bind fun t102 => ((impl_numberOf.f k a0).bind fun t103 => (if t101 = 0 then (none) else (some (Int.tmod (wrap64 ((wrap64 (t102 - t103)) + t101)) t101)))))
theorem impl_milesTo.mono : ∀ a0 a1 k, LeO (impl_milesTo.f k a0 a1) (impl_milesTo.f (k + 1) a0 a1) := by
  intro a0 a1 k
  unfold impl_milesTo.f
  repeat' first
      | (with_reducible exact impl_numberOf.mono _ _)
      | (with_reducible exact impl_round.mono _ _)
      | (with_reducible exact LeO.refl _)
      | (with_reducible exact LeO.none _)
      | (with_reducible refine LeO.ite ?_ ?_)
      | (with_reducible refine LeO.bind ?_ (fun _ => ?_))
      | exact impl_numberOf.mono _ _
      | exact impl_round.mono _ _
      | exact LeO.none _
      | refine LeO.ite ?_ ?_
      | refine LeO.bind ?_ (fun _ => ?_)
set_option maxHeartbeats 8000000 in
set_option maxRecDepth 100000 in
theorem impl_milesTo.calls (k : Nat) (a0 : ByteArray) (a1 : ByteArray) (r : Int) (w : World) (h : impl_milesTo.f k a0 a1 = some r) :
    Calls Try.prog 56 #[.string a0, .string a1] w fun e w' => e = .returned (.int .i64 r) ∧ Drawn0 w w' := by
  have H : ((impl_round.f k (a0.size : Int)).bind fun t101 => ((impl_numberOf.f k a1).bind fun t102 => ((impl_numberOf.f k a0).bind fun t103 => (if t101 = 0 then (none) else (some (Int.tmod (wrap64 ((wrap64 (t102 - t103)) + t101)) t101)))))) = some r := h
  clear h
  replace H := Option.bind_eq_some_iff.mp H
  obtain ⟨t101, A30, H⟩ := H
  replace H : ((impl_numberOf.f k a1).bind fun t102 => ((impl_numberOf.f k a0).bind fun t103 => (if t101 = 0 then (none) else (some (Int.tmod (wrap64 ((wrap64 (t102 - t103)) + t101)) t101))))) = some r := H
  have A3 := Aside0.mk A30
  clear A30
  replace H := Option.bind_eq_some_iff.mp H
  obtain ⟨t102, A40, H⟩ := H
  replace H : ((impl_numberOf.f k a0).bind fun t103 => (if t101 = 0 then (none) else (some (Int.tmod (wrap64 ((wrap64 (t102 - t103)) + t101)) t101)))) = some r := H
  have A4 := Aside0.mk A40
  clear A40
  replace H := Option.bind_eq_some_iff.mp H
  obtain ⟨t103, A50, H⟩ := H
  replace H : (if t101 = 0 then (none) else (some (Int.tmod (wrap64 ((wrap64 (t102 - t103)) + t101)) t101))) = some r := H
  have A5 := Aside0.mk A50
  clear A50
  by_cases c6 : t101 = 0
  · rw [if_pos c6] at H
    exact absurd H (by simp)
  · rw [if_neg c6] at H
    have c6b0 : (t101 == 0) = false := beq_eq_false_iff_ne.mpr c6
    have c6b1 : (t101 != 0) = true := bne_iff_ne.mpr c6
    obtain rfl := Option.some.inj H
    go_enter Try.func56, Try.ntmps56
    go_wp2_with (first | ((with_reducible refine gate_callee (f := 45) rfl ?_); refine goesL_ (some 8) rfl rfl Try.func45 (by kernel_rfl) rfl #[.int .i64 (a0.size : Int)] rfl (by (try simp only [List.map_toArray, List.map_cons, List.map_nil]); first | done | rfl | (simp only [List.length_drop, List.length_take]; rfl)) ?_; (with_reducible refine (impl_round.calls k (a0.size : Int) t101 _ A3.out).mono ?_); rintro e w' ⟨rfl, ⟨nd, rfl⟩⟩; refine ⟨_, rfl, ?_⟩) | ((with_reducible refine gate_callee (f := 43) rfl ?_); refine goesL_ (some 10) rfl rfl Try.func43 (by kernel_rfl) rfl #[.string a1] rfl (by (try simp only [List.map_toArray, List.map_cons, List.map_nil]); first | done | rfl | (simp only [List.length_drop, List.length_take]; rfl)) ?_; (with_reducible refine (impl_numberOf.calls k a1 t102 _ A4.out).mono ?_); rintro e w' ⟨rfl, ⟨nd, rfl⟩⟩; refine ⟨_, rfl, ?_⟩) | ((with_reducible refine gate_callee (f := 43) rfl ?_); refine goesL_ (some 12) rfl rfl Try.func43 (by kernel_rfl) rfl #[.string a0] rfl (by (try simp only [List.map_toArray, List.map_cons, List.map_nil]); first | done | rfl | (simp only [List.length_drop, List.length_take]; rfl)) ?_; (with_reducible refine (impl_numberOf.calls k a0 t103 _ A5.out).mono ?_); rintro e w' ⟨rfl, ⟨nd, rfl⟩⟩; refine ⟨_, rfl, ?_⟩))
    go_ret
    exact ⟨by first | rfl | (simp; done) | (simp [*]; done), by repeat (first | exact Drawn0.refl _ | apply Drawn0.step)⟩

end Go.Proofs.Ytpdcjkiejglaiaa.Q

/-
  'MilesToDigits'.
-/
namespace Go.Proofs.Ytpdcjkiejglaiaa.Q
open Go.RowKit Go.Proofs.YtpdcjkiejglaiaaW.PrintWords Go.Proofs.YtpdcjkiejglaiaaW.PrintLast Go.Proofs.YtpdcjkiejglaiaaW.PrintMore
set_option linter.unusedVariables false
set_option linter.unusedSimpArgs false

/-- what is found is digits, as many as asked -/
theorem fndK_some (g : Nat → Option ByteArray) (o : ByteArray) : ∀ r k, fndK g r k = some o → ∃ j, k ≤ j ∧ j < k + r ∧ g j = some o
  | 0, _, h => by simp [fndK] at h
  | r + 1, k, h => by
    simp only [fndK] at h
    cases hg : g k with
    | some x => rw [hg] at h; exact ⟨k, by omega, by omega, by rw [hg]; exact h⟩
    | none =>
      rw [hg] at h
      obtain ⟨j, h1, h2, h3⟩ := fndK_some g o r (k + 1) h
      exact ⟨j, by omega, by omega, h3⟩
theorem fnd_ok (p : ByteArray → Bool) (bound : ByteArray) (n : Nat) : ∀ (d : Nat) (s : ByteArray) (t : Bool) (o : ByteArray), s.size + d = n → isDig s = true → fnd p bound d s t = some o → isDig o = true ∧ o.size = n
  | 0, s, t, o, hn, hd, h => by
    obtain rfl := Option.some.inj h
    exact ⟨hd, by omega⟩
  | d + 1, s, t, o, hn, hd, h => by
    obtain ⟨j, h1, h2, h3⟩ := fndK_some _ o 10 0 h
    by_cases c1 : (t && decide (48 + (j : Int) < bt bound (s.size : Int))) = true
    · rw [if_pos c1] at h3; cases h3
    · rw [if_neg c1] at h3
      by_cases c2 : p (s ++ strOfNums [48 + (j : Int)]) = true
      · rw [if_pos c2] at h3
        have hs := isDig_snoc s j (by omega) hd
        exact fnd_ok p bound n d _ _ o (by rw [hs.2]; omega) hs.1 h3
      · rw [if_neg c2] at h3; cases h3

def mdFound (a0 : ByteArray) (a1 : Int) : Option ByteArray := (fnd (pmay a1 a0.size) a0 a0.size ⟨#[]⟩ true).or (fnd (pmay a1 a0.size) (tx a0.size 0) a0.size ⟨#[]⟩ true)
def mdRes (a0 : ByteArray) (a1 : Int) : Int × Bool :=
  if good a0 = true ∧ 1 ≤ a1 ∧ a1 ≤ 9 then (match mdFound a0 a1 with
    | none => (0, false)
    | some t => ((((val (li t) + 10 ^ a0.size - val (li a0)) % 10 ^ a0.size : Nat) : Int), true)) else (0, false)
theorem milesTo_ev (n v m : Nat) (h9 : n ≤ 9) (hv : v < 10 ^ n) (hm : m < 10 ^ n) : Ev (fun k => impl_milesTo.f k (tx n v) (tx n m)) (((m + 10 ^ n - v) % 10 ^ n : Nat) : Int) := by
  unfold impl_milesTo.f
  have hp := pow_le h9
  have hp0 : 0 < 10 ^ n := Nat.pow_pos (by decide)
  have R := round_ev n h9
  rw [tx_size n v]
  refine Ev.bind' R (Ev.bind' (number_ev n m h9 hm) (Ev.bind' (number_ev n v h9 hv) (Ev.neg (by omega) (Ev.eq (Ev.now _) ?_))))
  exact miTo_arith _ _ _ hp0 hp hm hv
theorem found_good {a0 t : ByteArray} {a1 : Int} (g : good a0 = true) (h : mdFound a0 a1 = some t) : good t = true ∧ t.size = a0.size := by
  obtain ⟨n1, n9, _⟩ := good_at g
  have key : isDig t = true ∧ t.size = a0.size := by
    unfold mdFound at h
    cases h1 : fnd (pmay a1 a0.size) a0 a0.size ⟨#[]⟩ true with
    | some o =>
      rw [h1] at h
      obtain rfl : o = t := by simpa using h
      exact fnd_ok _ _ a0.size a0.size ⟨#[]⟩ true o (Nat.zero_add _) rfl h1
    | none =>
      rw [h1] at h
      exact fnd_ok _ _ a0.size a0.size ⟨#[]⟩ true t (Nat.zero_add _) rfl (by simpa using h)
  refine ⟨?_, key.2⟩
  simp only [good, key.1, key.2, Bool.true_and, Bool.and_eq_true, decide_eq_true_eq]
  omega
theorem miles_k {a0 t : ByteArray} {a1 : Int} (g : good a0 = true) (h : mdFound a0 a1 = some t) : ∃ k, impl_milesTo.f k a0 t = some (((val (li t) + 10 ^ a0.size - val (li a0)) % 10 ^ a0.size : Nat) : Int) := by
  obtain ⟨gt, hz⟩ := found_good g h
  obtain ⟨n1, n9, _⟩ := good_at g
  obtain ⟨v, hv, e0, ev⟩ := good_tx g
  obtain ⟨m, hm, e1, em⟩ := good_tx gt
  rw [hz] at hm e1
  rw [ev, em]
  have := (milesTo_ev a0.size v m n9 hv hm).rounds
  rw [← e0, ← e1] at this
  exact this

theorem md_h1 (w : World) (a0 : ByteArray) (a1 : Int) (q : Nat) : ((((w.alloc (.cells #[.string a0] 9)).alloc (.cells #[.int .i64 a1] 3))).drewN q).heap[w.heap.size]? = some (.cells #[.string a0] 9 (0, 0)) := by
  show ((w.alloc (.cells #[.string a0] 9)).alloc (.cells #[.int .i64 a1] 3)).heap[w.heap.size]? = _
  rw [al_old _ _ _ (by simp only [al_size]; omega)]
  exact al_new _ _ _ rfl
theorem md_h2 (w : World) (a0 : ByteArray) (a1 : Int) (q : Nat) : ((((w.alloc (.cells #[.string a0] 9)).alloc (.cells #[.int .i64 a1] 3))).drewN q).heap[w.heap.size + 1]? = some (.cells #[.int .i64 a1] 3 (0, 0)) := by
  show ((w.alloc (.cells #[.string a0] 9)).alloc (.cells #[.int .i64 a1] 3)).heap[w.heap.size + 1]? = _
  exact al_new _ _ _ (by simp only [al_size])

set_option maxHeartbeats 4000000 in
set_option maxRecDepth 100000 in
theorem miles_any (a0 : ByteArray) (a1 : Int) (w : World) (hs : a0.size ≤ 140737488351232) (r1 : Int) (r2 : Bool) (hr : mdRes a0 a1 = (r1, r2)) :
    Calls Try.prog 26 #[.string a0, .int .i64 a1] w fun e w' => e = .returned (.tuple #[.int .i64 r1, .bool r2]) ∧ Below w.heap.size w w' := by
  obtain ⟨k, hk⟩ := (IsReading_ev a0 hs).rounds
  have HK := Aside0.mk hk
  have HR := Aside0.mk hr
  clear hk hr
  by_cases g : good a0 = true
  · rw [g] at HK
    by_cases g1 : 1 ≤ a1 ∧ a1 ≤ 9
    · have hwi : impl_within.f a1 1 9 = some true := by unfold impl_within.f; rw [if_pos g1.1, decide_eq_true g1.2]
      have HW := Aside0.mk hwi
      obtain ⟨n1, n9, _⟩ := good_at g
      have hfd : ∃ F, mdFound a0 a1 = F := ⟨_, rfl⟩
      obtain ⟨F, hF⟩ := hfd
      have HF := Aside0.mk hF
      have HG := Aside0.mk g
      have HG1 := Aside0.mk g1
      have HN9 := Aside0.mk n9
      clear hwi hF g g1 n1 n9
      have may : ∀ W : World, Below w.heap.size w W → W.heap[w.heap.size]? = some (.cells #[.string a0] 9 (0, 0)) → W.heap[w.heap.size + 1]? = some (.cells #[.int .i64 a1] 3 (0, 0)) → MayOk W a0.size 55 #[.pointer (some ⟨w.heap.size + 1, 0, none⟩), .pointer (some ⟨w.heap.size, 0, none⟩)] (pmay a1 a0.size) := by
        intro W hB h1 h2 s w' hw hd hs1 hs2
        exact mayD_any a0 s a1 _ _ w' HN9.out (by have := HN9.out; omega) hd (heap_below h2 hw) (heap_below h1 hw)
      have MAY := Aside0.mk may
      clear may
      cases F with
      | none =>
        have hr := HR.out
        rw [mdRes, if_pos ⟨HG.out, HG1.out.1, HG1.out.2⟩, HF.out] at hr
        obtain ⟨rfl, rfl⟩ : (0 : Int) = r1 ∧ false = r2 := by simpa using hr
        clear hr
        go_enter Try.func26, Try.ntmps26
        go_wp2_with (first | (go_at_call 36; with_reducible refine (impl_IsReading.calls k a0 true _ HK.out).mono ?_; rintro e w1 ⟨rfl, ⟨nd, rfl⟩⟩) | (go_at_call 53; with_reducible refine (impl_within.calls a1 1 9 true _ HW.out).mono ?_; rintro e w2 ⟨rfl, ⟨nd2, rfl⟩⟩) | (go_at_call 54; refine (around_any a0 HN9.out _ _ (pmay a1 a0.size) _ (MAY.out _ (by repeat (first | (with_reducible first | exact Below.refl _ _ | apply below_alloc | apply pw_below_drewN | apply below_drew1) | exact Below.refl _ _)) (md_h1 _ _ _ _) (md_h2 _ _ _ _)) _ _ rfl rfl).mono ?_; rintro e w3 ⟨rfl, hb3⟩; rw [show (fnd (pmay a1 a0.size) a0 a0.size ⟨#[]⟩ true).or (fnd (pmay a1 a0.size) (tx a0.size 0) a0.size ⟨#[]⟩ true) = none from HF.out]))
        go_ret2
        exact ⟨rfl, below_step (by repeat (first | (with_reducible first | exact Below.refl _ _ | apply below_alloc | apply pw_below_drewN | apply below_drew1) | exact Below.refl _ _)) hb3⟩
      | some t =>
        obtain ⟨k2, hk2⟩ := miles_k HG.out HF.out
        have hr := HR.out
        rw [mdRes, if_pos ⟨HG.out, HG1.out.1, HG1.out.2⟩, HF.out] at hr
        obtain ⟨rfl, rfl⟩ : (((val (li t) + 10 ^ a0.size - val (li a0)) % 10 ^ a0.size : Nat) : Int) = r1 ∧ true = r2 := by simpa using hr
        clear hr HR
        generalize (((val (li t) + 10 ^ a0.size - val (li a0)) % 10 ^ a0.size : Nat) : Int) = r1 at hk2 ⊢
        have HK2 := Aside0.mk hk2
        clear hk2
        go_enter Try.func26, Try.ntmps26
        go_wp2_with (first | (go_at_call 36; with_reducible refine (impl_IsReading.calls k a0 true _ HK.out).mono ?_; rintro e w1 ⟨rfl, ⟨nd, rfl⟩⟩) | (go_at_call 53; with_reducible refine (impl_within.calls a1 1 9 true _ HW.out).mono ?_; rintro e w2 ⟨rfl, ⟨nd2, rfl⟩⟩) | (go_at_call 54; refine (around_any a0 HN9.out _ _ (pmay a1 a0.size) _ (MAY.out _ (by repeat (first | (with_reducible first | exact Below.refl _ _ | apply below_alloc | apply pw_below_drewN | apply below_drew1) | exact Below.refl _ _)) (md_h1 _ _ _ _) (md_h2 _ _ _ _)) _ _ rfl rfl).mono ?_; rintro e w3 ⟨rfl, hb3⟩; rw [show (fnd (pmay a1 a0.size) a0 a0.size ⟨#[]⟩ true).or (fnd (pmay a1 a0.size) (tx a0.size 0) a0.size ⟨#[]⟩ true) = some t from HF.out]; rw [show outT (some t) = t from rfl]; have c9 := cell_of_one (heap_below (md_h1 w a0 a1 _) hb3)) | (go_at_call 56; with_reducible refine (impl_milesTo.calls k2 a0 t r1 _ HK2.out).mono ?_; rintro e w4 ⟨rfl, ⟨nd4, rfl⟩⟩))
        go_ret2
        exact ⟨rfl, pw_below_drewN (below_step (by repeat (first | (with_reducible first | exact Below.refl _ _ | apply below_alloc | apply pw_below_drewN | apply below_drew1) | exact Below.refl _ _)) hb3) _⟩
    · have hwi : impl_within.f a1 1 9 = some false := by
        unfold impl_within.f
        by_cases c : 1 ≤ a1
        · rw [if_pos c, decide_eq_false (fun h => g1 ⟨c, h⟩)]
        · rw [if_neg c]
      have HW := Aside0.mk hwi
      have hr := HR.out
      rw [mdRes, if_neg (fun h => g1 h.2)] at hr
      obtain ⟨rfl, rfl⟩ : (0 : Int) = r1 ∧ false = r2 := by simpa using hr
      clear hr hwi g1 HR
      go_enter Try.func26, Try.ntmps26
      go_wp2_with (first | (go_at_call 36; with_reducible refine (impl_IsReading.calls k a0 true _ HK.out).mono ?_; rintro e w1 ⟨rfl, ⟨nd, rfl⟩⟩) | (go_at_call 53; with_reducible refine (impl_within.calls a1 1 9 false _ HW.out).mono ?_; rintro e w2 ⟨rfl, ⟨nd2, rfl⟩⟩))
      go_ret2
      exact ⟨rfl, (by repeat (first | (with_reducible first | exact Below.refl _ _ | apply below_alloc | apply pw_below_drewN | apply below_drew1) | exact Below.refl _ _))⟩
  · rw [Bool.not_eq_true] at g
    rw [g] at HK
    have hr := HR.out
    rw [mdRes, if_neg (by rw [g]; simp)] at hr
    obtain ⟨rfl, rfl⟩ : (0 : Int) = r1 ∧ false = r2 := by simpa using hr
    clear hr
    go_enter Try.func26, Try.ntmps26
    go_wp2_with (go_at_call 36; with_reducible refine (impl_IsReading.calls k a0 false _ HK.out).mono ?_; rintro e w1 ⟨rfl, ⟨nd, rfl⟩⟩)
    go_ret2
    exact ⟨rfl, (by repeat (first | (with_reducible first | exact Below.refl _ _ | apply below_alloc | apply pw_below_drewN | apply below_drew1) | exact Below.refl _ _))⟩

/-- 'MilesToDigits' -/
def impl_MilesToDigits.f (a0 : ByteArray) (a1 : Int) : Option (Int × Bool) := if a0.size ≤ 140737488351232 then some (mdRes a0 a1) else none
theorem impl_MilesToDigits.calls (a0 : ByteArray) (a1 : Int) (r1 : Int) (r2 : Bool) (w : World) (h : impl_MilesToDigits.f a0 a1 = some (r1, r2)) :
    Calls Try.prog 26 #[.string a0, .int .i64 a1] w fun e w' => e = .returned (.tuple #[.int .i64 r1, .bool r2]) ∧ Below w.heap.size w w' := by
  unfold impl_MilesToDigits.f at h
  by_cases c : a0.size ≤ 140737488351232
  · rw [if_pos c] at h
    exact miles_any a0 a1 w c r1 r2 (Option.some.inj h)
  · rw [if_neg c] at h; cases h

end Go.Proofs.Ytpdcjkiejglaiaa.Q

/- Began as the print of our own driver (YtpdcjkiejglaiaaQf52); the third of three '||' splits the walk: its two goals are closed alike, by hand. -/
namespace Go.Proofs.Ytpdcjkiejglaiaa.Q
open Go.RowKit Go.Proofs.YtpdcjkiejglaiaaW.PrintWords Go.Proofs.YtpdcjkiejglaiaaW.PrintLast Go.Proofs.YtpdcjkiejglaiaaW.PrintMore
attribute [local go_sem] max2_int min2_int max_two min_two max_three min_three max_four min_four   -- for this text's walks alone
set_option linter.unusedVariables false
set_option linter.unusedSimpArgs false

/-! ### spec_miSome: function 52 -/
mutual
def spec_miSome.j0 : Nat → ByteArray → ByteArray → Int → Int → Bool → Option (ByteArray)
  | 0, _, _, _, _, _ => none
  | k + 1, x0, x1, x2, x8, x35 => if x35 = true then (some (⟨#[]⟩ : ByteArray)) else (if x8 = 0 then (some x1) else (spec_miSome.l0 k x0 x1 x2 0))
def spec_miSome.l0 : Nat → ByteArray → ByteArray → Int → Int → Option (ByteArray)
  | 0, _, _, _, _ => none
  | k + 1, x0, x1, x2, x9 => if x9 < 10 then ((spec_l1Num.f k x9).bind fun t102 => (if x1.size + t102.size ≤ 9223372036854775807 then ((spec_miSome.f k x0 (x1 ++ t102) x2).bind fun t103 => (if t103.toList = ([] : List UInt8) then (spec_miSome.l0 k x0 x1 x2 (wrap64 (x9 + 1))) else (some t103))) else (none))) else (some (⟨#[]⟩ : ByteArray))
def spec_miSome.f : Nat → ByteArray → ByteArray → Int → Option (ByteArray)
  | 0, _, _, _ => none
  | k + 1, a0, a1, a2 => (spec_miDigits.f a1).bind fun t101 => (if 0 ≤ (a1.size : Int) then (if (a1.size : Int) ≤ (a0.size : Int) then (if (Op.bytesLess a1.toList ((a0.extract 0 ((a1.size : Int) : Int).toNat).toList)) = true then (spec_miSome.j0 k a0 a1 a2 (wrap64 ((a0.size : Int) - (a1.size : Int))) true) else (if t101 > a2 then (spec_miSome.j0 k a0 a1 a2 (wrap64 ((a0.size : Int) - (a1.size : Int))) true) else (spec_miSome.j0 k a0 a1 a2 (wrap64 ((a0.size : Int) - (a1.size : Int))) (decide ((wrap64 (t101 + (wrap64 ((a0.size : Int) - (a1.size : Int))))) < a2))))) else (none)) else (none))
end
theorem spec_miSome.mono_l : ∀ k, (∀ y0 y1 y2, LeO (spec_miSome.f k y0 y1 y2) (spec_miSome.f (k + 1) y0 y1 y2)) ∧ (∀ y0 y1 y2 y3 y4, LeO (spec_miSome.j0 k y0 y1 y2 y3 y4) (spec_miSome.j0 (k + 1) y0 y1 y2 y3 y4)) ∧ (∀ y0 y1 y2 y3, LeO (spec_miSome.l0 k y0 y1 y2 y3) (spec_miSome.l0 (k + 1) y0 y1 y2 y3))
  | 0 => ⟨fun _ _ _ r h => by simp [spec_miSome.f] at h, fun _ _ _ _ _ r h => by simp [spec_miSome.j0] at h, fun _ _ _ _ r h => by simp [spec_miSome.l0] at h⟩
  | k + 1 => by
    obtain ⟨ih0, ih1, ih2⟩ := spec_miSome.mono_l k
    refine ⟨?_, ?_, ?_⟩
    · intro y0 y1 y2
      unfold spec_miSome.f
      repeat' first
      | (with_reducible exact ih0 _ _ _)
      | (with_reducible exact ih1 _ _ _ _ _)
      | (with_reducible exact ih2 _ _ _ _)
      | (with_reducible exact spec_l1Num.mono _ _)
      | (with_reducible exact LeO.refl _)
      | (with_reducible exact LeO.none _)
      | (with_reducible refine LeO.ite ?_ ?_)
      | (with_reducible refine LeO.bind ?_ (fun _ => ?_))
      | exact ih0 _ _ _
      | exact ih1 _ _ _ _ _
      | exact ih2 _ _ _ _
      | exact spec_l1Num.mono _ _
      | exact LeO.none _
      | refine LeO.ite ?_ ?_
      | refine LeO.bind ?_ (fun _ => ?_)
    · intro y0 y1 y2 y3 y4
      unfold spec_miSome.j0
      repeat' first
      | (with_reducible exact ih0 _ _ _)
      | (with_reducible exact ih1 _ _ _ _ _)
      | (with_reducible exact ih2 _ _ _ _)
      | (with_reducible exact spec_l1Num.mono _ _)
      | (with_reducible exact LeO.refl _)
      | (with_reducible exact LeO.none _)
      | (with_reducible refine LeO.ite ?_ ?_)
      | (with_reducible refine LeO.bind ?_ (fun _ => ?_))
      | exact ih0 _ _ _
      | exact ih1 _ _ _ _ _
      | exact ih2 _ _ _ _
      | exact spec_l1Num.mono _ _
      | exact LeO.none _
      | refine LeO.ite ?_ ?_
      | refine LeO.bind ?_ (fun _ => ?_)
    · intro y0 y1 y2 y3
      unfold spec_miSome.l0
      repeat' first
      | (with_reducible exact ih0 _ _ _)
      | (with_reducible exact ih1 _ _ _ _ _)
      | (with_reducible exact ih2 _ _ _ _)
      | (with_reducible exact spec_l1Num.mono _ _)
      | (with_reducible exact LeO.refl _)
      | (with_reducible exact LeO.none _)
      | (with_reducible refine LeO.ite ?_ ?_)
      | (with_reducible refine LeO.bind ?_ (fun _ => ?_))
      | exact ih0 _ _ _
      | exact ih1 _ _ _ _ _
      | exact ih2 _ _ _ _
      | exact spec_l1Num.mono _ _
      | exact LeO.none _
      | refine LeO.ite ?_ ?_
      | refine LeO.bind ?_ (fun _ => ?_)
theorem spec_miSome.mono : ∀ a0 a1 a2 k, LeO (spec_miSome.f k a0 a1 a2) (spec_miSome.f (k + 1) a0 a1 a2) := by
  intro a0 a1 a2 k
  obtain ⟨ih0, ih1, ih2⟩ := spec_miSome.mono_l k
  exact ih0 a0 a1 a2
set_option maxHeartbeats 8000000 in
set_option maxRecDepth 100000 in
theorem spec_miSome.calls (k : Nat) : ∀ (a0 : ByteArray) (a1 : ByteArray) (a2 : Int) (r : ByteArray) (w : World) (h : spec_miSome.f k a0 a1 a2 = some r),
    Calls Try.prog 52 #[.string a0, .string a1, .int .i64 a2] w fun e w' => e = .returned (.string r) ∧ Below w.heap.size w w' := by
  induction k using Nat.strongRecOn with
  | _ k ih =>
  intro a0 a1 a2 r w h
  cases k with
  | zero => exact absurd h (by simp [spec_miSome.f])
  | succ k =>
  simp only [spec_miSome.f] at h
  have HB := Aside0.mk (Below.refl w.heap.size w)
  have H : ((spec_miDigits.f a1).bind fun t101 => (if 0 ≤ (a1.size : Int) then (if (a1.size : Int) ≤ (a0.size : Int) then (if (Op.bytesLess a1.toList ((a0.extract 0 ((a1.size : Int) : Int).toNat).toList)) = true then (spec_miSome.j0 k a0 a1 a2 (wrap64 ((a0.size : Int) - (a1.size : Int))) true) else (if t101 > a2 then (spec_miSome.j0 k a0 a1 a2 (wrap64 ((a0.size : Int) - (a1.size : Int))) true) else (spec_miSome.j0 k a0 a1 a2 (wrap64 ((a0.size : Int) - (a1.size : Int))) (decide ((wrap64 (t101 + (wrap64 ((a0.size : Int) - (a1.size : Int))))) < a2))))) else (none)) else (none))) = some r := h
  clear h
  replace H := Option.bind_eq_some_iff.mp H
  obtain ⟨t101, A40, H⟩ := H
  replace H : (if 0 ≤ (a1.size : Int) then (if (a1.size : Int) ≤ (a0.size : Int) then (if (Op.bytesLess a1.toList ((a0.extract 0 ((a1.size : Int) : Int).toNat).toList)) = true then (spec_miSome.j0 k a0 a1 a2 (wrap64 ((a0.size : Int) - (a1.size : Int))) true) else (if t101 > a2 then (spec_miSome.j0 k a0 a1 a2 (wrap64 ((a0.size : Int) - (a1.size : Int))) true) else (spec_miSome.j0 k a0 a1 a2 (wrap64 ((a0.size : Int) - (a1.size : Int))) (decide ((wrap64 (t101 + (wrap64 ((a0.size : Int) - (a1.size : Int))))) < a2))))) else (none)) else (none)) = some r := H
  have A4 := Aside0.mk A40
  clear A40
  have HC5 := Aside0.mk H
  clear H
  go_enter Try.func52, Try.ntmps52
  go_upto_region 2 with (first | ((with_reducible refine gate_callee (f := 50) rfl ?_); refine goesL_ (some 12) rfl rfl Try.func50 (by kernel_rfl) rfl #[.string a1] rfl (by (try simp only [List.map_toArray, List.map_cons, List.map_nil]); first | done | rfl | (simp only [List.length_drop, List.length_take]; rfl)) ?_; (with_reducible refine (spec_miDigits.calls a1 t101 _ A4.out).mono ?_); rintro e w6 ⟨rfl, hb⟩; refine ⟨_, rfl, ?_⟩; have n0_ := Aside0.mk (below_step (by repeat (first | (with_reducible first | exact HB.out | apply below_alloc | apply pw_below_drewN | apply below_drew1) | exact HB.out)) hb); clear HB; have HB := n0_; clear n0_; (try clear hb); (try clear hb2); (try clear hk); (try clear hi)))
  (try simp only [Act.put, List.setIfInBounds_toArray, List.set_cons_zero, List.set_cons_succ])
  go_cut [35] (fun v35 wc => ∃ (kq : Nat) (x35_4 : Bool), v35 = .bool x35_4 ∧ Aside0 (spec_miSome.j0 kq a0 a1 a2 (wrap64 ((a0.size : Int) - (a1.size : Int))) x35_4 = some r) ∧ Aside0 (kq ≤ k) ∧ Aside0 (Below w.heap.size w wc))
  case first =>
    have H := HC5.out
    clear HC5
    by_cases c7 : 0 ≤ (a1.size : Int)
    · rw [if_pos c7] at H
      have c7b0 := eq_true c7
      have c7b1 : decide (0 ≤ (a1.size : Int)) = true := decide_eq_true c7
      clear c7
      by_cases c8 : (a1.size : Int) ≤ (a0.size : Int)
      · rw [if_pos c8] at H
        have c8b0 := eq_true c8
        have c8b1 : decide ((a1.size : Int) ≤ (a0.size : Int)) = true := decide_eq_true c8
        clear c8
        by_cases c9 : (Op.bytesLess a1.toList ((a0.extract 0 ((a1.size : Int) : Int).toNat).toList)) = true
        · rw [if_pos c9] at H
          have c9b0 : (Op.bytesLess a1.toList ((a0.extract 0 ((a1.size : Int) : Int).toNat).toList)) = true := c9
          clear c9
          (first | rw [c9b0] | (simp only [i64_w, i32_w]; rw [c9b0]) | skip)
          have H' := Aside0.mk H
          clear H
          go_wp2
          go_meet
          case rel => exact ⟨_, (true), (by first | rfl | (simp; done) | (simp [*]; done)), H', ⟨by first | omega | exact Nat.le_refl _⟩, ⟨by repeat (first | (with_reducible first | exact HB.out | apply below_alloc | apply pw_below_drewN | apply below_drew1) | exact HB.out)⟩⟩
        · rw [if_neg c9] at H
          have c9b0 : (Op.bytesLess a1.toList ((a0.extract 0 ((a1.size : Int) : Int).toNat).toList)) = false := by simpa using c9
          clear c9
          (first | rw [c9b0] | (simp only [i64_w, i32_w]; rw [c9b0]) | skip)
          simp only [Int.toNat_natCast] at c9b0
          by_cases c10 : t101 > a2
          · rw [if_pos c10] at H
            have c10b0 : decide (a2 < t101) = true := decide_eq_true c10
            clear c10
            have H' := Aside0.mk H
            clear H
            go_wp2
            all_goals
              go_meet
              case rel => exact ⟨_, (true), (by first | rfl | (simp; done) | (simp [*]; done)), H', ⟨by first | omega | exact Nat.le_refl _⟩, ⟨by repeat (first | (with_reducible first | exact HB.out | apply below_alloc | apply pw_below_drewN | apply below_drew1) | exact HB.out)⟩⟩
          · rw [if_neg c10] at H
            have c10b0 : decide (a2 < t101) = false := decide_eq_false c10
            clear c10
            have H' := Aside0.mk H
            clear H
            go_wp2
            all_goals
              go_meet
              case rel => exact ⟨_, (decide ((wrap64 (t101 + (wrap64 ((a0.size : Int) - (a1.size : Int))))) < a2)), (by first | rfl | (simp; done) | (simp [*]; done)), H', ⟨by first | omega | exact Nat.le_refl _⟩, ⟨by repeat (first | (with_reducible first | exact HB.out | apply below_alloc | apply pw_below_drewN | apply below_drew1) | exact HB.out)⟩⟩
      · rw [if_neg c8] at H
        exact absurd H (by simp)
    · rw [if_neg c7] at H
      exact absurd H (by simp)
  case rest =>
    clear HC5
    try clear c1
    try clear p2
    try clear c5
    try clear p6
    try clear c7
    try clear c7b0
    try clear c7b1
    try clear c8
    try clear c8b0
    try clear c8b1
    try clear c9
    try clear c9b0
    try clear c10
    try clear c10b0
    obtain ⟨kq, x35_4, rfl, HA, HJ4, HB⟩ := hcut
    cases kq with
    | zero => exact absurd HA.out (by simp [spec_miSome.j0])
    | succ kj4 =>
      have H := HA.out
      clear HA
      simp only [spec_miSome.j0] at H
      by_cases c11 : x35_4 = true
      · subst c11
        have H1 : (some (⟨#[]⟩ : ByteArray)) = some r := by rw [if_pos rfl] at H; exact H
        clear H
        have H := H1
        clear H1
        obtain rfl := Option.some.inj H
        go_wp2
        go_ret
        exact ⟨by first | rfl | (simp [errW_none, errW_some] <;> rfl) | (simp [*, errW_none, errW_some] <;> rfl), by repeat (first | (with_reducible first | exact HB.out | apply below_alloc | apply pw_below_drewN | apply below_drew1) | exact HB.out)⟩
      · replace c11 := Bool.eq_false_iff.mpr c11
        subst c11
        have H1 : (if (wrap64 ((a0.size : Int) - (a1.size : Int))) = 0 then (some a1) else (spec_miSome.l0 kj4 a0 a1 a2 0)) = some r := by rw [if_neg (show ¬ (false = true) by decide)] at H; exact H
        clear H
        have H := H1
        clear H1
        by_cases c12 : (wrap64 ((a0.size : Int) - (a1.size : Int))) = 0
        · rw [if_pos c12] at H
          have c12b0 : ((wrap64 ((a0.size : Int) - (a1.size : Int))) == 0) = true := beq_iff_eq.mpr c12
          have c12b1 : ((wrap64 ((a0.size : Int) - (a1.size : Int))) != 0) = false := bne_eq_false_iff_eq.mpr c12
          clear c12
          obtain rfl := Option.some.inj H
          go_wp2
          go_ret
          exact ⟨by first | rfl | (simp [errW_none, errW_some] <;> rfl) | (simp [*, errW_none, errW_some] <;> rfl), by repeat (first | (with_reducible first | exact HB.out | apply below_alloc | apply pw_below_drewN | apply below_drew1) | exact HB.out)⟩
        · rw [if_neg c12] at H
          have c12b0 : ((wrap64 ((a0.size : Int) - (a1.size : Int))) == 0) = false := beq_eq_false_iff_ne.mpr c12
          have c12b1 : ((wrap64 ((a0.size : Int) - (a1.size : Int))) != 0) = true := bne_iff_ne.mpr c12
          have H' := Aside0.mk H
          clear H
          go_wp2
          go_loopg [9] kj4 (fun kq v9 w' => ∃ (x9_2 : Int), v9 = .int .i64 x9_2 ∧ Aside0 (spec_miSome.l0 kq a0 a1 a2 x9_2 = some r) ∧ Aside0 (kq ≤ kj4) ∧ Aside0 (Below w.heap.size w w'))
          case atStart => exact ⟨(0), (by first | rfl | (simp; done) | (simp [*]; done)), H', ⟨Nat.le_refl _⟩, ⟨by repeat (first | (with_reducible first | exact HB.out | apply below_alloc | apply pw_below_drewN | apply below_drew1) | exact HB.out)⟩⟩
          case round =>
            clear H'
            try clear c1
            try clear p2
            try clear c5
            try clear p6
            try clear c7
            try clear c7b0
            try clear c7b1
            try clear c8
            try clear c8b0
            try clear c8b1
            try clear c9
            try clear c9b0
            try clear c10
            try clear c10b0
            try clear c11
            try clear c12
            try clear c12b0
            try clear c12b1
            try clear p2
            try clear p6
            obtain ⟨x9_2, rfl, HA, HK2, HB⟩ := hrel
            cases gk with
            | zero => exact absurd HA.out (by simp [spec_miSome.l0])
            | succ k2 =>
              have H := HA.out
              clear HA
              simp only [spec_miSome.l0] at H
              by_cases c13 : x9_2 < 10
              · rw [if_pos c13] at H
                have c13b0 : decide (x9_2 < 10) = true := decide_eq_true c13
                clear c13
                replace H := Option.bind_eq_some_iff.mp H
                obtain ⟨t102, A140, H⟩ := H
                replace H : (if a1.size + t102.size ≤ 9223372036854775807 then ((spec_miSome.f k2 a0 (a1 ++ t102) a2).bind fun t103 => (if t103.toList = ([] : List UInt8) then (spec_miSome.l0 k2 a0 a1 a2 (wrap64 (x9_2 + 1))) else (some t103))) else (none)) = some r := H
                have A14 := Aside0.mk A140
                clear A140
                by_cases c15 : a1.size + t102.size ≤ 9223372036854775807
                · rw [if_pos c15] at H
                  have c15b0 := eq_true c15
                  have c15b1 : decide (a1.size + t102.size ≤ 9223372036854775807) = true := decide_eq_true c15
                  try have c15b2 : (9223372036854775807 < a1.size + t102.size) = False := eq_false (Nat.not_lt.2 c15)
                  replace H := Option.bind_eq_some_iff.mp H
                  obtain ⟨t103, A160, H⟩ := H
                  replace H : (if t103.toList = ([] : List UInt8) then (spec_miSome.l0 k2 a0 a1 a2 (wrap64 (x9_2 + 1))) else (some t103)) = some r := H
                  have A16 := Aside0.mk A160
                  clear A160
                  by_cases c17 : t103.toList = ([] : List UInt8)
                  · rw [if_pos c17] at H
                    have c17b0 : (t103.toList == ([] : List UInt8)) = true := beq_iff_eq.mpr c17
                    have c17b1 : (t103.toList != ([] : List UInt8)) = false := bne_eq_false_iff_eq.mpr c17
                    clear c17
                    have H' := Aside0.mk H
                    clear H
                    go_wp2_with (first | ((with_reducible refine gate_callee (f := 33) rfl ?_); refine goesL_ (some 46) rfl rfl Try.func33 (by kernel_rfl) rfl #[.int .i64 x9_2] rfl (by (try simp only [List.map_toArray, List.map_cons, List.map_nil]); first | done | rfl | (simp only [List.length_drop, List.length_take]; rfl)) ?_; (with_reducible refine (spec_l1Num.calls k2 x9_2 t102 _ A14.out).mono ?_); rintro e w18 ⟨rfl, hb⟩; refine ⟨_, rfl, ?_⟩; have n0_ := Aside0.mk (below_step (by repeat (first | (with_reducible first | exact HB.out | apply below_alloc | apply pw_below_drewN | apply below_drew1) | exact HB.out)) hb); clear HB; have HB := n0_; clear n0_; (try clear hb); (try clear hb2); (try clear hk); (try clear hi)) | ((with_reducible refine gate_callee (f := 52) rfl ?_); refine goesL_ (some 49) rfl rfl Try.func52 (by kernel_rfl) rfl #[.string a0, .string (a1 ++ t102), .int .i64 a2] rfl (by (try simp only [List.map_toArray, List.map_cons, List.map_nil]); first | done | rfl | (simp only [List.length_drop, List.length_take]; rfl)) ?_; (with_reducible refine (ih k2 (by have := HJ4.out; have := HK2.out; omega) a0 (a1 ++ t102) a2 t103 _ A16.out).mono ?_); rintro e w19 ⟨rfl, hb⟩; refine ⟨_, rfl, ?_⟩; have n0_ := Aside0.mk (below_step (by repeat (first | (with_reducible first | exact HB.out | apply below_alloc | apply pw_below_drewN | apply below_drew1) | exact HB.out)) hb); clear HB; have HB := n0_; clear n0_; (try clear hb); (try clear hb2); (try clear hk); (try clear hi)))
                    go_roundg k2
                    case measure => have := HJ4.out; have := HK2.out; omega
                    case rel => exact ⟨(wrap64 (x9_2 + 1)), (by first | rfl | (simp; done) | (simp [*]; done)), H', ⟨by have := HJ4.out; have := HK2.out; omega⟩, ⟨by repeat (first | (with_reducible first | exact HB.out | apply below_alloc | apply pw_below_drewN | apply below_drew1) | exact HB.out)⟩⟩
                  · rw [if_neg c17] at H
                    have c17b0 : (t103.toList == ([] : List UInt8)) = false := beq_eq_false_iff_ne.mpr c17
                    have c17b1 : (t103.toList != ([] : List UInt8)) = true := bne_iff_ne.mpr c17
                    obtain rfl := Option.some.inj H
                    go_wp2_with (first | ((with_reducible refine gate_callee (f := 33) rfl ?_); refine goesL_ (some 46) rfl rfl Try.func33 (by kernel_rfl) rfl #[.int .i64 x9_2] rfl (by (try simp only [List.map_toArray, List.map_cons, List.map_nil]); first | done | rfl | (simp only [List.length_drop, List.length_take]; rfl)) ?_; (with_reducible refine (spec_l1Num.calls k2 x9_2 t102 _ A14.out).mono ?_); rintro e w20 ⟨rfl, hb⟩; refine ⟨_, rfl, ?_⟩; have n0_ := Aside0.mk (below_step (by repeat (first | (with_reducible first | exact HB.out | apply below_alloc | apply pw_below_drewN | apply below_drew1) | exact HB.out)) hb); clear HB; have HB := n0_; clear n0_; (try clear hb); (try clear hb2); (try clear hk); (try clear hi)) | ((with_reducible refine gate_callee (f := 52) rfl ?_); refine goesL_ (some 49) rfl rfl Try.func52 (by kernel_rfl) rfl #[.string a0, .string (a1 ++ t102), .int .i64 a2] rfl (by (try simp only [List.map_toArray, List.map_cons, List.map_nil]); first | done | rfl | (simp only [List.length_drop, List.length_take]; rfl)) ?_; (with_reducible refine (ih k2 (by have := HJ4.out; have := HK2.out; omega) a0 (a1 ++ t102) a2 t103 _ A16.out).mono ?_); rintro e w21 ⟨rfl, hb⟩; refine ⟨_, rfl, ?_⟩; have n0_ := Aside0.mk (below_step (by repeat (first | (with_reducible first | exact HB.out | apply below_alloc | apply pw_below_drewN | apply below_drew1) | exact HB.out)) hb); clear HB; have HB := n0_; clear n0_; (try clear hb); (try clear hb2); (try clear hk); (try clear hi)))
                    go_ret
                    exact ⟨by first | rfl | (simp [errW_none, errW_some] <;> rfl) | (simp [*, errW_none, errW_some] <;> rfl), by repeat (first | (with_reducible first | exact HB.out | apply below_alloc | apply pw_below_drewN | apply below_drew1) | exact HB.out)⟩
                · rw [if_neg c15] at H
                  exact absurd H (by simp)
              · rw [if_neg c13] at H
                have c13b0 : decide (x9_2 < 10) = false := decide_eq_false c13
                clear c13
                obtain rfl := Option.some.inj H
                go_wp2
                go_ret
                exact ⟨by first | rfl | (simp [errW_none, errW_some] <;> rfl) | (simp [*, errW_none, errW_some] <;> rfl), by repeat (first | (with_reducible first | exact HB.out | apply below_alloc | apply pw_below_drewN | apply below_drew1) | exact HB.out)⟩

end Go.Proofs.Ytpdcjkiejglaiaa.Q

/- Laid by a program of this session (wip/tools/own_print.py) over the translation of this seat: contracts of the functions that the statement reaches. -/
namespace Go.Proofs.Ytpdcjkiejglaiaa.Q
open Go.RowKit Go.Proofs.YtpdcjkiejglaiaaW.PrintWords Go.Proofs.YtpdcjkiejglaiaaW.PrintLast Go.Proofs.YtpdcjkiejglaiaaW.PrintMore
attribute [local go_sem] max2_int min2_int max_two min_two max_three min_three max_four min_four   -- for this text's walks alone
set_option linter.unusedVariables false
set_option linter.unusedSimpArgs false

/-! ### spec_MilesToDigits: function 25 -/
def spec_MilesToDigits.j0 : Nat → ByteArray → Int → Bool → Option (Int × Bool)
  | 0, _, _, _ => none
  | k + 1, x0, x1, x16 => if x16 = true then (some (0, false)) else ((spec_miSome.f k x0 (⟨#[]⟩ : ByteArray) x1).bind fun t103 => (if t103.toList = ([] : List UInt8) then ((spec_miText.f k (x0.size : Int) 0).bind fun t104 => ((spec_miSome.f k t104 (⟨#[]⟩ : ByteArray) x1).bind fun t105 => ((spec_miTo.f k x0 t105).bind fun t106 => (some (t106, true))))) else ((spec_miTo.f k x0 t103).bind fun t107 => (some (t107, true)))))
def spec_MilesToDigits.f (k : Nat) (a0 : ByteArray) (a1 : Int) : Option (Int × Bool) := (spec_miGood.f k a0).bind fun t101 => (if t101 = true then ((spec_l1In.f a1 1 (a0.size : Int)).bind fun t102 => (spec_MilesToDigits.j0 k a0 a1 (!t102))) else (spec_MilesToDigits.j0 k a0 a1 true))
theorem spec_MilesToDigits.mono_l : ∀ k, (∀ y0 y1 y2, LeO (spec_MilesToDigits.j0 k y0 y1 y2) (spec_MilesToDigits.j0 (k + 1) y0 y1 y2))
  | 0 => fun _ _ _ r h => by simp [spec_MilesToDigits.j0] at h
  | k + 1 => by
    have ih0 := spec_MilesToDigits.mono_l k
    · intro y0 y1 y2
      unfold spec_MilesToDigits.j0
      repeat' first
      | (with_reducible exact ih0 _ _ _)
      | (with_reducible exact spec_miGood.mono _ _)
      | (with_reducible exact spec_miSome.mono _ _ _ _)
      | (with_reducible exact spec_miText.mono _ _ _)
      | (with_reducible exact spec_miTo.mono _ _ _)
      | (with_reducible exact LeO.refl _)
      | (with_reducible exact LeO.none _)
      | (with_reducible refine LeO.ite ?_ ?_)
      | (with_reducible refine LeO.bind ?_ (fun _ => ?_))
      | exact ih0 _ _ _
      | exact spec_miGood.mono _ _
      | exact spec_miSome.mono _ _ _ _
      | exact spec_miText.mono _ _ _
      | exact spec_miTo.mono _ _ _
      | exact LeO.none _
      | refine LeO.ite ?_ ?_
      | refine LeO.bind ?_ (fun _ => ?_)
theorem spec_MilesToDigits.mono : ∀ a0 a1 k, LeO (spec_MilesToDigits.f k a0 a1) (spec_MilesToDigits.f (k + 1) a0 a1) := by
  intro a0 a1 k
  have ih0 := spec_MilesToDigits.mono_l k
  unfold spec_MilesToDigits.f
  repeat' first
      | (with_reducible exact ih0 _ _ _)
      | (with_reducible exact spec_miGood.mono _ _)
      | (with_reducible exact spec_miSome.mono _ _ _ _)
      | (with_reducible exact spec_miText.mono _ _ _)
      | (with_reducible exact spec_miTo.mono _ _ _)
      | (with_reducible exact LeO.refl _)
      | (with_reducible exact LeO.none _)
      | (with_reducible refine LeO.ite ?_ ?_)
      | (with_reducible refine LeO.bind ?_ (fun _ => ?_))
      | exact ih0 _ _ _
      | exact spec_miGood.mono _ _
      | exact spec_miSome.mono _ _ _ _
      | exact spec_miText.mono _ _ _
      | exact spec_miTo.mono _ _ _
      | exact LeO.none _
      | refine LeO.ite ?_ ?_
      | refine LeO.bind ?_ (fun _ => ?_)
set_option maxHeartbeats 8000000 in
set_option maxRecDepth 100000 in
theorem spec_MilesToDigits.calls (k : Nat) (a0 : ByteArray) (a1 : Int) (r1 : Int) (r2 : Bool) (w : World) (h : spec_MilesToDigits.f k a0 a1 = some (r1, r2)) :
    Calls Try.prog 25 #[.string a0, .int .i64 a1] w fun e w' => e = .returned (.tuple #[.int .i64 r1, .bool r2]) ∧ Below w.heap.size w w' := by
  have HB := Aside0.mk (Below.refl w.heap.size w)
  have H : ((spec_miGood.f k a0).bind fun t101 => (if t101 = true then ((spec_l1In.f a1 1 (a0.size : Int)).bind fun t102 => (spec_MilesToDigits.j0 k a0 a1 (!t102))) else (spec_MilesToDigits.j0 k a0 a1 true))) = some (r1, r2) := h
  clear h
  have HC3 := Aside0.mk H
  clear H
  go_enter Try.func25, Try.ntmps25
  go_upto_region 1 with (fail)
  go_cut [16] (fun v16 wc => ∃ (kq : Nat) (x16_2 : Bool), v16 = .bool x16_2 ∧ Aside0 (spec_MilesToDigits.j0 kq a0 a1 x16_2 = some (r1, r2)) ∧ Aside0 (kq ≤ k) ∧ Aside0 (Below w.heap.size w wc))
  case first =>
    have H := HC3.out
    clear HC3
    replace H := Option.bind_eq_some_iff.mp H
    obtain ⟨t101, A40, H⟩ := H
    replace H : (if t101 = true then ((spec_l1In.f a1 1 (a0.size : Int)).bind fun t102 => (spec_MilesToDigits.j0 k a0 a1 (!t102))) else (spec_MilesToDigits.j0 k a0 a1 true)) = some (r1, r2) := H
    have A4 := Aside0.mk A40
    clear A40
    by_cases c5 : t101 = true
    · subst c5
      have H1 : ((spec_l1In.f a1 1 (a0.size : Int)).bind fun t102 => (spec_MilesToDigits.j0 k a0 a1 (!t102))) = some (r1, r2) := by rw [if_pos rfl] at H; exact H
      clear H
      have H := H1
      clear H1
      replace H := Option.bind_eq_some_iff.mp H
      obtain ⟨t102, A60, H⟩ := H
      replace H : (spec_MilesToDigits.j0 k a0 a1 (!t102)) = some (r1, r2) := H
      have A6 := Aside0.mk A60
      clear A60
      have H' := Aside0.mk H
      clear H
      go_wp2_with (first | ((with_reducible refine gate_callee (f := 34) rfl ?_); refine goesL_ (some 8) rfl rfl Try.func34 (by kernel_rfl) rfl #[.string a0] rfl (by (try simp only [List.map_toArray, List.map_cons, List.map_nil]); first | done | rfl | (simp only [List.length_drop, List.length_take]; rfl)) ?_; (with_reducible refine (spec_miGood.calls k a0 true _ A4.out).mono ?_); rintro e w' ⟨rfl, ⟨nd, rfl⟩⟩; refine ⟨_, rfl, ?_⟩) | (go_at_call 46; (with_reducible refine (spec_l1In.calls a1 1 (a0.size : Int) t102 _ A6.out).mono ?_); rintro e w' ⟨rfl, ⟨nd, rfl⟩⟩))
      go_meet
      case rel => exact ⟨_, (!t102), (by first | rfl | (simp; done) | (simp [*]; done)), H', ⟨by first | omega | exact Nat.le_refl _⟩, ⟨by repeat (first | (with_reducible first | exact HB.out | apply below_alloc | apply pw_below_drewN | apply below_drew1) | exact HB.out)⟩⟩
    · replace c5 := Bool.eq_false_iff.mpr c5
      subst c5
      have H1 : (spec_MilesToDigits.j0 k a0 a1 true) = some (r1, r2) := by rw [if_neg (show ¬ (false = true) by decide)] at H; exact H
      clear H
      have H := H1
      clear H1
      have H' := Aside0.mk H
      clear H
      go_wp2_with (first | ((with_reducible refine gate_callee (f := 34) rfl ?_); refine goesL_ (some 8) rfl rfl Try.func34 (by kernel_rfl) rfl #[.string a0] rfl (by (try simp only [List.map_toArray, List.map_cons, List.map_nil]); first | done | rfl | (simp only [List.length_drop, List.length_take]; rfl)) ?_; (with_reducible refine (spec_miGood.calls k a0 false _ A4.out).mono ?_); rintro e w' ⟨rfl, ⟨nd, rfl⟩⟩; refine ⟨_, rfl, ?_⟩))
      go_meet
      case rel => exact ⟨_, (true), (by first | rfl | (simp; done) | (simp [*]; done)), H', ⟨by first | omega | exact Nat.le_refl _⟩, ⟨by repeat (first | (with_reducible first | exact HB.out | apply below_alloc | apply pw_below_drewN | apply below_drew1) | exact HB.out)⟩⟩
  case rest =>
    clear HC3
    try clear c2
    try clear p2
    try clear c3
    try clear c5
    obtain ⟨kq, x16_2, rfl, HA, HJ2, HB⟩ := hcut
    cases kq with
    | zero => exact absurd HA.out (by simp [spec_MilesToDigits.j0])
    | succ kj2 =>
      have H := HA.out
      clear HA
      simp only [spec_MilesToDigits.j0] at H
      by_cases c7 : x16_2 = true
      · subst c7
        have H1 : (some (0, false)) = some (r1, r2) := by rw [if_pos rfl] at H; exact H
        clear H
        have H := H1
        clear H1
        simp only [Option.some.injEq, Prod.mk.injEq] at H
        obtain ⟨rfl, rfl⟩ := H
        go_wp2
        go_ret2
        exact ⟨by first | rfl | (simp [errW_none, errW_some] <;> rfl) | (simp [*, errW_none, errW_some] <;> rfl), by repeat (first | (with_reducible first | exact HB.out | apply below_alloc | apply pw_below_drewN | apply below_drew1) | exact HB.out)⟩
      · replace c7 := Bool.eq_false_iff.mpr c7
        subst c7
        have H1 : ((spec_miSome.f kj2 a0 (⟨#[]⟩ : ByteArray) a1).bind fun t103 => (if t103.toList = ([] : List UInt8) then ((spec_miText.f kj2 (a0.size : Int) 0).bind fun t104 => ((spec_miSome.f kj2 t104 (⟨#[]⟩ : ByteArray) a1).bind fun t105 => ((spec_miTo.f kj2 a0 t105).bind fun t106 => (some (t106, true))))) else ((spec_miTo.f kj2 a0 t103).bind fun t107 => (some (t107, true))))) = some (r1, r2) := by rw [if_neg (show ¬ (false = true) by decide)] at H; exact H
        clear H
        have H := H1
        clear H1
        replace H := Option.bind_eq_some_iff.mp H
        obtain ⟨t103, A80, H⟩ := H
        replace H : (if t103.toList = ([] : List UInt8) then ((spec_miText.f kj2 (a0.size : Int) 0).bind fun t104 => ((spec_miSome.f kj2 t104 (⟨#[]⟩ : ByteArray) a1).bind fun t105 => ((spec_miTo.f kj2 a0 t105).bind fun t106 => (some (t106, true))))) else ((spec_miTo.f kj2 a0 t103).bind fun t107 => (some (t107, true)))) = some (r1, r2) := H
        have A8 := Aside0.mk A80
        clear A80
        by_cases c9 : t103.toList = ([] : List UInt8)
        · rw [if_pos c9] at H
          have c9b0 : (t103.toList == ([] : List UInt8)) = true := beq_iff_eq.mpr c9
          have c9b1 : (t103.toList != ([] : List UInt8)) = false := bne_eq_false_iff_eq.mpr c9
          clear c9
          replace H := Option.bind_eq_some_iff.mp H
          obtain ⟨t104, A100, H⟩ := H
          replace H : ((spec_miSome.f kj2 t104 (⟨#[]⟩ : ByteArray) a1).bind fun t105 => ((spec_miTo.f kj2 a0 t105).bind fun t106 => (some (t106, true)))) = some (r1, r2) := H
          have A10 := Aside0.mk A100
          clear A100
          replace H := Option.bind_eq_some_iff.mp H
          obtain ⟨t105, A110, H⟩ := H
          replace H : ((spec_miTo.f kj2 a0 t105).bind fun t106 => (some (t106, true))) = some (r1, r2) := H
          have A11 := Aside0.mk A110
          clear A110
          replace H := Option.bind_eq_some_iff.mp H
          obtain ⟨t106, A120, H⟩ := H
          replace H : (some (t106, true)) = some (r1, r2) := H
          have A12 := Aside0.mk A120
          clear A120
          simp only [Option.some.injEq, Prod.mk.injEq] at H
          obtain ⟨rfl, rfl⟩ := H
          go_wp2_with (first | ((with_reducible refine gate_callee (f := 52) rfl ?_); refine goesL_ (some 19) rfl rfl Try.func52 (by kernel_rfl) rfl #[.string a0, .string (⟨#[]⟩ : ByteArray), .int .i64 a1] rfl (by (try simp only [List.map_toArray, List.map_cons, List.map_nil]); first | done | rfl | (simp only [List.length_drop, List.length_take]; rfl)) ?_; (with_reducible refine (spec_miSome.calls kj2 a0 (⟨#[]⟩ : ByteArray) a1 t103 _ A8.out).mono ?_); rintro e w13 ⟨rfl, hb⟩; refine ⟨_, rfl, ?_⟩; have n0_ := Aside0.mk (below_step (by repeat (first | (with_reducible first | exact HB.out | apply below_alloc | apply pw_below_drewN | apply below_drew1) | exact HB.out)) hb); clear HB; have HB := n0_; clear n0_; (try clear hb); (try clear hb2); (try clear hk); (try clear hi)) | ((with_reducible refine gate_callee (f := 41) rfl ?_); refine goesL_ (some 24) rfl rfl Try.func41 (by kernel_rfl) rfl #[.int .i64 (a0.size : Int), .int .i64 0] rfl (by (try simp only [List.map_toArray, List.map_cons, List.map_nil]); first | done | rfl | (simp only [List.length_drop, List.length_take]; rfl)) ?_; (with_reducible refine (spec_miText.calls kj2 (a0.size : Int) 0 t104 _ A10.out).mono ?_); rintro e w14 ⟨rfl, hb⟩; refine ⟨_, rfl, ?_⟩; have n0_ := Aside0.mk (below_step (by repeat (first | (with_reducible first | exact HB.out | apply below_alloc | apply pw_below_drewN | apply below_drew1) | exact HB.out)) hb); clear HB; have HB := n0_; clear n0_; (try clear hb); (try clear hb2); (try clear hk); (try clear hi)) | ((with_reducible refine gate_callee (f := 52) rfl ?_); refine goesL_ (some 26) rfl rfl Try.func52 (by kernel_rfl) rfl #[.string t104, .string (⟨#[]⟩ : ByteArray), .int .i64 a1] rfl (by (try simp only [List.map_toArray, List.map_cons, List.map_nil]); first | done | rfl | (simp only [List.length_drop, List.length_take]; rfl)) ?_; (with_reducible refine (spec_miSome.calls kj2 t104 (⟨#[]⟩ : ByteArray) a1 t105 _ A11.out).mono ?_); rintro e w15 ⟨rfl, hb⟩; refine ⟨_, rfl, ?_⟩; have n0_ := Aside0.mk (below_step (by repeat (first | (with_reducible first | exact HB.out | apply below_alloc | apply pw_below_drewN | apply below_drew1) | exact HB.out)) hb); clear HB; have HB := n0_; clear n0_; (try clear hb); (try clear hb2); (try clear hk); (try clear hi)) | ((with_reducible refine gate_callee (f := 39) rfl ?_); refine goesL_ (some 29) rfl rfl Try.func39 (by kernel_rfl) rfl #[.string a0, .string t105] rfl (by (try simp only [List.map_toArray, List.map_cons, List.map_nil]); first | done | rfl | (simp only [List.length_drop, List.length_take]; rfl)) ?_; (with_reducible refine (spec_miTo.calls kj2 a0 t105 t106 _ A12.out).mono ?_); rintro e w' ⟨rfl, ⟨nd, rfl⟩⟩; refine ⟨_, rfl, ?_⟩))
          go_ret2
          exact ⟨by first | rfl | (simp [errW_none, errW_some] <;> rfl) | (simp [*, errW_none, errW_some] <;> rfl), by repeat (first | (with_reducible first | exact HB.out | apply below_alloc | apply pw_below_drewN | apply below_drew1) | exact HB.out)⟩
        · rw [if_neg c9] at H
          have c9b0 : (t103.toList == ([] : List UInt8)) = false := beq_eq_false_iff_ne.mpr c9
          have c9b1 : (t103.toList != ([] : List UInt8)) = true := bne_iff_ne.mpr c9
          replace H := Option.bind_eq_some_iff.mp H
          obtain ⟨t107, A160, H⟩ := H
          replace H : (some (t107, true)) = some (r1, r2) := H
          have A16 := Aside0.mk A160
          clear A160
          simp only [Option.some.injEq, Prod.mk.injEq] at H
          obtain ⟨rfl, rfl⟩ := H
          go_wp2_with (first | ((with_reducible refine gate_callee (f := 52) rfl ?_); refine goesL_ (some 19) rfl rfl Try.func52 (by kernel_rfl) rfl #[.string a0, .string (⟨#[]⟩ : ByteArray), .int .i64 a1] rfl (by (try simp only [List.map_toArray, List.map_cons, List.map_nil]); first | done | rfl | (simp only [List.length_drop, List.length_take]; rfl)) ?_; (with_reducible refine (spec_miSome.calls kj2 a0 (⟨#[]⟩ : ByteArray) a1 t103 _ A8.out).mono ?_); rintro e w17 ⟨rfl, hb⟩; refine ⟨_, rfl, ?_⟩; have n0_ := Aside0.mk (below_step (by repeat (first | (with_reducible first | exact HB.out | apply below_alloc | apply pw_below_drewN | apply below_drew1) | exact HB.out)) hb); clear HB; have HB := n0_; clear n0_; (try clear hb); (try clear hb2); (try clear hk); (try clear hi)) | ((with_reducible refine gate_callee (f := 39) rfl ?_); refine goesL_ (some 29) rfl rfl Try.func39 (by kernel_rfl) rfl #[.string a0, .string t103] rfl (by (try simp only [List.map_toArray, List.map_cons, List.map_nil]); first | done | rfl | (simp only [List.length_drop, List.length_take]; rfl)) ?_; (with_reducible refine (spec_miTo.calls kj2 a0 t103 t107 _ A16.out).mono ?_); rintro e w' ⟨rfl, ⟨nd, rfl⟩⟩; refine ⟨_, rfl, ?_⟩))
          go_ret2
          exact ⟨by first | rfl | (simp [errW_none, errW_some] <;> rfl) | (simp [*, errW_none, errW_some] <;> rfl), by repeat (first | (with_reducible first | exact HB.out | apply below_alloc | apply pw_below_drewN | apply below_drew1) | exact HB.out)⟩

end Go.Proofs.Ytpdcjkiejglaiaa.Q

/- Laid by a program of this session (wip/tools/own_print.py) over the translation of this seat: contracts of the functions that the statement reaches. -/
namespace Go.Proofs.Ytpdcjkiejglaiaa.Q
open Go.RowKit Go.Proofs.YtpdcjkiejglaiaaW.PrintWords Go.Proofs.YtpdcjkiejglaiaaW.PrintLast Go.Proofs.YtpdcjkiejglaiaaW.PrintMore
attribute [local go_sem] max2_int min2_int max_two min_two max_three min_three max_four min_four   -- for this text's walks alone
set_option linter.unusedVariables false
set_option linter.unusedSimpArgs false

/-! ### laws_FnExactMilesToDigits: function 10 -/
def laws_FnExactMilesToDigits.f (k : Nat) (a0 : ByteArray) (a1 : Int) : Option (Bool) := if (a0.size : Int) > 1048576 then (some true) else ((spec_MilesToDigits.f k a0 a1).bind fun bt101 => ((impl_MilesToDigits.f a0 a1).bind fun bt103 => (if bt103.1 = bt101.1 then (if (bt103.2 != bt101.2) = true then (some false) else (some true)) else (some false))))
theorem laws_FnExactMilesToDigits.mono : ∀ a0 a1 k, LeO (laws_FnExactMilesToDigits.f k a0 a1) (laws_FnExactMilesToDigits.f (k + 1) a0 a1) := by
  intro a0 a1 k
  unfold laws_FnExactMilesToDigits.f
  repeat' first
      | (with_reducible exact spec_MilesToDigits.mono _ _ _)
      | (with_reducible exact LeO.refl _)
      | (with_reducible exact LeO.none _)
      | (with_reducible refine LeO.ite ?_ ?_)
      | (with_reducible refine LeO.bind ?_ (fun _ => ?_))
      | exact spec_MilesToDigits.mono _ _ _
      | exact LeO.none _
      | refine LeO.ite ?_ ?_
      | refine LeO.bind ?_ (fun _ => ?_)
set_option maxHeartbeats 8000000 in
set_option maxRecDepth 100000 in
theorem laws_FnExactMilesToDigits.calls (k : Nat) (a0 : ByteArray) (a1 : Int) (r : Bool) (w : World) (h : laws_FnExactMilesToDigits.f k a0 a1 = some r) :
    Calls Try.prog 10 #[.string a0, .int .i64 a1] w fun e w' => e = .returned (.bool r) ∧ Below w.heap.size w w' := by
  have HB := Aside0.mk (Below.refl w.heap.size w)
  have H : (if (a0.size : Int) > 1048576 then (some true) else ((spec_MilesToDigits.f k a0 a1).bind fun bt101 => ((impl_MilesToDigits.f a0 a1).bind fun bt103 => (if bt103.1 = bt101.1 then (if (bt103.2 != bt101.2) = true then (some false) else (some true)) else (some false))))) = some r := h
  clear h
  by_cases c3 : (a0.size : Int) > 1048576
  · rw [if_pos c3] at H
    have c3b0 : decide (1048576 < (a0.size : Int)) = true := decide_eq_true c3
    have c3b1 : decide (1048576 < a0.size) = true := decide_eq_true (by omega)
    clear c3
    obtain rfl := Option.some.inj H
    go_enter Try.func10, Try.ntmps10
    go_wp2
    go_ret
    exact ⟨by first | rfl | (simp [errW_none, errW_some] <;> rfl) | (simp [*, errW_none, errW_some] <;> rfl), by repeat (first | (with_reducible first | exact HB.out | apply below_alloc | apply pw_below_drewN | apply below_drew1) | exact HB.out)⟩
  · rw [if_neg c3] at H
    have c3b0 : decide (1048576 < (a0.size : Int)) = false := decide_eq_false c3
    have c3b1 : decide (1048576 < a0.size) = false := decide_eq_false (by omega)
    clear c3
    replace H := Option.bind_eq_some_iff.mp H
    obtain ⟨⟨t101, t102⟩, A40, H⟩ := H
    replace H : ((impl_MilesToDigits.f a0 a1).bind fun bt103 => (if bt103.1 = t101 then (if (bt103.2 != t102) = true then (some false) else (some true)) else (some false))) = some r := H
    have A4 := Aside0.mk A40
    clear A40
    replace H := Option.bind_eq_some_iff.mp H
    obtain ⟨⟨t103, t104⟩, A50, H⟩ := H
    replace H : (if t103 = t101 then (if (t104 != t102) = true then (some false) else (some true)) else (some false)) = some r := H
    have A5 := Aside0.mk A50
    clear A50
    by_cases c6 : t103 = t101
    · rw [if_pos c6] at H
      have c6b0 : (t103 == t101) = true := beq_iff_eq.mpr c6
      have c6b1 : (t103 != t101) = false := bne_eq_false_iff_eq.mpr c6
      clear c6
      by_cases c7 : (t104 != t102) = true
      · rw [if_pos c7] at H
        have c7b0 : (t104 != t102) = true := c7
        (try (have c7b1 : decide (t104 = t102) = false := by simpa using c7))
        (try (have c7b2 : (t104 == t102) = false := by simpa using c7))
        (try (have c7b3 : ¬ (t104 = t102) := by simpa using c7))
        clear c7
        obtain rfl := Option.some.inj H
        go_enter Try.func10, Try.ntmps10
        go_wp2_with (first | ((with_reducible refine gate_callee (f := 25) rfl ?_); refine goesL_ (some 15) rfl rfl Try.func25 (by kernel_rfl) rfl #[.string a0, .int .i64 a1] rfl (by (try simp only [List.map_toArray, List.map_cons, List.map_nil]); first | done | rfl | (simp only [List.length_drop, List.length_take]; rfl)) ?_; (with_reducible refine (spec_MilesToDigits.calls k a0 a1 t101 t102 _ A4.out).mono ?_); rintro e w8 ⟨rfl, hb⟩; refine ⟨_, rfl, ?_⟩; have n0_ := Aside0.mk (below_step (by repeat (first | (with_reducible first | exact HB.out | apply below_alloc | apply pw_below_drewN | apply below_drew1) | exact HB.out)) hb); clear HB; have HB := n0_; clear n0_; (try clear hb); (try clear hb2); (try clear hk); (try clear hi)) | ((with_reducible refine gate_callee (f := 26) rfl ?_); refine goesL_ (some 21) rfl rfl Try.func26 (by kernel_rfl) rfl #[.string a0, .int .i64 a1] rfl (by (try simp only [List.map_toArray, List.map_cons, List.map_nil]); first | done | rfl | (simp only [List.length_drop, List.length_take]; rfl)) ?_; (with_reducible refine (impl_MilesToDigits.calls a0 a1 t103 t104 _ A5.out).mono ?_); rintro e w9 ⟨rfl, hb⟩; refine ⟨_, rfl, ?_⟩; have n0_ := Aside0.mk (below_step (by repeat (first | (with_reducible first | exact HB.out | apply below_alloc | apply pw_below_drewN | apply below_drew1) | exact HB.out)) hb); clear HB; have HB := n0_; clear n0_; (try clear hb); (try clear hb2); (try clear hk); (try clear hi)))
        go_ret
        exact ⟨by first | rfl | (simp [errW_none, errW_some] <;> rfl) | (simp [*, errW_none, errW_some] <;> rfl), by repeat (first | (with_reducible first | exact HB.out | apply below_alloc | apply pw_below_drewN | apply below_drew1) | exact HB.out)⟩
      · rw [if_neg c7] at H
        have c7b0 : (t104 != t102) = false := by simpa using c7
        (try (have c7b1 : decide (t104 = t102) = true := by simpa using c7))
        (try (have c7b2 : (t104 == t102) = true := by simpa using c7))
        clear c7
        obtain rfl := Option.some.inj H
        go_enter Try.func10, Try.ntmps10
        go_wp2_with (first | ((with_reducible refine gate_callee (f := 25) rfl ?_); refine goesL_ (some 15) rfl rfl Try.func25 (by kernel_rfl) rfl #[.string a0, .int .i64 a1] rfl (by (try simp only [List.map_toArray, List.map_cons, List.map_nil]); first | done | rfl | (simp only [List.length_drop, List.length_take]; rfl)) ?_; (with_reducible refine (spec_MilesToDigits.calls k a0 a1 t101 t102 _ A4.out).mono ?_); rintro e w10 ⟨rfl, hb⟩; refine ⟨_, rfl, ?_⟩; have n0_ := Aside0.mk (below_step (by repeat (first | (with_reducible first | exact HB.out | apply below_alloc | apply pw_below_drewN | apply below_drew1) | exact HB.out)) hb); clear HB; have HB := n0_; clear n0_; (try clear hb); (try clear hb2); (try clear hk); (try clear hi)) | ((with_reducible refine gate_callee (f := 26) rfl ?_); refine goesL_ (some 21) rfl rfl Try.func26 (by kernel_rfl) rfl #[.string a0, .int .i64 a1] rfl (by (try simp only [List.map_toArray, List.map_cons, List.map_nil]); first | done | rfl | (simp only [List.length_drop, List.length_take]; rfl)) ?_; (with_reducible refine (impl_MilesToDigits.calls a0 a1 t103 t104 _ A5.out).mono ?_); rintro e w11 ⟨rfl, hb⟩; refine ⟨_, rfl, ?_⟩; have n0_ := Aside0.mk (below_step (by repeat (first | (with_reducible first | exact HB.out | apply below_alloc | apply pw_below_drewN | apply below_drew1) | exact HB.out)) hb); clear HB; have HB := n0_; clear n0_; (try clear hb); (try clear hb2); (try clear hk); (try clear hi)))
        go_ret
        exact ⟨by first | rfl | (simp [errW_none, errW_some] <;> rfl) | (simp [*, errW_none, errW_some] <;> rfl), by repeat (first | (with_reducible first | exact HB.out | apply below_alloc | apply pw_below_drewN | apply below_drew1) | exact HB.out)⟩
    · rw [if_neg c6] at H
      have c6b0 : (t103 == t101) = false := beq_eq_false_iff_ne.mpr c6
      have c6b1 : (t103 != t101) = true := bne_iff_ne.mpr c6
      obtain rfl := Option.some.inj H
      go_enter Try.func10, Try.ntmps10
      go_wp2_with (first | ((with_reducible refine gate_callee (f := 25) rfl ?_); refine goesL_ (some 15) rfl rfl Try.func25 (by kernel_rfl) rfl #[.string a0, .int .i64 a1] rfl (by (try simp only [List.map_toArray, List.map_cons, List.map_nil]); first | done | rfl | (simp only [List.length_drop, List.length_take]; rfl)) ?_; (with_reducible refine (spec_MilesToDigits.calls k a0 a1 t101 t102 _ A4.out).mono ?_); rintro e w12 ⟨rfl, hb⟩; refine ⟨_, rfl, ?_⟩; have n0_ := Aside0.mk (below_step (by repeat (first | (with_reducible first | exact HB.out | apply below_alloc | apply pw_below_drewN | apply below_drew1) | exact HB.out)) hb); clear HB; have HB := n0_; clear n0_; (try clear hb); (try clear hb2); (try clear hk); (try clear hi)) | ((with_reducible refine gate_callee (f := 26) rfl ?_); refine goesL_ (some 21) rfl rfl Try.func26 (by kernel_rfl) rfl #[.string a0, .int .i64 a1] rfl (by (try simp only [List.map_toArray, List.map_cons, List.map_nil]); first | done | rfl | (simp only [List.length_drop, List.length_take]; rfl)) ?_; (with_reducible refine (impl_MilesToDigits.calls a0 a1 t103 t104 _ A5.out).mono ?_); rintro e w13 ⟨rfl, hb⟩; refine ⟨_, rfl, ?_⟩; have n0_ := Aside0.mk (below_step (by repeat (first | (with_reducible first | exact HB.out | apply below_alloc | apply pw_below_drewN | apply below_drew1) | exact HB.out)) hb); clear HB; have HB := n0_; clear n0_; (try clear hb); (try clear hb2); (try clear hk); (try clear hi)))
      go_ret
      exact ⟨by first | rfl | (simp [errW_none, errW_some] <;> rfl) | (simp [*, errW_none, errW_some] <;> rfl), by repeat (first | (with_reducible first | exact HB.out | apply below_alloc | apply pw_below_drewN | apply below_drew1) | exact HB.out)⟩

/-- THE ONE PURE STATEMENT of laws_FnExactMilesToDigits: yours. -/
def laws_FnExactMilesToDigits.Pure : Prop := ∀ (a0 : ByteArray) (a1 : Int), a0.size ≤ 140737488351232 → (Lit.int .i64 a1).wf = true → ∃ k, laws_FnExactMilesToDigits.f k a0 a1 = some true
theorem laws_FnExactMilesToDigits.walk (P : laws_FnExactMilesToDigits.Pure) (a0 : ByteArray) (a1 : Int) (w : World) (w0 : a0.size ≤ 140737488351232) (w1 : (Lit.int .i64 a1).wf = true) :
    Calls Try.prog 10 #[.string a0, .int .i64 a1] w fun e w' => e = .returned (.bool true) ∧ Below w.heap.size w w' := by
  obtain ⟨k, h⟩ := P a0 a1 w0 w1
  refine (laws_FnExactMilesToDigits.calls k a0 a1 true w h).mono ?_
  rintro e w' ⟨rfl, hd⟩
  exact ⟨rfl, hd⟩

end Go.Proofs.Ytpdcjkiejglaiaa.Q

/-
  The first reading with so many different digits: the program's search and the reference's find the same.
-/
namespace Go.Proofs.Ytpdcjkiejglaiaa.Q
open Go.RowKit Go.Proofs.YtpdcjkiejglaiaaW.PrintWords Go.Proofs.YtpdcjkiejglaiaaW.PrintLast Go.Proofs.YtpdcjkiejglaiaaW.PrintMore
set_option linter.unusedVariables false
set_option linter.unusedSimpArgs false

/-- the least number with a property, in a set -/
def LeastP (C S : Nat → Prop) : Option Nat → Prop
  | some m => S m ∧ C m ∧ ∀ m', S m' → m' < m → ¬ C m'
  | none => ∀ m', S m' → ¬ C m'
theorem LeastP.congr {C C' S S' : Nat → Prop} {r : Option Nat} (h : LeastP C S r) (hs : ∀ m, S m ↔ S' m) (hc : ∀ m, S m → (C m ↔ C' m)) : LeastP C' S' r := by
  cases r with
  | some m => exact ⟨(hs m).1 h.1, (hc m h.1).1 h.2.1, fun m' a b c => h.2.2 m' ((hs m').2 a) b ((hc m' ((hs m').2 a)).2 c)⟩
  | none => exact fun m' a c => h m' ((hs m').2 a) ((hc m' ((hs m').2 a)).2 c)
theorem LeastP.unique {C S : Nat → Prop} {r r' : Option Nat} (h : LeastP C S r) (h' : LeastP C S r') : r = r' := by
  cases r with
  | some m =>
    cases r' with
    | some m' =>
      have a := h.2.2 m' h'.1
      have b := h'.2.2 m h.1
      by_cases c : m' < m
      · exact absurd h'.2.1 (a c)
      · by_cases d : m < m'
        · exact absurd h.2.1 (b d)
        · rw [show m = m' by omega]
    | none => exact absurd h.2.1 (h' m h.1)
  | none =>
    cases r' with
    | some m' => exact absurd h'.2.1 (h m' h'.1)
    | none => rfl
/-- the ten digits, one by one -/
theorem LeastP.step {C : Nat → Prop} {P v k : Nat} {r1 r2 : Option Nat} (h1 : LeastP C (fun m => m / P = 10 * v + k) r1) (hk : k < 10) (h2 : LeastP C (fun m => m / P / 10 = v ∧ 10 * v + (k + 1) ≤ m / P) r2) :
    LeastP C (fun m => m / P / 10 = v ∧ 10 * v + k ≤ m / P) (match r1 with | some x => some x | none => r2) := by
  cases r1 with
  | some m =>
    obtain ⟨a, b, c⟩ := h1
    refine ⟨⟨by rw [a]; omega, by rw [a]; exact Nat.le_refl _⟩, b, fun m' hm' hlt hc => c m' ?_ hlt hc⟩
    have := Nat.div_le_div_right (c := P) (Nat.le_of_lt hlt)
    have := hm'.2
    show m' / P = 10 * v + k
    omega
  | none =>
    cases r2 with
    | some m =>
      obtain ⟨a, b, c⟩ := h2
      refine ⟨⟨a.1, by have := a.2; omega⟩, b, fun m' hm' hlt hc => ?_⟩
      by_cases e : m' / P = 10 * v + k
      · exact h1 m' e hc
      · exact c m' ⟨hm'.1, by have := hm'.2; omega⟩ hlt hc
    | none =>
      intro m' hm' hc
      by_cases e : m' / P = 10 * v + k
      · exact h1 m' e hc
      · exact h2 m' ⟨hm'.1, by have := hm'.2; omega⟩ hc
def CD (q : Nat → Nat → Prop) (n b i : Nat) (m : Nat) : Prop := b ≤ m ∧ ∀ j, i ≤ j → j ≤ n → q j (m / 10 ^ (n - j))

/-- what the program's search finds -/
theorem fnd_least (p : ByteArray → Bool) (n b : Nat) : ∀ (d i v : Nat) (t : Bool), i + d = n → v < 10 ^ i → b / 10 ^ d ≤ v → (t = true ↔ v = b / 10 ^ d) →
    ∃ r, fnd p (tx n b) d (tx i v) t = r.map (tx n) ∧ LeastP (CD (fun j x => p (tx j x) = true) n b (i + 1)) (fun m => m / 10 ^ d = v) r := by
  intro d
  induction d with
  | zero =>
    intro i v t hd hv hb ht
    obtain rfl : i = n := by omega
    rw [Nat.pow_zero, Nat.div_one] at hb
    refine ⟨some v, rfl, by simp, ⟨hb, fun j a c => by omega⟩, fun m' hm' hlt => ?_⟩
    simp at hm'
    omega
  | succ d ih =>
    intro i v t hd hv hb ht
    have dv : ∀ m, m / 10 ^ (d + 1) = m / 10 ^ d / 10 := fun m => by rw [Nat.pow_succ, Nat.div_div_eq_div_mul]
    have hz := tx_size i v
    have hbt : bt (tx n b) ((tx i v).size : Int) = 48 + ((b / 10 ^ d % 10 : Nat) : Int) := by rw [hz, bt_tx n b i (by omega), show n - 1 - i = d by omega]
    rw [dv] at hb ht
    have loop : ∀ r k, k + r = 10 → ∃ o, fndK (fun k => if (t && decide (48 + (k : Int) < bt (tx n b) ((tx i v).size : Int))) = true then none else if p (tx i v ++ strOfNums [48 + (k : Int)]) = true then fnd p (tx n b) d (tx i v ++ strOfNums [48 + (k : Int)]) (t && (48 + (k : Int) == bt (tx n b) ((tx i v).size : Int))) else none) r k = o.map (tx n) ∧ LeastP (CD (fun j x => p (tx j x) = true) n b (i + 1)) (fun m => m / 10 ^ d / 10 = v ∧ 10 * v + k ≤ m / 10 ^ d) o := by
      intro r
      induction r with
      | zero =>
        intro k hk
        exact ⟨none, rfl, fun m' hm' => by omega⟩
      | succ r ihr =>
        intro k hk
        obtain ⟨o2, e2, l2⟩ := ihr (k + 1) (by omega)
        have one : ∃ o1, (if (t && decide (48 + (k : Int) < bt (tx n b) ((tx i v).size : Int))) = true then none else if p (tx i v ++ strOfNums [48 + (k : Int)]) = true then fnd p (tx n b) d (tx i v ++ strOfNums [48 + (k : Int)]) (t && (48 + (k : Int) == bt (tx n b) ((tx i v).size : Int))) else none) = o1.map (tx n) ∧ LeastP (CD (fun j x => p (tx j x) = true) n b (i + 1)) (fun m => m / 10 ^ d = 10 * v + k) o1 := by
          rw [hbt, ← tx_succ i v k (by omega)]
          by_cases c1 : (t && decide (48 + (k : Int) < 48 + ((b / 10 ^ d % 10 : Nat) : Int))) = true
          · rw [if_pos c1]
            simp only [Bool.and_eq_true, decide_eq_true_eq] at c1
            have hv2 := ht.1 c1.1
            refine ⟨none, rfl, fun m' hm' hc => ?_⟩
            have : m' < b := div_lt_of (P := 10 ^ d) (by rw [hm']; omega)
            have := hc.1
            omega
          · rw [if_neg c1]
            have hge : b / 10 ^ d ≤ 10 * v + k := by
              simp only [Bool.and_eq_true, decide_eq_true_eq, not_and] at c1
              by_cases htt : t = true
              · have := c1 htt; have := ht.1 htt; omega
              · have : ¬ v = b / 10 ^ d / 10 := fun h => htt (ht.2 h)
                omega
            by_cases c2 : p (tx (i + 1) (10 * v + k)) = true
            · rw [if_pos c2]
              obtain ⟨o1, e1, l1⟩ := ih (i + 1) (10 * v + k) (t && (48 + (k : Int) == 48 + ((b / 10 ^ d % 10 : Nat) : Int))) (by omega) (by rw [Nat.pow_succ]; omega) hge (by
                simp only [Bool.and_eq_true, beq_iff_eq]
                constructor
                · rintro ⟨h1, h2⟩; have := ht.1 h1; omega
                · intro h
                  have hv2 : v = b / 10 ^ d / 10 := by omega
                  exact ⟨ht.2 hv2, by omega⟩)
              refine ⟨o1, e1, l1.congr (fun m => Iff.rfl) fun m hm => ?_⟩
              constructor
              · rintro ⟨h1, h2⟩
                refine ⟨h1, fun j a c => ?_⟩
                by_cases ej : j = i + 1
                · rw [ej, show n - (i + 1) = d by omega, hm]; exact c2
                · exact h2 j (by omega) c
              · rintro ⟨h1, h2⟩
                exact ⟨h1, fun j a c => h2 j (by omega) c⟩
            · rw [if_neg c2]
              refine ⟨none, rfl, fun m' hm' hc => c2 ?_⟩
              have := hc.2 (i + 1) (Nat.le_refl _) (by omega)
              rw [show n - (i + 1) = d by omega, hm'] at this
              exact this
        obtain ⟨o1, e1, l1⟩ := one
        refine ⟨_, ?_, LeastP.step l1 (by omega) l2⟩
        simp only [fndK]
        rw [e1, e2]
        cases o1 <;> rfl
    obtain ⟨o, e, l⟩ := loop 10 0 rfl
    refine ⟨o, e, l.congr (fun m => by rw [dv]; omega) fun m _ => Iff.rfl⟩

/-- what the reference's search finds -/
theorem some_l (x0 x1 : ByteArray) (x2 x9 : Int) (k : Nat) : spec_miSome.l0 (k + 1) x0 x1 x2 x9 = if x9 < 10 then ((spec_l1Num.f k x9).bind fun t102 => (if x1.size + t102.size ≤ 9223372036854775807 then ((spec_miSome.f k x0 (x1 ++ t102) x2).bind fun t103 => (if t103.toList = ([] : List UInt8) then (spec_miSome.l0 k x0 x1 x2 (wrap64 (x9 + 1))) else (some t103))) else (none))) else (some (⟨#[]⟩ : ByteArray)) := by simp only [spec_miSome.l0]
theorem pmay_iff (a1 : Int) (n i v : Nat) : pmay a1 n (tx i v) = true ↔ cntNew (tx i v) i ≤ a1 ∧ a1 ≤ cntNew (tx i v) i + ((n : Int) - (i : Int)) := by
  unfold pmay
  rw [tx_size]
  simp only [Bool.and_eq_true, decide_eq_true_eq]
  omega

theorem some_f (x0 x1 : ByteArray) (x2 : Int) (k : Nat) : spec_miSome.f (k + 1) x0 x1 x2 = (spec_miDigits.f x1).bind fun t101 => (if 0 ≤ (x1.size : Int) then (if (x1.size : Int) ≤ (x0.size : Int) then (if (Op.bytesLess x1.toList ((x0.extract 0 ((x1.size : Int) : Int).toNat).toList)) = true then (spec_miSome.j0 k x0 x1 x2 (wrap64 ((x0.size : Int) - (x1.size : Int))) true) else (if t101 > x2 then (spec_miSome.j0 k x0 x1 x2 (wrap64 ((x0.size : Int) - (x1.size : Int))) true) else (spec_miSome.j0 k x0 x1 x2 (wrap64 ((x0.size : Int) - (x1.size : Int))) (decide ((wrap64 (t101 + (wrap64 ((x0.size : Int) - (x1.size : Int))))) < x2))))) else (none)) else (none)) := by simp only [spec_miSome.f]
theorem some_wrap (n i d : Nat) (h : i + d = n) (h9 : n ≤ 9) : wrap64 ((n : Int) - (i : Int)) = (d : Int) := by rw [wrap_id (by omega) (by omega)]; omega
theorem some_wrap2 (N : Int) (d : Nat) (h0 : 0 ≤ N) (h : N ≤ 9) (h9 : d ≤ 9) : wrap64 (N + (d : Int)) = N + (d : Int) := wrap_id (by omega) (by omega)
theorem some_start (a1 : Int) (n b i v d : Nat) (n9 : n ≤ 9) (hb : b < 10 ^ n) (hd : i + d = n) (hv : v < 10 ^ i) :
    ((v < b / 10 ^ d ∨ ¬ pmay a1 n (tx i v) = true) → Ev (fun k => spec_miSome.f k (tx n b) (tx i v) a1) ⟨#[]⟩) ∧
    (¬ v < b / 10 ^ d → pmay a1 n (tx i v) = true → ∀ t, Ev (fun k => spec_miSome.j0 k (tx n b) (tx i v) a1 (d : Int) false) t → Ev (fun k => spec_miSome.f k (tx n b) (tx i v) a1) t) := by
  have hz := tx_size i v
  have hzn := tx_size n b
  have hm := miDigits_dig (s := tx i v) (by omega) (tx_dig i v)
  rw [hz] at hm
  have hc := cntNew_le (tx i v) i
  have hp := pmay_iff a1 n i v
  have hq2 : b / 10 ^ d < 10 ^ i := by
    rw [Nat.div_lt_iff_lt_mul (Nat.pow_pos (by decide)), ← Nat.pow_add, hd]
    exact hb
  have l1 := (less_tx i v _ hv hq2).1
  have ex : (tx n b).extract 0 ((i : Int)).toNat = tx i (b / 10 ^ d) := by
    rw [Int.toNat_natCast, pre_txt n i b (by omega), show n - i = d by omega]
  have jt : ∀ x, Ev (fun k => spec_miSome.j0 k (tx n b) (tx i v) a1 x true) ⟨#[]⟩ := fun x => Ev.step (f := fun _ => some ⟨#[]⟩) (fun k => by simp only [spec_miSome.j0]; rw [if_true]) (Ev.now _)
  obtain ⟨N, hN⟩ : ∃ N, N = cntNew (tx i v) i := ⟨_, rfl⟩
  rw [← hN] at hm hc hp
  clear hN
  have body : ∀ k, spec_miSome.f (k + 1) (tx n b) (tx i v) a1 = (if decide (v < b / 10 ^ d) = true then (spec_miSome.j0 k (tx n b) (tx i v) a1 (d : Int) true) else (if N > a1 then (spec_miSome.j0 k (tx n b) (tx i v) a1 (d : Int) true) else (spec_miSome.j0 k (tx n b) (tx i v) a1 (d : Int) (decide (N + (d : Int) < a1))))) := by
    intro k
    rw [some_f, hm, Option.bind_some, hz, hzn, some_wrap n i d hd n9, some_wrap2 N d (by omega) (by omega) (by omega), ex, l1, if_pos (by omega), if_pos (by omega)]
  constructor
  · intro h
    refine Ev.step body ?_
    by_cases c : v < b / 10 ^ d
    · exact Ev.pos (decide_eq_true c) (jt _)
    · refine Ev.neg (by simp only [decide_eq_true_eq]; exact c) ?_
      by_cases c2 : N > a1
      · exact Ev.pos c2 (jt _)
      · refine Ev.neg c2 ?_
        have : N + (d : Int) < a1 := by
          rcases h with h | h
          · exact absurd h c
          · rw [hp] at h; omega
        rw [decide_eq_true this]
        exact jt _
  · intro c h t ht
    rw [hp] at h
    refine Ev.step body (Ev.neg (by simp only [decide_eq_true_eq]; exact c) (Ev.neg (by omega) ?_))
    rw [decide_eq_false (by omega)]
    exact ht

set_option maxHeartbeats 1000000 in
theorem some_least (a1 : Int) (n b : Nat) (n1 : 1 ≤ n) (n9 : n ≤ 9) (hb : b < 10 ^ n) : ∀ (d i v : Nat), i + d = n → v < 10 ^ i →
    ∃ r, Ev (fun k => spec_miSome.f k (tx n b) (tx i v) a1) (outT (Option.map (tx n) r)) ∧ LeastP (CD (fun j x => pmay a1 n (tx j x) = true) n b i) (fun m => m / 10 ^ d = v) r := by
  intro d
  induction d with
  | zero =>
    intro i v hd hv
    obtain ⟨no, go⟩ := some_start a1 n b i v 0 n9 hb hd hv
    obtain rfl : i = n := by omega
    rw [Nat.pow_zero, Nat.div_one] at no go
    by_cases c : v < b ∨ ¬ pmay a1 i (tx i v) = true
    · refine ⟨none, no c, fun m' hm' hc => ?_⟩
      simp at hm'
      subst hm'
      rcases c with c | c
      · have := hc.1; omega
      · have := hc.2 i (Nat.le_refl _) (Nat.le_refl _)
        rw [Nat.sub_self, Nat.pow_zero, Nat.div_one] at this
        exact c this
    · have c1 : ¬ v < b := fun h => c (.inl h)
      have c2 : pmay a1 i (tx i v) = true := Classical.byContradiction fun h => c (.inr h)
      refine ⟨some v, go c1 c2 _ ?_, by simp, ⟨by omega, fun j a e => ?_⟩, fun m' hm' hlt => ?_⟩
      · refine Ev.step (f := fun _ => some (tx i v)) (fun k => ?_) (Ev.now _)
        simp only [spec_miSome.j0]
        rw [if_neg (by decide), if_pos (show ((0 : Nat) : Int) = 0 from rfl)]
      · obtain rfl : j = i := by omega
        rw [Nat.sub_self, Nat.pow_zero, Nat.div_one]; exact c2
      · simp at hm'; omega
  | succ d ih =>
    intro i v hd hv
    obtain ⟨no, go⟩ := some_start a1 n b i v (d + 1) n9 hb hd hv
    have dv : ∀ m, m / 10 ^ (d + 1) = m / 10 ^ d / 10 := fun m => by rw [Nat.pow_succ, Nat.div_div_eq_div_mul]
    have hz := tx_size i v
    by_cases c : v < b / 10 ^ (d + 1) ∨ ¬ pmay a1 n (tx i v) = true
    · refine ⟨none, no c, fun m' hm' hc => ?_⟩
      rcases c with c | c
      · have : m' < b := div_lt_of (P := 10 ^ (d + 1)) (by rw [hm']; exact c)
        have := hc.1
        omega
      · have := hc.2 i (Nat.le_refl _) (by omega)
        rw [show n - i = d + 1 by omega, hm'] at this
        exact c this
    · have c1 : ¬ v < b / 10 ^ (d + 1) := fun h => c (.inl h)
      have c2 : pmay a1 n (tx i v) = true := Classical.byContradiction fun h => c (.inr h)
      have loop : ∀ (r x : Nat), x + r = 10 → ∃ o, Ev (fun k => spec_miSome.l0 k (tx n b) (tx i v) a1 (x : Int)) (outT (Option.map (tx n) o)) ∧ LeastP (CD (fun j x => pmay a1 n (tx j x) = true) n b (i + 1)) (fun m => m / 10 ^ d / 10 = v ∧ 10 * v + x ≤ m / 10 ^ d) o := by
        intro r
        induction r with
        | zero =>
          intro x hx
          refine ⟨none, Ev.step (f := fun _ => some ⟨#[]⟩) (fun k => ?_) (Ev.now _), fun m hm => by omega⟩
          rw [some_l, if_neg (by omega)]
        | succ r ihr =>
          intro x hx
          have hx10 : x < 10 := by omega
          have c10 : (x : Int) < 10 := by omega
          obtain ⟨o2, e2, l2⟩ := ihr (x + 1) (by omega)
          obtain ⟨o1, e1, l1⟩ := ih (i + 1) (10 * v + x) (by omega) (by rw [Nat.pow_succ]; omega)
          have hone : (strOfNums [48 + (x : Int)]).size = 1 := by rw [← li_length, li_nums _ (by simp; omega)]; rfl
          have cz : (tx i v).size + (strOfNums [48 + (x : Int)]).size ≤ 9223372036854775807 := by rw [hz, hone]; omega
          refine ⟨_, ?_, LeastP.step l1 hx10 l2⟩
          refine Ev.step (some_l _ _ _ _) (Ev.pos c10 (Ev.bind' (l1Num_ev x hx10) (Ev.pos cz ?_)))
          rw [← tx_succ i v x hx10]
          refine Ev.bind' e1 ?_
          cases o1 with
          | some m =>
            exact Ev.neg (fun h => by have := (toList_nil _).1 h; simp only [Option.map_some, outT, tx_size] at this; omega) (Ev.now _)
          | none =>
            refine Ev.pos ((toList_nil _).2 rfl) ?_
            rw [wrap_next x hx10]
            exact e2
      obtain ⟨o, e, l⟩ := loop 10 0 rfl
      refine ⟨o, go c1 c2 _ ?_, l.congr (fun m => by rw [dv]; omega) fun m hm => ?_⟩
      · refine Ev.step (fun k => ?_) e
        simp only [spec_miSome.j0]
        rw [if_neg (by decide), if_neg (by omega)]
        first | done | rfl
      · constructor
        · rintro ⟨h1, h2⟩
          refine ⟨h1, fun j a e' => ?_⟩
          by_cases ej : j = i
          · rw [ej, show n - i = d + 1 by omega, dv, hm.1]; exact c2
          · exact h2 j (by omega) e'
        · rintro ⟨h1, h2⟩
          exact ⟨h1, fun j a e' => h2 j (by omega) e'⟩

/-- there is one with so many different digits: zeros, then 1, 2, .. -/
def wit : Nat → Nat
  | 0 => 0 | 1 => 0 | 2 => 1 | 3 => 12 | 4 => 123 | 5 => 1234 | 6 => 12345 | 7 => 123456 | 8 => 1234567 | _ => 12345678
theorem wit_ok : ∀ n, n < 10 → ∀ a, a < 10 → 1 ≤ a → a ≤ n → wit a / 10 ^ n = 0 ∧ ∀ j, j < n + 1 → pmay (a : Int) n (tx j (wit a / 10 ^ (n - j))) = true := by decide +kernel

end Go.Proofs.Ytpdcjkiejglaiaa.Q

namespace Go.Proofs.Ytpdcjkiejglaiaa.Pure
open Go.RowKit Go.Proofs.Ytpdcjkiejglaiaa.Q Go.Proofs.YtpdcjkiejglaiaaW.PrintWords Go.Proofs.YtpdcjkiejglaiaaW.PrintLast
set_option linter.unusedVariables false

theorem div_pow_zero (n m : Nat) : m / 10 ^ n = 0 ↔ m < 10 ^ n := by
  rw [Nat.div_eq_zero_iff]
  have := Nat.pow_pos (n := n) (show 0 < 10 by decide)
  omega
/-- from each beginning on, both searches find the same -/
theorem both (a1 : Int) (n b : Nat) (n1 : 1 ≤ n) (n9 : n ≤ 9) (hb : b < 10 ^ n) (h1 : 1 ≤ a1) (hn : a1 ≤ n) :
    ∃ r, fnd (pmay a1 n) (tx n b) n ⟨#[]⟩ true = Option.map (tx n) r ∧ Ev (fun k => spec_miSome.f k (tx n b) ⟨#[]⟩ a1) (outT (Option.map (tx n) r)) ∧
      LeastP (CD (fun j x => pmay a1 n (tx j x) = true) n b 1) (fun m => m / 10 ^ n = 0) r := by
  have hb0 : b / 10 ^ n = 0 := (div_pow_zero n b).2 hb
  obtain ⟨r, e, l⟩ := fnd_least (pmay a1 n) n b n 0 0 true (by omega) (by simp) (by rw [hb0]; exact Nat.le_refl _) (by rw [hb0]; simp)
  obtain ⟨r', e', l'⟩ := some_least a1 n b n1 n9 hb n 0 0 (by omega) (by simp)
  have l2 := l'.congr (C' := CD (fun j x => pmay a1 n (tx j x) = true) n b 1) (fun m => Iff.rfl) fun m hm => by
    constructor
    · rintro ⟨p1, p2⟩; exact ⟨p1, fun j a c => p2 j (by omega) c⟩
    · rintro ⟨p1, p2⟩
      refine ⟨p1, fun j a c => ?_⟩
      by_cases e0 : j = 0
      · subst e0
        rw [pmay_iff]
        show (0 : Int) ≤ a1 ∧ a1 ≤ 0 + ((n : Int) - ((0 : Nat) : Int))
        omega
      · exact p2 j (by omega) c
  have : r = r' := LeastP.unique l l2
  subst this
  exact ⟨r, e, e', l⟩
theorem val_tx (n m : Nat) (h : m < 10 ^ n) : val (li (tx n m)) = m := by rw [li_tx, val_dl, Nat.mod_eq_of_lt h]
theorem mod_val (n v m : Nat) (hv : v < 10 ^ n) (hm : m < 10 ^ n) : (val (li (tx n m)) + 10 ^ n - val (li (tx n v))) % 10 ^ n = (m + 10 ^ n - v) % 10 ^ n := by rw [val_tx n m hm, val_tx n v hv]
theorem l1In_ev (a1 : Int) (n : Int) : spec_l1In.f a1 1 n = some (decide (1 ≤ a1) && decide (a1 ≤ n)) := by
  unfold spec_l1In.f
  by_cases h : a1 ≥ 1
  · rw [if_pos h]; simp [h]
  · rw [if_neg h]; simp; omega
theorem none_found (a0 : ByteArray) (a1 : Int) (v : Nat) (n1 : 1 ≤ a0.size) (hv : v < 10 ^ a0.size) (e0 : a0 = tx a0.size v) (h : (a0.size : Int) < a1) : mdFound a0 a1 = none := by
  have key : ∀ b, b < 10 ^ a0.size → fnd (pmay a1 a0.size) (tx a0.size b) a0.size ⟨#[]⟩ true = none := by
    intro b hb
    have hb0 : b / 10 ^ a0.size = 0 := (div_pow_zero _ b).2 hb
    obtain ⟨r, e, l⟩ := fnd_least (pmay a1 a0.size) a0.size b a0.size 0 0 true (by omega) (by simp) (by rw [hb0]; exact Nat.le_refl _) (by rw [hb0]; simp)
    have e' : fnd (pmay a1 a0.size) (tx a0.size b) a0.size ⟨#[]⟩ true = Option.map (tx a0.size) r := e
    rw [e']
    cases r with
    | none => rfl
    | some m =>
      have : pmay a1 a0.size (tx a0.size (m / 10 ^ (a0.size - a0.size))) = true := l.2.1.2 a0.size (by omega) (Nat.le_refl _)
      rw [pmay_iff] at this
      have hc := cntNew_le (tx a0.size (m / 10 ^ (a0.size - a0.size))) a0.size
      omega
  unfold mdFound
  rw [key 0 (Nat.pow_pos (by decide))]
  have := key v hv
  rw [← e0] at this
  rw [this]
  rfl

theorem FnExactMilesToDigits : laws_FnExactMilesToDigits.Pure := by
  intro a0 a1 h0 _
  apply Ev.rounds
  unfold laws_FnExactMilesToDigits.f
  by_cases c0 : (a0.size : Int) > 1048576
  · exact Ev.pos c0 (Ev.now _)
  refine Ev.neg c0 ?_
  have hi : impl_MilesToDigits.f a0 a1 = some (mdRes a0 a1) := by unfold impl_MilesToDigits.f; rw [if_pos h0]
  have hs : Ev (fun k => spec_MilesToDigits.f k a0 a1) (mdRes a0 a1) := by
    have js : Ev (fun k => spec_MilesToDigits.j0 k a0 a1 true) (0, false) := Ev.step (f := fun _ => some (0, false)) (fun k => by simp only [spec_MilesToDigits.j0]; rw [if_true]) (Ev.now _)
    unfold spec_MilesToDigits.f
    by_cases g : good a0 = true
    · refine Ev.bind' (miGood_ev a0 h0) (Ev.pos g ?_)
      obtain ⟨n1, n9, _⟩ := good_at g
      obtain ⟨v, hv, e0, _⟩ := good_tx g
      rw [l1In_ev]
      refine Ev.bind' (Ev.now _) ?_
      by_cases c : 1 ≤ a1 ∧ a1 ≤ (a0.size : Int)
      · rw [decide_eq_true c.1, decide_eq_true c.2]
        obtain ⟨r1, f1, s1, l1⟩ := both a1 a0.size v n1 n9 hv c.1 c.2
        obtain ⟨r2, f2, s2, l2⟩ := both a1 a0.size 0 n1 n9 (Nat.pow_pos (by decide)) c.1 c.2
        rw [← e0] at f1 s1
        have hF : mdFound a0 a1 = (Option.map (tx a0.size) r1).or (Option.map (tx a0.size) r2) := by unfold mdFound; rw [f1, f2]
        have hres : ∀ m, m < 10 ^ a0.size → mdFound a0 a1 = some (tx a0.size m) → mdRes a0 a1 = ((((m + 10 ^ a0.size - v) % 10 ^ a0.size : Nat) : Int), true) := by
          intro m hm hf
          unfold mdRes
          rw [if_pos ⟨g, c.1, by omega⟩, hf]
          have := mod_val a0.size v m hv hm
          rw [← e0] at this
          show ((((val (li (tx a0.size m)) + 10 ^ a0.size - val (li a0)) % 10 ^ a0.size : Nat) : Int), true) = _
          rw [this]
        have mil : ∀ m, m < 10 ^ a0.size → Ev (fun k => spec_miTo.f k a0 (tx a0.size m)) (((m + 10 ^ a0.size - v) % 10 ^ a0.size : Nat) : Int) := by
          intro m hm
          have := miTo_ev a0.size v m n9 hv hm
          rw [← e0] at this
          exact this
        refine Ev.step (f := fun k => (spec_miSome.f k a0 (⟨#[]⟩ : ByteArray) a1).bind fun t103 => (if t103.toList = ([] : List UInt8) then ((spec_miText.f k (a0.size : Int) 0).bind fun t104 => ((spec_miSome.f k t104 (⟨#[]⟩ : ByteArray) a1).bind fun t105 => ((spec_miTo.f k a0 t105).bind fun t106 => (some (t106, true))))) else ((spec_miTo.f k a0 t103).bind fun t107 => (some (t107, true))))) (fun k => by simp only [spec_MilesToDigits.j0]; rw [if_neg (by decide)]) (Ev.bind' s1 ?_)
        cases r1 with
        | some m =>
          have hm : m < 10 ^ a0.size := (div_pow_zero _ m).1 l1.1
          refine Ev.neg (fun h => by have := (toList_nil _).1 h; simp only [Option.map_some, outT, tx_size] at this; omega) ?_
          rw [hres m hm (by rw [hF]; rfl)]
          exact Ev.bind' (mil m hm) (Ev.now _)
        | none =>
          refine Ev.pos ((toList_nil _).2 rfl) ?_
          cases r2 with
          | none =>
            exfalso
            obtain ⟨A, hA⟩ : ∃ A : Nat, a1 = (A : Int) := ⟨a1.toNat, by omega⟩
            subst hA
            obtain ⟨w0, w1⟩ := wit_ok a0.size (by omega) A (by omega) (by omega) (by omega)
            exact l2 (wit A) w0 ⟨Nat.zero_le _, fun j a e => w1 j (by omega)⟩
          | some m =>
            have hm : m < 10 ^ a0.size := (div_pow_zero _ m).1 l2.1
            rw [hres m hm (by rw [hF]; rfl)]
            have ht := miText_ev a0.size 0 n9 (by omega)
            exact Ev.bind' ht (Ev.bind' s2 (Ev.bind' (mil m hm) (Ev.now _)))
      · have : (decide (1 ≤ a1) && decide (a1 ≤ (a0.size : Int))) = false := by
          rw [Bool.and_eq_false_iff, decide_eq_false_iff_not, decide_eq_false_iff_not]
          by_cases d : 1 ≤ a1
          · exact .inr fun h => c ⟨d, h⟩
          · exact .inl d
        rw [this]
        refine Ev.eq js ?_
        unfold mdRes
        by_cases d : good a0 = true ∧ 1 ≤ a1 ∧ a1 ≤ 9
        · rw [if_pos d, none_found a0 a1 v n1 hv e0 (by have := d.2; omega)]
        · rw [if_neg d]
    · refine Ev.bind' (miGood_ev a0 h0) (Ev.neg g (Ev.eq js ?_))
      unfold mdRes
      rw [if_neg fun h => g h.1]
  refine Ev.bind' hs ?_
  rw [hi]
  refine Ev.bind' (Ev.now _) (Ev.pos rfl (Ev.neg ?_ (Ev.now _)))
  simp

end Go.Proofs.Ytpdcjkiejglaiaa.Pure
