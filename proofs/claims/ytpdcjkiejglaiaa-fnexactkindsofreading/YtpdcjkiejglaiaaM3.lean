/-
  What 'may' and 'isOf' of the program return, in plain words.
-/
import Derived.Test.YtpdcjkiejglaiaaM2
import Derived.Test.YtpdcjkiejglaiaaE3
import Derived.Test.YtpdcjkiejglaiaaE1
import Derived.Test.YtpdcjkiejglaiaaQf37
namespace Go.Proofs.Ytpdcjkiejglaiaa.Q
open Go.RowKit Go.Proofs.YtpdcjkiejglaiaaW.PrintWords Go.Proofs.YtpdcjkiejglaiaaW.PrintLast Go.Proofs.YtpdcjkiejglaiaaW.PrintMore
set_option linter.unusedVariables false
set_option linter.unusedSimpArgs false

theorem newTo_iff (s : ByteArray) (i : Nat) : ∀ k, newTo s i k = true ↔ ∀ j : Nat, j < k → bt s j ≠ bt s i
  | 0 => by simp [newTo]
  | k + 1 => by
    simp only [newTo, Bool.and_eq_true, newTo_iff s i k, bne_iff_ne]
    constructor
    · rintro ⟨h1, h2⟩ j hj
      by_cases e : j = k
      · rw [e]; exact h2
      · exact h1 j (by omega)
    · intro h
      exact ⟨fun j hj => h j (by omega), h k (by omega)⟩
theorem idx_neg : ∀ (l : List UInt8) (c : UInt8), Lib.indexByte l c < 0 ↔ c ∉ l
  | [], c => by simp [Lib.indexByte]
  | b :: l, c => by
    have ih := idx_neg l c
    have hg := Lib.indexByte_ge l c
    unfold Lib.indexByte
    by_cases hb : b = c
    · subst hb; simp
    · have hb' : (b == c) = false := by simpa using hb
      rw [hb']
      simp only [Bool.false_eq_true, if_false]
      by_cases h1 : Lib.indexByte l c = -1
      · rw [h1]
        simp only [beq_self_eq_true, if_true]
        rw [h1] at ih
        simp only [List.mem_cons, not_or]
        constructor
        · intro _; exact ⟨fun e => hb e.symm, ih.1 (by decide)⟩
        · intro _; decide
      · rw [if_neg (by simpa using h1)]
        simp only [List.mem_cons, not_or]
        constructor
        · intro h; omega
        · rintro ⟨_, h⟩; have := ih.2 h; omega
theorem idx_new (p : ByteArray) (i : Nat) (hi : i < p.size) : decide (Lib.indexByte (p.extract 0 i).data.toList (bt p i).toNat.toUInt8 < 0) = newTo p i i := by
  rw [Bool.eq_iff_iff, decide_eq_true_eq, idx_neg, newTo_iff, Lib.extract_data]
  have hb : ∀ j : Nat, j < p.size → ∃ h : j < p.data.toList.length, ((p.data.toList[j]'h).toNat : Int) = bt p j := by
    intro j hj
    have h' : j < p.data.toList.length := by rw [Array.length_toList]; exact hj
    exact ⟨h', bt_at p (j : Int) hj⟩
  have hc : ((bt p i).toNat.toUInt8.toNat : Int) = bt p i := by
    have := bt_range p i
    simp [Nat.toUInt8]
    omega
  constructor
  · intro h j hj e
    apply h
    obtain ⟨h1, h2⟩ := hb j (by omega)
    have : p.data.toList[j]'h1 = (bt p i).toNat.toUInt8 := toNat_inj (by rw [h2, e, hc])
    rw [← this]
    rw [List.drop_zero, Nat.sub_zero, List.mem_iff_getElem]
    exact ⟨j, by rw [List.length_take]; omega, by simp⟩
  · intro h hm
    rw [List.drop_zero, Nat.sub_zero, List.mem_iff_getElem] at hm
    obtain ⟨j, hj, e⟩ := hm
    rw [List.length_take] at hj
    rw [List.getElem_take] at e
    obtain ⟨h1, h2⟩ := hb j (by omega)
    exact h j (by omega) (by rw [← h2, e, hc])

/-- a digit upside down -/
def up (x : Int) : Int := if x = 48 ∨ x = 49 ∨ x = 56 then x else if x = 54 then 57 else if x = 57 then 54 else 0
theorem upside_ev (x : Int) : Ev (fun k => impl_upside.f k x) (up x) := by
  refine Ev.step (f := fun _ => some (up x)) (fun k => ?_) (Ev.now _)
  unfold impl_upside.f up
  simp only [impl_upside.j0]
  by_cases h1 : x = 48
  · simp [h1]
  · by_cases h2 : x = 49
    · simp [h2]
    · by_cases h3 : x = 56
      · simp [h3]
      · by_cases h4 : x = 54
        · subst h4; decide
        · by_cases h5 : x = 57
          · subst h5; decide
          · simp [h1, h2, h3, h4, h5]

/-- may the digit at place i of a text stand there, in a reading of a kind with n digits? -/
def mayAt (c : Int) (p : ByteArray) (n i : Nat) : Bool :=
  if c = 97 then bt p i == bt p 0
  else if c = 109 then decide (i < n - 1 - i) || (bt p ((n - 1 - i : Nat) : Int) == bt p i)
  else if c = 117 then up (bt p i) != 0 && (decide (i < n - 1 - i) || (bt p ((n - 1 - i : Nat) : Int) == up (bt p i)))
  else if c = 114 then (decide (i = 0) || decide (bt p ((i - 1 : Nat) : Int) < bt p i)) && decide (bt p i - 48 + ((n - 1 - i : Nat) : Int) ≤ 9)
  else if c = 102 then (decide (i = 0) || decide (bt p i < bt p ((i - 1 : Nat) : Int))) && decide (((n - 1 - i : Nat) : Int) ≤ bt p i - 48)
  else newTo p i i

theorem may_ev (c : Int) (p : ByteArray) (n i : Nat) (hi : p.size = i + 1) (hn : i + 1 ≤ n) (hn9 : n ≤ 9) (hd : ∀ j : Nat, j < p.size → 48 ≤ bt p j ∧ bt p j ≤ 57) :
    Ev (fun k => impl_may.f k c p (n : Int)) (mayAt c p n i) := by
  unfold impl_may.f mayAt
  have e1 : wrap64 ((p.size : Int) - 1) = (i : Int) := by rw [wrap_id (by omega) (by omega)]; omega
  have e2 : wrap64 (wrap64 ((n : Int) - 1) - (i : Int)) = ((n - 1 - i : Nat) : Int) := by rw [wrap_id (i := (n : Int) - 1) (by omega) (by omega), wrap_id (by omega) (by omega)]; omega
  have e3 : wrap64 ((n : Int) - (p.size : Int)) = ((n - 1 - i : Nat) : Int) := by rw [wrap_id (by omega) (by omega)]; omega
  have hdi := hd i (by omega)
  have e4 : (bt p i - 48) % 256 = bt p i - 48 := by omega
  simp only [e1, e2, e3, e4]
  refine Ev.pos (by omega) (Ev.pos (by omega) ?_)
  by_cases h1 : c = 97
  · refine Ev.pos h1 ?_
    rw [if_pos h1]
    exact Ev.pos (by omega) (Ev.now _)
  refine Ev.neg h1 ?_
  rw [if_neg h1]
  by_cases h2 : c = 109
  · refine Ev.pos h2 ?_
    rw [if_pos h2]
    by_cases h : i < n - 1 - i
    · exact Ev.pos (by omega) (Ev.eq (Ev.now _) (by simp [h]))
    · exact Ev.neg (by omega) (Ev.pos (by omega) (Ev.pos (by omega) (Ev.eq (Ev.now _) (by simp [h]))))
  refine Ev.neg h2 ?_
  rw [if_neg h2]
  by_cases h3 : c = 117
  · refine Ev.pos h3 (Ev.bind' (upside_ev _) ?_)
    rw [if_pos h3]
    by_cases hu : up (bt p i) = 0
    · exact Ev.pos hu (Ev.eq (Ev.now _) (by simp [hu]))
    · refine Ev.neg hu ?_
      have hu' : (up (bt p i) != 0) = true := by simpa using hu
      rw [hu', Bool.true_and]
      by_cases h : i < n - 1 - i
      · exact Ev.pos (by omega) (Ev.eq (Ev.now _) (by simp [h]))
      · exact Ev.neg (by omega) (Ev.pos (by omega) (Ev.pos (by omega) (Ev.bind' (upside_ev _) (Ev.eq (Ev.now _) (by simp [h])))))
  refine Ev.neg h3 ?_
  rw [if_neg h3]
  by_cases h4 : c = 114
  · refine Ev.pos h4 ?_
    rw [if_pos h4]
    by_cases h : i = 0
    · refine Ev.pos (by omega) (Ev.eq (Ev.now _) ?_)
      rw [wrap_id (by omega) (by omega)]; simp [h]
    · refine Ev.neg (by omega) ?_
      have e5 : wrap64 ((i : Int) - 1) = ((i - 1 : Nat) : Int) := by rw [wrap_id (by omega) (by omega)]; omega
      simp only [e5]
      refine Ev.pos (by omega) (Ev.pos (by omega) ?_)
      by_cases hl : bt p ((i - 1 : Nat) : Int) < bt p i
      · refine Ev.pos hl (Ev.eq (Ev.now _) ?_)
        rw [wrap_id (by omega) (by omega)]; simp [h, hl]
      · exact Ev.neg hl (Ev.eq (Ev.now _) (by simp [h, hl]))
  refine Ev.neg h4 ?_
  rw [if_neg h4]
  by_cases h5 : c = 102
  · refine Ev.pos h5 ?_
    rw [if_pos h5]
    by_cases h : i = 0
    · refine Ev.pos (by omega) (Ev.eq (Ev.now _) ?_)
      simp [h]
    · refine Ev.neg (by omega) ?_
      have e5 : wrap64 ((i : Int) - 1) = ((i - 1 : Nat) : Int) := by rw [wrap_id (by omega) (by omega)]; omega
      simp only [e5]
      refine Ev.pos (by omega) (Ev.pos (by omega) ?_)
      by_cases hl : bt p i < bt p ((i - 1 : Nat) : Int)
      · refine Ev.pos hl (Ev.eq (Ev.now _) ?_)
        simp [h, hl]
      · exact Ev.neg hl (Ev.eq (Ev.now _) (by simp [h, hl]))
  refine Ev.neg h5 (Ev.pos (by omega) ?_)
  rw [if_neg h5]
  unfold strings_IndexByte.f
  simp only [Option.bind_some]
  refine Ev.eq (Ev.now _) ?_
  rw [show ((i : Int)).toNat = i by omega]
  exact idx_new p i (by omega)

/-- what 'may' asks of a text's first digits it asks of the text -/
theorem newTo_extract (s : ByteArray) (m : Nat) (hm : m ≤ s.size) (i : Nat) (hi : i < m) : ∀ k, k ≤ i → newTo (s.extract 0 m) i k = newTo s i k
  | 0, _ => rfl
  | k + 1, h => by
    simp only [newTo]
    rw [newTo_extract s m hm i hi k (by omega), bt_extract0 s m hm k (by omega), bt_extract0 s m hm i hi]
theorem mayAt_extract (c : Int) (s : ByteArray) (n i : Nat) (hi : i < s.size) (hn : i + 1 ≤ n) : mayAt c (s.extract 0 (i + 1)) n i = mayAt c s n i := by
  unfold mayAt
  have b := fun (j : Nat) (hj : j < i + 1) => bt_extract0 s (i + 1) (by omega) j hj
  have b0 := b 0 (by omega)
  rw [b i (by omega), b (i - 1) (by omega), newTo_extract s (i + 1) (by omega) i (by omega) i (by omega)]
  rw [show ((0 : Nat) : Int) = 0 from rfl] at b0
  rw [b0]
  by_cases h : i < n - 1 - i
  · simp [h]
  · rw [b (n - 1 - i) (by omega)]

theorem isOf_ev (c : Int) (s : ByteArray) (h9 : s.size ≤ 9) (hd : ∀ j : Nat, j < s.size → 48 ≤ bt s j ∧ bt s j ≤ 57) :
    Ev (fun k => impl_isOf.f k c s) (allF (mayAt c s s.size) s.size 0) := by
  unfold impl_isOf.f
  have stop : Ev (fun k => impl_isOf.l0 k c s (s.size : Int) ((s.size : Nat) : Int)) true := by
    refine Ev.step (f := fun _ => some true) (fun k => ?_) (Ev.now _)
    simp only [impl_isOf.l0]
    rw [if_neg (by omega)]
  have m : ∀ i, i < s.size → Ev (fun k => impl_may.f k c (s.extract 0 (i + 1)) (s.size : Int)) (mayAt c s s.size i) := by
    intro i hi
    have := may_ev c (s.extract 0 (i + 1)) s.size i (size_extract0 _ _ (by omega)) (by omega) h9 (fun j hj => by
      rw [size_extract0 _ _ (by omega)] at hj
      rw [bt_extract0 _ _ (by omega) _ hj]
      exact hd j (by omega))
    rwa [mayAt_extract c s s.size i hi (by omega)] at this
  have round : ∀ i, i < s.size → ∀ (q : Bool), (if mayAt c s s.size i = true then Ev (fun k => impl_isOf.l0 k c s (s.size : Int) ((i + 1 : Nat) : Int)) q else q = false) → Ev (fun k => impl_isOf.l0 k c s (s.size : Int) (i : Int)) q := by
    intro i hi q hq
    have e1 : wrap64 ((i : Int) + 1) = ((i + 1 : Nat) : Int) := by rw [wrap_id (by omega) (by omega)]; rfl
    refine Ev.step (f := fun k => (impl_may.f k c (s.extract 0 (i + 1)) (s.size : Int)).bind fun t => if t = true then impl_isOf.l0 k c s (s.size : Int) ((i + 1 : Nat) : Int) else some false) (fun k => ?_) ?_
    · simp only [impl_isOf.l0]
      rw [if_pos (by omega), e1, if_pos (by omega), if_pos (by omega)]
      rfl
    · refine Ev.bind' (m i hi) ?_
      by_cases h : mayAt c s s.size i = true
      · rw [if_pos h] at hq
        exact Ev.pos h hq
      · rw [if_neg h] at hq
        exact Ev.neg h (hq ▸ Ev.now _)
  refine Ev.eq (Ev_all (l := fun k i => impl_isOf.l0 k c s (s.size : Int) (i : Int)) (p := mayAt c s s.size) stop ?_ ?_ s.size 0 (by omega)) (by simp)
  · intro i hi hp q hq
    exact round i hi q (by rw [if_pos hp]; exact hq)
  · intro i hi hp
    exact round i hi false (by rw [if_neg (by simp [hp])])

end Go.Proofs.Ytpdcjkiejglaiaa.Q
