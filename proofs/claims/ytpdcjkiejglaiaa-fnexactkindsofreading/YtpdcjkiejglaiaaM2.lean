/-
  Readings: both texts ask the same of a text: one to nine digits. And a lemma on loops that ask something of every place.
-/
import Derived.Test.YtpdcjkiejglaiaaM1
import Derived.Test.YtpdcjkiejglaiaaQf31
import Derived.Test.YtpdcjkiejglaiaaQf34
import Derived.Test.YtpdcjkiejglaiaaQf36
namespace Go.Proofs.Ytpdcjkiejglaiaa.Q
open Go.RowKit Go.Proofs.YtpdcjkiejglaiaaW.PrintWords Go.Proofs.YtpdcjkiejglaiaaW.PrintLast Go.Proofs.YtpdcjkiejglaiaaW.PrintMore
set_option linter.unusedVariables false
set_option linter.unusedSimpArgs false

def allF (p : Nat → Bool) : Nat → Nat → Bool
  | 0, _ => true
  | d + 1, i => p i && allF p d (i + 1)
theorem allF_iff (p : Nat → Bool) : ∀ d i, allF p d i = true ↔ ∀ j, i ≤ j → j < i + d → p j = true
  | 0, i => by simp [allF]; intro j h1 h2; omega
  | d + 1, i => by
    simp only [allF, Bool.and_eq_true, allF_iff p d (i + 1)]
    constructor
    · rintro ⟨h1, h2⟩ j hj1 hj2
      by_cases e : j = i
      · rw [e]; exact h1
      · exact h2 j (by omega) (by omega)
    · intro h
      exact ⟨h i (by omega) (by omega), fun j h1 h2 => h j (by omega) (by omega)⟩
theorem Ev_all {l : Nat → Nat → Option Bool} {p : Nat → Bool} {n : Nat} {r : Bool} (stop : Ev (fun k => l k n) r)
    (yes : ∀ i, i < n → p i = true → ∀ q, Ev (fun k => l k (i + 1)) q → Ev (fun k => l k i) q) (no : ∀ i, i < n → p i = false → Ev (fun k => l k i) false) :
    ∀ d i, i + d = n → Ev (fun k => l k i) (allF p d i && r)
  | 0, i, h => by
    obtain rfl : i = n := by omega
    simpa [allF] using stop
  | d + 1, i, h => by
    have ih := Ev_all stop yes no d (i + 1) (by omega)
    simp only [allF]
    cases hp : p i with
    | true => simpa using yes i (by omega) hp _ ih
    | false => simpa using no i (by omega) hp

theorem Ev_all_from {l : Nat → Nat → Option Bool} {p : Nat → Bool} {n m : Nat} {r : Bool} (stop : Ev (fun k => l k n) r)
    (yes : ∀ i, m ≤ i → i < n → p i = true → ∀ q, Ev (fun k => l k (i + 1)) q → Ev (fun k => l k i) q) (no : ∀ i, m ≤ i → i < n → p i = false → Ev (fun k => l k i) false) :
    ∀ d i, m ≤ i → i + d = n → Ev (fun k => l k i) (allF p d i && r)
  | 0, i, _, h => by
    obtain rfl : i = n := by omega
    simpa [allF] using stop
  | d + 1, i, hm, h => by
    have ih := Ev_all_from stop yes no d (i + 1) (by omega) (by omega)
    simp only [allF]
    cases hp : p i with
    | true => simpa using yes i hm (by omega) hp _ ih
    | false => simpa using no i hm (by omega) hp

/-- are all bytes digits? -/
def digAt (s : ByteArray) (i : Nat) : Bool := decide (48 ≤ bt s i) && decide (bt s i ≤ 57)
def isDig (s : ByteArray) : Bool := allF (digAt s) s.size 0
theorem isDig_at {s : ByteArray} (h : isDig s = true) (i : Nat) (hi : i < s.size) : 48 ≤ bt s i ∧ bt s i ≤ 57 := by
  have := (allF_iff _ _ _).1 h i (by omega) (by omega)
  simpa [digAt] using this

theorem areDigits_ev (s : ByteArray) (lo hi : Int) (hs : s.size ≤ 140737488351232) :
    Ev (fun k => impl_areDigits.f k s lo hi) (isDig s && (decide (lo ≤ (s.size : Int)) && decide ((s.size : Int) ≤ hi))) := by
  have stop : Ev (fun k => impl_areDigits.l0 k s lo hi (s.size : Int) ((s.size : Nat) : Int)) (decide (lo ≤ (s.size : Int)) && decide ((s.size : Int) ≤ hi)) := by
    refine Ev.step (f := fun _ => some (decide (lo ≤ (s.size : Int)) && decide ((s.size : Int) ≤ hi))) (fun k => ?_) (Ev.now _)
    simp only [impl_areDigits.l0]
    rw [if_neg (by omega)]
    unfold impl_within.f
    by_cases h : lo ≤ (s.size : Int)
    · rw [if_pos h]; simp [h]
    · rw [if_neg h]; simp [h]
  refine Ev_all (l := fun k i => impl_areDigits.l0 k s lo hi (s.size : Int) (i : Int)) (p := digAt s) stop ?_ ?_ s.size 0 (by omega)
  · intro i hi' hp q hq
    refine Ev.step (fun k => ?_) hq
    simp only [digAt, Bool.and_eq_true, decide_eq_true_eq] at hp
    simp only [impl_areDigits.l0]
    rw [if_pos (by omega), if_pos (by omega), if_pos (by omega), if_neg (by omega), if_neg (by omega), wrap_id (by omega) (by omega)]
    rfl
  · intro i hi' hp
    refine Ev.step (f := fun _ => some false) (fun k => ?_) (Ev.now _)
    simp only [digAt, Bool.and_eq_false_iff, decide_eq_false_iff_not] at hp
    simp only [impl_areDigits.l0]
    rw [if_pos (by omega), if_pos (by omega), if_pos (by omega)]
    by_cases h : bt s (i : Int) < 48
    · rw [if_pos h]
    · rw [if_neg h, if_pos (by omega)]

def good (s : ByteArray) : Bool := isDig s && (decide ((1 : Int) ≤ (s.size : Int)) && decide ((s.size : Int) ≤ 9))
theorem good_at {s : ByteArray} (h : good s = true) : 1 ≤ s.size ∧ s.size ≤ 9 ∧ ∀ i : Nat, i < s.size → 48 ≤ bt s i ∧ bt s i ≤ 57 := by
  simp only [good, Bool.and_eq_true, decide_eq_true_eq] at h
  exact ⟨by omega, by omega, isDig_at h.1⟩
theorem IsReading_ev (s : ByteArray) (hs : s.size ≤ 140737488351232) : Ev (fun k => impl_IsReading.f k s) (good s) := by
  unfold impl_IsReading.f
  exact Ev.bind (areDigits_ev s 1 9 hs) (Ev.now _)
theorem miGood_ev (s : ByteArray) (hs : s.size ≤ 140737488351232) : Ev (fun k => spec_miGood.f k s) (good s) := by
  unfold spec_miGood.f
  have h1 : spec_l1In.f (s.size : Int) 1 9 = some (decide ((1 : Int) ≤ (s.size : Int)) && decide ((s.size : Int) ≤ 9)) := by
    unfold spec_l1In.f
    by_cases h : (s.size : Int) ≥ 1
    · rw [if_pos h]; simp [h]
    · rw [if_neg h]; simp; omega
  simp only [h1, Option.bind_some]
  by_cases h2 : (decide ((1 : Int) ≤ (s.size : Int)) && decide ((s.size : Int) ≤ 9)) = true
  · refine Ev.pos h2 ?_
    have stop : Ev (fun k => spec_miGood.l0 k s ((s.size : Nat) : Int)) true := by
      refine Ev.step (f := fun _ => some true) (fun k => ?_) (Ev.now _)
      simp only [spec_miGood.l0]
      rw [if_neg (by omega)]
    refine Ev.eq (Ev_all (l := fun k i => spec_miGood.l0 k s (i : Int)) (p := digAt s) stop ?_ ?_ s.size 0 (by omega)) (by simp [good, isDig, h2])
    · intro i hi' hp q hq
      refine Ev.step (fun k => ?_) hq
      simp only [digAt, Bool.and_eq_true, decide_eq_true_eq] at hp
      simp only [spec_miGood.l0]
      rw [if_pos (by omega), if_pos (by omega), if_neg (by omega), if_neg (by omega), wrap_id (by omega) (by omega)]
      rfl
    · intro i hi' hp
      refine Ev.step (f := fun _ => some false) (fun k => ?_) (Ev.now _)
      simp only [digAt, Bool.and_eq_false_iff, decide_eq_false_iff_not] at hp
      simp only [spec_miGood.l0]
      rw [if_pos (by omega), if_pos (by omega)]
      by_cases h : bt s (i : Int) < 48
      · rw [if_pos h]
      · rw [if_neg h, if_pos (by omega)]
  · refine Ev.neg h2 (Ev.eq (Ev.now _) ?_)
    simp only [good]
    cases hb : (decide ((1 : Int) ≤ (s.size : Int)) && decide ((s.size : Int) ≤ 9)) with
    | true => exact absurd hb h2
    | false => simp

end Go.Proofs.Ytpdcjkiejglaiaa.Q
