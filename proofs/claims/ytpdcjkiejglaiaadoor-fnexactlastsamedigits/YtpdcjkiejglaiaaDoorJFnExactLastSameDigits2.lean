/-
  Texts of this claim, joined in their build order: the contracts of the functions that the statement reaches, and plain lemmas.
-/
import Derived.Test.YtpdcjkiejglaiaaDoorJFnExactLastSameDigits1
import Derived.Test.YtpdcjkiejglaiaaDoorRows
import Derived.ProofKit
import Derived.LaidMore
import Derived.OpenShut
import Derived.Stop.Joined
import Derived.Stop.LaidErr
import Derived.Lib.LaidTab

/-
  A step on digits and on characters is one; the two functions' answers.
-/
namespace Go.Proofs.YtpdcjkiejglaiaaDoor.Q
open Go.RowKit Go.Proofs.YtpdcjkiejglaiaaDoorW.PrintWords Go.Proofs.YtpdcjkiejglaiaaDoorW.PrintLast Go.Proofs.YtpdcjkiejglaiaaDoorW.PrintMore
set_option linter.unusedVariables false
set_option linter.unusedSimpArgs false

theorem n0_len (l : List Int) : (nums0 l).length = l.length := by simp [nums0]
theorem rd_n0 (l : List Int) (i : Nat) (h : i < l.length) : rd (nums0 l) (i : Int) = rd l (i : Int) - 48 := by
  simp [rd, nums0, List.getD_eq_getElem?_getD, h]
theorem arr_n0 (l : List Int) (i : Nat) (h : i < l.length) : (nums0 l).toArray[i]! = l.toArray[i]! - 48 := by
  rw [rd_arr _ i (by rw [n0_len]; exact h), rd_arr l i h, rd_n0 l i h]
theorem bef_sub (dn : Bool) (x y : Int) : bef dn (x - 48) (y - 48) = bef dn x y := by
  unfold bef
  rw [show decide (x - 48 ≠ y - 48) = decide (x ≠ y) from decide_eq_decide.2 (by omega), show decide (x - 48 < y - 48) = decide (x < y) from decide_eq_decide.2 (by omega)]
theorem lastUp_n0 (dn : Bool) (l : List Int) : ∀ k, k < l.length ∨ k = 0 → lastUp (bef dn) (nums0 l).toArray k = lastUp (bef dn) l.toArray k
  | 0, _ => rfl
  | k + 1, h => by
    simp only [lastUp]
    rw [arr_n0 l k (by omega), arr_n0 l (k + 1) (by omega), bef_sub, lastUp_n0 dn l k (by omega)]
theorem lastBe_n0 (dn : Bool) (l : List Int) (x : Int) : ∀ k, k ≤ l.length → lastBe (bef dn) (nums0 l).toArray (x - 48) k = lastBe (bef dn) l.toArray x k
  | 0, _ => rfl
  | k + 1, h => by
    simp only [lastBe]
    rw [arr_n0 l k (by omega), bef_sub, lastBe_n0 dn l x k (by omega)]
theorem swp_n0 (l : List Int) (i j : Nat) (hi : i < l.length) (hj : j < l.length) (a : Nat) : turnTail (Sort.swp (nums0 l).toArray i j) a = nums0 (turnTail (Sort.swp l.toArray i j) a) := by
  rw [swp_list _ i j (by rw [n0_len]; exact hi) (by rw [n0_len]; exact hj), swp_list l i j hi hj, rd_n0 l i hi, rd_n0 l j hj]
  have e : ((nums0 l).set i (rd l (j : Int) - 48)).set j (rd l (i : Int) - 48) = nums0 ((l.set i (rd l (j : Int))).set j (rd l (i : Int))) := by
    unfold nums0
    rw [List.map_set, List.map_set]
  rw [e]
  simp [turnTail, nums0]
theorem step_n0 (dn : Bool) (l : List Int) (h1 : 1 ≤ l.length) : stepA (bef dn) (nums0 l).toArray = (stepA (bef dn) l.toArray).map nums0 := by
  have e1 : (nums0 l).toArray.size = l.length := by simp [n0_len]
  have e2 : l.toArray.size = l.length := rfl
  unfold stepA
  rw [e1, e2, lastUp_n0 dn l (l.length - 1) (by omega)]
  cases h : lastUp (bef dn) l.toArray (l.length - 1) with
  | none => rfl
  | some i =>
    have hi := (lastUp_lt _ _ _ _ h).1
    show (match lastBe (bef dn) (nums0 l).toArray (nums0 l).toArray[i]! l.length with | none => none | some j => some (turnTail (Sort.swp (nums0 l).toArray i j) (i + 1))) = _
    rw [arr_n0 l i (by omega), lastBe_n0 dn l _ l.length (Nat.le_refl _)]
    show _ = Option.map nums0 (match lastBe (bef dn) l.toArray l.toArray[i]! l.length with | none => none | some j => some (turnTail (Sort.swp l.toArray i j) (i + 1)))
    cases h2 : lastBe (bef dn) l.toArray l.toArray[i]! l.length with
    | none => rfl
    | some j =>
      have hj := lastBe_lt _ _ _ _ _ h2
      show some (turnTail (Sort.swp (nums0 l).toArray i j) (i + 1)) = some (nums0 (turnTail (Sort.swp l.toArray i j) (i + 1)))
      rw [swp_n0 l i j (by omega) (by omega)]

theorem leNumber_eq (a : Int) : spec_leNumber.f a = some (decide (0 ≤ a) && decide (a ≤ 1000000000000)) := by
  unfold spec_leNumber.f spec_l1In.f
  by_cases h : a ≥ 0
  · rw [if_pos h]; simp [h]
  · rw [if_neg h]; simp; omega
theorem in_range {a0 : Int} (g : 0 ≤ a0 ∧ a0 ≤ 1000000000000) : (decide (0 ≤ a0) && decide (a0 ≤ 1000000000000)) = true := by simp [g.1, g.2]
theorem out_range {a0 : Int} (g : ¬ (0 ≤ a0 ∧ a0 ≤ 1000000000000)) : (decide (0 ≤ a0) && decide (a0 ≤ 1000000000000)) = false := by
  rw [Bool.and_eq_false_iff, decide_eq_false_iff_not, decide_eq_false_iff_not]
  by_cases d : 0 ≤ a0
  · exact .inr fun h => g ⟨d, h⟩
  · exact .inl d
theorem top_none : stepA (bef false) (chs 1000000000000).toArray = none := by
  unfold chs
  rw [Lib.nDigits_unique 12 1000000000000 (by decide) (by decide)]
  decide
theorem stepped_le {u : Nat} (h : u ≤ 1000000000000) {l : List Int} (hs : stepped false (u : Int) = some l) : val l ≤ 1000000000000 := by
  unfold stepped at hs
  rw [Int.toNat_natCast] at hs
  by_cases c : u = 1000000000000
  · rw [c, top_none] at hs; cases hs
  · obtain ⟨ld, ll⟩ := step_dig (by exact chs_digs u) hs
    have hl : (chs u).length ≤ 12 := by unfold chs; rw [dl_length]; exact (pad_dl 11 u (by omega)).1
    have hv := val_lt l ld
    have hp : 10 ^ l.length ≤ 10 ^ 12 := Nat.pow_le_pow_right (by decide) (by rw [ll]; exact hl)
    omega
theorem spec_turned (nx : Bool) (u : Nat) (h : u ≤ 1000000000000) : Ev (fun k => spec_leTurn.f k (nums0 (chs u)) nx) (turned ((stepped (!nx) (u : Int)).map nums0)) := by
  have hl := chs_len u h
  have := leTurn_ev nx (nums0 (chs u)) (by rw [n0_len]; exact hl.1) (by rw [n0_len]; omega)
  rw [step_n0 (!nx) (chs u) hl.1] at this
  exact this

theorem next_ev2 (a0 : Int) : Ev (fun k => spec_NextSameDigits.f k a0) (nsRes a0) := by
  unfold spec_NextSameDigits.f
  rw [leNumber_eq]
  refine Ev.bind' (Ev.now _) ?_
  by_cases g : 0 ≤ a0 ∧ a0 ≤ 1000000000000
  · refine Ev.pos (in_range g) ?_
    obtain ⟨u, rfl⟩ : ∃ u : Nat, a0 = (u : Int) := ⟨a0.toNat, by omega⟩
    have hu : u ≤ 1000000000000 := by omega
    refine Ev.bind' (leList_ev u hu) (Ev.bind' (spec_turned true u hu) ?_)
    unfold nsRes
    rw [if_pos g]
    show Ev _ (match stepped false (u : Int) with | none => (0, false) | some l => if (val l : Int) ≤ 1000000000000 then ((val l : Int), true) else (0, false))
    have e : (!true) = false := rfl
    rw [e]
    cases hst : stepped false (u : Int) with
    | none => exact Ev.neg (by simp [turned]) (Ev.now _)
    | some l =>
      have hle := stepped_le hu hst
      have hst' := hst
      unfold stepped at hst'
      rw [Int.toNat_natCast] at hst'
      obtain ⟨ld, ll⟩ := step_dig (by exact chs_digs u) hst'
      have hl13 : l.length ≤ 13 := by rw [ll]; exact (chs_len u hu).2
      refine Ev.pos rfl (Ev.bind' (leOf_ev l ld (by omega)) (Ev.eq (Ev.now _) ?_))
      show _ = if (val l : Int) ≤ 1000000000000 then ((val l : Int), true) else (0, false)
      rw [if_pos (by omega)]
  · refine Ev.neg (by rw [out_range g]; decide) (Ev.eq (Ev.now _) ?_)
    unfold nsRes
    rw [if_neg g]
theorem last_ev2 (a0 : Int) : Ev (fun k => spec_LastSameDigits.f k a0) (lsRes a0) := by
  unfold spec_LastSameDigits.f
  rw [leNumber_eq]
  refine Ev.bind' (Ev.now _) ?_
  by_cases g : 0 ≤ a0 ∧ a0 ≤ 1000000000000
  · refine Ev.pos (in_range g) ?_
    obtain ⟨u, rfl⟩ : ∃ u : Nat, a0 = (u : Int) := ⟨a0.toNat, by omega⟩
    have hu : u ≤ 1000000000000 := by omega
    refine Ev.bind' (leList_ev u hu) (Ev.bind' (spec_turned false u hu) ?_)
    unfold lsRes
    rw [if_pos g]
    show Ev _ (match stepped true (u : Int) with | none => (0, false) | some l => if l.getD 0 0 = 48 then (0, false) else ((val l : Int), true))
    have e : (!false) = true := rfl
    rw [e]
    cases hst : stepped true (u : Int) with
    | none => exact Ev.neg (by simp [turned]) (Ev.now _)
    | some l =>
      have hst' := hst
      unfold stepped at hst'
      rw [Int.toNat_natCast] at hst'
      obtain ⟨ld, ll⟩ := step_dig (by exact chs_digs u) hst'
      have hl13 : l.length ≤ 13 := by rw [ll]; exact (chs_len u hu).2
      have hl1 : 1 ≤ l.length := by rw [ll]; exact (chs_len u hu).1
      have hr : rd (nums0 l) 0 = l.getD 0 0 - 48 := by
        have := rd_n0 l 0 (by omega)
        exact this
      refine Ev.pos rfl (Ev.pos (by show (0 : Int) < ((nums0 l).length : Int); rw [n0_len]; omega) ?_)
      show Ev _ (if l.getD 0 0 = 48 then (0, false) else ((val l : Int), true))
      by_cases c : l.getD 0 0 = 48
      · rw [if_pos c]
        exact Ev.pos (by show rd (nums0 l) 0 = 0; rw [hr]; omega) (Ev.now _)
      · rw [if_neg c]
        exact Ev.neg (by show ¬ rd (nums0 l) 0 = 0; rw [hr]; omega) (Ev.bind' (leOf_ev l ld (by omega)) (Ev.now _))
  · refine Ev.neg (by rw [out_range g]; decide) (Ev.eq (Ev.now _) ?_)
    unfold lsRes
    rw [if_neg g]

end Go.Proofs.YtpdcjkiejglaiaaDoor.Q

namespace Go.Proofs.YtpdcjkiejglaiaaDoor.Pure
open Go.RowKit Go.Proofs.YtpdcjkiejglaiaaDoor.Q Go.Proofs.YtpdcjkiejglaiaaDoorW.PrintWords Go.Proofs.YtpdcjkiejglaiaaDoorW.PrintLast

theorem FnExactLastSameDigits : laws_FnExactLastSameDigits.Pure := by
  intro a0 h0
  apply Ev.rounds
  unfold laws_FnExactLastSameDigits.f impl_LastSameDigits.f
  refine Ev.bind' (last_ev2 a0) (Ev.bind' (Ev.now _) (Ev.pos rfl (Ev.neg ?_ (Ev.now _))))
  simp

end Go.Proofs.YtpdcjkiejglaiaaDoor.Pure

/-
  From the row's own condition on the library's tables to the premise 'Tab' of the contracts. A witness's heap meets that condition.
-/
namespace Go.Proofs.YtpdcjkiejglaiaaDoor.Q
open Go Go.ChangeShapes Go.WideShapes Go.ChangeAt Go.RowKit
set_option maxRecDepth 100000

def laidD : List (String × DataW Unit) := [("math/bits.deBruijn32tab", Rows.laid_math_bits_deBruijn32tab), ("math/bits.deBruijn64tab", Rows.laid_math_bits_deBruijn64tab), ("internal/strconv.uint64pow10", Rows.laid_internal_strconv_uint64pow10)]
theorem door_met (os : Os) (args : Array Value) : laidMetH Tryd.prog laidD ((World.doorLaid Tryd.prog 24 os).forCall (fun _ _ => 0) ⟨#[], args, []⟩).memory :=
  laidMetH_of_parts3 (fuel := 8) (laidMet_of_run' 8 (by kernel_rfl) (by kernel_rfl)) (by kernel_rfl) (by kernel_rfl)
theorem pow_data : (Rows.laid_internal_strconv_uint64pow10 : DataW Unit) = Lib.tabData .u64 Lib.pow10Tab := by kernel_rfl
theorem tab_of_laid {W : World} (h : laidMetH Tryd.prog laidD W) : Tab W := by
  rw [MakeChecks.laidMetH_plain _ _ _ (by kernel_rfl)] at h
  have h2 : laidMet Tryd.prog [("internal/strconv.uint64pow10", Rows.laid_internal_strconv_uint64pow10)] W := laidMet.tail (laidMet.tail h)
  rw [pow_data] at h2
  exact Lib.tabIs_of_head (g := 0) (t := 87) (e := 74) (n := 20) (by kernel_rfl) (by kernel_rfl) (by kernel_rfl) (by kernel_rfl) (by kernel_rfl) (by kernel_rfl) h2

end Go.Proofs.YtpdcjkiejglaiaaDoor.Q
