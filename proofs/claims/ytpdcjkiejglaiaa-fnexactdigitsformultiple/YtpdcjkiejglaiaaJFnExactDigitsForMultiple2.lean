/-
  Texts of this claim, joined in their build order: the contracts of the functions that the statement reaches, and plain lemmas.
-/
import Derived.Test.YtpdcjkiejglaiaaJFnExactDigitsForMultiple1

/-
  With the digits 0 and 1 there is a multiple of every number: the rests that are met are closed under a digit more, two numbers of ones have one rest, and their difference is such a multiple.
-/
namespace Go.Proofs.Ytpdcjkiejglaiaa.Q
open Go.RowKit Go.Proofs.YtpdcjkiejglaiaaW.PrintWords Go.Proofs.YtpdcjkiejglaiaaW.PrintLast Go.Proofs.YtpdcjkiejglaiaaW.PrintMore
set_option linter.unusedVariables false
set_option linter.unusedSimpArgs false

theorem pigeon : ∀ (n : Nat) (f : Nat → Nat), (∀ i, i ≤ n → f i < n) → ∃ i j, i < j ∧ j ≤ n ∧ f i = f j
  | 0, f, h => by have := h 0 (Nat.le_refl _); omega
  | n + 1, f, h => by
    by_cases hc : ∃ i, i ≤ n ∧ f i = f (n + 1)
    · obtain ⟨i, hi, e⟩ := hc
      exact ⟨i, n + 1, by omega, Nat.le_refl _, e⟩
    · have hne : ∀ i, i ≤ n → f i ≠ f (n + 1) := fun i hi e => hc ⟨i, hi, e⟩
      have hl := h (n + 1) (Nat.le_refl _)
      obtain ⟨i, j, hij, hj, e⟩ := pigeon n (fun i => if f i = n then f (n + 1) else f i) (fun i hi => by
        have h1 := h i (by omega)
        have h2 := hne i hi
        show (if f i = n then f (n + 1) else f i) < n
        split <;> omega)
      have h1 := hne i (by omega)
      have h2 := hne j hj
      have e' : (if f i = n then f (n + 1) else f i) = (if f j = n then f (n + 1) else f j) := e
      refine ⟨i, j, hij, by omega, ?_⟩
      split at e' <;> split at e' <;> omega

/-- a rest is marked -/
def Mk (s : MSt) (r : Int) : Prop := rdOf false s.met r = true
theorem Mk.push {n : Nat} {s : MSt} (hI : MInv n s) (hn : 0 < n) {r : Int} (hr0 : 0 ≤ r) (h : Mk s r) (before rest d : Int) : Mk (mpush n before rest d s) r := by
  have hrl := nextRest_lt (n := (n : Int)) (by omega) rest d
  unfold mpush Mk at *
  split
  · exact h
  · unfold rdOf at *
    simp only [List.getD_eq_getElem?_getD] at *
    by_cases e : r.toNat = (nextRest n rest d).toNat
    · have hlt : (nextRest n rest d).toNat < s.met.length := by have := hI.len; omega
      rw [e, List.getElem?_set_self hlt]
      rfl
    · rw [List.getElem?_set_ne (fun h => e h.symm)]
      exact h
theorem Mk.pushed {n : Nat} {s : MSt} (hI : MInv n s) (hn : 0 < n) (before rest d : Int) : Mk (mpush n before rest d s) (nextRest n rest d) := by
  have hrl := nextRest_lt (n := (n : Int)) (by omega) rest d
  unfold mpush Mk
  split
  · assumption
  · unfold rdOf
    simp only [List.getD_eq_getElem?_getD]
    have hlt : (nextRest n rest d).toNat < s.met.length := by have := hI.len; omega
    rw [List.getElem?_set_self hlt]
    rfl
/-- whatever is marked stands in the list -/
def Told (s : MSt) : Prop := ∀ r : Int, 0 ≤ r → Mk s r → ∃ q : Nat, q < s.list.length ∧ (rd_T56 s.list q).f0 = r
theorem Told.push {n : Nat} {s : MSt} (hI : MInv n s) (hn : 0 < n) (h : Told s) (before rest d : Int) : Told (mpush n before rest d s) := by
  have hrl := nextRest_lt (n := (n : Int)) (by omega) rest d
  intro r hr0 hm
  unfold mpush at *
  split at hm
  · rename_i hc
    rw [if_pos hc]
    exact h r hr0 hm
  · rename_i hc
    rw [if_neg hc]
    by_cases e : r = nextRest n rest d
    · refine ⟨s.list.length, by simp, ?_⟩
      show (rd_T56 (s.list ++ [_]) _).f0 = _
      rw [rd_append, if_neg (by omega), if_pos rfl, e]
    · have hm' : Mk s r := by
        unfold Mk rdOf at *
        simp only [List.getD_eq_getElem?_getD] at *
        rw [List.getElem?_set_ne (fun h => e (by omega))] at hm
        exact hm
      obtain ⟨q, hq, hf⟩ := h r hr0 hm'
      refine ⟨q, by simp; omega, ?_⟩
      show (rd_T56 (s.list ++ [_]) _).f0 = _
      rw [rd_append, if_pos hq]
      exact hf
/-- what is known of a state: marks and list agree; the places before i are done -/
structure Done (n : Nat) (ds : List Int) (i : Nat) (s : MSt) : Prop where
  inv : MInv n s
  told : Told s
  done : ∀ q : Nat, q < i → q < s.list.length → (rd_T56 s.list q).f0 ≠ 0 ∧ ∀ d ∈ ds, Mk s (nextRest n (rd_T56 s.list q).f0 d)
theorem Done.push {n : Nat} (hn : 0 < n) {ds : List Int} {i : Nat} {s : MSt} (h : Done n ds i s) (before rest d : Int) (hb1 : -1 ≤ before) (hb2 : before < s.list.length) (hd1 : 48 ≤ d) (hd2 : d ≤ 57) (hi : i ≤ s.list.length) : Done n ds i (mpush n before rest d s) := by
  refine ⟨h.inv.push hn _ _ _ hb1 hb2 hd1 hd2, h.told.push h.inv hn _ _ _, fun q hq hlt => ?_⟩
  have hx := (mpush_ext n before rest d s).2 q (by omega)
  obtain ⟨h1, h2⟩ := h.done q hq (by omega)
  rw [hx]
  exact ⟨h1, fun d' hd' => Mk.push h.inv hn (nextRest_lt (n := (n : Int)) (by omega) _ _).1 (h2 d' hd') _ _ _⟩
theorem Done.all {n : Nat} (hn : 0 < n) {ds : List Int} {i : Nat} (before rest : Int) (hb1 : -1 ≤ before) : ∀ (l : List Int), (∀ d ∈ l, 48 ≤ d ∧ d ≤ 57) → ∀ {s : MSt}, before < s.list.length → i ≤ s.list.length → Done n ds i s →
    Done n ds i (mall n before rest l s) ∧ (∀ r : Int, 0 ≤ r → Mk s r → Mk (mall n before rest l s) r) ∧ ∀ d ∈ l, Mk (mall n before rest l s) (nextRest n rest d)
  | [], _, s, _, _, h => ⟨h, fun r _ hm => hm, fun d hd => by simp at hd⟩
  | d :: l, hd, s, hlt, hi, h => by
    have hdd := hd d (List.mem_cons_self ..)
    have hle := mpush_le n before rest d s
    have hp := h.push hn before rest d hb1 hlt hdd.1 hdd.2 hi
    obtain ⟨h1, h2, h3⟩ := Done.all hn before rest hb1 l (fun x hx => hd x (List.mem_cons_of_mem _ hx)) (s := mpush n before rest d s) (by omega) (by omega) hp
    refine ⟨h1, fun r hr hm => h2 r hr (Mk.push h.inv hn hr hm _ _ _), fun x hx => ?_⟩
    rcases List.mem_cons.1 hx with rfl | hx
    · exact h2 _ (nextRest_lt (n := (n : Int)) (by omega) _ _).1 (Mk.pushed h.inv hn _ _ _)
    · exact h3 x hx
/-- a search that finds nothing has gone through all that it met -/
theorem scan_none {n : Nat} (hn : 0 < n) (hn4 : n ≤ 400) {ds : List Int} (hds : ∀ d ∈ ds, 48 ≤ d ∧ d ≤ 57) : ∀ (g i : Nat) (s : MSt), i + g = 401 → i ≤ s.list.length → Done n ds i s → (mscan n ds g i s).2 = false →
    ∃ s' : MSt, MInv n s' ∧ Told s' ∧ (∀ r : Int, 0 ≤ r → Mk s r → Mk s' r) ∧ ∀ q : Nat, q < s'.list.length → (rd_T56 s'.list q).f0 ≠ 0 ∧ ∀ d ∈ ds, Mk s' (nextRest n (rd_T56 s'.list q).f0 d) := by
  intro g
  induction g with
  | zero =>
    intro i s h1 h2 h3 _
    have := h3.inv.le
    omega
  | succ g ih =>
    intro i s h1 h2 h3 h4
    simp only [mscan] at h4
    by_cases hi : i < s.list.length
    · rw [if_pos hi] at h4
      by_cases h0 : (rd_T56 s.list (i : Int)).f0 = 0
      · rw [if_pos h0] at h4
        cases h4
      · rw [if_neg h0] at h4
        obtain ⟨a1, a2, a3⟩ := Done.all hn (ds := ds) (i : Int) (rd_T56 s.list (i : Int)).f0 (by omega) ds hds (s := s) (by omega) h2 h3
        have hx := mall_ext n (i : Int) (rd_T56 s.list (i : Int)).f0 ds s
        have hd : Done n ds (i + 1) (mall n (i : Int) (rd_T56 s.list (i : Int)).f0 ds s) := by
          refine ⟨a1.inv, a1.told, fun q hq hlt => ?_⟩
          by_cases e : q = i
          · subst e
            rw [hx.2 q hi]
            exact ⟨h0, a3⟩
          · exact a1.done q (by omega) hlt
        obtain ⟨s', b1, b2, b3, b4⟩ := ih (i + 1) _ (by omega) (by have := hx.1; omega) hd h4
        exact ⟨s', b1, b2, fun r hr hm => b3 r hr (a2 r hr hm), b4⟩
    · exact ⟨s, h3.inv, h3.told, fun r _ hm => hm, fun q hq => h3.done q (by omega) hq⟩

/-- the rests of the numbers of ones -/
def ones (n : Nat) : Nat → Nat
  | 0 => 1 % n
  | k + 1 => (10 * ones n k + 1) % n
/-- numbers of ones -/
def rep : Nat → Nat
  | 0 => 1
  | k + 1 => 10 * rep k + 1
theorem ones_rep (n : Nat) : ∀ k, ones n k = rep k % n
  | 0 => rfl
  | k + 1 => by
    simp only [ones, rep, ones_rep n k]
    rw [Nat.add_mod, Nat.mul_mod, Nat.mod_mod, ← Nat.mul_mod, ← Nat.add_mod]
theorem rep_split : ∀ (i d : Nat), rep (d + 1 + i) = rep d * 10 ^ (i + 1) + rep i
  | 0, d => by
    show 10 * rep d + 1 = _
    simp [rep]
    omega
  | i + 1, d => by
    show 10 * rep (d + 1 + i) + 1 = rep d * 10 ^ (i + 1 + 1) + (10 * rep i + 1)
    rw [rep_split i d, Nat.pow_succ 10 (i + 1)]
    have : 10 * (rep d * 10 ^ (i + 1)) = rep d * (10 ^ (i + 1) * 10) := by rw [Nat.mul_left_comm, Nat.mul_comm 10]
    omega
theorem closed_zero {n : Nat} (hn : 0 < n) (P : Nat → Prop) (h1 : P (1 % n)) (hz : ∀ r, r < n → P r → P (10 * r % n)) (ho : ∀ r, r < n → P r → P ((10 * r + 1) % n)) : P 0 := by
  have hones : ∀ k, P (ones n k) := by
    intro k
    induction k with
    | zero => exact h1
    | succ k ih => exact ho _ (by rw [ones_rep]; exact Nat.mod_lt _ hn) ih
  have htens : ∀ (m r : Nat), r < n → P r → P (r * 10 ^ m % n) := by
    intro m
    induction m with
    | zero => intro r hr h; simpa [Nat.mod_eq_of_lt hr] using h
    | succ m ih =>
      intro r hr h
      have := hz _ (Nat.mod_lt _ hn) (ih r hr h)
      have e : 10 * (r * 10 ^ m % n) % n = r * 10 ^ (m + 1) % n := by
        rw [Nat.mul_mod, Nat.mod_mod, ← Nat.mul_mod, Nat.pow_succ]
        congr 1
        ac_rfl
      rwa [e] at this
  obtain ⟨i, j, hij, _, e⟩ := pigeon n (ones n) (fun i _ => by rw [ones_rep]; exact Nat.mod_lt _ hn)
  obtain ⟨d, rfl⟩ : ∃ d, j = d + 1 + i := ⟨j - i - 1, by omega⟩
  rw [ones_rep, ones_rep, rep_split] at e
  have hd : (rep d * 10 ^ (i + 1)) % n = 0 := by
    have h2 : (rep d * 10 ^ (i + 1) + rep i - rep i) % n = 0 := Nat.sub_mod_eq_zero_of_mod_eq e.symm
    rwa [Nat.add_sub_cancel] at h2
  have h3 := htens (i + 1) (ones n d) (by rw [ones_rep]; exact Nat.mod_lt _ hn) (hones d)
  rw [ones_rep, Nat.mul_mod, Nat.mod_mod, ← Nat.mul_mod, hd] at h3
  exact h3

theorem li_01 : li ⟨#[48, 49]⟩ = [48, 49] := rfl
/-- THERE IS A MULTIPLE WRITTEN WITH 0 AND 1. -/
theorem mul_01 {n : Int} (h1 : 1 ≤ n) (h4 : n ≤ 400) : (mulOf n ⟨#[48, 49]⟩).2 = true := by
  obtain ⟨m, rfl⟩ := Int.eq_ofNat_of_zero_le (show 0 ≤ n by omega)
  have hm : 0 < m := by omega
  unfold mulOf
  rw [li_01, Int.toNat_natCast]
  cases hr : (mscan m [48, 49] 401 0 (mfirst m [48, 49] ⟨List.replicate m false, []⟩)).2 with
  | true => rfl
  | false =>
    exfalso
    have hds : ∀ d ∈ ([48, 49] : List Int), 48 ≤ d ∧ d ≤ 57 := by decide
    have hst : Done m [48, 49] 0 ⟨List.replicate m false, []⟩ := ⟨MInv.init m, fun r hr0 hk => by
      unfold Mk rdOf at hk
      simp only [List.getD_eq_getElem?_getD] at hk
      by_cases hlt : r.toNat < m
      · rw [List.getElem?_eq_getElem (by simpa using hlt)] at hk
        simp at hk
      · rw [List.getElem?_eq_none (by simp; omega)] at hk
        simp at hk, fun q hq => by omega⟩
    have hfirst : mfirst m [48, 49] ⟨List.replicate m false, []⟩ = mpush m (-1) 0 49 ⟨List.replicate m false, []⟩ := rfl
    rw [hfirst] at hr
    have hd0 := hst.push hm (-1) 0 49 (by omega) (by show (-1 : Int) < 0; decide) (by omega) (by omega) (Nat.zero_le _)
    obtain ⟨s', b1, b2, b3, b4⟩ := scan_none hm (by omega) hds 401 0 _ rfl (Nat.zero_le _) hd0 hr
    have hone : Mk s' (nextRest m 0 49) := b3 _ (nextRest_lt (n := (m : Int)) (by omega) _ _).1 (Mk.pushed hst.inv hm _ _ _)
    have hclosed : ∀ (r : Nat) (d : Int), d ∈ ([48, 49] : List Int) → Mk s' (r : Int) → Mk s' (nextRest m r d) := by
      intro r d hd hk
      obtain ⟨q, hq, hf⟩ := b2 r (by omega) hk
      have := (b4 q hq).2 d hd
      rwa [hf] at this
    have hzero := closed_zero hm (fun r => Mk s' (r : Int)) (by
        have e : nextRest (m : Int) 0 49 = ((1 % m : Nat) : Int) := by unfold nextRest; simp
        rwa [e] at hone) (fun r _ hk => by
        have h2 := hclosed r 48 (by decide) hk
        have e : nextRest (m : Int) r 48 = ((10 * r % m : Nat) : Int) := by unfold nextRest; simp
        rwa [e] at h2) (fun r _ hk => by
        have h2 := hclosed r 49 (by decide) hk
        have e : nextRest (m : Int) r 49 = (((10 * r + 1) % m : Nat) : Int) := by unfold nextRest; simp
        rwa [e] at h2)
    obtain ⟨q, hq, hf⟩ := b2 0 (by omega) hzero
    exact (b4 q hq).1 hf

end Go.Proofs.Ytpdcjkiejglaiaa.Q

/-
  DigitsForMultiple: the program and the reference return the same, for every number.
-/
namespace Go.Proofs.Ytpdcjkiejglaiaa.Pure
open Go.RowKit Go.Proofs.Ytpdcjkiejglaiaa.Q Go.Proofs.YtpdcjkiejglaiaaW.PrintWords Go.Proofs.YtpdcjkiejglaiaaW.PrintLast
set_option linter.unusedVariables false
set_option linter.unusedSimpArgs false

theorem w1 : wrap64 (0 + 1) = 1 := wrap_id (by decide) (by decide)
/-- a digit as a text -/
def dt (a : Nat) : ByteArray := strOfNums [48 + (a : Int)]
theorem li_dt (a : Nat) (h : a < 10) : li (dt a) = [48 + (a : Int)] := li_str _ (by simp; omega)
theorem dt_size (a : Nat) (h : a < 10) : (dt a).size = 1 := by rw [← li_length, li_dt a h]; rfl
theorem dt_dig (a : Nat) (h : a < 10) : ∀ d ∈ li (dt a), 48 ≤ d ∧ d ≤ 57 := by rw [li_dt a h]; simp; omega
theorem empty_app (a : Nat) : (⟨#[]⟩ : ByteArray) ++ strOfNums [48 + (a : Int)] = dt a := li_inj (by rw [li_append]; rfl)
/-- what is looked for: the first digit for which there is a multiple, else 01 -/
def firstOf (n : Int) : Nat → Nat → ByteArray × Bool
  | 0, _ => (⟨#[48, 49]⟩, true)
  | d + 1, a => if (mulOf n (dt a)).2 = true then (dt a, true) else firstOf n d (a + 1)

theorem num_ev (a : Nat) (h : a < 10) : Ev (fun k => spec_l1Num.f k (a : Int)) (dt a) := by
  refine Ev.step (f := fun _ => some (dt a)) (fun k => ?_) (Ev.now _)
  have c : (a : Int) < 10 := by omega
  have e : wrap64 (48 + (a : Int)) % 256 = 48 + (a : Int) := by rw [wrap_id (by omega) (by omega)]; omega
  simp only [spec_l1Num.f]
  rw [if_pos c, e]
  rfl
theorem spec_digits {n : Int} (h1 : 1 ≤ n) (h4 : n ≤ 400) : ∀ (d a : Nat), a + d = 10 → Ev (fun k => spec_DigitsForMultiple.l0 k n (a : Int)) (firstOf n d a)
  | 0, a, h => by
    refine Ev.step (f := fun _ => some ((⟨#[48, 49]⟩ : ByteArray), true)) (fun k => ?_) (Ev.now _)
    simp only [spec_DigitsForMultiple.l0]
    rw [if_neg (by omega)]
  | d + 1, a, h => by
    have ih := spec_digits h1 h4 d (a + 1) (by omega)
    have c : (a : Int) < 10 := by omega
    have e1 := wrap_succ a (by omega)
    have body : ∀ k, spec_DigitsForMultiple.l0 (k + 1) n (a : Int) = (spec_l1Num.f k (a : Int)).bind fun t102 => ((spec_leMultiple.f k n t102).bind fun bt103 => (if bt103.2 = true then ((spec_l1Num.f k (a : Int)).bind fun t105 => (some (t105, true))) else (spec_DigitsForMultiple.l0 k n ((a + 1 : Nat) : Int)))) := by
      intro k
      simp only [spec_DigitsForMultiple.l0]
      rw [if_pos c, e1]
    refine Ev.step body (Ev.bind' (num_ev a (by omega)) (Ev.bind' (spec_mul h1 h4 (by rw [dt_size a (by omega)]; decide) (dt_dig a (by omega))) ?_))
    simp only [firstOf]
    by_cases hm : (mulOf n (dt a)).2 = true
    · rw [if_pos hm]
      exact Ev.pos hm (Ev.bind' (num_ev a (by omega)) (Ev.now _))
    · rw [if_neg hm]
      exact Ev.neg hm ih
theorem mul_0 (n : Int) : (mulOf n (dt 0)).2 = false := by
  unfold mulOf
  rw [li_dt 0 (by omega)]
  rfl

section
variable {n : Int} (h1 : 1 ≤ n) (h4 : n ≤ 400)
/-- the second level: 0 and then 1 -/
theorem impl_second (h1 : 1 ≤ n) (h4 : n ≤ 400) (x5 : List ByteArray) (hl : x5.length = 10) (h0 : rdOf ByteArray.empty x5 0 = dt 0) : Ev (fun k => impl_DigitsForMultiple.l0 k n x5 1) ((⟨#[48, 49]⟩ : ByteArray), true) := by
  have e01 : dt 0 ++ strOfNums [49] = (⟨#[48, 49]⟩ : ByteArray) := li_inj (by rw [li_append, li_dt 0 (by omega)]; rfl)
  have hm := impl_mul (n := n) (s := (⟨#[48, 49]⟩ : ByteArray)) h1 h4 (by decide) (by decide)
  have hne : ¬ (dt 0).toList = ([] : List UInt8) := by
    intro e
    have := congrArg List.length e
    rw [ByteArray.toList_eq, Array.length_toList] at this
    exact absurd this (by show ¬ (dt 0).size = 0; rw [dt_size 0 (by omega)]; decide)
  have hs : wrap64 (((dt 0).size : Int) - 1) = 0 := by rw [dt_size 0 (by omega)]; exact wrap_id (by omega) (by omega)
  have hb : bt (dt 0) 0 = 48 := by rw [bt_li, li_dt 0 (by omega)]; rfl
  have hz : (0 : Int) < ((dt 0).size : Int) := by rw [dt_size 0 (by omega)]; decide
  have step4 : Ev (fun k => impl_DigitsForMultiple.j3 k n [] (dt 0) 49 1 x5 10 0 false) ((⟨#[48, 49]⟩ : ByteArray), true) := by
    refine Ev.step (f := fun _ => some ((⟨#[48, 49]⟩ : ByteArray), true)) (fun k => ?_) (Ev.now _)
    have c : (dt 0).size + (strOfNums [49]).size ≤ 9223372036854775807 := by rw [dt_size 0 (by omega)]; decide
    simp only [impl_DigitsForMultiple.j3, Option.bind_some]
    rw [if_neg (by decide), if_pos c, e01, hm, Option.bind_some, if_pos (mul_01 h1 h4)]
  have step3 : Ev (fun k => impl_DigitsForMultiple.l2 k n [] (dt 0) 49 1 x5 10 0) ((⟨#[48, 49]⟩ : ByteArray), true) := by
    refine Ev.step (fun k => ?_) step4
    simp only [impl_DigitsForMultiple.l2]
    rw [if_pos (by decide), if_neg hne, hs, if_pos (by decide), if_pos hz, hb]
    rfl
  have step2 : Ev (fun k => impl_DigitsForMultiple.j3 k n [] (dt 0) 48 1 x5 10 0 true) ((⟨#[48, 49]⟩ : ByteArray), true) := by
    refine Ev.step (fun k => ?_) step3
    simp only [impl_DigitsForMultiple.j3]
    rw [if_true]
    rfl
  have step1 : Ev (fun k => impl_DigitsForMultiple.l2 k n [] (dt 0) 48 1 x5 10 0) ((⟨#[48, 49]⟩ : ByteArray), true) := by
    refine Ev.step (fun k => ?_) step2
    simp only [impl_DigitsForMultiple.l2]
    rw [if_pos (by decide), if_neg hne, hs, if_pos (by decide), if_pos hz, hb]
    rfl
  have step0 : Ev (fun k => impl_DigitsForMultiple.l1 k n [] 1 x5 10 0) ((⟨#[48, 49]⟩ : ByteArray), true) := by
    refine Ev.step (fun k => ?_) step1
    simp only [impl_DigitsForMultiple.l1]
    rw [if_pos (by decide), if_pos (by decide), if_pos (by rw [hl]; decide), h0]
  refine Ev.step (fun k => ?_) step0
  simp only [impl_DigitsForMultiple.l0]
  rw [if_pos (by decide), hl]
  rfl
/-- the first level, from a digit on -/
theorem impl_digits (h1 : 1 ≤ n) (h4 : n ≤ 400) : ∀ (d a : Nat) (x5 : List ByteArray), a + d = 10 → x5.length = a → (1 ≤ a → rdOf ByteArray.empty x5 0 = dt 0) → Ev (fun k => impl_DigitsForMultiple.l2 k n x5 ⟨#[]⟩ (48 + (a : Int)) 0 [⟨#[]⟩] 1 0) (firstOf n d a)
  | 0, a, x5, h, hl, h0 => by
    have s := impl_second h1 h4 x5 (by omega) (h0 (by omega))
    have s1 : Ev (fun k => impl_DigitsForMultiple.l1 k n x5 0 [⟨#[]⟩] 1 1) ((⟨#[48, 49]⟩ : ByteArray), true) := by
      refine Ev.step (fun k => ?_) s
      simp only [impl_DigitsForMultiple.l1]
      rw [if_neg (by decide), w1]
    refine Ev.step (fun k => ?_) s1
    have c : ¬ 48 + (a : Int) ≤ 57 := by omega
    simp only [impl_DigitsForMultiple.l2]
    rw [if_neg c, w1]
  | d + 1, a, x5, h, hl, h0 => by
    have c : 48 + (a : Int) ≤ 57 := by omega
    have e2 : (48 + (a : Int) + 1) % 256 = 48 + ((a + 1 : Nat) : Int) := by omega
    have hsz : (⟨#[]⟩ : ByteArray).size + (strOfNums [48 + (a : Int)]).size ≤ 9223372036854775807 := by
      have := dt_size a (by omega)
      unfold dt at this
      rw [this]; decide
    have hx : x5.length < 8796093022208 := by omega
    have he : (⟨#[]⟩ : ByteArray).toList = ([] : List UInt8) := by rw [ByteArray.toList_eq]
    have hm := impl_mul (n := n) (s := dt a) h1 h4 (by rw [dt_size a (by omega)]; decide) (dt_dig a (by omega))
    have ih := impl_digits h1 h4 d (a + 1) (x5 ++ [dt a]) (by omega) (by simp [hl]) (fun _ => by
      have := rdOf_app x5 (dt a) 0
      rw [show ((0 : Nat) : Int) = 0 from rfl] at this
      rw [this]
      by_cases e : 0 < x5.length
      · rw [if_pos e]; exact h0 (by omega)
      · rw [if_neg e, if_pos (by omega)]
        have : a = 0 := by omega
        rw [this])
    have b1 : ∀ k, impl_DigitsForMultiple.l2 (k + 1) n x5 ⟨#[]⟩ (48 + (a : Int)) 0 [⟨#[]⟩] 1 0 = impl_DigitsForMultiple.j3 k n x5 ⟨#[]⟩ (48 + (a : Int)) 0 [⟨#[]⟩] 1 0 false := by
      intro k
      simp only [impl_DigitsForMultiple.l2]
      rw [if_pos c, if_pos he]
    have b2 : ∀ k, impl_DigitsForMultiple.j3 (k + 1) n x5 ⟨#[]⟩ (48 + (a : Int)) 0 [⟨#[]⟩] 1 0 false = if (mulOf n (dt a)).2 = true then some (dt a, true) else impl_DigitsForMultiple.l2 k n (x5 ++ [dt a]) ⟨#[]⟩ (48 + ((a + 1 : Nat) : Int)) 0 [⟨#[]⟩] 1 0 := by
      intro k
      simp only [impl_DigitsForMultiple.j3, Option.bind_some]
      rw [if_neg (by decide), if_pos hsz, empty_app, hm, Option.bind_some, e2, if_pos hx]
    refine Ev.step b1 (Ev.step b2 ?_)
    simp only [firstOf]
    by_cases hmm : (mulOf n (dt a)).2 = true
    · rw [if_pos hmm]
      exact Ev.pos hmm (Ev.now _)
    · rw [if_neg hmm]
      exact Ev.neg hmm ih
end

theorem FnExactDigitsForMultiple : laws_FnExactDigitsForMultiple.Pure := by
  intro n _
  refine Ev.rounds (g := fun k => laws_FnExactDigitsForMultiple.f k n) ?_
  unfold laws_FnExactDigitsForMultiple.f
  by_cases hd : divOk n = true
  · obtain ⟨h1, h4⟩ := div_at hd
    refine Ev.bind' (a := firstOf n 9 1) ?_ (Ev.bind' (a := firstOf n 9 1) ?_ (Ev.pos rfl (Ev.neg (by simp) (Ev.now _))))
    · unfold spec_DigitsForMultiple.f
      simp only [spec_div, Option.bind_some]
      exact Ev.pos hd (spec_digits h1 h4 9 1 rfl)
    · unfold impl_DigitsForMultiple.f
      simp only [impl_div, Option.bind_some]
      refine Ev.pos hd ?_
      have s := impl_digits h1 h4 10 0 [] rfl rfl (fun h => by omega)
      have e : firstOf n 10 0 = firstOf n 9 1 := by
        show (if (mulOf n (dt 0)).2 = true then _ else _) = _
        rw [if_neg (by rw [mul_0]; decide)]
      rw [e] at s
      have s1 : Ev (fun k => impl_DigitsForMultiple.l1 k n [] 0 [⟨#[]⟩] 1 0) (firstOf n 9 1) := by
        refine Ev.step (fun k => ?_) s
        simp only [impl_DigitsForMultiple.l1]
        rw [if_pos (by decide), if_pos (by decide), if_pos (by decide)]
        rfl
      refine Ev.step (fun k => ?_) s1
      simp only [impl_DigitsForMultiple.l0]
      rw [if_pos (by decide)]
      rfl
  · refine Ev.bind' (a := ((⟨#[]⟩ : ByteArray), false)) ?_ (Ev.bind' (a := ((⟨#[]⟩ : ByteArray), false)) ?_ (Ev.pos rfl (Ev.neg (by simp) (Ev.now _))))
    · unfold spec_DigitsForMultiple.f
      simp only [spec_div, Option.bind_some]
      exact Ev.neg hd (Ev.now _)
    · unfold impl_DigitsForMultiple.f
      simp only [impl_div, Option.bind_some]
      exact Ev.neg hd (Ev.now _)

end Go.Proofs.Ytpdcjkiejglaiaa.Pure
