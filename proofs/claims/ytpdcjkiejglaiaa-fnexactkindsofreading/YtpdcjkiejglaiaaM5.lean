/-
  The reference's test of a kind is that of the program: a reading is of a kind just if each of its digits may stand where it stands.
-/
import Derived.Test.YtpdcjkiejglaiaaM4
namespace Go.Proofs.Ytpdcjkiejglaiaa.Q
open Go.RowKit Go.Proofs.YtpdcjkiejglaiaaW.PrintWords Go.Proofs.YtpdcjkiejglaiaaW.PrintLast Go.Proofs.YtpdcjkiejglaiaaW.PrintMore
set_option linter.unusedVariables false
set_option linter.unusedSimpArgs false

theorem cntNew_pos (s : ByteArray) : ∀ n : Nat, 1 ≤ n → 1 ≤ cntNew s n
  | 0, h => by omega
  | 1, _ => by simp [cntNew, newTo]
  | n + 2, _ => by
    have h1 := cntNew_pos s (n + 1) (by omega)
    have e : cntNew s (n + 2) = cntNew s (n + 1) + (if newTo s (n + 1) (n + 1) = true then 1 else 0) := rfl
    rw [e]
    split <;> omega
theorem cntNew_one (s : ByteArray) : ∀ n : Nat, 1 ≤ n → (cntNew s n = 1 ↔ ∀ i, 1 ≤ i → i < n → newTo s i i = false)
  | 0, h => by omega
  | 1, _ => by
    simp only [cntNew, newTo, if_true]
    constructor
    · intro _ i h1 h2; omega
    · intro _; rfl
  | n + 2, _ => by
    have ih := cntNew_one s (n + 1) (by omega)
    have hp := cntNew_pos s (n + 1) (by omega)
    have e : cntNew s (n + 2) = cntNew s (n + 1) + (if newTo s (n + 1) (n + 1) = true then 1 else 0) := rfl
    rw [e]
    constructor
    · intro h i h1 h2
      by_cases hn : newTo s (n + 1) (n + 1) = true
      · rw [if_pos hn] at h; omega
      · rw [if_neg hn] at h
        by_cases hi : i = n + 1
        · rw [hi]; simpa using hn
        · exact ih.1 (by omega) i h1 (by omega)
    · intro h
      rw [if_neg (by rw [h (n + 1) (by omega) (by omega)]; decide), ih.2 (fun i h1 h2 => h i h1 (by omega))]
      rfl
theorem cntNew_all (s : ByteArray) : ∀ n : Nat, (cntNew s n = n ↔ ∀ i, i < n → newTo s i i = true)
  | 0 => by simp [cntNew]
  | n + 1 => by
    have ih := cntNew_all s n
    have hl := cntNew_le s n
    have e : cntNew s (n + 1) = cntNew s n + (if newTo s n n = true then 1 else 0) := rfl
    rw [e]
    constructor
    · intro h i hi
      by_cases hn : newTo s n n = true
      · rw [if_pos hn] at h
        by_cases he : i = n
        · rw [he]; exact hn
        · exact ih.1 (by omega) i (by omega)
      · rw [if_neg hn] at h; omega
    · intro h
      rw [if_pos (h n (by omega)), ih.2 (fun i hi => h i (by omega))]
      rfl

/-- a kind's letter as a text -/
def kt (c : UInt8) : ByteArray := ⟨#[c]⟩
theorem kt_toList (c : UInt8) : (kt c).toList = [c] := by rw [ByteArray.toList_eq]; rfl

theorem low_dig {s : ByteArray} (hd : ∀ j : Nat, j < s.size → 48 ≤ bt s j ∧ bt s j ≤ 57) : lowB s = true := by
  unfold lowB
  rw [List.all_eq_true]
  intro c hc
  obtain ⟨j, hj, rfl⟩ := List.mem_iff_getElem.1 hc
  have hj' : j < s.size := by rw [Array.length_toList] at hj; exact hj
  have h1 := hd j hj'
  have h2 : ((s.data.toList[j].toNat : Nat) : Int) = bt s j := bt_at s (j : Int) hj'
  simp only [decide_eq_true_eq]
  omega
theorem miDigits_dig {s : ByteArray} (h9 : s.size ≤ 9) (hd : ∀ j : Nat, j < s.size → 48 ≤ bt s j ∧ bt s j ≤ 57) : spec_miDigits.f s = some (cntNew s s.size) := by
  unfold spec_miDigits.f
  rw [if_pos (low_dig hd), if_pos (by omega)]

theorem kind_a (s : ByteArray) (h1 : 1 ≤ s.size) : (cntNew s s.size == 1) = allF (mayAt 97 s s.size) s.size 0 := by
  rw [Bool.eq_iff_iff, allF_iff, beq_iff_eq, cntNew_one s _ h1]
  have e : ∀ j, (mayAt 97 s s.size j = true ↔ bt s j = bt s 0) := fun j => by simp [mayAt]
  constructor
  · intro h
    have : ∀ j, j < s.size → bt s j = bt s 0 := by
      intro j
      induction j using Nat.strongRecOn with
      | _ j ih =>
        intro hj
        by_cases h0 : j = 0
        · rw [h0]; rfl
        · have := h j (by omega) hj
          have hn : ¬ ∀ i : Nat, i < j → bt s i ≠ bt s j := fun hh => by rw [(newTo_iff s j j).2 hh] at this; cases this
          have : ∃ i : Nat, i < j ∧ bt s i = bt s j := by
            apply Classical.byContradiction
            intro hx
            exact hn fun i hi he => hx ⟨i, hi, he⟩
          obtain ⟨i, hi, he⟩ := this
          rw [← he, ih i hi (by omega)]
    intro j _ hj
    exact (e j).2 (this j (by omega))
  · intro h i hi1 hi2
    cases hn : newTo s i i with
    | false => rfl
    | true =>
      have := (newTo_iff s i i).1 hn 0 (by omega)
      exact absurd ((e i).1 (h i (by omega) (by omega))).symm this
theorem kind_d (s : ByteArray) : (cntNew s s.size == (s.size : Int)) = allF (mayAt 100 s s.size) s.size 0 := by
  rw [Bool.eq_iff_iff, allF_iff, beq_iff_eq, cntNew_all s]
  have e : ∀ j, mayAt 100 s s.size j = newTo s j j := fun j => by simp [mayAt]
  constructor
  · intro h j _ hj
    rw [e]; exact h j (by omega)
  · intro h i hi
    rw [← e]; exact h i (by omega) (by omega)
theorem bt_of_li {s t : ByteArray} {l : List Int} (h : li t = l) (i : Nat) : bt t i = l.getD i 0 := by rw [bt_li, h]; rfl
theorem kind_m (s t : ByteArray) (ht : li t = (li s).reverse) : (t.toList == s.toList) = allF (mayAt 109 s s.size) s.size 0 := by
  rw [beq_li, Bool.eq_iff_iff, allF_iff, decide_eq_true_eq]
  have hz : t.size = s.size := by rw [size_li ht, List.length_reverse, li_length]
  have hb : ∀ i : Nat, i < s.size → bt t i = bt s ((s.size - 1 - i : Nat) : Int) := by
    intro i hi
    rw [bt_of_li (s := s) ht, getD_reverse _ _ (by rw [li_length]; exact hi), li_length, bt_li]
    rfl
  have e : ∀ j, (mayAt 109 s s.size j = true ↔ j < s.size - 1 - j ∨ bt s ((s.size - 1 - j : Nat) : Int) = bt s j) := fun j => by simp [mayAt]
  constructor
  · intro h j _ hj
    refine (e j).2 (.inr ?_)
    rw [← hb j (by omega), bt_li, bt_li, h]
  · intro h
    refine li_ext hz fun i hi => ?_
    rw [hz] at hi
    rw [hb i hi]
    by_cases hlt : i < s.size - 1 - i
    · have := (e (s.size - 1 - i)).1 (h _ (by omega) (by omega))
      rw [show s.size - 1 - (s.size - 1 - i) = i by omega] at this
      rcases this with h1 | h1
      · omega
      · exact h1.symm
    · rcases (e i).1 (h i (by omega) (by omega)) with h1 | h1
      · omega
      · exact h1
theorem up_up {x : Int} (h : up x ≠ 0) : up (up x) = x := by
  rcases up_cases x with ⟨h1, h2⟩ | ⟨h1, h2⟩ | ⟨h1, h2⟩ | ⟨_, _, _, _, _, h2⟩
  · rw [h2, h2]
  · rw [h2, h1]; decide
  · rw [h2, h1]; decide
  · exact absurd h2 h
theorem kind_u (s t : ByteArray) (b : Bool) (h1 : b = true ↔ ∀ j : Nat, j < s.size → up (bt s j) ≠ 0) (h2 : b = true → li t = ((li s).map up).reverse) :
    (if b = true then (t.toList == s.toList) else false) = allF (mayAt 117 s s.size) s.size 0 := by
  have e : ∀ j, (mayAt 117 s s.size j = true ↔ up (bt s j) ≠ 0 ∧ (j < s.size - 1 - j ∨ bt s ((s.size - 1 - j : Nat) : Int) = up (bt s j))) := fun j => by simp [mayAt]
  by_cases hb : b = true
  · rw [if_pos hb, beq_li, Bool.eq_iff_iff, allF_iff, decide_eq_true_eq]
    have ht := h2 hb
    have hu := h1.1 hb
    have hz : t.size = s.size := by rw [size_li ht, List.length_reverse, List.length_map, li_length]
    have hbt : ∀ i : Nat, i < s.size → bt t i = up (bt s ((s.size - 1 - i : Nat) : Int)) := by
      intro i hi
      rw [bt_of_li (s := s) ht, getD_reverse _ _ (by rw [List.length_map, li_length]; exact hi), List.length_map, li_length, bt_li]
      have hlt : s.size - 1 - i < (li s).length := by rw [li_length]; omega
      simp [List.getD_eq_getElem?_getD, hlt]
    constructor
    · intro h j _ hj
      refine (e j).2 ⟨hu j (by omega), .inr ?_⟩
      have h3 := hbt (s.size - 1 - j) (by omega)
      rw [show s.size - 1 - (s.size - 1 - j) = j by omega] at h3
      rw [← h3, bt_li, bt_li, h]
    · intro h
      refine li_ext hz fun i hi => ?_
      rw [hz] at hi
      rw [hbt i hi]
      by_cases hlt : i < s.size - 1 - i
      · have := ((e (s.size - 1 - i)).1 (h _ (by omega) (by omega))).2
        rw [show s.size - 1 - (s.size - 1 - i) = i by omega] at this
        rcases this with h3 | h3
        · omega
        · exact h3.symm
      · rcases ((e i).1 (h i (by omega) (by omega))).2 with h3 | h3
        · omega
        · rw [h3, up_up (hu i hi)]
  · rw [if_neg hb]
    symm
    cases ha : allF (mayAt 117 s s.size) s.size 0 with
    | false => rfl
    | true =>
      exfalso
      apply hb
      rw [h1]
      intro j hj
      exact ((e j).1 ((allF_iff _ _ _).1 ha j (by omega) (by omega))).1
theorem rise_le (s : ByteArray) (hd : ∀ j : Nat, j < s.size → 48 ≤ bt s j ∧ bt s j ≤ 57) (h : ∀ j : Nat, 1 ≤ j → j < s.size → bt s ((j - 1 : Nat) : Int) < bt s j) :
    ∀ d i : Nat, i + d + 1 = s.size → bt s i + d ≤ 57
  | 0, i, hi => by have := hd i (by omega); omega
  | d + 1, i, hi => by
    have h1 := rise_le s hd h d (i + 1) (by omega)
    have h2 := h (i + 1) (by omega) (by omega)
    rw [show i + 1 - 1 = i by omega] at h2
    omega
theorem fall_ge (s : ByteArray) (hd : ∀ j : Nat, j < s.size → 48 ≤ bt s j ∧ bt s j ≤ 57) (h : ∀ j : Nat, 1 ≤ j → j < s.size → bt s j < bt s ((j - 1 : Nat) : Int)) :
    ∀ d i : Nat, i + d + 1 = s.size → 48 + (d : Int) ≤ bt s i
  | 0, i, hi => by have := hd i (by omega); omega
  | d + 1, i, hi => by
    have h1 := fall_ge s hd h d (i + 1) (by omega)
    have h2 := h (i + 1) (by omega) (by omega)
    rw [show i + 1 - 1 = i by omega] at h2
    omega
def riseAt (s : ByteArray) (i : Nat) : Bool := decide (bt s ((i - 1 : Nat) : Int) < bt s i)
def fallAt (s : ByteArray) (i : Nat) : Bool := decide (bt s i < bt s ((i - 1 : Nat) : Int))
theorem kind_r (s : ByteArray) (h1 : 1 ≤ s.size) (hd : ∀ j : Nat, j < s.size → 48 ≤ bt s j ∧ bt s j ≤ 57) : allF (riseAt s) (s.size - 1) 1 = allF (mayAt 114 s s.size) s.size 0 := by
  have e : ∀ j, (mayAt 114 s s.size j = true ↔ (j = 0 ∨ bt s ((j - 1 : Nat) : Int) < bt s j) ∧ bt s j - 48 + ((s.size - 1 - j : Nat) : Int) ≤ 9) := fun j => by simp [mayAt]
  rw [Bool.eq_iff_iff, allF_iff, allF_iff]
  constructor
  · intro h j _ hj
    have hr : ∀ j : Nat, 1 ≤ j → j < s.size → bt s ((j - 1 : Nat) : Int) < bt s j := fun j a b => by simpa [riseAt] using h j a (by omega)
    refine (e j).2 ⟨?_, ?_⟩
    · by_cases h0 : j = 0
      · exact .inl h0
      · exact .inr (hr j (by omega) (by omega))
    · have := rise_le s hd hr (s.size - 1 - j) j (by omega)
      omega
  · intro h j a b
    rcases ((e j).1 (h j (by omega) (by omega))).1 with h0 | h0
    · omega
    · simpa [riseAt] using h0
theorem kind_f (s : ByteArray) (h1 : 1 ≤ s.size) (hd : ∀ j : Nat, j < s.size → 48 ≤ bt s j ∧ bt s j ≤ 57) : allF (fallAt s) (s.size - 1) 1 = allF (mayAt 102 s s.size) s.size 0 := by
  have e : ∀ j, (mayAt 102 s s.size j = true ↔ (j = 0 ∨ bt s j < bt s ((j - 1 : Nat) : Int)) ∧ ((s.size - 1 - j : Nat) : Int) ≤ bt s j - 48) := fun j => by simp [mayAt]
  rw [Bool.eq_iff_iff, allF_iff, allF_iff]
  constructor
  · intro h j _ hj
    have hr : ∀ j : Nat, 1 ≤ j → j < s.size → bt s j < bt s ((j - 1 : Nat) : Int) := fun j a b => by simpa [fallAt] using h j a (by omega)
    refine (e j).2 ⟨?_, ?_⟩
    · by_cases h0 : j = 0
      · exact .inl h0
      · exact .inr (hr j (by omega) (by omega))
    · have := fall_ge s hd hr (s.size - 1 - j) j (by omega)
      omega
  · intro h j a b
    rcases ((e j).1 (h j (by omega) (by omega))).1 with h0 | h0
    · omega
    · simpa [fallAt] using h0

/-- the letters of the kinds -/
def isLetter (c : UInt8) : Prop := c = 97 ∨ c = 109 ∨ c = 117 ∨ c = 114 ∨ c = 102 ∨ c = 100

theorem miIs_rise (s : ByteArray) (h9 : s.size ≤ 9) (h1 : 1 ≤ s.size) : Ev (fun k => spec_miIs.l0 k s (kt 114) 1) (allF (riseAt s) (s.size - 1) 1) := by
  have stop : Ev (fun k => spec_miIs.l0 k s (kt 114) ((s.size : Nat) : Int)) true := by
    refine Ev.step (f := fun _ => some true) (fun k => ?_) (Ev.now _)
    simp only [spec_miIs.l0]
    rw [if_neg (by omega)]
  have body : ∀ i : Nat, 1 ≤ i → i < s.size → ∀ k, spec_miIs.l0 (k + 1) s (kt 114) (i : Int) = if bt s i ≤ bt s ((i - 1 : Nat) : Int) then some false else spec_miIs.l0 k s (kt 114) ((i + 1 : Nat) : Int) := by
    intro i hi1 hi k
    have e1 : wrap64 ((i : Int) - 1) = ((i - 1 : Nat) : Int) := by rw [wrap_id (by omega) (by omega)]; omega
    have e2 : wrap64 ((i : Int) + 1) = ((i + 1 : Nat) : Int) := by rw [wrap_id (by omega) (by omega)]; rfl
    simp only [spec_miIs.l0, kt_toList, e1, e2]
    rw [if_pos (by omega), if_true, if_pos (by omega), if_pos (by omega), if_pos (by omega)]
    have hne : ¬ ([114] : List UInt8) = [102] := by decide
    simp only [hne, if_false]
  refine Ev.eq (Ev_all_from (l := fun k i => spec_miIs.l0 k s (kt 114) (i : Int)) (p := riseAt s) (n := s.size) (m := 1) stop ?_ ?_ (s.size - 1) 1 (by omega) (by omega)) (by simp)
  · intro i hm hi hp q hq
    simp only [riseAt, decide_eq_true_eq] at hp
    exact Ev.step (fun k => by rw [body i hm hi k, if_neg (by omega)]) hq
  · intro i hm hi hp
    simp only [riseAt, decide_eq_false_iff_not] at hp
    exact Ev.step (f := fun _ => some false) (fun k => by rw [body i hm hi k, if_pos (by omega)]) (Ev.now _)
theorem miIs_fall (s : ByteArray) (h9 : s.size ≤ 9) (h1 : 1 ≤ s.size) : Ev (fun k => spec_miIs.l0 k s (kt 102) 1) (allF (fallAt s) (s.size - 1) 1) := by
  have stop : Ev (fun k => spec_miIs.l0 k s (kt 102) ((s.size : Nat) : Int)) true := by
    refine Ev.step (f := fun _ => some true) (fun k => ?_) (Ev.now _)
    simp only [spec_miIs.l0]
    rw [if_neg (by omega)]
  have body : ∀ i : Nat, 1 ≤ i → i < s.size → ∀ k, spec_miIs.l0 (k + 1) s (kt 102) (i : Int) = if bt s i ≥ bt s ((i - 1 : Nat) : Int) then some false else spec_miIs.l0 k s (kt 102) ((i + 1 : Nat) : Int) := by
    intro i hi1 hi k
    have e1 : wrap64 ((i : Int) - 1) = ((i - 1 : Nat) : Int) := by rw [wrap_id (by omega) (by omega)]; omega
    have e2 : wrap64 ((i : Int) + 1) = ((i + 1 : Nat) : Int) := by rw [wrap_id (by omega) (by omega)]; rfl
    have hne : ¬ ([102] : List UInt8) = [114] := by decide
    simp only [spec_miIs.l0, kt_toList, e1, e2]
    rw [if_pos (by omega), if_neg hne, if_true, if_pos (by omega), if_pos (by omega), if_pos (by omega)]
  refine Ev.eq (Ev_all_from (l := fun k i => spec_miIs.l0 k s (kt 102) (i : Int)) (p := fallAt s) (n := s.size) (m := 1) stop ?_ ?_ (s.size - 1) 1 (by omega) (by omega)) (by simp)
  · intro i hm hi hp q hq
    simp only [fallAt, decide_eq_true_eq] at hp
    exact Ev.step (fun k => by rw [body i hm hi k, if_neg (by omega)]) hq
  · intro i hm hi hp
    simp only [fallAt, decide_eq_false_iff_not] at hp
    exact Ev.step (f := fun _ => some false) (fun k => by rw [body i hm hi k, if_pos (by omega)]) (Ev.now _)

/-- THE TWO TESTS OF A KIND ARE ONE. -/
theorem miIs_ev (c : UInt8) (hc : isLetter c) (s : ByteArray) (h1 : 1 ≤ s.size) (h9 : s.size ≤ 9) (hd : ∀ j : Nat, j < s.size → 48 ≤ bt s j ∧ bt s j ≤ 57) :
    Ev (fun k => spec_miIs.f k s (kt c)) (allF (mayAt (c.toNat : Int) s s.size) s.size 0) := by
  unfold spec_miIs.f
  simp only [kt_toList]
  have ne : ∀ {a b : UInt8}, a ≠ b → ¬ ([a] : List UInt8) = [b] := fun h e => h (by simpa using e)
  rcases hc with rfl | rfl | rfl | rfl | rfl | rfl
  · refine Ev.pos rfl ?_
    simp only [miDigits_dig h9 hd, Option.bind_some]
    exact Ev.eq (Ev.now _) (kind_a s h1)
  · refine Ev.neg (ne (by decide)) (Ev.pos rfl ?_)
    obtain ⟨t, ht, hl⟩ := miTurn_ev s (by omega)
    exact Ev.bind' ht (Ev.eq (Ev.now _) (kind_m s t hl))
  · refine Ev.neg (ne (by decide)) (Ev.neg (ne (by decide)) (Ev.pos rfl ?_))
    obtain ⟨t, b, ht, h2, h3, _⟩ := miUpside_ev s (by omega)
    refine Ev.bind' ht ?_
    have hk := kind_u s t b h2 h3
    by_cases hb : b = true
    · refine Ev.pos hb (Ev.eq (Ev.now _) ?_)
      rw [if_pos hb] at hk; exact hk
    · refine Ev.neg hb (Ev.eq (Ev.now _) ?_)
      rw [if_neg hb] at hk; exact hk
  · refine Ev.neg (ne (by decide)) (Ev.neg (ne (by decide)) (Ev.neg (ne (by decide)) (Ev.neg (ne (by decide)) ?_)))
    exact Ev.eq (miIs_rise s h9 h1) (kind_r s h1 hd)
  · refine Ev.neg (ne (by decide)) (Ev.neg (ne (by decide)) (Ev.neg (ne (by decide)) (Ev.neg (ne (by decide)) ?_)))
    exact Ev.eq (miIs_fall s h9 h1) (kind_f s h1 hd)
  · refine Ev.neg (ne (by decide)) (Ev.neg (ne (by decide)) (Ev.neg (ne (by decide)) (Ev.pos rfl ?_)))
    simp only [miDigits_dig h9 hd, Option.bind_some]
    exact Ev.eq (Ev.now _) (kind_d s)

end Go.Proofs.Ytpdcjkiejglaiaa.Q
