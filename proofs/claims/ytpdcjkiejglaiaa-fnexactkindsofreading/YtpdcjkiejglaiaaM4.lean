/-
  The reference's readings turned, upside down, and its test of a kind, in plain words: a reading is of a kind just if each of its digits may stand where it stands.
-/
import Derived.Test.YtpdcjkiejglaiaaM3
import Derived.Test.YtpdcjkiejglaiaaQf35
import Derived.Test.YtpdcjkiejglaiaaQf59
import Derived.Test.YtpdcjkiejglaiaaQf60
namespace Go.Proofs.Ytpdcjkiejglaiaa.Q
open Go.RowKit Go.Proofs.YtpdcjkiejglaiaaW.PrintWords Go.Proofs.YtpdcjkiejglaiaaW.PrintLast Go.Proofs.YtpdcjkiejglaiaaW.PrintMore
set_option linter.unusedVariables false
set_option linter.unusedSimpArgs false

theorem li_one (s : ByteArray) (i : Nat) (hi : i < s.size) : li (s.extract i (i + 1)) = [bt s i] := by
  have h : i < (li s).length := by rw [li_length]; exact hi
  rw [li_extract, bt_li, show i + 1 - i = 1 by omega]
  have e : (li s).getD ((i : Int)).toNat 0 = (li s)[i] := by simp [List.getD_eq_getElem?_getD, h]
  rw [e, List.drop_eq_getElem_cons h]
  rfl
theorem li_take_succ (s : ByteArray) (i : Nat) (hi : i < s.size) : (li s).take (i + 1) = (li s).take i ++ [bt s i] := by
  have h : i < (li s).length := by rw [li_length]; exact hi
  rw [List.take_succ_eq_append_getElem h, bt_li]
  simp [List.getD_eq_getElem?_getD, h]
theorem getD_reverse (l : List Int) (i : Nat) (hi : i < l.length) : l.reverse.getD i 0 = l.getD (l.length - 1 - i) 0 := by
  have h2 : l.length - 1 - i < l.length := by omega
  simp [List.getD_eq_getElem?_getD, List.getElem?_reverse, hi, h2]

theorem turn_loop (s : ByteArray) (hs : s.size ≤ 140737488351232) : ∀ (i : Nat) (acc : ByteArray), i ≤ s.size → acc.size + i ≤ 281474976710656 →
    ∃ t, Ev (fun k => spec_miTurn.l0 k s acc ((i : Int) - 1)) t ∧ li t = li acc ++ ((li s).take i).reverse
  | 0, acc, _, _ => by
    refine ⟨acc, Ev.step (f := fun _ => some acc) (fun k => ?_) (Ev.now _), by simp⟩
    simp only [spec_miTurn.l0]
    rw [if_neg (by omega)]
  | i + 1, acc, hi, ha => by
    have hz : (s.extract i (i + 1)).size = 1 := by rw [ByteArray.size_extract]; omega
    obtain ⟨t, ht, hl⟩ := turn_loop s hs i (acc ++ s.extract i (i + 1)) (by omega) (by rw [ByteArray.size_append, hz]; omega)
    refine ⟨t, Ev.step (fun k => ?_) ht, ?_⟩
    · simp only [spec_miTurn.l0]
      have e0 : ((i + 1 : Nat) : Int) - 1 = (i : Int) := by omega
      rw [e0]
      have e1 : wrap64 ((i : Int) + 1) = ((i + 1 : Nat) : Int) := by rw [wrap_id (by omega) (by omega)]; rfl
      rw [e1, show ((i : Int)).toNat = i from rfl, show (((i + 1 : Nat) : Int)).toNat = i + 1 from rfl, hz]
      rw [if_pos (by omega), if_pos (by omega), if_pos (by omega), if_pos (by omega), if_pos (by omega), wrap_id (by omega) (by omega)]
    · rw [hl, li_append, li_one s i (by omega), li_take_succ s i (by omega)]
      simp
theorem miTurn_ev (s : ByteArray) (hs : s.size ≤ 140737488351232) : ∃ t, Ev (fun k => spec_miTurn.f k s) t ∧ li t = (li s).reverse := by
  obtain ⟨t, ht, hl⟩ := turn_loop s hs s.size ⟨#[]⟩ (Nat.le_refl _) (by show 0 + s.size ≤ _; omega)
  refine ⟨t, ?_, ?_⟩
  · unfold spec_miTurn.f
    rw [wrap_id (by omega) (by omega)]
    exact ht
  · rw [hl, List.take_of_length_le (by rw [li_length]; omega)]
    rfl

theorem li_lit1 (c : UInt8) : li ⟨#[c]⟩ = [(c.toNat : Int)] := rfl
theorem up_cases (x : Int) : (x = 48 ∨ x = 49 ∨ x = 56) ∧ up x = x ∨ x = 54 ∧ up x = 57 ∨ x = 57 ∧ up x = 54 ∨ x ≠ 48 ∧ x ≠ 49 ∧ x ≠ 56 ∧ x ≠ 54 ∧ x ≠ 57 ∧ up x = 0 := by
  unfold up
  by_cases h : x = 48 ∨ x = 49 ∨ x = 56
  · exact .inl ⟨h, by rw [if_pos h]⟩
  · rw [if_neg h]
    by_cases h4 : x = 54
    · subst h4; exact .inr (.inl ⟨rfl, by decide⟩)
    · by_cases h5 : x = 57
      · subst h5; exact .inr (.inr (.inl ⟨rfl, by decide⟩))
      · rw [if_neg h4, if_neg h5]
        exact .inr (.inr (.inr ⟨by omega, by omega, by omega, h4, h5, rfl⟩))
def upOk (s : ByteArray) (i : Nat) : Bool := up (bt s i) != 0
theorem up_loop (s : ByteArray) (hs : s.size ≤ 140737488351232) : ∀ (i : Nat) (acc : ByteArray), i ≤ s.size → acc.size + i ≤ 281474976710656 →
    ∃ t b, Ev (fun k => spec_miUpside.l0 k s acc ((i : Int) - 1)) (t, b) ∧ (b = true ↔ ∀ j : Nat, j < i → up (bt s j) ≠ 0) ∧ (b = true → li t = li acc ++ (((li s).take i).map up).reverse) ∧ (b = false → t = ⟨#[]⟩)
  | 0, acc, _, _ => by
    refine ⟨acc, true, Ev.step (f := fun _ => some (acc, true)) (fun k => ?_) (Ev.now _), by simp, by simp, by simp⟩
    simp only [spec_miUpside.l0]
    rw [if_neg (by omega)]
  | i + 1, acc, hi, ha => by
    have e0 : ((i + 1 : Nat) : Int) - 1 = (i : Int) := by omega
    have e1 : wrap64 ((i : Int) + 1) = ((i + 1 : Nat) : Int) := by rw [wrap_id (by omega) (by omega)]; rfl
    have hz : (s.extract i (i + 1)).size = 1 := by rw [ByteArray.size_extract]; omega
    have fin : ∀ (acc' : ByteArray), acc'.size = acc.size + 1 → li acc' = li acc ++ [up (bt s i)] → up (bt s i) ≠ 0 →
        (∀ q, Ev (fun k => spec_miUpside.l0 k s acc' ((i : Int) - 1)) q → Ev (fun k => spec_miUpside.l0 k s acc (i : Int)) q) →
        ∃ t b, Ev (fun k => spec_miUpside.l0 k s acc (i : Int)) (t, b) ∧ (b = true ↔ ∀ j : Nat, j < i + 1 → up (bt s j) ≠ 0) ∧ (b = true → li t = li acc ++ (((li s).take (i + 1)).map up).reverse) ∧ (b = false → t = ⟨#[]⟩) := by
      intro acc' hsz hl hu go
      obtain ⟨t, b, ht, h1, h2, h3⟩ := up_loop s hs i acc' (by omega) (by omega)
      refine ⟨t, b, go _ ht, ?_, ?_, h3⟩
      · rw [h1]
        constructor
        · intro h j hj
          by_cases e : j = i
          · rw [e]; exact hu
          · exact h j (by omega)
        · intro h j hj
          exact h j (by omega)
      · intro hb
        rw [h2 hb, hl, li_take_succ s i (by omega)]
        simp
    rw [e0]
    rcases up_cases (bt s i) with ⟨h, hu⟩ | ⟨h, hu⟩ | ⟨h, hu⟩ | ⟨h1, h2, h3, h4, h5, hu⟩
    · refine fin (acc ++ s.extract i (i + 1)) (by rw [ByteArray.size_append, hz]) (by rw [li_append, li_one s i (by omega), hu]) (by rw [hu]; omega) fun q hq => ?_
      have step : ∀ k, spec_miUpside.j1 (k + 1) s acc (i : Int) (bt s i) true = spec_miUpside.l0 k s (acc ++ s.extract i (i + 1)) ((i : Int) - 1) := by
        intro k
        simp only [spec_miUpside.j1]
        rw [if_true, e1, show ((i : Int)).toNat = i from rfl, show (((i + 1 : Nat) : Int)).toNat = i + 1 from rfl, hz]
        rw [if_pos (by omega), if_pos (by omega), if_pos (by omega), if_pos (by omega), wrap_id (by omega) (by omega)]
      refine Ev.step (f := fun k => spec_miUpside.j1 k s acc (i : Int) (bt s i) true) (fun k => ?_) (Ev.step step hq)
      simp only [spec_miUpside.l0]
      rw [if_pos (by omega), if_pos (by omega), if_pos (by omega)]
      by_cases h48 : bt s i = 48
      · rw [if_pos h48]; simp [h48]
      · rw [if_neg h48]
        by_cases h49 : bt s i = 49
        · rw [if_pos h49]; simp [h49]
        · rw [if_neg h49]
          have h56 : bt s i = 56 := by omega
          simp [h56]
    all_goals
      have j : ∀ k, spec_miUpside.l0 (k + 1) s acc (i : Int) = spec_miUpside.j1 k s acc (i : Int) (bt s i) false := by
        intro k
        simp only [spec_miUpside.l0]
        rw [if_pos (by omega), if_pos (by omega), if_pos (by omega), if_neg (by omega), if_neg (by omega)]
        have h56 : (bt s (i : Int) == 56) = false := by rw [beq_eq_false_iff_ne]; omega
        rw [h56]
    · refine fin (acc ++ ⟨#[57]⟩) (by rw [ByteArray.size_append]; rfl) (by rw [li_append, hu]; rfl) (by rw [hu]; decide) fun q hq => ?_
      refine Ev.step j (Ev.step (fun k => ?_) hq)
      simp only [spec_miUpside.j1]
      rw [if_neg (by decide), if_pos h, if_pos (by omega), wrap_id (by omega) (by omega)]
    · refine fin (acc ++ ⟨#[54]⟩) (by rw [ByteArray.size_append]; rfl) (by rw [li_append, hu]; rfl) (by rw [hu]; decide) fun q hq => ?_
      refine Ev.step j (Ev.step (fun k => ?_) hq)
      simp only [spec_miUpside.j1]
      rw [if_neg (by decide), if_neg (by omega), if_pos h, if_pos (by omega), wrap_id (by omega) (by omega)]
    · refine ⟨⟨#[]⟩, false, Ev.step j (Ev.step (f := fun _ => some (⟨#[]⟩, false)) (fun k => ?_) (Ev.now _)), ?_, by simp, by simp⟩
      · simp only [spec_miUpside.j1]
        rw [if_neg (by decide), if_neg h4, if_neg h5]
      · simp only [Bool.false_eq_true, false_iff]
        intro h
        exact h i (by omega) hu
theorem miUpside_ev (s : ByteArray) (hs : s.size ≤ 140737488351232) : ∃ t b, Ev (fun k => spec_miUpside.f k s) (t, b) ∧ (b = true ↔ ∀ j : Nat, j < s.size → up (bt s j) ≠ 0) ∧ (b = true → li t = ((li s).map up).reverse) ∧ (b = false → t = ⟨#[]⟩) := by
  obtain ⟨t, b, ht, h1, h2, h3⟩ := up_loop s hs s.size ⟨#[]⟩ (Nat.le_refl _) (by show 0 + s.size ≤ _; omega)
  refine ⟨t, b, ?_, h1, ?_, h3⟩
  · unfold spec_miUpside.f
    rw [wrap_id (by omega) (by omega)]
    exact ht
  · intro hb
    rw [h2 hb, List.take_of_length_le (by rw [li_length]; omega)]
    rfl

end Go.Proofs.Ytpdcjkiejglaiaa.Q
