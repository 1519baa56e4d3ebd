/-
  KindsOfReading: the program and the reference return the same letters, for every text.
-/
import Derived.Test.YtpdcjkiejglaiaaM5
import Derived.Test.YtpdcjkiejglaiaaQf6
namespace Go.Proofs.Ytpdcjkiejglaiaa.Pure
open Go.RowKit Go.Proofs.Ytpdcjkiejglaiaa.Q Go.Proofs.YtpdcjkiejglaiaaW.PrintWords Go.Proofs.YtpdcjkiejglaiaaW.PrintLast
set_option linter.unusedVariables false
set_option linter.unusedSimpArgs false

/-- the letters out of a list for which a test holds -/
def pick (M : Int → Bool) : List UInt8 → List Int
  | [] => []
  | c :: l => if M (c.toNat : Int) = true then (c.toNat : Int) :: pick M l else pick M l
theorem pick_length (M : Int → Bool) : ∀ l, (pick M l).length ≤ l.length
  | [] => by simp [pick]
  | c :: l => by have := pick_length M l; simp only [pick]; split <;> simp <;> omega

def letters : List UInt8 := [97, 109, 117, 114, 102, 100]
def specList : List ByteArray := [(⟨#[97]⟩ : ByteArray), (⟨#[109]⟩ : ByteArray), (⟨#[117]⟩ : ByteArray), (⟨#[114]⟩ : ByteArray), (⟨#[102]⟩ : ByteArray), (⟨#[100]⟩ : ByteArray)]
theorem specList_at : ∀ i : Nat, i < 6 → rdOf ByteArray.empty specList (i : Int) = kt (letters.getD i 0) := by
  intro i hi
  match i, hi with
  | 0, _ => rfl
  | 1, _ => rfl
  | 2, _ => rfl
  | 3, _ => rfl
  | 4, _ => rfl
  | 5, _ => rfl
theorem implList_at : ∀ i : Nat, i < 6 → rd [97, 109, 117, 114, 102, 100] (i : Int) = ((letters.getD i 0).toNat : Int) := by
  intro i hi
  match i, hi with
  | 0, _ => rfl
  | 1, _ => rfl
  | 2, _ => rfl
  | 3, _ => rfl
  | 4, _ => rfl
  | 5, _ => rfl
theorem letter_at : ∀ i : Nat, i < 6 → isLetter (letters.getD i 0) := by
  intro i hi
  unfold isLetter
  match i, hi with
  | 0, _ => decide
  | 1, _ => decide
  | 2, _ => decide
  | 3, _ => decide
  | 4, _ => decide
  | 5, _ => decide
theorem drop_at (i : Nat) (hi : i < 6) : letters.drop i = letters.getD i 0 :: letters.drop (i + 1) := by
  have h : i < letters.length := hi
  rw [List.drop_eq_getElem_cons h]
  simp [List.getD_eq_getElem?_getD, h]

section
variable (s : ByteArray) (M : Int → Bool)
theorem spec_loop (hM : ∀ c, isLetter c → Ev (fun k => spec_miIs.f k s (kt c)) (M (c.toNat : Int))) : ∀ (d i : Nat) (acc : ByteArray), i + d = 6 → acc.size ≤ i →
    ∃ t, Ev (fun k => spec_KindsOfReading.l0 k s acc specList 6 (i : Int)) (t, true) ∧ li t = li acc ++ pick M (letters.drop i)
  | 0, i, acc, h, _ => by
    obtain rfl : i = 6 := by omega
    refine ⟨acc, Ev.step (f := fun _ => some (acc, true)) (fun k => ?_) (Ev.now _), by simp [letters, pick]⟩
    simp only [spec_KindsOfReading.l0]
    rw [if_neg (by omega)]
  | d + 1, i, acc, h, ha => by
    have hi : i < 6 := by omega
    have e1 : wrap64 ((i : Int) + 1) = ((i + 1 : Nat) : Int) := by rw [wrap_id (by omega) (by omega)]; rfl
    have hm := hM _ (letter_at i hi)
    have hz : (kt (letters.getD i 0)).size = 1 := rfl
    have body : ∀ k, spec_KindsOfReading.l0 (k + 1) s acc specList 6 (i : Int) = (spec_miIs.f k s (kt (letters.getD i 0))).bind fun t => if t = true then (if acc.size + 1 ≤ 9223372036854775807 then spec_KindsOfReading.l0 k s (acc ++ kt (letters.getD i 0)) specList 6 ((i + 1 : Nat) : Int) else none) else spec_KindsOfReading.l0 k s acc specList 6 ((i + 1 : Nat) : Int) := by
      intro k
      simp only [spec_KindsOfReading.l0]
      rw [if_pos (by omega), if_pos (by omega), if_pos (by show (i : Int) < 6; omega), specList_at i hi, e1, hz]
    have hp : pick M (letters.drop i) = if M ((letters.getD i 0).toNat : Int) = true then ((letters.getD i 0).toNat : Int) :: pick M (letters.drop (i + 1)) else pick M (letters.drop (i + 1)) := by
      rw [drop_at i hi]; rfl
    by_cases hb : M ((letters.getD i 0).toNat : Int) = true
    · obtain ⟨t, ht, hl⟩ := spec_loop hM d (i + 1) (acc ++ kt (letters.getD i 0)) (by omega) (by rw [ByteArray.size_append, hz]; omega)
      refine ⟨t, Ev.step body (Ev.bind' hm (Ev.pos hb (Ev.pos (by omega) ht))), ?_⟩
      rw [hl, hp, if_pos hb, li_append]
      simp [kt, li_lit1]
    · obtain ⟨t, ht, hl⟩ := spec_loop hM d (i + 1) acc (by omega) (by omega)
      refine ⟨t, Ev.step body (Ev.bind' hm (Ev.neg hb ht)), ?_⟩
      rw [hl, hp, if_neg hb]
theorem impl_loop (hM : ∀ c, isLetter c → Ev (fun k => impl_isOf.f k (c.toNat : Int) s) (M (c.toNat : Int))) : ∀ (d i : Nat) (acc : List Int), i + d = 6 → acc.length ≤ i →
    Ev (fun k => impl_KindsOfReading.l0 k s acc [97, 109, 117, 114, 102, 100] 6 (i : Int)) (strOfNums (acc ++ pick M (letters.drop i)), true)
  | 0, i, acc, h, _ => by
    obtain rfl : i = 6 := by omega
    refine Ev.step (f := fun _ => some (strOfNums acc, true)) (fun k => ?_) (Ev.eq (Ev.now _) (by simp [letters, pick]))
    simp only [impl_KindsOfReading.l0]
    rw [if_neg (by omega)]
  | d + 1, i, acc, h, ha => by
    have hi : i < 6 := by omega
    have e1 : wrap64 ((i : Int) + 1) = ((i + 1 : Nat) : Int) := by rw [wrap_id (by omega) (by omega)]; rfl
    have hm := hM _ (letter_at i hi)
    have body : ∀ k, impl_KindsOfReading.l0 (k + 1) s acc [97, 109, 117, 114, 102, 100] 6 (i : Int) = (impl_isOf.f k ((letters.getD i 0).toNat : Int) s).bind fun t => if t = true then (if acc.length < 140737488355328 then impl_KindsOfReading.l0 k s (acc ++ [((letters.getD i 0).toNat : Int)]) [97, 109, 117, 114, 102, 100] 6 ((i + 1 : Nat) : Int) else none) else impl_KindsOfReading.l0 k s acc [97, 109, 117, 114, 102, 100] 6 ((i + 1 : Nat) : Int) := by
      intro k
      simp only [impl_KindsOfReading.l0]
      rw [if_pos (by omega), if_pos (by omega), if_pos (by show (i : Int) < 6; omega), implList_at i hi, e1]
    have hp : pick M (letters.drop i) = if M ((letters.getD i 0).toNat : Int) = true then ((letters.getD i 0).toNat : Int) :: pick M (letters.drop (i + 1)) else pick M (letters.drop (i + 1)) := by
      rw [drop_at i hi]; rfl
    by_cases hb : M ((letters.getD i 0).toNat : Int) = true
    · have ih := impl_loop hM d (i + 1) (acc ++ [((letters.getD i 0).toNat : Int)]) (by omega) (by simp; omega)
      refine Ev.step body (Ev.bind' hm (Ev.pos hb (Ev.pos (by omega) (Ev.eq ih ?_))))
      rw [hp, if_pos hb]
      simp
    · have ih := impl_loop hM d (i + 1) acc (by omega) (by omega)
      refine Ev.step body (Ev.bind' hm (Ev.neg hb (Ev.eq ih ?_)))
      rw [hp, if_neg hb]
end
theorem pick_small (M : Int → Bool) : ∀ l, ∀ x ∈ pick M l, 0 ≤ x ∧ x < 256
  | [], x, h => by simp [pick] at h
  | c :: l, x, h => by
    have hc := c.toNat_lt
    simp only [pick] at h
    split at h
    · rcases List.mem_cons.1 h with rfl | h
      · omega
      · exact pick_small M l x h
    · exact pick_small M l x h
theorem li_strOfNums (l : List Int) (h : ∀ x ∈ l, 0 ≤ x ∧ x < 256) : li (strOfNums l) = l := by
  unfold li strOfNums
  simp only [List.map_map]
  rw [List.map_congr_left (g := id)]
  · simp
  · intro x hx
    have := h x hx
    simp [Nat.toUInt8]
    omega

theorem FnExactKindsOfReading : laws_FnExactKindsOfReading.Pure := by
  intro s hs
  refine Ev.rounds (g := fun k => laws_FnExactKindsOfReading.f k s) ?_
  unfold laws_FnExactKindsOfReading.f
  by_cases hbig : (s.size : Int) > 1048576
  · exact Ev.pos hbig (Ev.now _)
  refine Ev.neg hbig ?_
  by_cases hg : good s = true
  · obtain ⟨h1, h9, hd⟩ := good_at hg
    have hM := fun c hc => miIs_ev c hc s h1 h9 hd
    have hI := fun (c : UInt8) (hc : isLetter c) => isOf_ev (c.toNat : Int) s h9 hd
    obtain ⟨t, ht, hl⟩ := spec_loop s (fun c => allF (mayAt c s s.size) s.size 0) hM 6 0 ⟨#[]⟩ rfl (Nat.le_refl _)
    have hi := impl_loop s (fun c => allF (mayAt c s s.size) s.size 0) hI 6 0 [] rfl (Nat.le_refl _)
    refine Ev.bind' (a := (t, true)) ?_ (Ev.bind' (a := (strOfNums ([] ++ pick (fun c => allF (mayAt c s s.size) s.size 0) (letters.drop 0)), true)) ?_ ?_)
    · unfold spec_KindsOfReading.f
      refine Ev.bind' (miGood_ev s hs) (Ev.pos hg ?_)
      simp only [Option.bind_some]
      exact ht
    · unfold impl_KindsOfReading.f
      refine Ev.bind' (IsReading_ev s hs) (Ev.pos hg ?_)
      simp only [Option.bind_some]
      exact hi
    · refine Ev.pos ?_ (Ev.neg (by simp) (Ev.now _))
      rw [toList_li, hl, li_strOfNums _ (by simpa using pick_small _ _)]
      rfl
  · have hg' : good s = false := by simpa using hg
    refine Ev.bind' (a := ((⟨#[]⟩ : ByteArray), false)) ?_ (Ev.bind' (a := ((⟨#[]⟩ : ByteArray), false)) ?_ ?_)
    · unfold spec_KindsOfReading.f
      exact Ev.bind' (miGood_ev s hs) (Ev.neg hg (Ev.now _))
    · unfold impl_KindsOfReading.f
      exact Ev.bind' (IsReading_ev s hs) (Ev.neg hg (Ev.now _))
    · exact Ev.pos rfl (Ev.neg (by decide) (Ev.now _))

end Go.Proofs.Ytpdcjkiejglaiaa.Pure
