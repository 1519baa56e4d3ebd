/-
  Texts of this claim, joined in their build order: the contracts of the functions that the statement reaches, and plain lemmas.
-/
import Derived.Test.YtafegaaklpdgiaaJFnExactUntoldSwaps2
import Derived.Test.YtafegaaklpdgiaaJFnExactUntoldSwaps1
import Derived.Test.YtafegaaklpdgiaaJFnExactUntoldSwaps0

/-
  Plain lemmas: which rests of a sum can be reached, and the counts that 'rests' keeps. No walk here.
-/
namespace Go.Proofs.Ytafegaaklpdgiaa.Q
open Go.RowKit Go.Proofs.YtafegaaklpdgiaaW.PrintWords Go.Proofs.YtafegaaklpdgiaaW.PrintLast Go.Proofs.YtafegaaklpdgiaaW.PrintMore
set_option linter.unusedVariables false
set_option linter.unusedSimpArgs false

/-- the rests behind one digit more, of a weight -/
def stp (m w : Nat) (P : Nat → Prop) (r' : Nat) : Prop := ∃ r, r < m ∧ P r ∧ ∃ d, d < 10 ∧ (r + w * d) % m = r'
/-- the rests behind digits of these weights -/
def rch (m : Nat) (ws : List Nat) (P : Nat → Prop) : Nat → Prop := ws.foldl (fun P w => stp m w P) P
/-- whole numbers of numbers -/
def ints (ws : List Nat) : List Int := ws.map fun w : Nat => (w : Int)
theorem ints_length (ws : List Nat) : (ints ws).length = ws.length := by simp [ints]
theorem ints_app (a : List Nat) (w : Nat) (b : List Nat) : ints (a ++ w :: b) = ints a ++ (w : Int) :: ints b := by simp [ints]
theorem rd_ints (a : List Nat) (w : Nat) (b : List Nat) : rd (ints (a ++ w :: b)) (a.length : Int) = (w : Int) := by rw [ints_app, ← ints_length a, rd_app]

theorem md {r w d m : Nat} (hr : r ≤ 11) (hw : w ≤ 11) (hd : d ≤ 10) : Int.tmod (wrap64 ((r : Int) + wrap64 ((w : Int) * (d : Int)))) (m : Int) = (((r + w * d) % m : Nat) : Int) := by
  have hp : w * d ≤ 11 * 10 := Nat.mul_le_mul hw hd
  have e : (w : Int) * (d : Int) = ((w * d : Nat) : Int) := by push_cast; rfl
  rw [e]
  generalize w * d = p at hp
  rw [wr (i := (p : Int)) (by omega) (by omega), wr (by omega) (by omega)]
  have e2 : (r : Int) + (p : Int) = ((r + p : Nat) : Int) := by push_cast; rfl
  rw [e2]
  rfl

def sumL : List Int → Int
  | [] => 0
  | x :: xs => x + sumL xs
theorem sumL_set : ∀ (s : List Int) (i : Nat) (v : Int), i < s.length → sumL (s.set i v) = sumL s - s.getD i 0 + v
  | [], i, v, h => by simp at h
  | x :: s, 0, v, h => by simp [sumL]; omega
  | x :: s, i + 1, v, h => by
    have := sumL_set s i v (by simpa using h)
    simp only [List.set_cons_succ, sumL, List.getD_cons_succ]
    omega
theorem sumL_zero : ∀ n : Nat, sumL (List.replicate n 0) = 0
  | 0 => rfl
  | n + 1 => by rw [List.replicate_succ, sumL, sumL_zero n]; rfl
theorem sumL_ge : ∀ (s : List Int) (i : Nat), (∀ x ∈ s, 0 ≤ x) → s.getD i 0 ≤ sumL s ∧ 0 ≤ sumL s
  | [], i, h => by simp [sumL]
  | x :: s, 0, h => by
    have h1 := h x List.mem_cons_self
    have := (sumL_ge s 0 (fun y hy => h y (List.mem_cons_of_mem _ hy))).2
    simp only [sumL, List.getD_cons_zero]
    omega
  | x :: s, i + 1, h => by
    have h1 := h x List.mem_cons_self
    have := sumL_ge s i (fun y hy => h y (List.mem_cons_of_mem _ hy))
    simp only [sumL, List.getD_cons_succ]
    omega
theorem getD_set {α : Type} (s : List α) (i j : Nat) (v d : α) (hi : i < s.length) : (s.set i v).getD j d = if j = i then v else s.getD j d := by
  simp only [List.getD_eq_getElem?_getD, List.getElem?_set]
  by_cases h : i = j
  · subst h
    rw [if_pos rfl, if_pos hi, if_pos rfl]
    rfl
  · rw [if_neg h, if_neg (fun e => h e.symm)]

/-- a row of counts: as many as the modulus, none below 0, above 0 where P holds, S in all at most -/
structure Cnt (m : Nat) (s : List Int) (P : Nat → Prop) (S : Int) : Prop where
  len : s.length = m
  ge : ∀ x ∈ s, 0 ≤ x
  pos : ∀ r, r < m → (0 < s.getD r 0 ↔ P r)
  sum : sumL s ≤ S
theorem Cnt.imp {m : Nat} {s : List Int} {P Q : Nat → Prop} {S S' : Int} (h : Cnt m s P S) (hP : ∀ r, r < m → (P r ↔ Q r)) (hS : S ≤ S') : Cnt m s Q S' := ⟨h.len, h.ge, fun r hr => (h.pos r hr).trans (hP r hr), by have := h.sum; omega⟩
theorem Cnt.zero (m : Nat) : Cnt m (List.replicate m 0) (fun _ => False) 0 :=
  ⟨by simp, fun x hx => by rw [List.eq_of_mem_replicate hx]; exact Int.le_refl _, fun r hr => by simp [List.getD_eq_getElem?_getD, List.getElem?_replicate, hr], by rw [sumL_zero]; exact Int.le_refl _⟩
theorem Cnt.add {m : Nat} {s : List Int} {P : Nat → Prop} {S : Int} (h : Cnt m s P S) (i : Nat) (hi : i < m) (n : Int) (hn : 0 ≤ n) : Cnt m (s.set i (s.getD i 0 + n)) (fun r => P r ∨ (0 < n ∧ r = i)) (S + n) := by
  have hl := h.len
  have hg : 0 ≤ s.getD i 0 := by
    rw [List.getD_eq_getElem?_getD, List.getElem?_eq_getElem (by omega), Option.getD_some]
    exact h.ge _ (List.getElem_mem _)
  refine ⟨by rw [List.length_set]; exact hl, fun x hx => ?_, fun r hr => ?_, ?_⟩
  · rcases List.mem_or_eq_of_mem_set hx with hx | rfl
    · exact h.ge x hx
    · omega
  · rw [getD_set _ _ _ _ _ (by omega)]
    by_cases c : r = i
    · subst c
      rw [if_pos rfl, ← h.pos r hr]
      constructor
      · intro h2
        by_cases c : 0 < s.getD r 0
        · exact .inl c
        · exact .inr ⟨by omega, rfl⟩
      · rintro (h2 | ⟨h2, _⟩) <;> omega
    · rw [if_neg c, h.pos r hr]
      constructor
      · exact .inl
      · rintro (h2 | ⟨_, h2⟩)
        · exact h2
        · exact absurd h2 c
  · rw [sumL_set _ _ _ (by omega)]
    have := h.sum
    omega

/-- the innermost loop: the digits -/
theorem rests_l2 {m w r : Nat} {n : Int} (hm : 2 ≤ m) (hm2 : m ≤ 11) (hw : w < m) (hr : r < m) (hn : 0 ≤ n) (hn2 : n ≤ 100000000000000) (o : List Int) (ol : Int) (oi : Int) (s : List Int) (sl : Int) (si : Int) (l0 : List Int) :
    ∀ (e d : Nat) (x : List Int) (Q : Nat → Prop) (S : Int), d + e = 10 → Cnt m x Q S → S + (e : Int) * n ≤ 100000000000000000 →
      ∃ x', Cnt m x' (fun r' => Q r' ∨ (0 < n ∧ ∃ d', d ≤ d' ∧ d' < 10 ∧ (r + w * d') % m = r')) (S + e * n) ∧ ∀ R, Ev (fun k => impl_Check_rests.l1 k (w : Int) x' o ol oi s sl (wrap64 (si + 1)) l0 (m : Int)) R →
        Ev (fun k => impl_Check_rests.l2 k (w : Int) x (r : Int) n o ol oi s sl si (d : Int) l0 (m : Int)) R
  | 0, d, x, Q, S, hd, hx, hS => by
    refine ⟨x, hx.imp (fun r' _ => ⟨.inl, fun h => h.elim id (fun h => by obtain ⟨_, d', h1, h2, _⟩ := h; omega)⟩) (by omega), fun R h => Ev.step (fun k => ?_) h⟩
    simp only [impl_Check_rests.l2]
    rw [if_neg (by omega)]
  | e + 1, d, x, Q, S, hd, hx, hS => by
    have hlt : (r + w * d) % m < m := Nat.mod_lt _ (by omega)
    have hlen := hx.len
    have hgt := sumL_ge x ((r + w * d) % m) hx.ge
    have hsum := hx.sum
    have hen : 0 ≤ (e : Int) * n := Int.mul_nonneg (by omega) hn
    have hee : ((e + 1 : Nat) : Int) * n = (e : Int) * n + n := by push_cast; rw [Int.add_mul]; omega
    rw [hee] at hS
    have hg0 : 0 ≤ x.getD ((r + w * d) % m) 0 := by
      rw [List.getD_eq_getElem?_getD, List.getElem?_eq_getElem (by omega), Option.getD_some]
      exact hx.ge _ (List.getElem_mem _)
    obtain ⟨x', hx', hR⟩ := rests_l2 hm hm2 hw hr hn hn2 o ol oi s sl si l0 e (d + 1) _ _ _ (by omega) (hx.add _ hlt n hn) (by omega)
    refine ⟨x', hx'.imp (fun r' _ => ?_) (by push_cast; rw [Int.add_mul]; omega), fun R h => Ev.step (fun k => ?_) (hR R h)⟩
    · constructor
      · rintro ((h | ⟨h, rfl⟩) | ⟨h, d', h1, h2, h3⟩)
        · exact .inl h
        · exact .inr ⟨h, d, Nat.le_refl _, by omega, rfl⟩
        · exact .inr ⟨h, d', by omega, h2, h3⟩
      · rintro (h | ⟨h, d', h1, h2, h3⟩)
        · exact .inl (.inl h)
        · by_cases c : d' = d
          · subst c
            exact .inl (.inr ⟨h, h3.symm⟩)
          · exact .inr ⟨h, d', by omega, h2, h3⟩
    · simp only [impl_Check_rests.l2, md (m := m) (show r ≤ 11 by omega) (show w ≤ 11 by omega) (show d ≤ 10 by omega)]
      rw [if_pos (by omega), if_neg (by omega), if_pos (by omega), if_pos (by omega), Int.toNat_natCast, wsucc d (by omega), rd, Int.toNat_natCast, wr (i := x.getD ((r + w * d) % m) 0 + n) (by omega) (by omega)]

/-- the loop over the rests -/
theorem rests_l1 {m w : Nat} (hm : 2 ≤ m) (hm2 : m ≤ 11) (hw : w < m) (o : List Int) (ol : Int) (oi : Int) (s : List Int) (P : Nat → Prop) (T : Int) (hs : Cnt m s P T) (hT : T ≤ 100000000000000) (l0 : List Int) :
    ∀ (e r : Nat) (x : List Int) (Q : Nat → Prop) (S : Int), r + e = m → Cnt m x Q S → S + 10 * sumL (s.drop r) ≤ 10000000000000000 → 0 ≤ S →
      ∃ x', Cnt m x' (fun r' => Q r' ∨ ∃ r1, r ≤ r1 ∧ r1 < m ∧ P r1 ∧ ∃ d, d < 10 ∧ (r1 + w * d) % m = r') (S + 10 * sumL (s.drop r)) ∧ ∀ R, Ev (fun k => impl_Check_rests.l0 k x' o ol (wrap64 (oi + 1)) l0 (m : Int)) R →
        Ev (fun k => impl_Check_rests.l1 k (w : Int) x o ol oi s (s.length : Int) (r : Int) l0 (m : Int)) R
  | 0, r, x, Q, S, hd, hx, hS, h0 => by
    have e0 : s.drop r = [] := List.drop_eq_nil_of_le (by rw [hs.len]; omega)
    refine ⟨x, hx.imp (fun r' _ => ⟨.inl, fun h => h.elim id (fun h => by obtain ⟨r1, h1, h2, _⟩ := h; omega)⟩) (by rw [e0]; simp [sumL]), fun R h => Ev.step (fun k => ?_) h⟩
    simp only [impl_Check_rests.l1]
    rw [if_neg (by rw [hs.len]; omega)]
  | e + 1, r, x, Q, S, hd, hx, hS, h0 => by
    have hrl : r < s.length := by rw [hs.len]; omega
    obtain ⟨n, hn⟩ : ∃ n, n = s.getD r 0 := ⟨_, rfl⟩
    have hdr : s.drop r = n :: s.drop (r + 1) := by
      rw [hn, List.getD_eq_getElem?_getD, List.getElem?_eq_getElem hrl, Option.getD_some]
      exact List.drop_eq_getElem_cons hrl
    have hn0 : 0 ≤ n := hs.ge n (by rw [hn, List.getD_eq_getElem?_getD, List.getElem?_eq_getElem hrl, Option.getD_some]; exact List.getElem_mem _)
    have hnS : n ≤ 100000000000000 := by have := (sumL_ge s r hs.ge).1; have := hs.sum; omega
    have hd0 : 0 ≤ sumL (s.drop (r + 1)) := (sumL_ge _ 0 (fun y hy => hs.ge y (List.mem_of_mem_drop hy))).2
    rw [hdr, sumL] at hS ⊢
    obtain ⟨x1, hx1, hR1⟩ := rests_l2 (n := n) hm hm2 hw (show r < m by omega) hn0 hnS o ol oi s (s.length : Int) (r : Int) l0 10 0 x Q S (by omega) hx (by push_cast; omega)
    obtain ⟨x', hx', hR⟩ := rests_l1 hm hm2 hw o ol oi s P T hs hT l0 e (r + 1) x1 _ _ (by omega) hx1 (by push_cast; omega) (by push_cast; omega)
    refine ⟨x', hx'.imp (fun r' _ => ?_) (by push_cast; omega), fun R h => Ev.step (fun k => ?_) (hR1 R ?_)⟩
    · have hP := hs.pos r (by omega)
      rw [← hn] at hP
      constructor
      · rintro ((h | ⟨h, d', h1, h2, h3⟩) | ⟨r1, h1, h2, h3, h4⟩)
        · exact .inl h
        · exact .inr ⟨r, Nat.le_refl _, by omega, hP.1 h, d', h2, h3⟩
        · exact .inr ⟨r1, by omega, h2, h3, h4⟩
      · rintro (h | ⟨r1, h1, h2, h3, d', h4, h5⟩)
        · exact .inl (.inl h)
        · by_cases c : r1 = r
          · subst c
            exact .inl (.inr ⟨hP.2 h3, d', Nat.zero_le _, h4, h5⟩)
          · exact .inr ⟨r1, by omega, h2, h3, d', h4, h5⟩
    · simp only [impl_Check_rests.l1]
      rw [if_pos (by omega), if_pos (by omega), if_pos (by omega), rd, Int.toNat_natCast, ← hn]
      rfl
    · have := hR R h
      rw [wsucc r (by omega)]
      exact this

/-- the loop over the weights -/
theorem rests_l0 {m : Nat} (hm : 2 ≤ m) (hm2 : m ≤ 11) (l0 : List Int) : ∀ (b a : List Nat) (s : List Int) (P : Nat → Prop) (S : Int), (∀ w ∈ b, w < m) → a.length + b.length ≤ 12 → Cnt m s P S → 0 ≤ S → S * 10 ^ b.length ≤ 1000000000000 →
    ∃ s', Cnt m s' (rch m b P) 1000000000000 ∧ Ev (fun k => impl_Check_rests.l0 k s (ints (a ++ b)) ((ints (a ++ b)).length : Int) (a.length : Int) l0 (m : Int)) s'
  | [], a, s, P, S, hw, hl, hs, h0, hS => by
    refine ⟨s, hs.imp (fun _ _ => Iff.rfl) (by simpa using hS), Ev.step (f := fun _ => some s) (fun k => ?_) (Ev.now _)⟩
    simp only [impl_Check_rests.l0]
    rw [if_neg (by rw [ints_length]; simp)]
  | w :: b, a, s, P, S, hw, hl, hs, h0, hS => by
    simp only [List.length_cons] at hl hS
    have hwm := hw w List.mem_cons_self
    have hp : (1 : Int) ≤ 10 ^ b.length := by
      have h : 1 ≤ 10 ^ b.length := Nat.one_le_pow _ _ (by omega)
      exact_mod_cast h
    have hS1 : S ≤ 1000000000000 := by
      rw [Int.pow_succ] at hS
      have : S * 1 ≤ S * (10 ^ b.length * 10) := Int.mul_le_mul_of_nonneg_left (by omega) h0
      omega
    have hS2 : S * 10 * 10 ^ b.length ≤ 1000000000000 := by
      rw [Int.pow_succ, Int.mul_comm (10 ^ b.length) 10, ← Int.mul_assoc] at hS
      exact hS
    obtain ⟨x, hx, hR⟩ := rests_l1 hm hm2 hwm (ints (a ++ w :: b)) ((ints (a ++ w :: b)).length : Int) (a.length : Int) s P S hs (by omega) l0 m 0 (List.replicate m 0) (fun _ => False) 0 (by omega) (Cnt.zero m) (by have := hs.sum; rw [List.drop_zero]; omega) (by omega)
    have hx2 : Cnt m x (stp m w P) (S * 10) := hx.imp (fun r' _ => by
      constructor
      · rintro (h | ⟨r1, _, h2, h3, h4⟩)
        · exact h.elim
        · exact ⟨r1, h2, h3, h4⟩
      · rintro ⟨r1, h2, h3, h4⟩
        exact .inr ⟨r1, Nat.zero_le _, h2, h3, h4⟩) (by have := hs.sum; rw [List.drop_zero]; omega)
    obtain ⟨s', hs', hE⟩ := rests_l0 hm hm2 l0 b (a ++ [w]) x (stp m w P) (S * 10) (fun v hv => hw v (List.mem_cons_of_mem _ hv)) (by simp; omega) hx2 (by omega) hS2
    rw [List.append_assoc, List.singleton_append] at hE
    refine ⟨s', hs', Ev.step (fun k => ?_) (hR s' ?_)⟩
    · simp only [impl_Check_rests.l0]
      rw [if_pos (by rw [ints_length]; exact app_lt _ _ _), if_pos (by omega), if_pos (by rw [ints_length]; exact app_lt _ _ _), if_pos (by omega), if_pos (by rw [Int.toNat_natCast]; omega), rd_ints, Int.toNat_natCast]
      rfl
    · rw [wsucc _ (by omega)]
      rw [List.length_append] at hE
      exact hE

/-- 'rests': the counts are above 0 where the rest can be reached -/
theorem rests_ev {m : Nat} (hm : 2 ≤ m) (hm2 : m ≤ 11) (l0 : List Int) (ws : List Nat) (hw : ∀ w ∈ ws, w < m) (hl : ws.length ≤ 12) :
    ∃ s', Cnt m s' (rch m ws (· = 0)) 1000000000000 ∧ Ev (fun k => impl_Check_rests.f k l0 (m : Int) (ints ws)) s' := by
  have h1 : Cnt m ((List.replicate m (0 : Int)).set 0 ((List.replicate m (0 : Int)).getD 0 0 + 1)) (fun r => False ∨ (0 < (1 : Int) ∧ r = 0)) (0 + 1) := (Cnt.zero m).add 0 (by omega) 1 (by omega)
  have h2 : Cnt m ((List.replicate m (0 : Int)).set 0 1) (· = 0) 1 := by
    have e : (List.replicate m (0 : Int)).getD 0 0 + 1 = 1 := by
      rw [List.getD_eq_getElem?_getD, List.getElem?_replicate, if_pos (by omega)]; rfl
    rw [e] at h1
    exact h1.imp (fun r _ => by simp) (by omega)
  obtain ⟨s', hs', hE⟩ := rests_l0 hm hm2 l0 ws [] _ _ _ hw (by simpa using hl) h2 (by omega) (by
    have h : 10 ^ ws.length ≤ 1000000000000 := Nat.le_trans (Nat.pow_le_pow_right (by omega) hl) (by decide)
    have h3 : ((10 ^ ws.length : Nat) : Int) ≤ ((1000000000000 : Nat) : Int) := Int.ofNat_le.2 h
    rw [Int.natCast_pow] at h3
    rw [Int.one_mul]
    exact h3)
  refine ⟨s', hs', Ev.congr (fun k => ?_) hE⟩
  simp only [impl_Check_rests.f]
  rw [if_pos (by omega), if_pos (by rw [Int.toNat_natCast]; omega), Option.bind_some, if_pos (by simp; omega), Int.toNat_natCast]
  rfl

end Go.Proofs.Ytafegaaklpdgiaa.Q

/-
  Plain lemmas: whether a sound number can be had ('hasSound' by counts, 'slMade' by marks): the same. No walk here.
-/
namespace Go.Proofs.Ytafegaaklpdgiaa.Q
open Go.RowKit Go.Proofs.YtafegaaklpdgiaaW.PrintWords Go.Proofs.YtafegaaklpdgiaaW.PrintLast Go.Proofs.YtafegaaklpdgiaaW.PrintMore
set_option linter.unusedVariables false
set_option linter.unusedSimpArgs false

theorem rch_app (m : Nat) (a b : List Nat) (P : Nat → Prop) : rch m (a ++ b) P = rch m b (rch m a P) := by simp [rch]
theorem rch_cons (m w : Nat) (b : List Nat) (P : Nat → Prop) : rch m (w :: b) P = rch m b (stp m w P) := rfl
theorem stp_shift {m : Nat} (hm : 0 < m) (w c : Nat) (hc : c ≤ m) (P Q : Nat → Prop) (h : ∀ r, r < m → (P r ↔ Q ((r + c) % m))) : ∀ r, r < m → (stp m w P r ↔ stp m w Q ((r + c) % m)) := by
  intro r hr
  constructor
  · rintro ⟨r1, h1, h2, d, h3, rfl⟩
    refine ⟨(r1 + c) % m, Nat.mod_lt _ hm, (h r1 h1).1 h2, d, h3, ?_⟩
    rw [Nat.mod_add_mod, Nat.mod_add_mod]
    congr 1
    omega
  · rintro ⟨r1, h1, h2, d, h3, h4⟩
    have e1 : ((r1 + (m - c)) % m + c) % m = r1 := by
      rw [Nat.mod_add_mod, show r1 + (m - c) + c = r1 + m by omega, Nat.add_mod_right, Nat.mod_eq_of_lt h1]
    refine ⟨(r1 + (m - c)) % m, Nat.mod_lt _ hm, (h _ (Nat.mod_lt _ hm)).2 (by rw [e1]; exact h2), d, h3, ?_⟩
    rw [Nat.mod_add_mod, show r1 + (m - c) + w * d = (r1 + w * d) + (m - c) by omega, ← Nat.mod_add_mod, h4, Nat.mod_add_mod, show r + c + (m - c) = r + m by omega, Nat.add_mod_right, Nat.mod_eq_of_lt hr]
theorem rch_shift {m : Nat} (hm : 0 < m) (c : Nat) (hc : c ≤ m) : ∀ (ws : List Nat) (P Q : Nat → Prop), (∀ r, r < m → (P r ↔ Q ((r + c) % m))) → ∀ r, r < m → (rch m ws P r ↔ rch m ws Q ((r + c) % m))
  | [], P, Q, h => h
  | w :: ws, P, Q, h => rch_shift hm c hc ws _ _ (stp_shift hm w c hc P Q h)

/-- some number with these weights has, with so much, a sum that the modulus divides -/
def sdP (m : Nat) (ws : List Nat) (own : Nat) : Prop := rch m ws (· = 0) ((m - own % m) % m)
theorem made_sdP {m : Nat} (hm : 2 ≤ m) (ws : List Nat) (own : Nat) : rch m ws (· = own % m) 0 ↔ sdP m ws own := by
  have hlt := Nat.mod_lt own (show 0 < m by omega)
  have := rch_shift (show 0 < m by omega) (m - own % m) (by omega) ws (· = own % m) (· = 0) (fun r hr => by
    show r = own % m ↔ (r + (m - own % m)) % m = 0
    constructor
    · rintro h
      rw [show r + (m - own % m) = m by omega, Nat.mod_self]
    · intro h
      by_cases c : r + (m - own % m) < m
      · rw [Nat.mod_eq_of_lt c] at h; omega
      · rw [Nat.mod_eq_sub_mod (by omega), Nat.mod_eq_of_lt (by omega)] at h; omega) 0 (by omega)
  rw [Nat.zero_add] at this
  exact this
open Classical in
noncomputable def sdB (m : Nat) (ws : List Nat) (own : Nat) : Bool := decide (sdP m ws own)
open Classical in
theorem sdB_iff {m : Nat} {ws : List Nat} {own : Nat} {b : Bool} (h : b = true ↔ sdP m ws own) : b = sdB m ws own := by
  unfold sdB
  by_cases c : sdP m ws own
  · rw [decide_eq_true c]; exact h.2 c
  · rw [decide_eq_false c]
    cases b with
    | false => rfl
    | true => exact absurd (h.1 rfl) c

/-! 'slices.Concat' of two rows -/
theorem concat_l0 (o : List (List Int)) : ∀ (b a : List (List Int)) (n : Int), o = a ++ b → o.length ≤ 1000 → (∀ r ∈ b, r.length ≤ 1000) → 0 ≤ n → n + 1000 * (b.length : Int) ≤ 2000000 → ∃ n', n ≤ n' ∧ n' ≤ n + 1000 * (b.length : Int) ∧ n' = n + ((b.map List.length).foldr (fun x y => x + y) 0 : Nat) ∧
    ∀ R, Ev (fun k => (slices_Grow.f ([] : List Int) n').bind fun t => slices_Concat_int_int.l1 k t o (o.length : Int) 0) R → Ev (fun k => slices_Concat_int_int.l0 k o n o (o.length : Int) (a.length : Int)) R
  | [], a, n, ho, hl, hb, h0, hn => by
    refine ⟨n, by omega, by simp, by simp, fun R h => Ev.step (fun k => ?_) h⟩
    subst ho
    simp only [slices_Concat_int_int.l0]
    rw [if_neg (by simp)]
  | x :: b, a, n, ho, hl, hb, h0, hn => by
    have hx := hb x List.mem_cons_self
    simp only [List.length_cons] at hn
    obtain ⟨n', h1, h2, h3, hR⟩ := concat_l0 o b (a ++ [x]) (n + (x.length : Int)) (by rw [ho]; simp) hl (fun r hr => hb r (List.mem_cons_of_mem _ hr)) (by omega) (by omega)
    refine ⟨n', by omega, by simp only [List.length_cons]; omega, by rw [h3]; simp only [List.map_cons, List.foldr_cons]; push_cast; omega, fun R h => Ev.step (fun k => ?_) (hR R h)⟩
    have hal : a.length < 1000 := by rw [ho] at hl; simp at hl; omega
    have hlt : (a.length : Int) < (o.length : Int) := by rw [ho]; exact app_lt _ _ _
    have hrd : rd_L2 o (a.length : Int) = x := by rw [ho]; exact rd2_app _ _ _
    simp only [slices_Concat_int_int.l0]
    rw [if_pos hlt, if_pos (by omega), if_pos hlt, hrd, wr (i := n + (x.length : Int)) (by omega) (by omega), if_neg (by omega), wsucc _ (by omega), List.length_append]
    rfl
theorem concat_l1 (o : List (List Int)) : ∀ (b a : List (List Int)) (s : List Int), o = a ++ b → o.length ≤ 1000 → (∀ r ∈ b, r.length ≤ 1000) → s.length + 1000 * b.length ≤ 2000000 → Ev (fun k => slices_Concat_int_int.l1 k s o (o.length : Int) (a.length : Int)) (s ++ b.flatten)
  | [], a, s, ho, hl, hb, hs => by
    refine Ev.step (f := fun _ => some (s ++ ([] : List (List Int)).flatten)) (fun k => ?_) (Ev.now _)
    subst ho
    simp only [slices_Concat_int_int.l1]
    rw [if_neg (by simp)]
    simp
  | x :: b, a, s, ho, hl, hb, hs => by
    have hx := hb x List.mem_cons_self
    simp only [List.length_cons] at hs
    have ih := concat_l1 o b (a ++ [x]) (s ++ x) (by rw [ho]; simp) hl (fun r hr => hb r (List.mem_cons_of_mem _ hr)) (by simp; omega)
    rw [List.append_assoc, ← List.flatten_cons] at ih
    refine Ev.step (fun k => ?_) ih
    have hal : a.length < 1000 := by rw [ho] at hl; simp at hl; omega
    have hlt : (a.length : Int) < (o.length : Int) := by rw [ho]; exact app_lt _ _ _
    have hrd : rd_L2 o (a.length : Int) = x := by rw [ho]; exact rd2_app _ _ _
    simp only [slices_Concat_int_int.l1]
    rw [if_pos hlt, if_pos (by omega), if_pos hlt, hrd, if_pos (by omega), wsucc _ (by omega), List.length_append]
    rfl
theorem concat_ev (x y : List Int) (hx : x.length + y.length ≤ 1000) : Ev (fun k => slices_Concat_int_int.f k [x, y]) (x ++ y) := by
  have hb : ∀ r ∈ [x, y], r.length ≤ 1000 := fun r hr => by
    simp only [List.mem_cons, List.not_mem_nil, or_false] at hr
    rcases hr with rfl | rfl <;> omega
  obtain ⟨n', h1, h2, h3, hR⟩ := concat_l0 [x, y] [x, y] [] 0 rfl (by simp) hb (by omega) (by simp)
  have hn : n' ≤ 1000 := by rw [h3]; simp only [List.map_cons, List.map_nil, List.foldr_cons, List.foldr_nil]; omega
  refine hR _ ?_
  have e := concat_l1 [x, y] [x, y] [] [] rfl (by simp) hb (by simp)
  refine Ev.bind (f := fun k t => slices_Concat_int_int.l1 k t [x, y] (([x, y] : List (List Int)).length : Int) 0) (a := []) ⟨0, fun _ _ => ?_⟩ (by simpa using e)
  unfold slices_Grow.f
  rw [if_pos ⟨rfl, by omega, hn⟩]

/-! 'hasSound' -/
theorem idx_own {m own : Nat} (hm : 2 ≤ m) (hm2 : m ≤ 11) : Int.tmod (wrap64 ((m : Int) - Int.tmod (own : Int) (m : Int))) (m : Int) = (((m - own % m) % m : Nat) : Int) := by
  have hlt := Nat.mod_lt own (show 0 < m by omega)
  have e1 : Int.tmod (own : Int) (m : Int) = ((own % m : Nat) : Int) := rfl
  rw [e1, wr (by omega) (by omega)]
  have e2 : (m : Int) - ((own % m : Nat) : Int) = ((m - own % m : Nat) : Int) := by omega
  rw [e2]
  rfl
theorem hasSound_ev {m : Nat} (hm : 2 ≤ m) (hm2 : m ≤ 11) (a s c : List Nat) (own : Nat) (hw : ∀ w ∈ a ++ c, w < m) (hl : (a ++ s ++ c).length ≤ 12) :
    Ev (fun k => impl_Check_hasSound.f k (ints (a ++ s ++ c)) (m : Int) (a.length : Int) (s.length : Int) (own : Int)) (sdB m (a ++ c) own) := by
  simp only [List.length_append] at hl
  obtain ⟨cs, hcs, hE⟩ := rests_ev hm hm2 (ints (a ++ s ++ c)) (a ++ c) hw (by simp; omega)
  have hlt : (m - own % m) % m < m := Nat.mod_lt _ (by omega)
  have hpos := hcs.pos _ hlt
  have hb : decide (rd cs (((m - own % m) % m : Nat) : Int) > 0) = sdB m (a ++ c) own := by
    refine sdB_iff ?_
    rw [decide_eq_true_iff, rd, Int.toNat_natCast]
    exact hpos
  have hC := concat_ev (ints a) (ints c) (by simp [ints_length]; omega)
  have hac : ints a ++ ints c = ints (a ++ c) := by simp [ints]
  rw [hac] at hC
  have hlc := hcs.len
  refine Ev.congr (fun k => ?_) (Ev.bind (f := fun k t115 => (impl_Check_rests.f k (ints (a ++ s ++ c)) (m : Int) t115).bind fun t118 => if (((m - own % m) % m : Nat) : Int) < (t118.length : Int) then some (decide (rd t118 (((m - own % m) % m : Nat) : Int) > 0)) else none) hC (Ev.bind (f := fun k t118 => if (((m - own % m) % m : Nat) : Int) < (t118.length : Int) then some (decide (rd t118 (((m - own % m) % m : Nat) : Int) > 0)) else none) hE ?_))
  · simp only [impl_Check_hasSound.f]
    have e1 : wrap64 ((a.length : Int) + (s.length : Int)) = ((a.length + s.length : Nat) : Int) := by rw [wr (by omega) (by omega)]; push_cast; rfl
    have e3 : (ints (a ++ s ++ c)).length = a.length + s.length + c.length := by rw [ints_length]; simp; omega
    have e4 : (ints (a ++ s ++ c)).take a.length = ints a := by simp [ints, List.take_append]
    have e5 : (ints (a ++ s ++ c)).drop (a.length + s.length) = ints c := by simp [ints, List.drop_append]
    rw [if_pos (by omega), if_pos (by rw [e3]; omega), e1, if_pos (by omega), if_pos (by rw [e3]; omega), Int.toNat_natCast, Int.toNat_natCast, e4, e5]
    congr 1
    funext t115
    congr 1
    funext t118
    rw [if_neg (by omega), idx_own hm hm2, if_pos (by omega)]
  · rw [if_pos (by omega), hb]
    exact Ev.now _

end Go.Proofs.Ytafegaaklpdgiaa.Q

/-
  Plain lemmas: 'slMade' by marks: the same as 'hasSound' by counts. No walk here.
-/
namespace Go.Proofs.Ytafegaaklpdgiaa.Q
open Go.RowKit Go.Proofs.YtafegaaklpdgiaaW.PrintWords Go.Proofs.YtafegaaklpdgiaaW.PrintLast Go.Proofs.YtafegaaklpdgiaaW.PrintMore
set_option linter.unusedVariables false
set_option linter.unusedSimpArgs false

/-- a row of marks: as many as the modulus, set where P holds -/
structure Bs (m : Nat) (s : List Bool) (P : Nat → Prop) : Prop where
  len : s.length = m
  pos : ∀ r, r < m → (s.getD r false = true ↔ P r)
theorem Bs.imp {m : Nat} {s : List Bool} {P Q : Nat → Prop} (h : Bs m s P) (hP : ∀ r, r < m → (P r ↔ Q r)) : Bs m s Q := ⟨h.len, fun r hr => (h.pos r hr).trans (hP r hr)⟩
theorem Bs.zero (m : Nat) : Bs m (List.replicate m false) (fun _ => False) := ⟨by simp, fun r hr => by simp [List.getD_eq_getElem?_getD, List.getElem?_replicate, hr]⟩
theorem Bs.add {m : Nat} {s : List Bool} {P : Nat → Prop} (h : Bs m s P) (i : Nat) (hi : i < m) : Bs m (s.set i true) (fun r => P r ∨ r = i) := by
  have hl := h.len
  refine ⟨by rw [List.length_set]; exact hl, fun r hr => ?_⟩
  rw [getD_set _ _ _ _ _ (by omega)]
  by_cases c : r = i
  · rw [if_pos c]; exact ⟨fun _ => .inr c, fun _ => rfl⟩
  · rw [if_neg c, h.pos r hr]
    exact ⟨.inl, fun h => h.elim id (fun h => absurd h c)⟩

section
variable {m w : Nat} (hm : 2 ≤ m) (hm2 : m ≤ 11) (hw : w < m) (x1 : Int) (x3 : Bool) (o : List Int) (ol oi : Int) (l : List Int)
include hm hm2 hw
theorem made_l2 {r : Nat} (hr : r < m) (is : Bool) (s : List Bool) (sl : Int) :
    ∀ (e d : Nat) (x : List Bool) (Q : Nat → Prop), d + e = 10 → Bs m x Q →
      ∃ x', Bs m x' (fun r' => Q r' ∨ (is = true ∧ ∃ d', d ≤ d' ∧ d' < 10 ∧ (r + w * d') % m = r')) ∧ ∀ R, Ev (fun k => spec_slMade.l1 k x1 x3 (w : Int) x' o ol oi s sl (wrap64 ((r : Int) + 1)) l (m : Int)) R →
        Ev (fun k => spec_slMade.l2 k x1 x3 (w : Int) x (r : Int) is (d : Int) o ol oi s sl (r : Int) l (m : Int)) R
  | 0, d, x, Q, hd, hx => by
    refine ⟨x, hx.imp (fun r' _ => ⟨.inl, fun h => h.elim id (fun h => by obtain ⟨_, d', h1, h2, _⟩ := h; omega)⟩), fun R h => Ev.step (fun k => ?_) h⟩
    simp only [spec_slMade.l2]
    rw [if_neg (by omega)]
  | e + 1, d, x, Q, hd, hx => by
    cases is with
    | false =>
      refine ⟨x, hx.imp (fun r' _ => ⟨.inl, fun h => h.elim id (fun h => by cases h.1)⟩), fun R h => Ev.step (fun k => ?_) h⟩
      simp only [spec_slMade.l2]
      rw [if_pos (by omega), if_neg (by decide)]
    | true =>
      have hlt : (r + w * d) % m < m := Nat.mod_lt _ (by omega)
      have hlen := hx.len
      obtain ⟨x', hx', hR⟩ := made_l2 hr true s sl e (d + 1) _ _ (by omega) (hx.add _ hlt)
      refine ⟨x', hx'.imp (fun r' _ => ?_), fun R h => Ev.step (fun k => ?_) (hR R h)⟩
      · constructor
        · rintro ((h | rfl) | ⟨h, d', h1, h2, h3⟩)
          · exact .inl h
          · exact .inr ⟨rfl, d, Nat.le_refl _, by omega, rfl⟩
          · exact .inr ⟨h, d', by omega, h2, h3⟩
        · rintro (h | ⟨h, d', h1, h2, h3⟩)
          · exact .inl (.inl h)
          · by_cases c : d' = d
            · subst c
              exact .inl (.inr h3.symm)
            · exact .inr ⟨h, d', by omega, h2, h3⟩
      · simp only [spec_slMade.l2, md (m := m) (show r ≤ 11 by omega) (show w ≤ 11 by omega) (show d ≤ 10 by omega)]
        rw [if_pos (by omega), if_pos trivial, if_neg (by omega), if_pos (by omega), if_pos (by omega), Int.toNat_natCast, wsucc d (by omega)]
theorem made_l1 (s : List Bool) (P : Nat → Prop) (hs : Bs m s P) :
    ∀ (e r : Nat) (x : List Bool) (Q : Nat → Prop), r + e = m → Bs m x Q →
      ∃ x', Bs m x' (fun r' => Q r' ∨ ∃ r1, r ≤ r1 ∧ r1 < m ∧ P r1 ∧ ∃ d, d < 10 ∧ (r1 + w * d) % m = r') ∧ ∀ R, Ev (fun k => spec_slMade.l0 k x1 x3 x' o ol (wrap64 (oi + 1)) l (m : Int)) R →
        Ev (fun k => spec_slMade.l1 k x1 x3 (w : Int) x o ol oi s (s.length : Int) (r : Int) l (m : Int)) R
  | 0, r, x, Q, hd, hx => by
    refine ⟨x, hx.imp (fun r' _ => ⟨.inl, fun h => h.elim id (fun h => by obtain ⟨r1, h1, h2, _⟩ := h; omega)⟩), fun R h => Ev.step (fun k => ?_) h⟩
    simp only [spec_slMade.l1]
    rw [if_neg (by rw [hs.len]; omega)]
  | e + 1, r, x, Q, hd, hx => by
    have hrl : r < s.length := by rw [hs.len]; omega
    obtain ⟨is, his⟩ : ∃ b, b = s.getD r false := ⟨_, rfl⟩
    obtain ⟨x1', hx1, hR1⟩ := made_l2 hm hm2 hw x1 x3 o ol oi l (show r < m by omega) is s (s.length : Int) 10 0 x Q (by omega) hx
    obtain ⟨x', hx', hR⟩ := made_l1 s P hs e (r + 1) x1' _ (by omega) hx1
    refine ⟨x', hx'.imp (fun r' _ => ?_), fun R h => Ev.step (fun k => ?_) (hR1 R ?_)⟩
    · have hP := hs.pos r (by omega)
      rw [← his] at hP
      constructor
      · rintro ((h | ⟨h, d', h1, h2, h3⟩) | ⟨r1, h1, h2, h3, h4⟩)
        · exact .inl h
        · exact .inr ⟨r, Nat.le_refl _, by omega, hP.1 h, d', h2, h3⟩
        · exact .inr ⟨r1, by omega, h2, h3, h4⟩
      · rintro (h | ⟨r1, h1, h2, h3, d', h4, h5⟩)
        · exact .inl (.inl h)
        · by_cases c : r1 = r
          · subst c
            exact .inl (.inr ⟨hP.2 h3, d', Nat.zero_le _, h4, h5⟩)
          · exact .inr ⟨r1, by omega, h2, h3, d', h4, h5⟩
    · simp only [spec_slMade.l1]
      rw [if_pos (by omega), if_pos (by omega), if_pos (by omega), rdOf, Int.toNat_natCast, ← his]
      rfl
    · have := hR R h
      rw [wsucc r (by omega)]
      exact this
end

/-- is it the place, or (of a swap) the next one -/
def skp (place : Nat) (swap : Bool) (i : Nat) : Bool := (i == place) || (swap && (i == place + 1))
/-- the rests behind digits of these weights, the first at place i, but of the places that are left out -/
def rchS (m place : Nat) (swap : Bool) : Nat → List Nat → (Nat → Prop) → (Nat → Prop)
  | _, [], P => P
  | i, w :: b, P => rchS m place swap (i + 1) b (if skp place swap i = true then P else stp m w P)
theorem made_l0 {m : Nat} (hm : 2 ≤ m) (hm2 : m ≤ 11) (place : Nat) (hpl : place ≤ 12) (swap : Bool) (l : List Int) : ∀ (b a : List Nat) (s : List Bool) (P : Nat → Prop), (∀ w ∈ b, w < m) → a.length + b.length ≤ 12 → Bs m s P →
    ∃ r : Bool, Ev (fun k => spec_slMade.l0 k (place : Int) swap s (ints (a ++ b)) ((ints (a ++ b)).length : Int) (a.length : Int) l (m : Int)) r ∧ (r = true ↔ rchS m place swap a.length b P 0)
  | [], a, s, P, hw, hl, hs => by
    refine ⟨s.getD 0 false, Ev.step (f := fun _ => some (s.getD 0 false)) (fun k => ?_) (Ev.now _), hs.pos 0 (by omega)⟩
    simp only [spec_slMade.l0]
    rw [if_neg (by rw [ints_length]; simp), if_pos (by rw [hs.len]; omega)]
    rfl
  | w :: b, a, s, P, hw, hl, hs => by
    simp only [List.length_cons] at hl
    have hwm := hw w List.mem_cons_self
    have hb := fun v hv => hw v (List.mem_cons_of_mem _ hv)
    have hj : ∀ k, spec_slMade.l0 (k + 1) (place : Int) swap s (ints (a ++ w :: b)) ((ints (a ++ w :: b)).length : Int) (a.length : Int) l (m : Int) = spec_slMade.j2 k (place : Int) swap s (w : Int) (ints (a ++ w :: b)) ((ints (a ++ w :: b)).length : Int) (a.length : Int) (skp place swap a.length) l (m : Int) := by
      intro k
      simp only [spec_slMade.l0]
      rw [if_pos (by rw [ints_length]; exact app_lt _ _ _), if_pos (by omega), if_pos (by rw [ints_length]; exact app_lt _ _ _), rd_ints]
      unfold skp
      by_cases c : a.length = place
      · rw [if_pos (by omega), show (a.length == place) = true from beq_iff_eq.2 c, Bool.true_or]
      · rw [if_neg (by omega), show (a.length == place) = false from beq_eq_false_iff_ne.2 c, Bool.false_or]
        cases swap with
        | false => rw [if_neg (by decide), Bool.false_and]
        | true =>
          rw [if_pos rfl, Bool.true_and, wsucc place (by omega)]
          congr 1
          by_cases c2 : a.length = place + 1
          · rw [show (a.length == place + 1) = true from beq_iff_eq.2 c2]; exact beq_iff_eq.2 (by omega)
          · rw [show (a.length == place + 1) = false from beq_eq_false_iff_ne.2 c2]; exact beq_eq_false_iff_ne.2 (by omega)
    by_cases c : skp place swap a.length = true
    · obtain ⟨r, hE, hr⟩ := made_l0 hm hm2 place hpl swap l b (a ++ [w]) s P hb (by simp; omega) hs
      rw [List.append_assoc, List.singleton_append] at hE
      refine ⟨r, Ev.step hj (Ev.step (fun k => ?_) hE), ?_⟩
      · simp only [spec_slMade.j2]
        rw [if_pos c, wsucc _ (by omega), List.length_append]
        rfl
      · rw [hr, rchS, if_pos c, List.length_append]
        rfl
    · obtain ⟨x, hx, hR⟩ := made_l1 hm hm2 hwm (place : Int) swap (ints (a ++ w :: b)) ((ints (a ++ w :: b)).length : Int) (a.length : Int) l s P hs m 0 (List.replicate m false) (fun _ => False) (by omega) (Bs.zero m)
      have hx2 : Bs m x (stp m w P) := hx.imp (fun r' _ => by
        constructor
        · rintro (h | ⟨r1, _, h2, h3, h4⟩)
          · exact h.elim
          · exact ⟨r1, h2, h3, h4⟩
        · rintro ⟨r1, h2, h3, h4⟩
          exact .inr ⟨r1, Nat.zero_le _, h2, h3, h4⟩)
      obtain ⟨r, hE, hr⟩ := made_l0 hm hm2 place hpl swap l b (a ++ [w]) x (stp m w P) hb (by simp; omega) hx2
      rw [List.append_assoc, List.singleton_append] at hE
      refine ⟨r, Ev.step hj (Ev.step (fun k => ?_) (hR r ?_)), ?_⟩
      · simp only [spec_slMade.j2]
        rw [if_neg c, if_pos (by omega), if_pos (by rw [Int.toNat_natCast]; omega), Int.toNat_natCast]
        rfl
      · rw [wsucc _ (by omega)]
        rw [List.length_append] at hE
        exact hE
      · rw [hr, rchS, if_neg c, List.length_append]
        rfl

theorem rchS_free (m place : Nat) (swap : Bool) : ∀ (b : List Nat) (i : Nat) (P : Nat → Prop), (∀ j, i ≤ j → skp place swap j = false) → rchS m place swap i b P = rch m b P
  | [], i, P, h => rfl
  | w :: b, i, P, h => by
    rw [rchS, h i (Nat.le_refl _), if_neg (by decide), rchS_free m place swap b (i + 1) _ (fun j hj => h j (by omega))]
    rfl
theorem rchS_pre (m place : Nat) (swap : Bool) (b : List Nat) : ∀ (c : List Nat) (i : Nat) (P : Nat → Prop), i + c.length ≤ place → rchS m place swap i (c ++ b) P = rchS m place swap (i + c.length) b (rch m c P)
  | [], i, P, h => rfl
  | w :: c, i, P, h => by
    simp only [List.length_cons] at h
    have e : skp place swap i = false := by
      unfold skp
      rw [show (i == place) = false from beq_eq_false_iff_ne.2 (by omega), show (i == place + 1) = false from beq_eq_false_iff_ne.2 (by omega)]
      simp
    rw [List.cons_append, rchS, e, if_neg (by decide), rchS_pre m place swap b c (i + 1) _ (by omega), List.length_cons, show i + 1 + c.length = i + (c.length + 1) by omega]
    rfl
/-- a slip's place left out -/
theorem rchS_single (m : Nat) (a c : List Nat) (w : Nat) (P : Nat → Prop) : rchS m a.length false 0 (a ++ w :: c) P = rch m (a ++ c) P := by
  rw [rchS_pre m a.length false (w :: c) a 0 P (by omega), Nat.zero_add, rchS, if_pos (by simp [skp]), rchS_free, rch_app]
  intro j hj
  simp [skp]
  omega
/-- a swap's places left out -/
theorem rchS_swap (m : Nat) (a c : List Nat) (w v : Nat) (P : Nat → Prop) : rchS m a.length true 0 (a ++ w :: v :: c) P = rch m (a ++ c) P := by
  rw [rchS_pre m a.length true (w :: v :: c) a 0 P (by omega), Nat.zero_add, rchS, if_pos (by simp [skp]), rchS, if_pos (by simp [skp]), rchS_free, rch_app]
  intro j hj
  simp [skp]
  omega

theorem made_j0 {m : Nat} (hm : 2 ≤ m) (hm2 : m ≤ 11) (place : Nat) (hpl : place ≤ 12) (swap : Bool) (ws ot : List Nat) (hw : ∀ w ∈ ws, w < m) (hl : ws.length ≤ 12) (own : Nat) (hot : ∀ P, rchS m place swap 0 ws P = rch m ot P) :
    Ev (fun k => spec_slMade.j0 k (place : Int) swap (own : Int) (ints ws) (m : Int)) (sdB m ot own) := by
  have hlt := Nat.mod_lt own (show 0 < m by omega)
  have h1 : Bs m ((List.replicate m false).set (own % m) true) (· = own % m) := ((Bs.zero m).add _ hlt).imp (fun r _ => by simp)
  obtain ⟨r, hE, hr⟩ := made_l0 hm hm2 place hpl swap (ints ws) ws [] _ _ hw (by simpa using hl) h1
  replace hr : r = true ↔ rchS m place swap 0 ws (· = own % m) 0 := hr
  rw [hot] at hr
  obtain rfl := sdB_iff (hr.trans (made_sdP hm ot own))
  refine Ev.step (fun k => ?_) hE
  have e : Int.tmod (own : Int) (m : Int) = ((own % m : Nat) : Int) := rfl
  simp only [spec_slMade.j0, e]
  rw [if_pos (by omega), if_pos (by rw [Int.toNat_natCast]; omega), Option.bind_some, if_neg (by omega), if_pos (by omega), if_pos (by simp; omega), Int.toNat_natCast, Int.toNat_natCast]
  rfl

theorem mulw {a b : Nat} (ha : a ≤ 11) (hb : b ≤ 10) : wrap64 ((a : Int) * (b : Int)) = ((a * b : Nat) : Int) := by
  have hp : a * b ≤ 11 * 10 := Nat.mul_le_mul ha hb
  have e : (a : Int) * (b : Int) = ((a * b : Nat) : Int) := by push_cast; rfl
  rw [e]
  generalize a * b = p at hp
  exact wr (by omega) (by omega)
/-- 'slMade' of a slip -/
theorem made_single {m : Nat} (hm : 2 ≤ m) (hm2 : m ≤ 11) (a c : List Nat) (w x y : Nat) (hw : ∀ v ∈ a ++ w :: c, v < m) (hl : (a ++ w :: c).length ≤ 12) (hx : x ≤ 10) :
    Ev (fun k => spec_slMade.f k (ints (a ++ w :: c)) (m : Int) (a.length : Int) [(x : Int), (y : Int)] false) (sdB m (a ++ c) (w * x)) := by
  have hwm := hw w (by simp)
  have hal : a.length ≤ 12 := by simp at hl; omega
  refine Ev.congr (fun k => ?_) (made_j0 hm hm2 a.length hal false (a ++ w :: c) (a ++ c) hw hl (w * x) (fun P => rchS_single m a c w P))
  simp only [spec_slMade.f]
  rw [if_pos (by omega), if_pos (by rw [ints_length]; exact app_lt _ _ _), if_pos (by simp), if_neg (by decide), rd_ints]
  have e : rd [(x : Int), (y : Int)] 0 = (x : Int) := rfl
  rw [e, mulw (by omega) hx]
/-- 'slMade' of a swap -/
theorem made_swap {m : Nat} (hm : 2 ≤ m) (hm2 : m ≤ 11) (a c : List Nat) (w v x y : Nat) (hw : ∀ u ∈ a ++ w :: v :: c, u < m) (hl : (a ++ w :: v :: c).length ≤ 12) (hx : x ≤ 10) (hy : y ≤ 10) :
    Ev (fun k => spec_slMade.f k (ints (a ++ w :: v :: c)) (m : Int) (a.length : Int) [(x : Int), (y : Int)] true) (sdB m (a ++ c) (w * x + v * y)) := by
  have hwm := hw w (by simp)
  have hvm := hw v (by simp)
  have hal : a.length + 2 ≤ 12 := by simp at hl; omega
  have hp : w * x ≤ 11 * 10 := Nat.mul_le_mul (by omega) hx
  have hq : v * y ≤ 11 * 10 := Nat.mul_le_mul (by omega) hy
  refine Ev.congr (fun k => ?_) (made_j0 hm hm2 a.length (by omega) true (a ++ w :: v :: c) (a ++ c) hw hl (w * x + v * y) (fun P => rchS_swap m a c w v P))
  have hrd : rd (ints (a ++ w :: v :: c)) ((a.length + 1 : Nat) : Int) = (v : Int) := by
    have := rd_ints (a ++ [w]) v c
    rw [List.append_assoc, List.singleton_append, List.length_append] at this
    exact this
  simp only [spec_slMade.f]
  rw [if_pos (by omega), if_pos (by rw [ints_length]; exact app_lt _ _ _), if_pos (by simp), if_pos trivial, wsucc _ (by omega), if_pos (by omega), if_pos (by rw [ints_length]; simp only [List.length_append, List.length_cons]; omega), if_pos (by simp), rd_ints, hrd]
  have e : rd [(x : Int), (y : Int)] 0 = (x : Int) := rfl
  have e2 : rd [(x : Int), (y : Int)] 1 = (y : Int) := rfl
  rw [e, e2, mulw (by omega) hx, mulw (by omega) hy]
  generalize w * x = p at hp
  generalize v * y = q at hq
  rw [wr (by omega) (by omega)]
  congr 1

end Go.Proofs.Ytafegaaklpdgiaa.Q

/-
  Plain lemmas: the least two digits for which a slip, or a swap, is not told: the program's and the reference's are the same. No walk here.
-/
namespace Go.Proofs.Ytafegaaklpdgiaa.Q
open Go.RowKit Go.Proofs.YtafegaaklpdgiaaW.PrintWords Go.Proofs.YtafegaaklpdgiaaW.PrintLast Go.Proofs.YtafegaaklpdgiaaW.PrintMore
set_option linter.unusedVariables false
set_option linter.unusedSimpArgs false

/-! the pairs of digits, in order -/
def prow : Nat → Nat → Nat → List (Nat × Nat)
  | 0, _, _ => []
  | e + 1, a, b => (a, b) :: prow e a (b + 1)
def prs : Nat → Nat → List (Nat × Nat)
  | 0, _ => []
  | e + 1, a => prow (9 - a) a (a + 1) ++ prs e (a + 1)
def pairs : List (Nat × Nat) := prs 10 0
def pick {R : Type} (test : Nat × Nat → Bool) (yes : Nat × Nat → R) (no : R) (l : List (Nat × Nat)) : R := (l.find? test).elim no yes
theorem pick_nil {R : Type} (test : Nat × Nat → Bool) (yes : Nat × Nat → R) (no : R) : pick test yes no [] = no := rfl
theorem pick_yes {R : Type} (test : Nat × Nat → Bool) (yes : Nat × Nat → R) (no : R) (p : Nat × Nat) (l : List (Nat × Nat)) (h : test p = true) : pick test yes no (p :: l) = yes p := by simp [pick, List.find?_cons, h]
theorem pick_no {R : Type} (test : Nat × Nat → Bool) (yes : Nat × Nat → R) (no : R) (p : Nat × Nat) (l : List (Nat × Nat)) (h : test p = false) : pick test yes no (p :: l) = pick test yes no l := by simp [pick, List.find?_cons, h]

section
variable {R : Type} (f0 : Nat → Int → Option R) (f1 : Nat → Int → Int → Option R) (test : Nat × Nat → Bool) (yes : Nat × Nat → R) (no : R)
  (hyes : ∀ a b : Nat, a < b → b < 10 → test (a, b) = true → Ev (fun k => f1 k (a : Int) (b : Int)) (yes (a, b)))
  (hno : ∀ (a b : Nat) (r : R), a < b → b < 10 → test (a, b) = false → Ev (fun k => f1 k (a : Int) ((b + 1 : Nat) : Int)) r → Ev (fun k => f1 k (a : Int) (b : Int)) r)
  (hend : ∀ (a : Nat) (r : R), a < 10 → Ev (fun k => f0 k ((a + 1 : Nat) : Int)) r → Ev (fun k => f1 k (a : Int) ((10 : Nat) : Int)) r)
  (hin : ∀ (a : Nat) (r : R), a < 10 → Ev (fun k => f1 k (a : Int) ((a + 1 : Nat) : Int)) r → Ev (fun k => f0 k (a : Int)) r)
  (hlast : Ev (fun k => f0 k ((10 : Nat) : Int)) no)
include hyes hno hend
theorem scan1 (rest : List (Nat × Nat)) : ∀ (e a b : Nat), b + e = 10 → a < b → Ev (fun k => f0 k ((a + 1 : Nat) : Int)) (pick test yes no rest) → Ev (fun k => f1 k (a : Int) (b : Int)) (pick test yes no (prow e a b ++ rest))
  | 0, a, b, hb, ha, h => by
    obtain rfl : b = 10 := by omega
    exact hend a _ (by omega) h
  | e + 1, a, b, hb, ha, h => by
    rw [prow, List.cons_append]
    by_cases c : test (a, b) = true
    · rw [pick_yes _ _ _ _ _ c]
      exact hyes a b ha (by omega) c
    · have c := Bool.eq_false_iff.2 c
      rw [pick_no _ _ _ _ _ c]
      exact hno a b _ ha (by omega) c (scan1 rest e a (b + 1) (by omega) (by omega) h)
include hin hlast
theorem scan0 : ∀ (e a : Nat), a + e = 10 → Ev (fun k => f0 k (a : Int)) (pick test yes no (prs e a))
  | 0, a, h => by
    obtain rfl : a = 10 := by omega
    exact hlast
  | e + 1, a, h => by
    rw [prs]
    exact hin a _ (by omega) (scan1 f0 f1 test yes no hyes hno hend _ (9 - a) a (a + 1) (by omega) (by omega) (scan0 e (a + 1) (by omega)))
theorem scan : Ev (fun k => f0 k 0) (pick test yes no pairs) := scan0 f0 f1 test yes no hyes hno hend hin hlast 10 0 (by omega)
end
theorem find_and_none {l : List (Nat × Nat)} {p q : Nat × Nat → Bool} (h : l.find? p = none) : l.find? (fun x => p x && q x) = none := by
  rw [List.find?_eq_none] at h ⊢
  intro x hx
  have := h x hx
  simp at this
  simp [this]
theorem find_and_some : ∀ {l : List (Nat × Nat)} {p q : Nat × Nat → Bool} {x : Nat × Nat}, l.find? p = some x → q x = true → l.find? (fun x => p x && q x) = some x
  | [], p, q, x, h, _ => by simp at h
  | y :: l, p, q, x, h, hq => by
    rw [List.find?_cons] at h ⊢
    by_cases c : p y = true
    · rw [c] at h
      simp only [Option.some.injEq] at h
      subst h
      simp [c, hq]
    · have c := Bool.eq_false_iff.2 c
      rw [c] at h
      simp only [c, Bool.false_and]
      exact find_and_some h hq

/-! the two tests -/
/-- the sums of two digits, with this weight, are alike to the modulus -/
def alike (m w : Nat) (p : Nat × Nat) : Bool := decide ((w * (p.2 - p.1)) % m = 0)
def absd (w v : Nat) : Nat := if w > v then w - v else v - w
theorem alike_swap (m w v : Nat) (hw : w < m) (hv : v < m) (p : Nat × Nat) : alike m (w + m - v) p = alike m (absd w v) p := by
  unfold alike absd
  congr 1
  generalize p.2 - p.1 = e
  apply propext
  rw [← Nat.dvd_iff_mod_eq_zero, ← Nat.dvd_iff_mod_eq_zero]
  split
  · rw [show w + m - v = (w - v) + m by omega, Nat.add_mul]
    exact (Nat.dvd_add_iff_left (Nat.dvd_mul_right m e)).symm
  · have h2 : (w + m - v) * e + (v - w) * e = m * e := by rw [← Nat.add_mul]; congr 1; omega
    constructor
    · intro h
      exact (Nat.dvd_add_iff_right h).2 (by rw [h2]; exact Nat.dvd_mul_right m e)
    · intro h
      exact (Nat.dvd_add_iff_left h).2 (by rw [h2]; exact Nat.dvd_mul_right m e)
theorem alike_int {m w a b : Nat} (hw : w ≤ 22) (ha : a < b) (hb : b ≤ 10) : Int.tmod (wrap64 ((w : Int) * wrap64 ((b : Int) - (a : Int)))) (m : Int) = (((w * (b - a)) % m : Nat) : Int) := by
  have e1 : wrap64 ((b : Int) - (a : Int)) = ((b - a : Nat) : Int) := by rw [wr (by omega) (by omega)]; omega
  have hp : w * (b - a) ≤ 22 * 10 := Nat.mul_le_mul hw (by omega)
  have e2 : (w : Int) * ((b - a : Nat) : Int) = ((w * (b - a) : Nat) : Int) := by push_cast; rfl
  rw [e1, e2]
  generalize w * (b - a) = p at hp
  rw [wr (by omega) (by omega)]
  rfl
theorem alike_if {α : Type} {m w a b : Nat} (hw : w ≤ 22) (ha : a < b) (hb : b ≤ 10) (x y : α) : (if Int.tmod (wrap64 ((w : Int) * wrap64 ((b : Int) - (a : Int)))) (m : Int) = 0 then x else y) = if alike m w (a, b) = true then x else y := by
  rw [alike_int hw ha hb]
  unfold alike
  by_cases c : (w * (b - a)) % m = 0
  · rw [if_pos (by omega), if_pos (by simpa using c)]
  · rw [if_neg (by omega), if_neg (by simpa using c)]

/-- the two digits: none, or the first pair -/
noncomputable def un1 (m : Nat) (ot : List Nat) (w : Nat) : Option (Nat × Nat) := pairs.find? fun p => alike m w p && sdB m ot (w * p.1)
noncomputable def un2 (m : Nat) (ot : List Nat) (w v : Nat) : Option (Nat × Nat) := pairs.find? fun p => alike m (absd w v) p && sdB m ot (w * p.1 + v * p.2)
def out3 (u : Option (Nat × Nat)) : Int × Int × Bool := u.elim (0, 0, false) fun p => ((p.1 : Int), (p.2 : Int), true)
def out2 (u : Option (Nat × Nat)) : List Int × Bool := u.elim ([], false) fun p => ([(p.1 : Int), (p.2 : Int)], true)

section
variable {m : Nat} (hm : 2 ≤ m) (hm2 : m ≤ 11)
include hm hm2

/-- the program's, of a slip -/
theorem untold_single (a c : List Nat) (w : Nat) (hw : ∀ v ∈ a ++ w :: c, v < m) (hl : (a ++ w :: c).length ≤ 12) :
    Ev (fun k => impl_Check_untold.f k (ints (a ++ w :: c)) (m : Int) (a.length : Int) false) (out3 (un1 m (a ++ c) w)) := by
  have hwm := hw w (by simp)
  have hw2 : ∀ v ∈ a ++ c, v < m := fun v hv => hw v (by simp only [List.mem_append, List.mem_cons] at hv ⊢; rcases hv with h | h <;> simp [h])
  have hs : ∀ x y : Nat, y < 10 → x < y → Ev (fun k => impl_Check_hasSound.f k (ints (a ++ w :: c)) (m : Int) (a.length : Int) 1 (wrap64 ((w : Int) * (x : Int)))) (sdB m (a ++ c) (w * x)) := fun x y hy hx => by
    rw [mulw (by omega) (by omega)]
    have := hasSound_ev hm hm2 a [w] c (w * x) hw2 (by simpa using hl)
    simpa using this
  have HP : out3 (un1 m (a ++ c) w) = pick (fun p => alike m w p && sdB m (a ++ c) (w * p.1)) (fun p => ((p.1 : Int), (p.2 : Int), true)) (0, 0, false) pairs := rfl
  rw [HP]
  refine Ev.congr (fun k => ?_) (Ev.step (g := fun k => impl_Check_untold.j0 k (a.length : Int) false (w : Int) (w : Int) (ints (a ++ w :: c)) (m : Int)) (fun k => ?_) (scan (fun k x => impl_Check_untold.l0 k (a.length : Int) false (w : Int) (w : Int) x (ints (a ++ w :: c)) (m : Int)) (fun k x y => impl_Check_untold.l1 k (a.length : Int) false (w : Int) (w : Int) x y x (ints (a ++ w :: c)) (m : Int))
    (fun p => alike m w p && sdB m (a ++ c) (w * p.1)) (fun p => ((p.1 : Int), (p.2 : Int), true)) (0, 0, false) ?_ ?_ ?_ ?_ ?_))
  · simp only [impl_Check_untold.f]
    rw [if_pos (by omega), if_pos (by rw [ints_length]; exact app_lt _ _ _), if_neg (by decide), rd_ints]
  · simp only [impl_Check_untold.j0]
  · intro x y hx hy ht
    rw [Bool.and_eq_true] at ht
    refine Ev.step (f := fun k => (impl_Check_hasSound.f k (ints (a ++ w :: c)) (m : Int) (a.length : Int) 1 (wrap64 ((w : Int) * (x : Int)))).bind fun t => if t = true then some ((x : Int), (y : Int), true) else impl_Check_untold.l1 k (a.length : Int) false (w : Int) (w : Int) (x : Int) (wrap64 ((y : Int) + 1)) (x : Int) (ints (a ++ w :: c)) (m : Int)) (fun k => ?_) ?_
    · simp only [impl_Check_untold.l1]
      rw [if_pos (by omega), if_neg (by omega), alike_if (by omega) hx (by omega), if_pos ht.1, if_neg (by decide)]
    · refine Ev.bind (f := fun k t => if t = true then some ((x : Int), (y : Int), true) else impl_Check_untold.l1 k (a.length : Int) false (w : Int) (w : Int) (x : Int) (wrap64 ((y : Int) + 1)) (x : Int) (ints (a ++ w :: c)) (m : Int)) (hs x y hy hx) ?_
      exact Ev.congr (fun k => if_pos ht.2) (Ev.now _)
  · intro x y r hx hy ht h
    refine Ev.step (f := fun k => if alike m w (x, y) = true then ((impl_Check_hasSound.f k (ints (a ++ w :: c)) (m : Int) (a.length : Int) 1 (wrap64 ((w : Int) * (x : Int)))).bind fun t => if t = true then some ((x : Int), (y : Int), true) else impl_Check_untold.l1 k (a.length : Int) false (w : Int) (w : Int) (x : Int) (wrap64 ((y : Int) + 1)) (x : Int) (ints (a ++ w :: c)) (m : Int)) else impl_Check_untold.l1 k (a.length : Int) false (w : Int) (w : Int) (x : Int) (wrap64 ((y : Int) + 1)) (x : Int) (ints (a ++ w :: c)) (m : Int)) (fun k => ?_) ?_
    · simp only [impl_Check_untold.l1]
      rw [if_pos (by omega), if_neg (by omega), alike_if (by omega) hx (by omega), if_neg (show ¬ (false = true) by decide)]
    · rw [wsucc y (by omega)]
      by_cases ca : alike m w (x, y) = true
      · rw [ca, Bool.true_and] at ht
        refine Ev.congr (fun k => if_pos ca) (Ev.bind (f := fun k t => if t = true then some ((x : Int), (y : Int), true) else impl_Check_untold.l1 k (a.length : Int) false (w : Int) (w : Int) (x : Int) ((y + 1 : Nat) : Int) (x : Int) (ints (a ++ w :: c)) (m : Int)) (hs x y hy hx) ?_)
        exact Ev.congr (fun k => if_neg (by rw [ht]; decide)) h
      · exact Ev.congr (fun k => if_neg ca) h
  · intro x r hx h
    refine Ev.step (fun k => ?_) h
    simp only [impl_Check_untold.l1]
    rw [if_neg (by omega), wsucc x (by omega)]
  · intro x r hx h
    refine Ev.step (fun k => ?_) h
    simp only [impl_Check_untold.l0]
    rw [if_pos (by omega), wsucc x (by omega)]
  · refine Ev.step (f := fun _ => some (0, 0, false)) (fun k => ?_) (Ev.now _)
    simp only [impl_Check_untold.l0]
    rw [if_neg (by omega)]
end

end Go.Proofs.Ytafegaaklpdgiaa.Q

/-
  Plain lemmas: the least two digits for a swap, and the reference's for both. No walk here.
-/
namespace Go.Proofs.Ytafegaaklpdgiaa.Q
open Go.RowKit Go.Proofs.YtafegaaklpdgiaaW.PrintWords Go.Proofs.YtafegaaklpdgiaaW.PrintLast Go.Proofs.YtafegaaklpdgiaaW.PrintMore
set_option linter.unusedVariables false
set_option linter.unusedSimpArgs false

theorem pairs_ok : ∀ p ∈ pairs, p.1 < p.2 ∧ p.2 < 10 := by decide
theorem rd_next (a : List Nat) (w v : Nat) (c : List Nat) : rd (ints (a ++ w :: v :: c)) ((a.length + 1 : Nat) : Int) = (v : Int) := by
  have := rd_ints (a ++ [w]) v c
  rw [List.append_assoc, List.singleton_append, List.length_append] at this
  exact this
theorem next_lt (a : List Nat) (w v : Nat) (c : List Nat) : ((a.length + 1 : Nat) : Int) < ((ints (a ++ w :: v :: c)).length : Int) := by
  rw [ints_length]; simp only [List.length_append, List.length_cons]; omega
theorem own2 {w v x y : Nat} (hw : w ≤ 11) (hv : v ≤ 11) (hx : x ≤ 10) (hy : y ≤ 10) : wrap64 (wrap64 ((w : Int) * (x : Int)) + wrap64 ((v : Int) * (y : Int))) = ((w * x + v * y : Nat) : Int) := by
  have hp : w * x ≤ 11 * 10 := Nat.mul_le_mul hw hx
  have hq : v * y ≤ 11 * 10 := Nat.mul_le_mul hv hy
  rw [mulw hw hx, mulw hv hy]
  generalize w * x = p at hp
  generalize v * y = q at hq
  rw [wr (by omega) (by omega)]
  push_cast
  rfl

section
variable {m : Nat} (hm : 2 ≤ m) (hm2 : m ≤ 11)
include hm hm2

/-- the program's, of a swap -/
theorem untold_swap (a c : List Nat) (w v : Nat) (hw : ∀ u ∈ a ++ w :: v :: c, u < m) (hl : (a ++ w :: v :: c).length ≤ 12) :
    Ev (fun k => impl_Check_untold.f k (ints (a ++ w :: v :: c)) (m : Int) (a.length : Int) true) (out3 (un2 m (a ++ c) w v)) := by
  have hwm := hw w (by simp)
  have hvm := hw v (by simp)
  have hal : a.length ≤ 12 := by simp at hl; omega
  have hw2 : ∀ u ∈ a ++ c, u < m := fun u hu => hw u (by simp only [List.mem_append, List.mem_cons] at hu ⊢; rcases hu with h | h <;> simp [h])
  have hs : ∀ x y : Nat, y < 10 → x < y → Ev (fun k => impl_Check_hasSound.f k (ints (a ++ w :: v :: c)) (m : Int) (a.length : Int) 2 ((w * x + v * y : Nat) : Int)) (sdB m (a ++ c) (w * x + v * y)) := fun x y hy hx => by
    have := hasSound_ev hm hm2 a [w, v] c (w * x + v * y) hw2 (by simpa using hl)
    simpa using this
  have HP : out3 (un2 m (a ++ c) w v) = pick (fun p => alike m (w + m - v) p && sdB m (a ++ c) (w * p.1 + v * p.2)) (fun p => ((p.1 : Int), (p.2 : Int), true)) (0, 0, false) pairs := by
    unfold out3 un2 pick
    simp only [alike_swap m w v hwm hvm]
  rw [HP]
  obtain ⟨ap, hap⟩ : ∃ ap, ap = w + m - v := ⟨_, rfl⟩
  rw [← hap]
  have hap2 : ap ≤ 22 := by omega
  refine Ev.congr (fun k => ?_) (Ev.step (g := fun k => impl_Check_untold.j0 k (a.length : Int) true (w : Int) (ap : Int) (ints (a ++ w :: v :: c)) (m : Int)) (fun k => ?_) (scan (fun k x => impl_Check_untold.l0 k (a.length : Int) true (w : Int) (ap : Int) x (ints (a ++ w :: v :: c)) (m : Int)) (fun k x y => impl_Check_untold.l1 k (a.length : Int) true (w : Int) (ap : Int) x y x (ints (a ++ w :: v :: c)) (m : Int))
    (fun p => alike m ap p && sdB m (a ++ c) (w * p.1 + v * p.2)) (fun p => ((p.1 : Int), (p.2 : Int), true)) (0, 0, false) ?_ ?_ ?_ ?_ ?_))
  · simp only [impl_Check_untold.f]
    rw [if_pos (by omega), if_pos (by rw [ints_length]; exact app_lt _ _ _), if_pos trivial, wsucc _ (by omega), if_pos (by omega), if_pos (next_lt a w v c), rd_ints, rd_next, wr (i := (w : Int) - (v : Int)) (by omega) (by omega), wr (by omega) (by omega), show (w : Int) - (v : Int) + (m : Int) = (ap : Int) by omega]
  · simp only [impl_Check_untold.j0]
  · intro x y hx hy ht
    rw [Bool.and_eq_true] at ht
    refine Ev.step (f := fun k => (impl_Check_hasSound.f k (ints (a ++ w :: v :: c)) (m : Int) (a.length : Int) 2 ((w * x + v * y : Nat) : Int)).bind fun t => if t = true then some ((x : Int), (y : Int), true) else impl_Check_untold.l1 k (a.length : Int) true (w : Int) (ap : Int) (x : Int) (wrap64 ((y : Int) + 1)) (x : Int) (ints (a ++ w :: v :: c)) (m : Int)) (fun k => ?_) ?_
    · simp only [impl_Check_untold.l1]
      rw [if_pos (by omega), if_neg (by omega), alike_if hap2 hx (by omega), if_pos ht.1, if_pos trivial, wsucc _ (by omega), if_pos (by omega), if_pos (next_lt a w v c), rd_next, own2 (by omega) (by omega) (by omega) (by omega)]
    · refine Ev.bind (f := fun k t => if t = true then some ((x : Int), (y : Int), true) else impl_Check_untold.l1 k (a.length : Int) true (w : Int) (ap : Int) (x : Int) (wrap64 ((y : Int) + 1)) (x : Int) (ints (a ++ w :: v :: c)) (m : Int)) (hs x y hy hx) ?_
      exact Ev.congr (fun k => if_pos ht.2) (Ev.now _)
  · intro x y r hx hy ht h
    refine Ev.step (f := fun k => if alike m ap (x, y) = true then ((impl_Check_hasSound.f k (ints (a ++ w :: v :: c)) (m : Int) (a.length : Int) 2 ((w * x + v * y : Nat) : Int)).bind fun t => if t = true then some ((x : Int), (y : Int), true) else impl_Check_untold.l1 k (a.length : Int) true (w : Int) (ap : Int) (x : Int) (wrap64 ((y : Int) + 1)) (x : Int) (ints (a ++ w :: v :: c)) (m : Int)) else impl_Check_untold.l1 k (a.length : Int) true (w : Int) (ap : Int) (x : Int) (wrap64 ((y : Int) + 1)) (x : Int) (ints (a ++ w :: v :: c)) (m : Int)) (fun k => ?_) ?_
    · simp only [impl_Check_untold.l1]
      rw [if_pos (by omega), if_neg (by omega), alike_if hap2 hx (by omega), if_pos (show True from trivial), wsucc a.length (by omega), if_pos (show (0 : Int) ≤ ((a.length + 1 : Nat) : Int) by omega), if_pos (next_lt a w v c), rd_next, own2 (by omega) (by omega) (by omega) (by omega)]
    · rw [wsucc y (by omega)]
      by_cases ca : alike m ap (x, y) = true
      · rw [ca, Bool.true_and] at ht
        refine Ev.congr (fun k => if_pos ca) (Ev.bind (f := fun k t => if t = true then some ((x : Int), (y : Int), true) else impl_Check_untold.l1 k (a.length : Int) true (w : Int) (ap : Int) (x : Int) ((y + 1 : Nat) : Int) (x : Int) (ints (a ++ w :: v :: c)) (m : Int)) (hs x y hy hx) ?_)
        exact Ev.congr (fun k => if_neg (by rw [ht]; decide)) h
      · exact Ev.congr (fun k => if_neg ca) h
  · intro x r hx h
    refine Ev.step (fun k => ?_) h
    simp only [impl_Check_untold.l1]
    rw [if_neg (by omega), wsucc x (by omega)]
  · intro x r hx h
    refine Ev.step (fun k => ?_) h
    simp only [impl_Check_untold.l0]
    rw [if_pos (by omega), wsucc x (by omega)]
  · refine Ev.step (f := fun _ => some (0, 0, false)) (fun k => ?_) (Ev.now _)
    simp only [impl_Check_untold.l0]
    rw [if_neg (by omega)]

/-- the reference's pair -/
theorem pair_ev (l : List Int) (w : Nat) (hw : w ≤ 22) : Ev (fun k => spec_slPair.f k l (m : Int) (w : Int)) (out2 (pairs.find? (alike m w))) := by
  have HP : out2 (pairs.find? (alike m w)) = pick (alike m w) (fun p => ([(p.1 : Int), (p.2 : Int)], true)) ([], false) pairs := rfl
  rw [HP]
  refine scan (fun k x => spec_slPair.l0 k (w : Int) x l (m : Int)) (fun k x y => spec_slPair.l1 k (w : Int) x y l (m : Int)) (alike m w) _ _ ?_ ?_ ?_ ?_ ?_
  · intro x y hx hy ht
    refine Ev.step (f := fun _ => some ([(x : Int), (y : Int)], true)) (fun k => ?_) (Ev.now _)
    simp only [spec_slPair.l1]
    rw [if_pos (by omega), if_neg (by omega), alike_if hw hx (by omega), if_pos ht]
  · intro x y r hx hy ht h
    refine Ev.step (fun k => ?_) h
    simp only [spec_slPair.l1]
    rw [if_pos (by omega), if_neg (by omega), alike_if hw hx (by omega), if_neg (by rw [ht]; decide), wsucc y (by omega)]
  · intro x r hx h
    refine Ev.step (fun k => ?_) h
    simp only [spec_slPair.l1]
    rw [if_neg (by omega), wsucc x (by omega)]
  · intro x r hx h
    refine Ev.step (fun k => ?_) h
    simp only [spec_slPair.l0]
    rw [if_pos (by omega), wsucc x (by omega)]
  · refine Ev.step (f := fun _ => some ([], false)) (fun k => ?_) (Ev.now _)
    simp only [spec_slPair.l0]
    rw [if_neg (by omega)]

/-- the reference's search -/
theorem refer_j0 (l : List Int) (place : Int) (swap : Bool) (w : Nat) (hw : w ≤ 22) (s : Nat × Nat → Bool) (hs : ∀ x y : Nat, x < y → y < 10 → Ev (fun k => spec_slMade.f k l (m : Int) place [(x : Int), (y : Int)] swap) (s (x, y))) :
    Ev (fun k => spec_slUntold.j0 k place swap (w : Int) l (m : Int)) (out2 (pairs.find? fun p => alike m w p && s p)) := by
  have hl0 : Ev (fun k => spec_slUntold.l0 k place swap (w : Int) 0 l (m : Int)) (out2 (pairs.find? fun p => alike m w p && s p)) := by
    have HP : out2 (pairs.find? fun p => alike m w p && s p) = pick (fun p => alike m w p && s p) (fun p => ([(p.1 : Int), (p.2 : Int)], true)) ([], false) pairs := rfl
    rw [HP]
    refine scan (fun k x => spec_slUntold.l0 k place swap (w : Int) x l (m : Int)) (fun k x y => spec_slUntold.l1 k place swap (w : Int) x y l (m : Int)) (fun p => alike m w p && s p) _ _ ?_ ?_ ?_ ?_ ?_
    · intro x y hx hy ht
      rw [Bool.and_eq_true] at ht
      refine Ev.step (f := fun k => (spec_slMade.f k l (m : Int) place [(x : Int), (y : Int)] swap).bind fun t => if t = true then some ([(x : Int), (y : Int)], true) else spec_slUntold.l1 k place swap (w : Int) (x : Int) (wrap64 ((y : Int) + 1)) l (m : Int)) (fun k => ?_) (Ev.bind (f := fun k t => if t = true then some ([(x : Int), (y : Int)], true) else spec_slUntold.l1 k place swap (w : Int) (x : Int) (wrap64 ((y : Int) + 1)) l (m : Int)) (hs x y hx hy) (Ev.congr (fun k => if_pos ht.2) (Ev.now _)))
      simp only [spec_slUntold.l1]
      rw [if_pos (by omega), if_neg (by omega), alike_if hw hx (by omega), if_pos ht.1]
    · intro x y r hx hy ht h
      refine Ev.step (f := fun k => if alike m w (x, y) = true then ((spec_slMade.f k l (m : Int) place [(x : Int), (y : Int)] swap).bind fun t => if t = true then some ([(x : Int), (y : Int)], true) else spec_slUntold.l1 k place swap (w : Int) (x : Int) (wrap64 ((y : Int) + 1)) l (m : Int)) else spec_slUntold.l1 k place swap (w : Int) (x : Int) (wrap64 ((y : Int) + 1)) l (m : Int)) (fun k => ?_) ?_
      · simp only [spec_slUntold.l1]
        rw [if_pos (by omega), if_neg (by omega), alike_if hw hx (by omega)]
      · rw [wsucc y (by omega)]
        by_cases ca : alike m w (x, y) = true
        · rw [ca, Bool.true_and] at ht
          refine Ev.congr (fun k => if_pos ca) (Ev.bind (f := fun k t => if t = true then some ([(x : Int), (y : Int)], true) else spec_slUntold.l1 k place swap (w : Int) (x : Int) ((y + 1 : Nat) : Int) l (m : Int)) (hs x y hx hy) ?_)
          exact Ev.congr (fun k => if_neg (by rw [ht]; decide)) h
        · exact Ev.congr (fun k => if_neg ca) h
    · intro x r hx h
      refine Ev.step (fun k => ?_) h
      simp only [spec_slUntold.l1]
      rw [if_neg (by omega), wsucc x (by omega)]
    · intro x r hx h
      refine Ev.step (fun k => ?_) h
      simp only [spec_slUntold.l0]
      rw [if_pos (by omega), wsucc x (by omega)]
    · refine Ev.step (f := fun _ => some ([], false)) (fun k => ?_) (Ev.now _)
      simp only [spec_slUntold.l0]
      rw [if_neg (by omega)]
  refine Ev.step (f := fun k => (spec_slPair.f k l (m : Int) (w : Int)).bind fun bt => if bt.2 = true then ((spec_slMade.f k l (m : Int) place bt.1 swap).bind fun t => spec_slUntold.j1 k place swap (w : Int) bt.1 bt.2 t l (m : Int)) else spec_slUntold.j1 k place swap (w : Int) bt.1 bt.2 true l (m : Int)) (fun k => by simp only [spec_slUntold.j0]) ?_
  refine Ev.bind (f := fun k (bt : List Int × Bool) => if bt.2 = true then ((spec_slMade.f k l (m : Int) place bt.1 swap).bind fun t => spec_slUntold.j1 k place swap (w : Int) bt.1 bt.2 t l (m : Int)) else spec_slUntold.j1 k place swap (w : Int) bt.1 bt.2 true l (m : Int)) (pair_ev hm hm2 l w hw) ?_
  cases hf : pairs.find? (alike m w) with
  | none =>
    rw [find_and_none hf]
    refine Ev.congr (fun k => if_neg (by show ¬ (false = true); decide)) (Ev.step (f := fun _ => some ([], false)) (fun k => ?_) (Ev.now _))
    simp only [spec_slUntold.j1, out2, Option.elim]
    rw [if_pos trivial]
  | some p =>
    have hp := pairs_ok p (List.mem_of_find?_eq_some hf)
    have hb := hs p.1 p.2 hp.1 hp.2
    refine Ev.congr (fun k => if_pos rfl) (Ev.bind (f := fun k t => spec_slUntold.j1 k place swap (w : Int) (out2 (some p)).1 (out2 (some p)).2 t l (m : Int)) hb ?_)
    cases hsp : s p with
    | true =>
      rw [find_and_some hf hsp]
      refine Ev.step (f := fun _ => some (out2 (some p))) (fun k => ?_) (Ev.now _)
      simp only [spec_slUntold.j1]
      rw [if_pos trivial]
    | false =>
      refine Ev.step (fun k => ?_) hl0
      simp only [spec_slUntold.j1]
      rw [if_neg (by decide)]

omit hm hm2 in
theorem abs_ev (w v : Nat) (hw : w ≤ 11) (hv : v ≤ 11) : spec_l1Abs.f (wrap64 ((w : Int) - (v : Int))) = some ((absd w v : Nat) : Int) := by
  rw [wr (by omega) (by omega)]
  unfold spec_l1Abs.f spec_l1Most.f absd
  rw [wr (i := -((w : Int) - (v : Int))) (by omega) (by omega)]
  by_cases c : w > v
  · rw [if_pos (by omega), if_pos c, Option.bind_some]
    congr 1
    omega
  · rw [if_neg (by omega), if_neg c, Option.bind_some]
    congr 1
    omega
/-- the reference's, of a slip -/
theorem refer_single (a c : List Nat) (w : Nat) (hw : ∀ v ∈ a ++ w :: c, v < m) (hl : (a ++ w :: c).length ≤ 12) :
    Ev (fun k => spec_slUntold.f k (ints (a ++ w :: c)) (m : Int) (a.length : Int) false) (out2 (un1 m (a ++ c) w)) := by
  have hwm := hw w (by simp)
  refine Ev.congr (fun k => ?_) (refer_j0 hm hm2 (ints (a ++ w :: c)) (a.length : Int) false w (by omega) (fun p => sdB m (a ++ c) (w * p.1)) (fun x y hx hy => made_single hm hm2 a c w x y hw hl (by omega)))
  simp only [spec_slUntold.f]
  rw [if_pos (by omega), if_pos (by rw [ints_length]; exact app_lt _ _ _), if_neg (by decide), rd_ints]
/-- the reference's, of a swap -/
theorem refer_swap (a c : List Nat) (w v : Nat) (hw : ∀ u ∈ a ++ w :: v :: c, u < m) (hl : (a ++ w :: v :: c).length ≤ 12) :
    Ev (fun k => spec_slUntold.f k (ints (a ++ w :: v :: c)) (m : Int) (a.length : Int) true) (out2 (un2 m (a ++ c) w v)) := by
  have hwm := hw w (by simp)
  have hvm := hw v (by simp)
  have hal : a.length ≤ 12 := by simp at hl; omega
  refine Ev.congr (fun k => ?_) (refer_j0 hm hm2 (ints (a ++ w :: v :: c)) (a.length : Int) true (absd w v) (by unfold absd; split <;> omega) (fun p => sdB m (a ++ c) (w * p.1 + v * p.2)) (fun x y hx hy => made_swap hm hm2 a c w v x y hw hl (by omega) (by omega)))
  simp only [spec_slUntold.f]
  rw [if_pos (by omega), if_pos (by rw [ints_length]; exact app_lt _ _ _), if_pos trivial, wsucc _ (by omega), if_pos (by omega), if_pos (next_lt a w v c), rd_ints, rd_next, abs_ev w v (by omega) (by omega)]
  rfl
end

end Go.Proofs.Ytafegaaklpdgiaa.Q

/-
  Plain lemmas: UntoldSingles and UntoldSwaps: the program's rows are the reference's. No walk here.
-/
namespace Go.Proofs.Ytafegaaklpdgiaa.Q
open Go.RowKit Go.Proofs.YtafegaaklpdgiaaW.PrintWords Go.Proofs.YtafegaaklpdgiaaW.PrintLast Go.Proofs.YtafegaaklpdgiaaW.PrintMore
set_option linter.unusedVariables false
set_option linter.unusedSimpArgs false

theorem len_snoc {α : Type} (a : List α) (w : α) : (a ++ [w]).length = a.length + 1 := by simp
def row3 (i : Nat) (u : Option (Nat × Nat)) : List (List Int) := u.elim [] fun p => [[(i : Int), (p.1 : Int), (p.2 : Int)]]
noncomputable def rowsS (m : Nat) : List Nat → List Nat → List (List Int)
  | _, [] => []
  | a, w :: c => row3 a.length (un1 m (a ++ c) w) ++ rowsS m (a ++ [w]) c
noncomputable def rowsW (m : Nat) : List Nat → List Nat → List (List Int)
  | _, [] => []
  | _, [_] => []
  | a, w :: v :: c => row3 a.length (un2 m (a ++ c) w v) ++ rowsW m (a ++ [w]) (v :: c)
theorem row3_len (i : Nat) (u : Option (Nat × Nat)) : (row3 i u).length ≤ 1 ∧ ∀ r ∈ row3 i u, r.length ≤ 3 := by
  cases u <;> simp [row3]
theorem rowsS_len (m : Nat) : ∀ c a, (rowsS m a c).length ≤ c.length ∧ ∀ r ∈ rowsS m a c, r.length ≤ 3
  | [], a => by simp [rowsS]
  | w :: c, a => by
    have h1 := row3_len a.length (un1 m (a ++ c) w)
    have h2 := rowsS_len m c (a ++ [w])
    refine ⟨by simp only [rowsS, List.length_append, List.length_cons]; omega, fun r hr => ?_⟩
    simp only [rowsS, List.mem_append] at hr
    exact hr.elim (h1.2 r) (h2.2 r)
theorem rowsW_len (m : Nat) : ∀ c a, (rowsW m a c).length ≤ c.length ∧ ∀ r ∈ rowsW m a c, r.length ≤ 3
  | [], a => by simp [rowsW]
  | [w], a => by simp [rowsW]
  | w :: v :: c, a => by
    have h1 := row3_len a.length (un2 m (a ++ c) w v)
    have h2 := rowsW_len m (v :: c) (a ++ [w])
    simp only [List.length_cons] at h2
    refine ⟨by simp only [rowsW, List.length_append, List.length_cons]; omega, fun r hr => ?_⟩
    simp only [rowsW, List.mem_append] at hr
    exact hr.elim (h1.2 r) (h2.2 r)

section
variable {m : Nat} (hm : 2 ≤ m) (hm2 : m ≤ 11)
include hm hm2

omit hm hm2 in
/-- one place of the program's -/
theorem all_step (ws : List Nat) (swap : Bool) (n i : Nat) (hi : i < n) (hn : n ≤ 100) (acc : List (List Int)) (hacc : acc.length ≤ 100) (u : Option (Nat × Nat)) (hu : Ev (fun k => impl_Check_untold.f k (ints ws) (m : Int) (i : Int) swap) (out3 u)) (R : List (List Int))
    (h : Ev (fun k => impl_Check_allUntold.l0 k swap (acc ++ row3 i u) (n : Int) ((i + 1 : Nat) : Int) (ints ws) (m : Int)) R) : Ev (fun k => impl_Check_allUntold.l0 k swap acc (n : Int) (i : Int) (ints ws) (m : Int)) R := by
  refine Ev.step (f := fun k => (impl_Check_untold.f k (ints ws) (m : Int) (i : Int) swap).bind fun bt => if bt.2.2 = true then (if acc.length < 5864062014805 then impl_Check_allUntold.l0 k swap (acc ++ [[(i : Int), bt.1, bt.2.1]]) (n : Int) ((i + 1 : Nat) : Int) (ints ws) (m : Int) else none) else impl_Check_allUntold.l0 k swap acc (n : Int) ((i + 1 : Nat) : Int) (ints ws) (m : Int)) (fun k => ?_) (Ev.bind (f := fun k (bt : Int × Int × Bool) => if bt.2.2 = true then (if acc.length < 5864062014805 then impl_Check_allUntold.l0 k swap (acc ++ [[(i : Int), bt.1, bt.2.1]]) (n : Int) ((i + 1 : Nat) : Int) (ints ws) (m : Int) else none) else impl_Check_allUntold.l0 k swap acc (n : Int) ((i + 1 : Nat) : Int) (ints ws) (m : Int)) hu ?_)
  · simp only [impl_Check_allUntold.l0]
    rw [if_pos (by omega), wsucc i (by omega)]
  · cases u with
    | none =>
      have h : Ev (fun k => impl_Check_allUntold.l0 k swap (acc ++ []) (n : Int) ((i + 1 : Nat) : Int) (ints ws) (m : Int)) R := h
      rw [List.append_nil] at h
      exact Ev.congr (fun k => if_neg (by show ¬ (false = true); decide)) h
    | some p => exact Ev.congr (fun k => (if_pos rfl).trans (if_pos (by omega))) h
theorem all_single : ∀ (c a : List Nat) (acc : List (List Int)), (∀ v ∈ a ++ c, v < m) → (a ++ c).length ≤ 12 → acc.length ≤ a.length →
    Ev (fun k => impl_Check_allUntold.l0 k false acc ((a ++ c).length : Int) (a.length : Int) (ints (a ++ c)) (m : Int)) (acc ++ rowsS m a c)
  | [], a, acc, hw, hl, hacc => by
    refine Ev.step (f := fun _ => some (acc ++ rowsS m a [])) (fun k => ?_) (Ev.now _)
    simp only [impl_Check_allUntold.l0]
    rw [if_neg (by simp)]
    simp [rowsS]
  | w :: c, a, acc, hw, hl, hacc => by
    have h1 := (row3_len a.length (un1 m (a ++ c) w)).1
    have ih := all_single c (a ++ [w]) (acc ++ row3 a.length (un1 m (a ++ c) w)) (by rw [List.append_assoc]; exact hw) (by rw [List.append_assoc]; exact hl) (by simp only [List.length_append, List.length_cons, List.length_nil]; omega)
    rw [List.append_assoc, List.append_assoc, List.singleton_append, len_snoc a w] at ih
    have hl2 : a.length + (c.length + 1) ≤ 12 := by simpa using hl
    exact all_step (a ++ w :: c) false (a ++ w :: c).length a.length (by simp) (by omega) acc (by omega) _ (untold_single hm hm2 a c w hw hl) _ ih
theorem all_swap : ∀ (c a : List Nat) (acc : List (List Int)) (n : Nat), (∀ v ∈ a ++ c, v < m) → (a ++ c).length ≤ 12 → acc.length ≤ a.length → n + 1 = (a ++ c).length → 
    Ev (fun k => impl_Check_allUntold.l0 k true acc (n : Int) (a.length : Int) (ints (a ++ c)) (m : Int)) (acc ++ rowsW m a c)
  | [], a, acc, n, hw, hl, hacc, hn => by
    simp only [List.append_nil] at hn
    refine Ev.step (f := fun _ => some (acc ++ rowsW m a [])) (fun k => ?_) (Ev.now _)
    simp only [impl_Check_allUntold.l0]
    rw [if_neg (by omega)]
    simp [rowsW]
  | [w], a, acc, n, hw, hl, hacc, hn => by
    simp only [List.length_append, List.length_cons, List.length_nil] at hn
    refine Ev.step (f := fun _ => some (acc ++ rowsW m a [w])) (fun k => ?_) (Ev.now _)
    simp only [impl_Check_allUntold.l0]
    rw [if_neg (by omega)]
    simp [rowsW]
  | w :: v :: c, a, acc, n, hw, hl, hacc, hn => by
    have h1 := (row3_len a.length (un2 m (a ++ c) w v)).1
    have ih := all_swap (v :: c) (a ++ [w]) (acc ++ row3 a.length (un2 m (a ++ c) w v)) n (by rw [List.append_assoc]; exact hw) (by rw [List.append_assoc]; exact hl) (by simp only [List.length_append, List.length_cons, List.length_nil]; omega) (by rw [List.append_assoc]; exact hn)
    rw [List.append_assoc, List.append_assoc, List.singleton_append, len_snoc a w] at ih
    have hl2 : a.length + (c.length + 1 + 1) ≤ 12 := by simpa using hl
    have hn2 : n + 1 = a.length + (c.length + 1 + 1) := by simpa using hn
    exact all_step (a ++ w :: v :: c) true n a.length (by omega) (by omega) acc (by omega) _ (untold_swap hm hm2 a c w v hw hl) _ ih
theorem allSingle_ev (ws : List Nat) (hw : ∀ v ∈ ws, v < m) (hl : ws.length ≤ 12) : Ev (fun k => impl_Check_allUntold.f k (ints ws) (m : Int) false) (rowsS m [] ws) := by
  have h := all_single hm hm2 ws [] [] (by simpa using hw) (by simpa using hl) (Nat.le_refl _)
  refine Ev.congr (fun k => ?_) h
  simp only [impl_Check_allUntold.f, impl_bit.f]
  rw [if_neg (by decide), Option.bind_some, ints_length, wr (by omega) (by omega)]
  simp
theorem allSwap_ev (ws : List Nat) (hw : ∀ v ∈ ws, v < m) (hl : ws.length ≤ 12) (h1 : 1 ≤ ws.length) : Ev (fun k => impl_Check_allUntold.f k (ints ws) (m : Int) true) (rowsW m [] ws) := by
  have h := all_swap hm hm2 ws [] [] (ws.length - 1) (by simpa using hw) (by simpa using hl) (Nat.le_refl _) (by simp; omega)
  refine Ev.congr (fun k => ?_) h
  simp only [impl_Check_allUntold.f, impl_bit.f]
  rw [if_pos trivial, Option.bind_some, ints_length, wr (by omega) (by omega), show (ws.length : Int) - 1 = ((ws.length - 1 : Nat) : Int) by omega]
  simp

omit hm hm2 in
/-- one place of the reference's -/
theorem ref_step (ws : List Nat) (swap : Bool) (n i : Nat) (hi : i < n) (hn : n ≤ 100) (hsk : (swap && (i == ws.length - 1)) = false) (hws : 1 ≤ ws.length) (hw2 : ws.length ≤ 100) (acc : List (List Int)) (hacc : acc.length ≤ 100) (u : Option (Nat × Nat)) (hu : Ev (fun k => spec_slUntold.f k (ints ws) (m : Int) (i : Int) swap) (out2 u)) (R : List (List Int))
    (h : Ev (fun k => spec_slList.l0 k swap (acc ++ row3 i u) (n : Int) ((i + 1 : Nat) : Int) (ints ws) (m : Int)) R) : Ev (fun k => spec_slList.l0 k swap acc (n : Int) (i : Int) (ints ws) (m : Int)) R := by
  refine Ev.step (f := fun k => spec_slList.j1 k swap acc (i : Int) (n : Int) (i : Int) false (ints ws) (m : Int)) (fun k => ?_) (Ev.step (f := fun k => (spec_slUntold.f k (ints ws) (m : Int) (i : Int) swap).bind fun bt => if bt.2 = true then (if 1 + bt.1.length < 17592186044416 then (if acc.length < 5864062014805 then spec_slList.l0 k swap (acc ++ [([(i : Int)] ++ bt.1)]) (n : Int) ((i + 1 : Nat) : Int) (ints ws) (m : Int) else none) else none) else spec_slList.l0 k swap acc (n : Int) ((i + 1 : Nat) : Int) (ints ws) (m : Int)) (fun k => ?_) (Ev.bind (f := fun k (bt : List Int × Bool) => if bt.2 = true then (if 1 + bt.1.length < 17592186044416 then (if acc.length < 5864062014805 then spec_slList.l0 k swap (acc ++ [([(i : Int)] ++ bt.1)]) (n : Int) ((i + 1 : Nat) : Int) (ints ws) (m : Int) else none) else none) else spec_slList.l0 k swap acc (n : Int) ((i + 1 : Nat) : Int) (ints ws) (m : Int)) hu ?_))
  · simp only [spec_slList.l0]
    rw [if_pos (by omega), ints_length, wr (by omega) (by omega)]
    cases swap with
    | false => rw [if_neg (by decide)]
    | true =>
      rw [if_pos rfl]
      congr 1
      rw [Bool.true_and] at hsk
      have := beq_eq_false_iff_ne.1 hsk
      exact beq_eq_false_iff_ne.2 (by omega)
  · simp only [spec_slList.j1]
    rw [if_neg (by decide), wsucc i (by omega)]
    rfl
  · cases u with
    | none =>
      have h : Ev (fun k => spec_slList.l0 k swap (acc ++ []) (n : Int) ((i + 1 : Nat) : Int) (ints ws) (m : Int)) R := h
      rw [List.append_nil] at h
      exact Ev.congr (fun k => if_neg (by show ¬ (false = true); decide)) h
    | some p => exact Ev.congr (fun k => (if_pos rfl).trans ((if_pos (by simp [out2])).trans (if_pos (by omega)))) h
theorem ref_single : ∀ (c a : List Nat) (acc : List (List Int)), (∀ v ∈ a ++ c, v < m) → (a ++ c).length ≤ 12 → acc.length ≤ a.length →
    Ev (fun k => spec_slList.l0 k false acc ((a ++ c).length : Int) (a.length : Int) (ints (a ++ c)) (m : Int)) (acc ++ rowsS m a c)
  | [], a, acc, hw, hl, hacc => by
    refine Ev.step (f := fun _ => some (acc ++ rowsS m a [])) (fun k => ?_) (Ev.now _)
    simp only [spec_slList.l0]
    rw [if_neg (by simp)]
    simp [rowsS]
  | w :: c, a, acc, hw, hl, hacc => by
    have h1 := (row3_len a.length (un1 m (a ++ c) w)).1
    have ih := ref_single c (a ++ [w]) (acc ++ row3 a.length (un1 m (a ++ c) w)) (by rw [List.append_assoc]; exact hw) (by rw [List.append_assoc]; exact hl) (by simp only [List.length_append, List.length_cons, List.length_nil]; omega)
    rw [List.append_assoc, List.append_assoc, List.singleton_append, len_snoc a w] at ih
    have hl2 : a.length + (c.length + 1) ≤ 12 := by simpa using hl
    exact ref_step (a ++ w :: c) false (a ++ w :: c).length a.length (by simp) (by omega) rfl (by simp only [List.length_append, List.length_cons]; omega) (by omega) acc (by omega) _ (refer_single hm hm2 a c w hw hl) _ ih
theorem ref_swap : ∀ (c a : List Nat) (acc : List (List Int)), c ≠ [] → (∀ v ∈ a ++ c, v < m) → (a ++ c).length ≤ 12 → acc.length ≤ a.length → 
    Ev (fun k => spec_slList.l0 k true acc ((a ++ c).length : Int) (a.length : Int) (ints (a ++ c)) (m : Int)) (acc ++ rowsW m a c)
  | [], a, acc, hne, hw, hl, hacc => absurd rfl hne
  | [w], a, acc, hne, hw, hl, hacc => by
    have hl2 : a.length + 1 ≤ 12 := by simpa using hl
    refine Ev.step (f := fun k => spec_slList.j1 k true acc (a.length : Int) ((a ++ [w]).length : Int) (a.length : Int) true (ints (a ++ [w])) (m : Int)) (fun k => ?_) (Ev.step (f := fun _ => some (acc ++ rowsW m a [w])) (fun k => ?_) (Ev.now _))
    · simp only [spec_slList.l0]
      rw [if_pos (by rw [len_snoc]; omega), if_pos trivial, ints_length, len_snoc, wr (by omega) (by omega)]
      congr 1
      exact beq_iff_eq.2 (by omega)
    · simp only [spec_slList.j1]
      rw [if_pos trivial]
      simp [rowsW]
  | w :: v :: c, a, acc, hne, hw, hl, hacc => by
    have h1 := (row3_len a.length (un2 m (a ++ c) w v)).1
    have ih := ref_swap (v :: c) (a ++ [w]) (acc ++ row3 a.length (un2 m (a ++ c) w v)) (by simp) (by rw [List.append_assoc]; exact hw) (by rw [List.append_assoc]; exact hl) (by simp only [List.length_append, List.length_cons, List.length_nil]; omega)
    rw [List.append_assoc, List.append_assoc, List.singleton_append, len_snoc a w] at ih
    have hl2 : a.length + (c.length + 1 + 1) ≤ 12 := by simpa using hl
    exact ref_step (a ++ w :: v :: c) true (a ++ w :: v :: c).length a.length (by simp only [List.length_append, List.length_cons]; omega) (by omega) (by rw [Bool.true_and]; exact beq_eq_false_iff_ne.2 (by simp only [List.length_append, List.length_cons]; omega)) (by simp only [List.length_append, List.length_cons]; omega) (by omega) acc (by omega) _ (refer_swap hm hm2 a c w v hw hl) _ ih
theorem refSingle_ev (ws : List Nat) (hw : ∀ v ∈ ws, v < m) (hl : ws.length ≤ 12) : Ev (fun k => spec_slList.f k (ints ws) (m : Int) false) (rowsS m [] ws) := by
  have h := ref_single hm hm2 ws [] [] (by simpa using hw) (by simpa using hl) (Nat.le_refl _)
  refine Ev.congr (fun k => ?_) h
  simp only [spec_slList.f]
  rw [ints_length]
  rfl
theorem refSwap_ev (ws : List Nat) (hw : ∀ v ∈ ws, v < m) (hl : ws.length ≤ 12) (h1 : 1 ≤ ws.length) : Ev (fun k => spec_slList.f k (ints ws) (m : Int) true) (rowsW m [] ws) := by
  have h := ref_swap hm hm2 ws [] [] (by intro e; rw [e] at h1; simp at h1) (by simpa using hw) (by simpa using hl) (Nat.le_refl _)
  refine Ev.congr (fun k => ?_) h
  simp only [spec_slList.f]
  rw [ints_length]
  rfl
end

/-! is it a check -/
theorem l1All_loop (m : Int) (hm : 2 ≤ m) (hm2 : m ≤ 11) : ∀ (b a : List Int), a.length + b.length ≤ 1000 → Ev (fun k => spec_l1All.l0 k 0 (m - 1) (a ++ b) ((a ++ b).length : Int) (a.length : Int)) (b.all (okW m))
  | [], a, h => by
    refine Ev.step (f := fun _ => some true) (fun k => ?_) (Ev.now _)
    simp only [spec_l1All.l0]
    rw [if_neg (by simp)]
  | x :: b, a, h => by
    simp only [List.length_cons] at h
    have ih := l1All_loop m hm hm2 b (a ++ [x]) (by simp; omega)
    rw [List.append_assoc, List.singleton_append, len_snoc a x] at ih
    have hin : spec_l1In.f x 0 (m - 1) = some (okW m x) := by
      unfold spec_l1In.f okW
      by_cases c : 0 ≤ x
      · rw [if_pos c, decide_eq_true c, Bool.true_and]
      · rw [if_neg c, decide_eq_false c, Bool.false_and]
    have hst : ∀ k, spec_l1All.l0 (k + 1) 0 (m - 1) (a ++ x :: b) ((a ++ x :: b).length : Int) (a.length : Int) = if okW m x = true then spec_l1All.l0 k 0 (m - 1) (a ++ x :: b) ((a ++ x :: b).length : Int) ((a.length + 1 : Nat) : Int) else some false := by
      intro k
      simp only [spec_l1All.l0]
      rw [if_pos (app_lt _ _ _), if_pos (by omega), if_pos (app_lt _ _ _), rd_app, hin, Option.bind_some, wsucc _ (by omega)]
    cases ho : okW m x with
    | true =>
      rw [List.all_cons, ho, Bool.true_and]
      exact Ev.step (fun k => (hst k).trans (if_pos ho)) ih
    | false =>
      rw [List.all_cons, ho, Bool.false_and]
      exact Ev.step (f := fun _ => some false) (fun k => (hst k).trans (if_neg (by rw [ho]; decide))) (Ev.now _)
theorem in_eq (a b c : Int) : spec_l1In.f a b c = some (decide (b ≤ a) && decide (a ≤ c)) := by
  unfold spec_l1In.f
  by_cases h : a ≥ b
  · rw [if_pos h, decide_eq_true h, Bool.true_and]
  · rw [if_neg h, decide_eq_false h, Bool.false_and]
theorem slGood_ev (l : List Int) (m : Int) : Ev (fun k => spec_slGood.f k l m) (chk l m) := by
  have e : ∀ k, spec_slGood.f k l m = if (decide (2 ≤ (l.length : Int)) && decide ((l.length : Int) ≤ 12)) = true then (if (decide (2 ≤ m) && decide (m ≤ 11)) = true then (spec_l1All.f k l 0 (wrap64 (m - 1))).bind (fun t => some t) else some false) else some false := by
    intro k
    simp only [spec_slGood.f, in_eq, Option.bind_some]
  unfold chk
  cases h1 : (decide (2 ≤ (l.length : Int)) && decide ((l.length : Int) ≤ 12)) with
  | false =>
    rw [Bool.false_and]
    exact Ev.congr (fun k => (e k).trans (if_neg (by rw [h1]; decide))) (Ev.now _)
  | true =>
    rw [Bool.true_and]
    cases h2 : (decide (2 ≤ m) && decide (m ≤ 11)) with
    | false =>
      rw [Bool.false_and]
      exact Ev.congr (fun k => (e k).trans ((if_pos h1).trans (if_neg (by rw [h2]; decide)))) (Ev.now _)
    | true =>
      rw [Bool.true_and]
      rw [Bool.and_eq_true] at h1 h2
      have l2 := of_decide_eq_true h1.2
      have m1 := of_decide_eq_true h2.1
      have m2 := of_decide_eq_true h2.2
      have := l1All_loop m m1 m2 l [] (by simp; omega)
      refine Ev.congr (fun k => (e k).trans ((if_pos (by rw [h1.1, h1.2]; rfl)).trans (if_pos (by rw [h2.1, h2.2]; rfl)))) ?_
      refine Ev.bind (f := fun k t => some t) (a := l.all (okW m)) (Ev.congr (fun k => ?_) this) (Ev.now _)
      simp only [spec_l1All.f]
      rw [wr (by omega) (by omega)]
      rfl
theorem chk_nat {l : List Int} {m : Int} (h : chk l m = true) : ∃ (ws : List Nat) (mn : Nat), l = ints ws ∧ m = (mn : Int) ∧ 2 ≤ mn ∧ mn ≤ 11 ∧ (∀ w ∈ ws, w < mn) ∧ 2 ≤ ws.length ∧ ws.length ≤ 12 := by
  unfold chk at h
  simp only [Bool.and_eq_true, decide_eq_true_iff] at h
  obtain ⟨⟨h1, h2⟩, ⟨h3, h4⟩, h5⟩ := h
  rw [List.all_eq_true] at h5
  have h6 : ∀ x ∈ l, 0 ≤ x ∧ x ≤ m - 1 := fun x hx => by
    have := h5 x hx
    unfold okW at this
    simpa using this
  refine ⟨l.map Int.toNat, m.toNat, ?_, by omega, by omega, by omega, fun w hw => ?_, by simp; omega, by simp; omega⟩
  · unfold ints
    rw [List.map_map]
    conv => lhs; rw [← List.map_id l]
    refine List.map_congr_left (fun x hx => ?_)
    have := h6 x hx
    simp
    omega
  · obtain ⟨x, hx, rfl⟩ := List.mem_map.1 hw
    have := h6 x hx
    omega

/-- both, of slips -/
theorem singles_ev (l : List Int) (m : Int) : ∃ (W : List (List Int)) (b : Bool), Ev (fun k => impl_UntoldSingles.f k l m) (W, b) ∧ Ev (fun k => spec_UntoldSingles.f k l m) (W, b) ∧ W.length ≤ 12 ∧ ∀ r ∈ W, r.length ≤ 3 := by
  cases hc : chk l m with
  | false =>
    refine ⟨[], false, ?_, ?_, by simp, by simp⟩
    · refine Ev.congr (fun k => ?_) (Ev.now _)
      simp only [impl_UntoldSingles.f, impl_IsCheck.f, Option.bind_some, hc]
      rw [if_neg (by decide)]
    · exact Ev.bind (f := fun k t => if t = true then ((spec_slList.f k l m false).bind fun t => some (t, true)) else some ([], false)) (slGood_ev l m) (Ev.congr (fun k => if_neg (by rw [hc]; decide)) (Ev.now _))
  | true =>
    obtain ⟨ws, mn, rfl, rfl, h1, h2, hw, h3, h4⟩ := chk_nat hc
    have hr := rowsS_len mn ws []
    refine ⟨rowsS mn [] ws, true, ?_, ?_, by omega, hr.2⟩
    · refine Ev.congr (fun k => ?_) (Ev.bind (f := fun k t => some (t, true)) (allSingle_ev h1 h2 ws hw h4) (Ev.now _))
      simp only [impl_UntoldSingles.f, impl_IsCheck.f, Option.bind_some, hc]
      rw [if_pos trivial]
    · exact Ev.bind (f := fun k t => if t = true then ((spec_slList.f k (ints ws) (mn : Int) false).bind fun t => some (t, true)) else some ([], false)) (slGood_ev _ _) (Ev.congr (fun k => if_pos hc) (Ev.bind (f := fun k t => some (t, true)) (refSingle_ev h1 h2 ws hw h4) (Ev.now _)))
/-- both, of swaps -/
theorem swaps_ev (l : List Int) (m : Int) : ∃ (W : List (List Int)) (b : Bool), Ev (fun k => impl_UntoldSwaps.f k l m) (W, b) ∧ Ev (fun k => spec_UntoldSwaps.f k l m) (W, b) ∧ W.length ≤ 12 ∧ ∀ r ∈ W, r.length ≤ 3 := by
  cases hc : chk l m with
  | false =>
    refine ⟨[], false, ?_, ?_, by simp, by simp⟩
    · refine Ev.congr (fun k => ?_) (Ev.now _)
      simp only [impl_UntoldSwaps.f, impl_IsCheck.f, Option.bind_some, hc]
      rw [if_neg (by decide)]
    · exact Ev.bind (f := fun k t => if t = true then ((spec_slList.f k l m true).bind fun t => some (t, true)) else some ([], false)) (slGood_ev l m) (Ev.congr (fun k => if_neg (by rw [hc]; decide)) (Ev.now _))
  | true =>
    obtain ⟨ws, mn, rfl, rfl, h1, h2, hw, h3, h4⟩ := chk_nat hc
    have hr := rowsW_len mn ws []
    refine ⟨rowsW mn [] ws, true, ?_, ?_, by omega, hr.2⟩
    · refine Ev.congr (fun k => ?_) (Ev.bind (f := fun k t => some (t, true)) (allSwap_ev h1 h2 ws hw h4 (by omega)) (Ev.now _))
      simp only [impl_UntoldSwaps.f, impl_IsCheck.f, Option.bind_some, hc]
      rw [if_pos trivial]
    · exact Ev.bind (f := fun k t => if t = true then ((spec_slList.f k (ints ws) (mn : Int) true).bind fun t => some (t, true)) else some ([], false)) (slGood_ev _ _) (Ev.congr (fun k => if_pos hc) (Ev.bind (f := fun k t => some (t, true)) (refSwap_ev h1 h2 ws hw h4 (by omega)) (Ev.now _)))

end Go.Proofs.Ytafegaaklpdgiaa.Q

/-
  FnExactUntoldSingles and FnExactUntoldSwaps at every argument: true. Condition: a slice no longer than an int tells.
-/
namespace Go.Proofs.Ytafegaaklpdgiaa.Q
open Go.RowKit Go.Proofs.YtafegaaklpdgiaaW.PrintWords Go.Proofs.YtafegaaklpdgiaaW.PrintLast Go.Proofs.YtafegaaklpdgiaaW.PrintMore
set_option linter.unusedVariables false
set_option linter.unusedSimpArgs false

theorem sz_big (l : List Int) (m : Int) (h : l.length ≤ 9223372036854775807) (hb : 1048576 < l.length) : laws_szCheck.f l m 1048576 = some (-1) := by
  have e : wrap64 (1048576 - (l.length : Int)) = 1048576 - (l.length : Int) := wr (by omega) (by omega)
  unfold laws_szCheck.f laws_szIntS.f
  rw [e, if_pos (by omega), Option.bind_some, if_pos (by omega)]
theorem sz_small (l : List Int) (m : Int) (hb : l.length ≤ 1048576) : laws_szCheck.f l m 1048576 = some (1048576 - (l.length : Int)) := by
  have e : wrap64 (1048576 - (l.length : Int)) = 1048576 - (l.length : Int) := wr (by omega) (by omega)
  unfold laws_szCheck.f laws_szIntS.f
  rw [e, if_neg (by omega), Option.bind_some, if_neg (by omega)]
theorem Ev.both {α β : Type} {f : Nat → Option α} {g : Nat → Option β} {a : α} {b : β} (h : Ev f a) (k : Ev g b) : ∃ K, ∀ n, K ≤ n → f n = some a ∧ g n = some b := by
  obtain ⟨K, h⟩ := h
  obtain ⟨K', k⟩ := k
  exact ⟨max K K', fun n hn => ⟨h n (by omega), k n (by omega)⟩⟩

set_option maxHeartbeats 4000000 in
set_option maxRecDepth 100000 in
theorem law4_big (A0 : Option Addr) (c0 : Nat) (l : List Int) (m : Int) (w : World) (hr : Kd.C (Kd.int .i64) w A0 l.length l) (hc : l.length ≤ c0) (hb : 1048576 < l.length) :
    Calls Try.prog 4 #[.agg #[.slice A0 l.length c0, .int .i64 m]] w fun e w' => e = .returned (.bool true) ∧ Below w.heap.size w w' := by
  have hu34 := Try.underlying34
  have hu29 := Try.underlying29
  have HSZ := Aside0.mk (sz_big l m hr.2.1 hb)
  have HK := Aside0.mk (Known.start w A0 c0 l m hr)
  have HC := Aside0.mk hc
  clear hr hc hb
  go_enter Try.func4, Try.ntmps4
  go_wp2_with (fail)
  refine (laws_szCheck.calls A0 c0 l m 1048576 (-1) _ HK.out.row HC.out HSZ.out).mono ?_
  rintro e w1 ⟨rfl, hb⟩
  have HK1 := Aside0.mk (HK.out.step hb)
  clear hb HK
  go_wp2_with (fail)
  go_ret
  exact ⟨rfl, HK1.out.below⟩
theorem law4_all (A0 : Option Addr) (c0 : Nat) (l : List Int) (m : Int) (w : World) (hr : Kd.C (Kd.int .i64) w A0 l.length l) (hc : l.length ≤ c0) :
    Calls Try.prog 4 #[.agg #[.slice A0 l.length c0, .int .i64 m]] w fun e w' => e = .returned (.bool true) ∧ Below w.heap.size w w' := by
  by_cases hb : 1048576 < l.length
  · exact law4_big A0 c0 l m w hr hc hb
  · have hl : l.length ≤ 1048576 := by omega
    obtain ⟨W, b, h1, h2, hW, hrw⟩ := singles_ev l m
    have hr2 : ∀ r ∈ W, r.length ≤ 1000000 := fun r h => by have := hrw r h; omega
    obtain ⟨K1, k1⟩ := Ev.both h1 h2
    obtain ⟨K2, k2⟩ := Ev.both (toCheck_ev l m (by omega)) (eqIntSS_ev W (by omega) hr2)
    obtain ⟨K3, k3⟩ := Ev.both (eqCheck_ev l m (by omega)) (markCheck_ev l m (by omega))
    obtain ⟨K4, k4⟩ := Ev.both (markIntSS_ev W (by omega) hr2) (heldIntSS_ev W (by omega) hr2)
    obtain ⟨K, hK⟩ : ∃ K, K = max (max K1 K2) (max K3 K4) := ⟨_, rfl⟩
    have hm := markEnd_bound W 1 hr2
    exact law4 K A0 c0 l m w hr hc _ W _ b _ _ _ (sz_small l m hl) (by omega) (k2 K (by omega)).1 (k1 K (by omega)).2 (k1 K (by omega)).1 (k2 K (by omega)).2 (k3 K (by omega)).1 (k3 K (by omega)).2 (by omega) (k4 K (by omega)).1 (k4 K (by omega)).2 (by omega)

set_option maxHeartbeats 4000000 in
set_option maxRecDepth 100000 in
theorem law5_big (A0 : Option Addr) (c0 : Nat) (l : List Int) (m : Int) (w : World) (hr : Kd.C (Kd.int .i64) w A0 l.length l) (hc : l.length ≤ c0) (hb : 1048576 < l.length) :
    Calls Try.prog 5 #[.agg #[.slice A0 l.length c0, .int .i64 m]] w fun e w' => e = .returned (.bool true) ∧ Below w.heap.size w w' := by
  have hu34 := Try.underlying34
  have hu29 := Try.underlying29
  have HSZ := Aside0.mk (sz_big l m hr.2.1 hb)
  have HK := Aside0.mk (Known.start w A0 c0 l m hr)
  have HC := Aside0.mk hc
  clear hr hc hb
  go_enter Try.func5, Try.ntmps5
  go_wp2_with (fail)
  refine (laws_szCheck.calls A0 c0 l m 1048576 (-1) _ HK.out.row HC.out HSZ.out).mono ?_
  rintro e w1 ⟨rfl, hb⟩
  have HK1 := Aside0.mk (HK.out.step hb)
  clear hb HK
  go_wp2_with (fail)
  go_ret
  exact ⟨rfl, HK1.out.below⟩
theorem law5_all (A0 : Option Addr) (c0 : Nat) (l : List Int) (m : Int) (w : World) (hr : Kd.C (Kd.int .i64) w A0 l.length l) (hc : l.length ≤ c0) :
    Calls Try.prog 5 #[.agg #[.slice A0 l.length c0, .int .i64 m]] w fun e w' => e = .returned (.bool true) ∧ Below w.heap.size w w' := by
  by_cases hb : 1048576 < l.length
  · exact law5_big A0 c0 l m w hr hc hb
  · have hl : l.length ≤ 1048576 := by omega
    obtain ⟨W, b, h1, h2, hW, hrw⟩ := swaps_ev l m
    have hr2 : ∀ r ∈ W, r.length ≤ 1000000 := fun r h => by have := hrw r h; omega
    obtain ⟨K1, k1⟩ := Ev.both h1 h2
    obtain ⟨K2, k2⟩ := Ev.both (toCheck_ev l m (by omega)) (eqIntSS_ev W (by omega) hr2)
    obtain ⟨K3, k3⟩ := Ev.both (eqCheck_ev l m (by omega)) (markCheck_ev l m (by omega))
    obtain ⟨K4, k4⟩ := Ev.both (markIntSS_ev W (by omega) hr2) (heldIntSS_ev W (by omega) hr2)
    obtain ⟨K, hK⟩ : ∃ K, K = max (max K1 K2) (max K3 K4) := ⟨_, rfl⟩
    have hm := markEnd_bound W 1 hr2
    exact law5 K A0 c0 l m w hr hc _ W _ b _ _ _ (sz_small l m hl) (by omega) (k2 K (by omega)).1 (k1 K (by omega)).2 (k1 K (by omega)).1 (k2 K (by omega)).2 (k3 K (by omega)).1 (k3 K (by omega)).2 (by omega) (k4 K (by omega)).1 (k4 K (by omega)).2 (by omega)

end Go.Proofs.Ytafegaaklpdgiaa.Q
