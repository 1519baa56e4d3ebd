/-
  'miDigits' (the reference's count of different digits): over a text of bytes below 128 it returns the number of places whose byte stands nowhere before.
-/
import Derived.Test.YtpdcjkiejglaiaaQx0
import Derived.Lib.OthersKept
namespace Go.Proofs.Ytpdcjkiejglaiaa.Q
open Go.RowKit Go.Proofs.YtpdcjkiejglaiaaW.PrintWords Go.Proofs.YtpdcjkiejglaiaaW.PrintLast Go.Proofs.YtpdcjkiejglaiaaW.PrintMore

/-- does the byte at place i stand nowhere among the first k? -/
def newTo (s : ByteArray) (i : Nat) : Nat → Bool
  | 0 => true
  | k + 1 => newTo s i k && (bt s k != bt s i)
def cntNew (s : ByteArray) : Nat → Int
  | 0 => 0
  | i + 1 => cntNew s i + (if newTo s i i = true then 1 else 0)
def low (s : ByteArray) : Prop := ∀ i (h : i < s.size), (s[i]'h).toNat < 128
theorem cntNew_le (s : ByteArray) : ∀ i : Nat, 0 ≤ cntNew s i ∧ cntNew s i ≤ i
  | 0 => ⟨by simp [cntNew], by simp [cntNew]⟩
  | i + 1 => by have := cntNew_le s i; simp only [cntNew]; split <;> omega
theorem cntNew_yes (s : ByteArray) (i : Nat) (h : newTo s i i = true) : cntNew s (i + 1) = cntNew s i + 1 := by simp [cntNew, h]
theorem cntNew_no (s : ByteArray) (i : Nat) (h : newTo s i i = false) : cntNew s (i + 1) = cntNew s i := by simp [cntNew, h]
theorem iter_below (w : World) (s : ByteArray) (p : Nat) : Below w.heap.size w (w.iter s p) := below_alloc (Below.refl _ _) _
theorem bt_nat (s : ByteArray) (i : Nat) (h : i < s.size) : ((s[i]'h).toNat : Int) = bt s i := bt_at s i h

set_option maxHeartbeats 1000000 in
theorem miDigits_any (s : ByteArray) (w : World) (hs : s.size ≤ 9223372036854775807) (hl : low s) :
    Calls Try.prog 50 #[.string s] w fun e w' => e = .returned (.int .i64 (cntNew s s.size)) ∧ Below w.heap.size w w' := by
  have HL := Aside0.mk hl
  clear hl
  go_enter Try.func50, Try.ntmps50
  go_wp2
  go_loopg [3] (s.size) (fun g v3 wr => ∃ pos : Nat, v3 = .int .i64 (cntNew s pos) ∧ Aside0 (pos + g = s.size) ∧ Aside0 (wr.heap[w.heap.size]? = some (.stringIter s pos)) ∧ Aside0 (Below w.heap.size w wr))
  case atStart => exact ⟨0, rfl, ⟨by omega⟩, ⟨World.iter_heap _ _ _⟩, ⟨iter_below _ _ _⟩⟩
  case round =>
    obtain ⟨pos, rfl, hg, hit, hb⟩ := hrel
    obtain ⟨go, rfl⟩ : ∃ x, x = gk := ⟨_, rfl⟩
    obtain ⟨wo, rfl⟩ : ∃ x, x = wr := ⟨_, rfl⟩
    by_cases hp : pos < s.size
    · have hnx : ∀ ty, (Instr.next (.pointer (some ⟨w.heap.size, 0, none⟩)) true ty).run Try.prog wo = _ := fun ty => Lib.run_next_ascii_at wo w.heap.size s pos ty hit.out hp (HL.out pos hp)
      have hc := cntNew_le s pos
      obtain ⟨w1, hw1⟩ : ∃ w1, w1 = wo.iterAt w.heap.size s (pos + 1) := ⟨_, rfl⟩
      have hit1 : Aside0 (w1.heap[w.heap.size]? = some (.stringIter s (pos + 1))) := ⟨by rw [hw1]; exact Lib.iterAt_heap _ _ _ _ _ hit.out⟩
      have hb1 : Aside0 (Below w.heap.size w w1) := ⟨by rw [hw1]; exact Lib.below_iterAt hb.out (Nat.le_refl _) _ _⟩
      rw [← hw1] at hnx
      clear hw1
      go_wp2
      go_loopg [5, 6] (pos) (fun g v5 v6 w2 => ∃ k : Nat, v5 = .bool (newTo s pos k) ∧ v6 = .int .i64 k ∧ Aside0 (k + g = pos) ∧ ∃ n, w2 = w1.drewN n)
      case atStart => exact ⟨0, rfl, rfl, ⟨by omega⟩, 0, rfl⟩
      case round =>
        obtain ⟨k, rfl, rfl, hk, n, rfl⟩ := hrel
        clear hnx
        have hk' := hk.out
        by_cases hlt : k < pos
        · have hb1 : k < s.size := by omega
          have bk := bt_nat s k hb1
          have bp := bt_nat s pos hp
          cases hn : newTo s pos k with
          | true =>
            clear hk'
            have HN := Aside0.mk hn
            have e1 : newTo s pos (k + 1) = (bt s k != bt s pos) := by simp [newTo, hn]
            have E1 := Aside0.mk e1
            clear hn e1
            go_wp2
            go_quiet (fail)
            go_wp2
            all_goals
              go_roundg (gk - 1)
              case measure => have := hk.out; omega
              case rel =>
                refine ⟨k + 1, ?_, by go_num, ⟨by have := hk.out; omega⟩, _, rfl⟩
                rw [E1.out]
          | false =>
            clear hk'
            have HN := Aside0.mk hn
            have e1 : newTo s pos (k + 1) = false := by simp [newTo, hn]
            have E1 := Aside0.mk e1
            clear hn e1
            go_wp2
            go_quiet (fail)
            go_wp2
            all_goals
              go_roundg (gk - 1)
              case measure => have := hk.out; omega
              case rel =>
                refine ⟨k + 1, ?_, by go_num, ⟨by have := hk.out; omega⟩, _, rfl⟩
                rw [E1.out]
        · obtain rfl : k = pos := by omega
          clear hk'
          cases hn : newTo s k k with
          | true =>
            have HN := Aside0.mk (cntNew_yes s k hn)
            clear hn
            go_wp2
            go_roundg (go - 1)
            case measure => have := hg.out; omega
            case rel => exact ⟨k + 1, by rw [HN.out], ⟨by have := hg.out; omega⟩, ⟨by exact hit1.out⟩, ⟨pw_below_drewN hb1.out _⟩⟩
          | false =>
            have HN := Aside0.mk (cntNew_no s k hn)
            clear hn
            go_wp2
            go_roundg (go - 1)
            case measure => have := hg.out; omega
            case rel => exact ⟨k + 1, by rw [HN.out], ⟨by have := hg.out; omega⟩, ⟨by exact hit1.out⟩, ⟨pw_below_drewN hb1.out _⟩⟩
    · have hnx : ∀ ty, (Instr.next (.pointer (some ⟨w.heap.size, 0, none⟩)) true ty).run Try.prog wo = _ := fun ty => Lib.run_next_end_at wo w.heap.size s pos ty hit.out hp
      obtain rfl : pos = s.size := by have := hg.out; omega
      go_wp2
      go_ret
      exact ⟨rfl, hb.out⟩

def lowB (s : ByteArray) : Bool := s.data.toList.all fun c => decide (c.toNat < 128)
theorem low_of (s : ByteArray) (h : lowB s = true) : low s := by
  intro i hi
  unfold lowB at h
  rw [List.all_eq_true] at h
  simpa using h (s[i]'hi) (by
    show s.data[i]'hi ∈ s.data.toList
    exact Array.getElem_mem_toList hi)
def spec_miDigits.f (a0 : ByteArray) : Option Int := if lowB a0 = true then (if a0.size ≤ 9223372036854775807 then some (cntNew a0 a0.size) else none) else none
theorem spec_miDigits.calls (a0 : ByteArray) (r : Int) (w : World) (h : spec_miDigits.f a0 = some r) :
    Calls Try.prog 50 #[.string a0] w fun e w' => e = .returned (.int .i64 r) ∧ Below w.heap.size w w' := by
  unfold spec_miDigits.f at h
  by_cases h1 : lowB a0 = true
  · rw [if_pos h1] at h
    by_cases h2 : a0.size ≤ 9223372036854775807
    · rw [if_pos h2] at h
      obtain rfl := Option.some.inj h
      exact miDigits_any a0 w h2 (low_of a0 h1)
    · rw [if_neg h2] at h
      cases h
  · rw [if_neg h1] at h
    cases h

end Go.Proofs.Ytpdcjkiejglaiaa.Q
