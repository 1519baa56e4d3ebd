/-
  Plain lemmas on texts as lists of numbers, on sums that do not wrap, and on functions with rounds. No program here.
-/
import Derived.Test.YtpdcjkiejglaiaaQx0
import Derived.Lib.Strings
namespace Go.Proofs.Ytpdcjkiejglaiaa.Q
open Go.RowKit Go.Proofs.YtpdcjkiejglaiaaW.PrintWords Go.Proofs.YtpdcjkiejglaiaaW.PrintLast Go.Proofs.YtpdcjkiejglaiaaW.PrintMore
set_option linter.unusedVariables false
set_option linter.unusedSimpArgs false

theorem wrap_id {i : Int} (h1 : -9223372036854775808 ≤ i) (h2 : i < 9223372036854775808) : wrap64 i = i := by
  unfold wrap64
  omega

/-- the bytes of a text, as numbers -/
def li (s : ByteArray) : List Int := s.data.toList.map fun c => (c.toNat : Int)
theorem li_length (s : ByteArray) : (li s).length = s.size := by
  unfold li
  rw [List.length_map, Array.length_toList]
  rfl
theorem bt_li (s : ByteArray) (i : Int) : bt s i = (li s).getD i.toNat 0 := by
  unfold bt li
  by_cases h : i.toNat < s.size
  · rw [dif_pos h]
    have h' : i.toNat < s.data.toList.length := by rw [Array.length_toList]; exact h
    rw [List.getD_eq_getElem?_getD, List.getElem?_map, List.getElem?_eq_getElem h']
    rfl
  · rw [dif_neg h]
    have h' : ¬ i.toNat < s.data.toList.length := by rw [Array.length_toList]; exact h
    rw [List.getD_eq_getElem?_getD, List.getElem?_map, List.getElem?_eq_none (by omega)]
    rfl
theorem li_extract (s : ByteArray) (a b : Nat) : li (s.extract a b) = ((li s).drop a).take (b - a) := by
  unfold li
  rw [Lib.extract_data, List.map_take, List.map_drop]
theorem li_append (s t : ByteArray) : li (s ++ t) = li s ++ li t := by
  unfold li
  rw [ByteArray.data_append, Array.toList_append, List.map_append]
theorem toNat_inj {a b : UInt8} (h : (a.toNat : Int) = (b.toNat : Int)) : a = b := UInt8.toNat_inj.1 (by omega)
theorem map_toNat_inj : ∀ {a b : List UInt8}, a.map (fun c => (c.toNat : Int)) = b.map (fun c => (c.toNat : Int)) → a = b
  | [], [], _ => rfl
  | [], _ :: _, h => by simp at h
  | _ :: _, [], h => by simp at h
  | x :: a, y :: b, h => by
    simp only [List.map_cons, List.cons.injEq] at h
    rw [toNat_inj h.1, map_toNat_inj h.2]
theorem li_inj {a b : ByteArray} (h : li a = li b) : a = b := by
  have := map_toNat_inj h
  cases a; cases b
  simp at this ⊢
  exact this
theorem toList_li (a b : ByteArray) : a.toList = b.toList ↔ li a = li b := by
  rw [ByteArray.toList_eq, ByteArray.toList_eq]
  constructor
  · intro h; unfold li; rw [h]
  · exact fun h => map_toNat_inj h
theorem li_range (s : ByteArray) : ∀ x ∈ li s, 0 ≤ x ∧ x ≤ 255 := by
  intro x hx
  unfold li at hx
  obtain ⟨c, _, rfl⟩ := List.mem_map.1 hx
  have := c.toNat_lt
  omega
theorem beq_li (a b : ByteArray) : (a.toList == b.toList) = decide (li a = li b) := by
  rw [Bool.eq_iff_iff]
  simp only [beq_iff_eq, decide_eq_true_eq]
  exact toList_li a b
theorem size_li {s : ByteArray} {l : List Int} (h : li s = l) : s.size = l.length := by rw [← h, li_length]
/-- a text is told by its bytes -/
theorem li_ext {a b : ByteArray} (h : a.size = b.size) (hb : ∀ i : Nat, i < a.size → bt a i = bt b i) : li a = li b := by
  apply List.ext_getElem (by rw [li_length, li_length, h])
  intro i h1 h2
  have := hb i (by rw [li_length] at h1; exact h1)
  rw [bt_li, bt_li, List.getD_eq_getElem?_getD, List.getD_eq_getElem?_getD] at this
  simpa [h1, h2] using this
theorem bt_extract0 (s : ByteArray) (n : Nat) (hn : n ≤ s.size) (i : Nat) (hi : i < n) : bt (s.extract 0 n) i = bt s i := by
  rw [bt_li, bt_li, li_extract]
  simp [List.getD_eq_getElem?_getD, List.getElem?_take, hi]
theorem size_extract0 (s : ByteArray) (n : Nat) (hn : n ≤ s.size) : (s.extract 0 n).size = n := by
  rw [ByteArray.size_extract]; omega

/-! functions with rounds -/
theorem Ev.some_of {α : Type} {g : Nat → Option α} {r : α} (h : ∀ k, g k = some r) : Ev g r := ⟨0, fun k _ => h k⟩
theorem Ev.eq {α : Type} {g : Nat → Option α} {r q : α} (h : Ev g r) (e : r = q) : Ev g q := e ▸ h
theorem Ev.bind' {α β : Type} {g : Nat → Option α} {f : Nat → α → Option β} {a : α} {r : β} (h : Ev g a) (k : Ev (fun n => f n a) r) : Ev (fun n => (g n).bind fun x => f n x) r := Ev.bind h k
theorem Ev.pos {α : Type} {c : Prop} [Decidable c] {g f : Nat → Option α} {r : α} (hc : c) (h : Ev g r) : Ev (fun k => if c then g k else f k) r := by
  obtain ⟨K, h⟩ := h
  exact ⟨K, fun k hk => by show (if c then g k else f k) = some r; rw [if_pos hc]; exact h k hk⟩
theorem Ev.neg {α : Type} {c : Prop} [Decidable c] {g f : Nat → Option α} {r : α} (hc : ¬ c) (h : Ev f r) : Ev (fun k => if c then g k else f k) r := by
  obtain ⟨K, h⟩ := h
  exact ⟨K, fun k hk => by show (if c then g k else f k) = some r; rw [if_neg hc]; exact h k hk⟩

end Go.Proofs.Ytpdcjkiejglaiaa.Q
